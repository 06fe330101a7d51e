/- The law CacheLeast: its walk. -/
import Derived.Test.YtfpiolnbnfngkaaVcA
import Derived.Test.YtfpiolnbnfngkaaKsA
import Derived.Test.YtfpiolnbnfngkaaSlLists
namespace Go.Proofs.Ytfpiolnbnfngkaa
open Go Go.RowKit
set_option linter.unusedVariables false
set_option linter.unusedSimpArgs false
def wakes8S : Option (Bool) :=
  letP (newC (1 : Int) (1 : Int)) fun y1_0 => (linesS y1_0).bind fun y2_4 => (bif decide ((((List.length y2_4) : Nat) : Int) = (0 : Int)) then letP ([7] : List Int) fun l2_10 => (enewS (4 : Int) ((-1) : Int) ((-1) : Int) false l2_10).bind fun y2_11 => (putS y1_0 y2_11).bind fun y2_12 => (bif decide (y2_12.1 = (0 : Int)) then (enewS (5 : Int) ((-1) : Int) ((-1) : Int) false ([] : List Int)).bind fun y2_17 => (putS y2_12.2 y2_17).bind fun y2_18 => (bif decide (y2_18.1 = (5 : Int)) then letP (lenC y2_18.2) fun y2_23 => some (decide (y2_23 = (1 : Int))) else some false) else some false) else some false)
noncomputable def C29 (p : List Nat) : Code := codeAt (bodyOf Try.f29) p
set_option maxRecDepth 100000 in
set_option maxHeartbeats 8000000 in
theorem W8F_tr {W0 : World} {Γ : List Asn}   (y : Bool) (H : wakes8S = some y) : Tr Try.prog 29 #[] W0 (Γ) (fun r Δ => r = .bool y ∧ Δ = Γ) := by
  unfold wakes8S at H
  refine Tr.enter (fn := Try.f29) (c := C29 []) (args := []) 29 Try.func29 (by kernel_rfl) (by kernel_rfl) ?_
  refine At.env [] trivial ?_
  refine at_seq (x := C29 [0]) (y := C29 [1]) (by kernel_rfl) ?_
  refine at_region (id := 0) 1 (by kernel_rfl) (by kernel_rfl) ?_
  refine s_pure 0 (.bool false) (by kernel_rfl) (by kernel_rfl) (fun _ => by kernel_rfl) ?_
  refine ops_end ?_
  refine At.env [] trivial ?_
  refine at_then_normal ?_
  refine at_seq (x := C29 [1,0]) (y := C29 [1,1]) (by kernel_rfl) ?_
  refine at_region (id := 1) 2 (by kernel_rfl) (by kernel_rfl) ?_
  obtain ⟨y1_0, hy1_0, H⟩ := letE H
  refine s_call 2 13 #[.int .i64 (1), .int .i64 (1)] (by kernel_rfl) (by kernel_rfl) (fun _ => by kernel_rfl) (NewF_tr (1 : Int) (1 : Int) y1_0 hy1_0) ?_
  rintro _ _ ⟨b1_0, rfl, rfl⟩
  refine s_pure 1 (.pointer (some ⟨b1_0, 0, none⟩)) (by kernel_rfl) (by kernel_rfl) (fun _ => by kernel_rfl) ?_
  refine ops_end ?_
  refine At.env [(1, .pointer (some ⟨b1_0, 0, none⟩))] ⟨by kernel_rfl, trivial⟩ ?_
  refine at_then_normal ?_
  refine at_seq (x := C29 [1,1,0]) (y := C29 [1,1,1]) (by kernel_rfl) ?_
  refine at_region (id := 2) 27 (by kernel_rfl) (by kernel_rfl) ?_
  refine s_pure 3 (.pointer (some ⟨b1_0, 0, none⟩)) (by kernel_rfl) (by kernel_rfl) (fun _ => by kernel_rfl) ?_
  refine s_pure 4 (.bool true) (by kernel_rfl) (by kernel_rfl) (fun _ => by kernel_rfl) ?_
  refine s_pure 5 (.bool true) (by kernel_rfl) (by kernel_rfl) (fun _ => by kernel_rfl) ?_
  refine s_pure 6 (.pointer (some ⟨b1_0, 0, none⟩)) (by kernel_rfl) (by kernel_rfl) (fun _ => by kernel_rfl) ?_
  refine CacheA.tox .here ?_
  intro x2_4_b1_0
  obtain ⟨y2_4, hy2_4, H⟩ := bindE H
  refine s_call 7 28 #[.pointer (some ⟨b1_0, 0, none⟩)] (by kernel_rfl) (by kernel_rfl) (fun _ => by kernel_rfl) (LinesF_tr b1_0 x2_4_b1_0 y1_0 y2_4 hy2_4) ?_
  rintro _ _ ⟨a2_4_00, c2_4_00, rfl, rfl⟩
  refine s_pure 8 (.int .i64 (((List.length y2_4) : Nat) : Int)) (by kernel_rfl) (by kernel_rfl) (fun _ => by kernel_rfl) ?_
  refine s_pure 9 (.bool (decide ((((List.length y2_4) : Nat) : Int) = (0 : Int)))) (by kernel_rfl) (by kernel_rfl) (fun _ => by kernel_rfl) ?_
  refine s_pure 10 (.bool (decide ((((List.length y2_4) : Nat) : Int) = (0 : Int)))) (by kernel_rfl) (by kernel_rfl) (fun _ => by kernel_rfl) ?_
  rcases Bool.eq_false_or_eq_true (decide ((((List.length y2_4) : Nat) : Int) = (0 : Int))) with h1 | h1
  · replace H := bifT H h1
    refine s_pure 11 (.bool true) (by kernel_rfl) (by kernel_rfl) (run_eq (v := .bool (decide ((((List.length y2_4) : Nat) : Int) = (0 : Int)))) (fun _ => by kernel_rfl) (congrArg Value.bool h1)) ?_
    refine s_pure 12 (.pointer (some ⟨b1_0, 0, none⟩)) (by kernel_rfl) (by kernel_rfl) (fun _ => by kernel_rfl) ?_
    obtain ⟨l2_10, hl2_10, H⟩ := letE H
    refine s_step 13 (by kernel_rfl) (by kernel_rfl) (st_new_ints (T := 3) (xs := l2_10) 1 hl2_10 (fun _ => by kernel_rfl) (by kernel_rfl)) ?_
    rintro _ _ ⟨b2_10, rfl, rfl⟩
    obtain ⟨y2_11, hy2_11, H⟩ := bindE H
    refine s_call 14 16 #[.int .i64 (4), .int .i64 (-1), .int .i64 (-1), .bool false, .slice (some ⟨b2_10, 0, none⟩) (List.length l2_10) 1] (by kernel_rfl) (by kernel_rfl) (fun _ => by kernel_rfl) (ENewF_tr (4 : Int) ((-1) : Int) ((-1) : Int) false (some ⟨b2_10, 0, none⟩) 1 l2_10 (RowsA.reads (k := 1) .here) y2_11 hy2_11) ?_
    rintro _ _ ⟨a2_11_00, c2_11_00, rfl, rfl⟩
    refine At.conv (Γ' := (CacheA b1_0 y1_0) :: (IntsA a2_11_00 c2_11_00 y2_11.data) :: (IntsA (some ⟨b2_10, 0, none⟩) 1 l2_10) :: (IntsA a2_4_00 c2_4_00 y2_4) :: Γ) (fun w hw => CacheXA.shut (hw.pull (.there (.there (.there .here))))) ?_
    obtain ⟨y2_12, hy2_12, H⟩ := bindE H
    refine s_call 15 15 #[.pointer (some ⟨b1_0, 0, none⟩), .agg #[.int .i64 y2_11.fwd, .int .i64 y2_11.back, .int .i64 y2_11.line, .int .i64 y2_11.used, .bool y2_11.dirty, .slice a2_11_00 (List.length y2_11.data) c2_11_00]] (by kernel_rfl) (by kernel_rfl) (fun _ => by kernel_rfl) (PutF_tr b1_0 y1_0 a2_11_00 c2_11_00 y2_11 (RowsA.reads (k := 1) .here) y2_12 hy2_12) ?_
    rintro _ _ ⟨rfl, rfl⟩
    refine s_pure 16 (.bool (decide (y2_12.1 = (0 : Int)))) (by kernel_rfl) (by kernel_rfl) (fun _ => by kernel_rfl) ?_
    refine s_pure 17 (.bool (decide (y2_12.1 = (0 : Int)))) (by kernel_rfl) (by kernel_rfl) (fun _ => by kernel_rfl) ?_
    rcases Bool.eq_false_or_eq_true (decide (y2_12.1 = (0 : Int))) with h2 | h2
    · replace H := bifT H h2
      refine s_pure 18 (.bool true) (by kernel_rfl) (by kernel_rfl) (run_eq (v := .bool (decide (y2_12.1 = (0 : Int)))) (fun _ => by kernel_rfl) (congrArg Value.bool h2)) ?_
      refine s_pure 19 (.pointer (some ⟨b1_0, 0, none⟩)) (by kernel_rfl) (by kernel_rfl) (fun _ => by kernel_rfl) ?_
      obtain ⟨y2_17, hy2_17, H⟩ := bindE H
      refine s_call 20 16 #[.int .i64 (5), .int .i64 (-1), .int .i64 (-1), .bool false, .slice none 0 0] (by kernel_rfl) (by kernel_rfl) (fun _ => by kernel_rfl) (ENewF_tr (5 : Int) ((-1) : Int) ((-1) : Int) false none 0 ([] : List Int) Reads.nil y2_17 hy2_17) ?_
      rintro _ _ ⟨a2_17_00, c2_17_00, rfl, rfl⟩
      obtain ⟨y2_18, hy2_18, H⟩ := bindE H
      refine s_call 21 15 #[.pointer (some ⟨b1_0, 0, none⟩), .agg #[.int .i64 y2_17.fwd, .int .i64 y2_17.back, .int .i64 y2_17.line, .int .i64 y2_17.used, .bool y2_17.dirty, .slice a2_17_00 (List.length y2_17.data) c2_17_00]] (by kernel_rfl) (by kernel_rfl) (fun _ => by kernel_rfl) (Tr.conv (Γ' := (CacheA b1_0 y2_12.2) :: (IntsA a2_17_00 c2_17_00 y2_17.data) :: (IntsA a2_11_00 c2_11_00 y2_11.data) :: (IntsA (some ⟨b2_10, 0, none⟩) 1 l2_10) :: (IntsA a2_4_00 c2_4_00 y2_4) :: Γ) (fun w hw => (Sat.less (.take (.there .here) (.take .here (.take .here (.take .here (.take .here .refl))))) hw)) (PutF_tr b1_0 y2_12.2 a2_17_00 c2_17_00 y2_17 (RowsA.reads (k := 1) .here) y2_18 hy2_18)) ?_
      rintro _ _ ⟨rfl, rfl⟩
      refine s_pure 22 (.bool (decide (y2_18.1 = (5 : Int)))) (by kernel_rfl) (by kernel_rfl) (fun _ => by kernel_rfl) ?_
      refine s_pure 23 (.bool (decide (y2_18.1 = (5 : Int)))) (by kernel_rfl) (by kernel_rfl) (fun _ => by kernel_rfl) ?_
      rcases Bool.eq_false_or_eq_true (decide (y2_18.1 = (5 : Int))) with h3 | h3
      · replace H := bifT H h3
        refine s_pure 24 (.bool true) (by kernel_rfl) (by kernel_rfl) (run_eq (v := .bool (decide (y2_18.1 = (5 : Int)))) (fun _ => by kernel_rfl) (congrArg Value.bool h3)) ?_
        refine s_pure 25 (.pointer (some ⟨b1_0, 0, none⟩)) (by kernel_rfl) (by kernel_rfl) (fun _ => by kernel_rfl) ?_
        obtain ⟨y2_23, hy2_23, H⟩ := letE H
        refine s_call 26 23 #[.pointer (some ⟨b1_0, 0, none⟩)] (by kernel_rfl) (by kernel_rfl) (fun _ => by kernel_rfl) (LenF_tr b1_0 y2_18.2 y2_23 hy2_23) ?_
        rintro _ _ ⟨rfl, rfl⟩
        refine s_pure 27 (.bool (decide (y2_23 = (1 : Int)))) (by kernel_rfl) (by kernel_rfl) (fun _ => by kernel_rfl) ?_
        refine s_pure 28 (.bool (decide (y2_23 = (1 : Int)))) (by kernel_rfl) (by kernel_rfl) (fun _ => by kernel_rfl) ?_
        refine s_pure 0 (.bool (decide (y2_23 = (1 : Int)))) (by kernel_rfl) (by kernel_rfl) (fun _ => by kernel_rfl) ?_
        refine ops_end ?_
        refine At.env [(0, .bool (decide (y2_23 = (1 : Int))))] ⟨by kernel_rfl, trivial⟩ ?_
        refine at_then_normal ?_
        refine at_ret (by kernel_rfl) ?_
        obtain rfl := someE H
        refine at_backR [.bool (decide (y2_23 = (1 : Int)))] (Γ) (rs := [.tmp 0]) (by kernel_rfl) (.cons (.tmp (by kernel_rfl)) .nil) (fun w hw => (Sat.less (.drop .here (.drop .here (.drop .here (.drop .here (.drop .here .refl))))) hw)) ?_
        exact ⟨rfl, rfl⟩
      · replace H := bifF H h3
        refine s_pure 24 (.bool false) (by kernel_rfl) (by kernel_rfl) (run_eq (v := .bool (decide (y2_18.1 = (5 : Int)))) (fun _ => by kernel_rfl) (congrArg Value.bool h3)) ?_
        refine s_pass 25 (by kernel_rfl) (by kernel_rfl) ?_
        refine s_pass 26 (by kernel_rfl) (by kernel_rfl) ?_
        refine s_pass 27 (by kernel_rfl) (by kernel_rfl) ?_
        refine s_pure 28 (.bool false) (by kernel_rfl) (by kernel_rfl) (fun _ => by kernel_rfl) ?_
        refine s_pure 0 (.bool false) (by kernel_rfl) (by kernel_rfl) (fun _ => by kernel_rfl) ?_
        refine ops_end ?_
        refine At.env [(0, .bool false)] ⟨by kernel_rfl, trivial⟩ ?_
        refine at_then_normal ?_
        refine at_ret (by kernel_rfl) ?_
        obtain rfl := someE H
        refine at_backR [.bool false] (Γ) (rs := [.tmp 0]) (by kernel_rfl) (.cons (.tmp (by kernel_rfl)) .nil) (fun w hw => (Sat.less (.drop .here (.drop .here (.drop .here (.drop .here (.drop .here .refl))))) hw)) ?_
        exact ⟨rfl, rfl⟩
    · replace H := bifF H h2
      refine s_pure 18 (.bool false) (by kernel_rfl) (by kernel_rfl) (run_eq (v := .bool (decide (y2_12.1 = (0 : Int)))) (fun _ => by kernel_rfl) (congrArg Value.bool h2)) ?_
      refine s_pass 19 (by kernel_rfl) (by kernel_rfl) ?_
      refine s_pass 20 (by kernel_rfl) (by kernel_rfl) ?_
      refine s_pass 21 (by kernel_rfl) (by kernel_rfl) ?_
      refine s_pass 22 (by kernel_rfl) (by kernel_rfl) ?_
      refine s_pure 23 (.bool false) (by kernel_rfl) (by kernel_rfl) (fun _ => by kernel_rfl) ?_
      refine s_pure 24 (.bool false) (by kernel_rfl) (by kernel_rfl) (fun _ => by kernel_rfl) ?_
      refine s_pass 25 (by kernel_rfl) (by kernel_rfl) ?_
      refine s_pass 26 (by kernel_rfl) (by kernel_rfl) ?_
      refine s_pass 27 (by kernel_rfl) (by kernel_rfl) ?_
      refine s_pure 28 (.bool false) (by kernel_rfl) (by kernel_rfl) (fun _ => by kernel_rfl) ?_
      refine s_pure 0 (.bool false) (by kernel_rfl) (by kernel_rfl) (fun _ => by kernel_rfl) ?_
      refine ops_end ?_
      refine At.env [(0, .bool false)] ⟨by kernel_rfl, trivial⟩ ?_
      refine at_then_normal ?_
      refine at_ret (by kernel_rfl) ?_
      obtain rfl := someE H
      refine at_backR [.bool false] (Γ) (rs := [.tmp 0]) (by kernel_rfl) (.cons (.tmp (by kernel_rfl)) .nil) (fun w hw => (Sat.less (.drop .here (.drop .here (.drop .here (.drop .here .refl)))) hw)) ?_
      exact ⟨rfl, rfl⟩
  · replace H := bifF H h1
    refine s_pure 11 (.bool false) (by kernel_rfl) (by kernel_rfl) (run_eq (v := .bool (decide ((((List.length y2_4) : Nat) : Int) = (0 : Int)))) (fun _ => by kernel_rfl) (congrArg Value.bool h1)) ?_
    refine s_pass 12 (by kernel_rfl) (by kernel_rfl) ?_
    refine s_pass 13 (by kernel_rfl) (by kernel_rfl) ?_
    refine s_pass 14 (by kernel_rfl) (by kernel_rfl) ?_
    refine s_pass 15 (by kernel_rfl) (by kernel_rfl) ?_
    refine s_pass 16 (by kernel_rfl) (by kernel_rfl) ?_
    refine s_pure 17 (.bool false) (by kernel_rfl) (by kernel_rfl) (fun _ => by kernel_rfl) ?_
    refine s_pure 18 (.bool false) (by kernel_rfl) (by kernel_rfl) (fun _ => by kernel_rfl) ?_
    refine s_pass 19 (by kernel_rfl) (by kernel_rfl) ?_
    refine s_pass 20 (by kernel_rfl) (by kernel_rfl) ?_
    refine s_pass 21 (by kernel_rfl) (by kernel_rfl) ?_
    refine s_pass 22 (by kernel_rfl) (by kernel_rfl) ?_
    refine s_pure 23 (.bool false) (by kernel_rfl) (by kernel_rfl) (fun _ => by kernel_rfl) ?_
    refine s_pure 24 (.bool false) (by kernel_rfl) (by kernel_rfl) (fun _ => by kernel_rfl) ?_
    refine s_pass 25 (by kernel_rfl) (by kernel_rfl) ?_
    refine s_pass 26 (by kernel_rfl) (by kernel_rfl) ?_
    refine s_pass 27 (by kernel_rfl) (by kernel_rfl) ?_
    refine s_pure 28 (.bool false) (by kernel_rfl) (by kernel_rfl) (fun _ => by kernel_rfl) ?_
    refine s_pure 0 (.bool false) (by kernel_rfl) (by kernel_rfl) (fun _ => by kernel_rfl) ?_
    refine ops_end ?_
    refine At.env [(0, .bool false)] ⟨by kernel_rfl, trivial⟩ ?_
    refine at_then_normal ?_
    refine at_ret (by kernel_rfl) ?_
    refine At.conv (Γ' := (CacheA b1_0 y1_0) :: (IntsA a2_4_00 c2_4_00 y2_4) :: Γ) (fun w hw => CacheXA.shut (hw.pull (.there .here))) ?_
    obtain rfl := someE H
    refine at_backR [.bool false] (Γ) (rs := [.tmp 0]) (by kernel_rfl) (.cons (.tmp (by kernel_rfl)) .nil) (fun w hw => (Sat.less (.drop .here (.drop .here .refl)) hw)) ?_
    exact ⟨rfl, rfl⟩
def cacheLeastS_j5 (v0_7 : Int) (r0 : Int → (List (List Int)) → CacheS → Option (Bool)) (e5_b5_0 : List (List Int)) (e5_b2_1 : CacheS) : Option (Bool) :=
  chk (inR (v0_7 + (1 : Int))) (r0 (v0_7 + (1 : Int)) e5_b5_0 e5_b2_1)
def cacheLeastS_j6 (y9_4 : Int) (v0_7 : Int) (r0 : Int → (List (List Int)) → CacheS → Option (Bool)) (e6_b5_0 : List (List Int)) (e6_b2_1 : CacheS) : Option (Bool) :=
  chk ((0 ≤ (y9_4.tmod (2 : Int)) ∧ (y9_4.tmod (2 : Int)) < (2 : Int)) ∧ 0 ≤ (y9_4.tmod (2 : Int)) ∧ (y9_4.tmod (2 : Int)) < ((e6_b5_0.length : Nat) : Int)) (letP ([y9_4] : List Int) fun l34_5 => chk (((lget e6_b5_0 (y9_4.tmod (2 : Int))) ++ l34_5).length ≤ 1099511627776) (letP ((lget e6_b5_0 (y9_4.tmod (2 : Int))) ++ l34_5) fun l34_6 => chk ((0 ≤ (y9_4.tmod (2 : Int)) ∧ (y9_4.tmod (2 : Int)) < (2 : Int)) ∧ 0 ≤ (y9_4.tmod (2 : Int)) ∧ (y9_4.tmod (2 : Int)) < ((e6_b5_0.length : Nat) : Int)) (letP (lset e6_b5_0 (y9_4.tmod (2 : Int)) l34_6) fun ls34_8 => cacheLeastS_j5 v0_7 r0 ls34_8 e6_b2_1)))
def cacheLeastS_j7 (y9_4 : Int) (v0_b5_0 : List (List Int)) (e4_10 : Int) (v0_7 : Int) (r0 : Int → (List (List Int)) → CacheS → Option (Bool)) (e7_65 : Bool) (e7_b2_1 : CacheS) : Option (Bool) :=
  (bif e7_65 then some false else chk ((0 ≤ (y9_4.tmod (2 : Int)) ∧ (y9_4.tmod (2 : Int)) < (2 : Int)) ∧ 0 ≤ (y9_4.tmod (2 : Int)) ∧ (y9_4.tmod (2 : Int)) < ((v0_b5_0.length : Nat) : Int)) (chk (0 ≤ (0 : Int) ∧ (0 : Int) ≤ e4_10 ∧ e4_10 ≤ (((lget v0_b5_0 (y9_4.tmod (2 : Int))).length : Nat) : Int)) (letP (((lget v0_b5_0 (y9_4.tmod (2 : Int))).drop 0).take ((e4_10).toNat - 0)) fun l21_5 => chk ((0 ≤ (y9_4.tmod (2 : Int)) ∧ (y9_4.tmod (2 : Int)) < (2 : Int)) ∧ 0 ≤ (y9_4.tmod (2 : Int)) ∧ (y9_4.tmod (2 : Int)) < ((v0_b5_0.length : Nat) : Int)) (chk (inR (e4_10 + (1 : Int))) (chk (0 ≤ (e4_10 + (1 : Int)) ∧ (e4_10 + (1 : Int)) ≤ (((List.length (lget v0_b5_0 (y9_4.tmod (2 : Int)))) : Nat) : Int) ∧ (((List.length (lget v0_b5_0 (y9_4.tmod (2 : Int)))) : Nat) : Int) ≤ (((lget v0_b5_0 (y9_4.tmod (2 : Int))).length : Nat) : Int)) (letP (((lget v0_b5_0 (y9_4.tmod (2 : Int))).drop ((e4_10 + (1 : Int))).toNat).take ((List.length (lget v0_b5_0 (y9_4.tmod (2 : Int)))) - ((e4_10 + (1 : Int))).toNat)) fun l21_12 => chk ((l21_5).length ≤ 1099511627776) (letP (l21_5) fun l21_6 => chk ((l21_6 ++ l21_12).length ≤ 1099511627776) (letP (l21_6 ++ l21_12) fun l21_13 => chk ((0 ≤ (y9_4.tmod (2 : Int)) ∧ (y9_4.tmod (2 : Int)) < (2 : Int)) ∧ 0 ≤ (y9_4.tmod (2 : Int)) ∧ (y9_4.tmod (2 : Int)) < ((v0_b5_0.length : Nat) : Int)) (letP (lset v0_b5_0 (y9_4.tmod (2 : Int)) l21_13) fun ls21_15 => cacheLeastS_j6 y9_4 v0_7 r0 ls21_15 e7_b2_1)))))))))
def cacheLeastS_j8 (y9_4 : Int) (v0_7 : Int) (r0 : Int → (List (List Int)) → CacheS → Option (Bool)) (e8_b5_0 : List (List Int)) (e8_b2_1 : CacheS) : Option (Bool) :=
  (enewS y9_4 ((-1) : Int) ((-1) : Int) false ([] : List Int)).bind fun y32_2 => (putS e8_b2_1 y32_2).bind fun y32_3 => (bif !(decide (y32_3.1 = (0 : Int))) then some false else cacheLeastS_j6 y9_4 v0_7 r0 e8_b5_0 y32_3.2)
def cacheLeastS_j9 (v0_b2_1 : CacheS) (y25_2 : Int × Bool) (y9_4 : Int) (v0_b5_0 : List (List Int)) (v0_7 : Int) (r0 : Int → (List (List Int)) → CacheS → Option (Bool)) (e9_113 : Bool) : Option (Bool) :=
  (bif e9_113 then some false else (dropS v0_b2_1 y25_2.1).bind fun y28_2 => (bif !y28_2.2.1 then some false else chk ((0 ≤ (y9_4.tmod (2 : Int)) ∧ (y9_4.tmod (2 : Int)) < (2 : Int)) ∧ 0 ≤ (y9_4.tmod (2 : Int)) ∧ (y9_4.tmod (2 : Int)) < ((v0_b5_0.length : Nat) : Int)) (chk (0 ≤ (1 : Int) ∧ (1 : Int) ≤ (((List.length (lget v0_b5_0 (y9_4.tmod (2 : Int)))) : Nat) : Int) ∧ (((List.length (lget v0_b5_0 (y9_4.tmod (2 : Int)))) : Nat) : Int) ≤ (((lget v0_b5_0 (y9_4.tmod (2 : Int))).length : Nat) : Int)) (letP (((lget v0_b5_0 (y9_4.tmod (2 : Int))).drop ((1 : Int)).toNat).take ((List.length (lget v0_b5_0 (y9_4.tmod (2 : Int)))) - ((1 : Int)).toNat)) fun l31_4 => chk ((0 ≤ (y9_4.tmod (2 : Int)) ∧ (y9_4.tmod (2 : Int)) < (2 : Int)) ∧ 0 ≤ (y9_4.tmod (2 : Int)) ∧ (y9_4.tmod (2 : Int)) < ((v0_b5_0.length : Nat) : Int)) (letP (lset v0_b5_0 (y9_4.tmod (2 : Int)) l31_4) fun ls31_6 => cacheLeastS_j8 y9_4 v0_7 r0 ls31_6 y28_2.2.2)))))
def cacheLeastS_j10 (v4_45 : Int) (r4 : Int → Int → Option (Bool)) (e10_10 : Int) : Option (Bool) :=
  chk (inR (v4_45 + (1 : Int))) (r4 e10_10 (v4_45 + (1 : Int)))
def cacheLeastS_k4 (v0_b2_1 : CacheS) (y9_4 : Int) (v0_b5_0 : List (List Int)) (v0_7 : Int) (r0 : Int → (List (List Int)) → CacheS → Option (Bool)) (y1_1 : Int) (e4_10 : Int) (e4_45 : Int) : Option (Bool) :=
  (bif decide ((0 : Int) ≤ e4_10) then (touchS v0_b2_1 y9_4).bind fun y19_2 => (bif !y19_2.1 then cacheLeastS_j7 y9_4 v0_b5_0 e4_10 v0_7 r0 true y19_2.2 else (fullS y19_2.2 y9_4).bind fun y19_7 => cacheLeastS_j7 y9_4 v0_b5_0 e4_10 v0_7 r0 y19_7 y19_2.2) else chk ((0 ≤ (y9_4.tmod (2 : Int)) ∧ (y9_4.tmod (2 : Int)) < (2 : Int)) ∧ 0 ≤ (y9_4.tmod (2 : Int)) ∧ (y9_4.tmod (2 : Int)) < ((v0_b5_0.length : Nat) : Int)) ((fullS v0_b2_1 y9_4).bind fun y22_2 => (bif !(y22_2 == (decide ((((List.length (lget v0_b5_0 (y9_4.tmod (2 : Int)))) : Nat) : Int) = (wr ((1 : Int) + y1_1))))) then some false else chk ((0 ≤ (y9_4.tmod (2 : Int)) ∧ (y9_4.tmod (2 : Int)) < (2 : Int)) ∧ 0 ≤ (y9_4.tmod (2 : Int)) ∧ (y9_4.tmod (2 : Int)) < ((v0_b5_0.length : Nat) : Int)) ((bif decide ((((List.length (lget v0_b5_0 (y9_4.tmod (2 : Int)))) : Nat) : Int) = (wr ((1 : Int) + y1_1))) then (victimS v0_b2_1 y9_4).bind fun y25_2 => (bif !y25_2.2 then cacheLeastS_j9 v0_b2_1 y25_2 y9_4 v0_b5_0 v0_7 r0 true else chk ((0 ≤ (y9_4.tmod (2 : Int)) ∧ (y9_4.tmod (2 : Int)) < (2 : Int)) ∧ 0 ≤ (y9_4.tmod (2 : Int)) ∧ (y9_4.tmod (2 : Int)) < ((v0_b5_0.length : Nat) : Int)) (chk (0 ≤ (0 : Int) ∧ (0 : Int) < (((lget v0_b5_0 (y9_4.tmod (2 : Int))).length : Nat) : Int)) (cacheLeastS_j9 v0_b2_1 y25_2 y9_4 v0_b5_0 v0_7 r0 (!(decide (y25_2.1 = (nth (lget v0_b5_0 (y9_4.tmod (2 : Int))) (0 : Int)))))))) else cacheLeastS_j8 y9_4 v0_7 r0 v0_b5_0 v0_b2_1)))))
def cacheLeastS_l4 (v0_b5_0 : List (List Int)) (y9_4 : Int) (k4 : Int → Int → Option (Bool)) : Nat → Int → Int → Option (Bool)
  | 0 => fun _ _ => none
  | m + 1 => fun v4_10 v4_45 => (bif decide (v4_45 < (((List.length (lget v0_b5_0 (y9_4.tmod (2 : Int)))) : Nat) : Int)) then chk (0 ≤ v4_45 ∧ v4_45 < (((lget v0_b5_0 (y9_4.tmod (2 : Int))).length : Nat) : Int)) ((bif decide ((nth (lget v0_b5_0 (y9_4.tmod (2 : Int))) v4_45) = y9_4) then cacheLeastS_j10 v4_45 (cacheLeastS_l4 v0_b5_0 y9_4 k4 m) v4_45 else cacheLeastS_j10 v4_45 (cacheLeastS_l4 v0_b5_0 y9_4 k4 m) v4_10)) else k4 v4_10 v4_45)
def cacheLeastS_j3 (v0_7 : Int) (uses : List Int) (v0_b5_0 : List (List Int)) (v0_b2_1 : CacheS) (r0 : Int → (List (List Int)) → CacheS → Option (Bool)) (y1_1 : Int) (k0 : Int → (List (List Int)) → CacheS → Option (Bool)) (e3_31 : Bool) : Option (Bool) :=
  (bif e3_31 then chk (0 ≤ v0_7 ∧ v0_7 < ((uses.length : Nat) : Int)) ((withinS (nth uses v0_7) (10 : Int)).bind fun y9_4 => chk ((0 ≤ (y9_4.tmod (2 : Int)) ∧ (y9_4.tmod (2 : Int)) < (2 : Int)) ∧ 0 ≤ (y9_4.tmod (2 : Int)) ∧ (y9_4.tmod (2 : Int)) < ((v0_b5_0.length : Nat) : Int)) (cacheLeastS_l4 v0_b5_0 y9_4 (cacheLeastS_k4 v0_b2_1 y9_4 v0_b5_0 v0_7 r0 y1_1) 64 (-1) 0)) else k0 v0_7 v0_b5_0 v0_b2_1)
def cacheLeastS_k0 (e0_7 : Int) (e0_b5_0 : List (List Int)) (e0_b2_1 : CacheS) : Option (Bool) :=
  chk ((e0_b5_0).length = 2) (letP (wr ((((List.length (lget e0_b5_0 0)) : Nat) : Int) + (((List.length (lget e0_b5_0 1)) : Nat) : Int))) fun u35_8 => letP (lenC e0_b2_1) fun y35_1 => (bif decide (y35_1 = u35_8) then (wakes8S).bind fun y35_11 => some y35_11 else some false))
def cacheLeastS_l0 (uses : List Int) (y1_1 : Int) (k0 : Int → (List (List Int)) → CacheS → Option (Bool)) : Nat → Int → (List (List Int)) → CacheS → Option (Bool)
  | 0 => fun _ _ _ => none
  | m + 1 => fun v0_7 v0_b5_0 v0_b2_1 => (bif decide (v0_7 < (((List.length uses) : Nat) : Int)) then cacheLeastS_j3 v0_7 uses v0_b5_0 v0_b2_1 (cacheLeastS_l0 uses y1_1 k0 m) y1_1 k0 (decide (v0_7 < (30 : Int))) else cacheLeastS_j3 v0_7 uses v0_b5_0 v0_b2_1 (cacheLeastS_l0 uses y1_1 k0 m) y1_1 k0 false)
def cacheLeastS (ways : Int) (uses : List Int) : Option (Bool) :=
  (withinS ways (4 : Int)).bind fun y1_1 => letP (newC (2 : Int) (wr ((1 : Int) + y1_1))) fun y2_1 => cacheLeastS_l0 uses y1_1 (cacheLeastS_k0 ) 64 0 (List.replicate 2 [] : List (List Int)) y2_1
noncomputable def C9 (p : List Nat) : Code := codeAt (bodyOf Try.f9) p
set_option maxRecDepth 100000 in
set_option maxHeartbeats 8000000 in
theorem CacheLeastF_tr {W0 : World} {Γ : List Asn} (ways : Int) (usesa : Option Addr) (usescap : Nat) (uses : List Int) (hrusesa : Reads W0 Γ usesa (ints uses)) (y : Bool) (H : cacheLeastS ways uses = some y) : Tr Try.prog 9 #[.int .i64 ways, .slice usesa (List.length uses) usescap] W0 (Γ) (fun r Δ => r = .bool y ∧ Δ = Γ) := by
  unfold cacheLeastS at H
  refine Tr.enter (fn := Try.f9) (c := C9 []) (args := [.int .i64 ways, .slice usesa (List.length uses) usescap]) 154 Try.func9 (by kernel_rfl) (by kernel_rfl) ?_
  refine At.env [(0, .int .i64 ways), (1, .slice usesa (List.length uses) usescap)] ⟨by kernel_rfl, by kernel_rfl, trivial⟩ ?_
  refine at_seq (x := C9 [0]) (y := C9 [1]) (by kernel_rfl) ?_
  refine at_region (id := 0) 1 (by kernel_rfl) (by kernel_rfl) ?_
  refine s_pure 4 (.bool false) (by kernel_rfl) (by kernel_rfl) (fun _ => by kernel_rfl) ?_
  refine ops_end ?_
  refine At.env [(0, .int .i64 ways), (1, .slice usesa (List.length uses) usescap)] ⟨by kernel_rfl, by kernel_rfl, trivial⟩ ?_
  refine at_then_normal ?_
  refine at_seq (x := C9 [1,0]) (y := C9 [1,1]) (by kernel_rfl) ?_
  refine at_region (id := 1) 4 (by kernel_rfl) (by kernel_rfl) ?_
  refine s_pure 17 (.int .i64 ways) (by kernel_rfl) (by kernel_rfl) (fun _ => by kernel_rfl) ?_
  obtain ⟨y1_1, hy1_1, H⟩ := bindE H
  refine s_quiet 18 (.int .i64 y1_1) 17 #[.int .i64 ways, .int .i64 (4)] (by kernel_rfl) (by kernel_rfl) (fun _ => by kernel_rfl) (WithinF_tr ways (4 : Int) y1_1 hy1_1) ?_
  refine s_pure 19 (.int .i64 (wr ((1 : Int) + y1_1))) (by kernel_rfl) (by kernel_rfl) (fun _ => by kernel_rfl) ?_
  refine s_pure 0 (.int .i64 (wr ((1 : Int) + y1_1))) (by kernel_rfl) (by kernel_rfl) (fun _ => by kernel_rfl) ?_
  refine ops_end ?_
  refine At.env [(0, .int .i64 (wr ((1 : Int) + y1_1))), (1, .slice usesa (List.length uses) usescap)] ⟨by kernel_rfl, by kernel_rfl, trivial⟩ ?_
  refine at_then_normal ?_
  refine at_seq (x := C9 [1,1,0]) (y := C9 [1,1,1]) (by kernel_rfl) ?_
  refine at_region (id := 2) 3 (by kernel_rfl) (by kernel_rfl) ?_
  refine s_pure 20 (.int .i64 (wr ((1 : Int) + y1_1))) (by kernel_rfl) (by kernel_rfl) (fun _ => by kernel_rfl) ?_
  obtain ⟨y2_1, hy2_1, H⟩ := letE H
  refine s_call 21 13 #[.int .i64 (2), .int .i64 (wr ((1 : Int) + y1_1))] (by kernel_rfl) (by kernel_rfl) (fun _ => by kernel_rfl) (NewF_tr (2 : Int) (wr ((1 : Int) + y1_1)) y2_1 hy2_1) ?_
  rintro _ _ ⟨b2_1, rfl, rfl⟩
  refine s_pure 5 (.pointer (some ⟨b2_1, 0, none⟩)) (by kernel_rfl) (by kernel_rfl) (fun _ => by kernel_rfl) ?_
  refine ops_end ?_
  refine At.env [(0, .int .i64 (wr ((1 : Int) + y1_1))), (1, .slice usesa (List.length uses) usescap), (5, .pointer (some ⟨b2_1, 0, none⟩))] ⟨by kernel_rfl, by kernel_rfl, by kernel_rfl, trivial⟩ ?_
  refine at_then_normal ?_
  refine at_seq (x := C9 [1,1,1,0]) (y := C9 [1,1,1,1]) (by kernel_rfl) ?_
  refine at_seq (x := C9 [1,1,1,0,0]) (y := C9 [1,1,1,0,1]) (by kernel_rfl) ?_
  refine at_region (id := 3) 2 (by kernel_rfl) (by kernel_rfl) ?_
  refine s_pure 22 (.pointer (some ⟨b2_1, 0, none⟩)) (by kernel_rfl) (by kernel_rfl) (fun _ => by kernel_rfl) ?_
  refine s_pure 23 (.bool false) (by kernel_rfl) (by kernel_rfl) (fun _ => by kernel_rfl) ?_
  refine ops_end ?_
  refine At.env [(0, .int .i64 (wr ((1 : Int) + y1_1))), (1, .slice usesa (List.length uses) usescap), (5, .pointer (some ⟨b2_1, 0, none⟩)), (23, .bool false)] ⟨by kernel_rfl, by kernel_rfl, by kernel_rfl, by kernel_rfl, trivial⟩ ?_
  refine at_then_normal ?_
  refine at_false (t := false) (x := C9 [1,1,1,0,1,0]) (y := C9 [1,1,1,0,1,1]) (o := .tmp 23) (by kernel_rfl) (by kernel_rfl) (by kernel_rfl) rfl ?_
  refine at_skip (by kernel_rfl) ?_
  refine at_then_normal ?_
  refine at_seq (x := C9 [1,1,1,1,0]) (y := C9 [1,1,1,1,1]) (by kernel_rfl) ?_
  refine at_region (id := 5) 1 (by kernel_rfl) (by kernel_rfl) ?_
  refine s_step 6 (by kernel_rfl) (by kernel_rfl) (st_new (T := 69) (cells := #[.slice none 0 0, .slice none 0 0]) (fun a => .pointer (some a)) (fun _ => by kernel_rfl)) ?_
  rintro _ _ ⟨b5_0, rfl, rfl⟩
  refine At.conv (Γ' := (ListsA b5_0 69 (List.replicate 2 [] : List (List Int))) :: (CacheA b2_1 y2_1) :: Γ) (fun w hw => lists_new 2 rfl hw) ?_
  refine ops_end ?_
  refine At.env [(0, .int .i64 (wr ((1 : Int) + y1_1))), (1, .slice usesa (List.length uses) usescap), (5, .pointer (some ⟨b2_1, 0, none⟩)), (6, .pointer (some ⟨b5_0, 0, none⟩))] ⟨by kernel_rfl, by kernel_rfl, by kernel_rfl, by kernel_rfl, trivial⟩ ?_
  refine at_then_normal ?_
  refine at_seq (x := C9 [1,1,1,1,1,0]) (y := C9 [1,1,1,1,1,1]) (by kernel_rfl) ?_
  refine at_seq (x := C9 [1,1,1,1,1,0,0]) (y := C9 [1,1,1,1,1,0,1]) (by kernel_rfl) ?_
  refine at_region (id := 6) 1 (by kernel_rfl) (by kernel_rfl) ?_
  refine s_pure 7 (.int .i64 (0)) (by kernel_rfl) (by kernel_rfl) (fun _ => by kernel_rfl) ?_
  refine ops_end ?_
  refine At.env [(0, .int .i64 (wr ((1 : Int) + y1_1))), (1, .slice usesa (List.length uses) usescap), (5, .pointer (some ⟨b2_1, 0, none⟩)), (6, .pointer (some ⟨b5_0, 0, none⟩)), (7, .int .i64 (0))] ⟨by kernel_rfl, by kernel_rfl, by kernel_rfl, by kernel_rfl, by kernel_rfl, trivial⟩ ?_
  refine at_then_normal ?_
  refine at_block (i := 0) (x := C9 [1,1,1,1,1,0,1,0]) (by kernel_rfl) ?_
  refine At.conv (Γ' := (ListsA b5_0 69 (List.replicate 2 [] : List (List Int))) :: (CacheA b2_1 y2_1) :: Γ) (fun w hw => (Sat.less (.take .here (.take .here .refl)) hw)) ?_
  refine at_loopR (x := C9 [1,1,1,1,1,0,1,0,0]) (fun mm ff ΔΔ => ∃ (fuel : Nat) (v0_7 : Int) (v0_b5_0 : List (List Int)) (v0_b2_1 : CacheS), cacheLeastS_l0 uses y1_1 (cacheLeastS_k0 ) fuel v0_7 v0_b5_0 v0_b2_1 = some y ∧ fuel = mm ∧ ff = [(0, .int .i64 (wr ((1 : Int) + y1_1))), (1, .slice usesa (List.length uses) usescap), (5, .pointer (some ⟨b2_1, 0, none⟩)), (6, .pointer (some ⟨b5_0, 0, none⟩)), (7, .int .i64 v0_7)] ∧ (ListsA b5_0 69 v0_b5_0) :: (CacheA b2_1 v0_b2_1) :: Γ = ΔΔ) (64) (by kernel_rfl) [(0, .int .i64 (wr ((1 : Int) + y1_1))), (1, .slice usesa (List.length uses) usescap), (5, .pointer (some ⟨b2_1, 0, none⟩)), (6, .pointer (some ⟨b5_0, 0, none⟩)), (7, .int .i64 0)] ⟨by kernel_rfl, by kernel_rfl, by kernel_rfl, by kernel_rfl, by kernel_rfl, trivial⟩ ⟨64, 0, (List.replicate 2 [] : List (List Int)), y2_1, H, rfl, rfl, rfl⟩ ?_
  rintro _ _ _ ⟨fuel1, v0_7, v0_b5_0, v0_b2_1, H, rfl, rfl, rfl⟩
  rcases fuel1 with _ | fuel1
  · exact (noneE H).elim
  rw [cacheLeastS_l0] at H
  refine at_seq (x := C9 [1,1,1,1,1,0,1,0,0,0]) (y := C9 [1,1,1,1,1,0,1,0,0,1]) (by kernel_rfl) ?_
  refine at_seq_join (x := C9 [1,1,1,1,1,0,1,0,0,0,0]) (y := C9 [1,1,1,1,1,0,1,0,0,0,1]) (fun ff ΔΔ => ∃ (e3_31 : Bool), cacheLeastS_j3 v0_7 uses v0_b5_0 v0_b2_1 (cacheLeastS_l0 uses y1_1 (cacheLeastS_k0 ) fuel1) y1_1 (cacheLeastS_k0 ) e3_31 = some y ∧ ff = [(0, .int .i64 (wr ((1 : Int) + y1_1))), (1, .slice usesa (List.length uses) usescap), (5, .pointer (some ⟨b2_1, 0, none⟩)), (6, .pointer (some ⟨b5_0, 0, none⟩)), (7, .int .i64 v0_7), (31, .bool e3_31)] ∧ (ListsA b5_0 69 v0_b5_0) :: (CacheA b2_1 v0_b2_1) :: Γ = ΔΔ) (by kernel_rfl) ?_ ?_
  · rintro _ _ ⟨e3_31, H, rfl, rfl⟩
    rw [cacheLeastS_j3] at H
    rcases Bool.eq_false_or_eq_true (e3_31) with h1 | h1
    · replace H := bifT H h1
      refine at_true (t := e3_31) (x := C9 [1,1,1,1,1,0,1,0,0,0,1,0]) (y := C9 [1,1,1,1,1,0,1,0,0,0,1,1]) (o := .tmp 31) (by kernel_rfl) (by kernel_rfl) (by kernel_rfl) h1 ?_
      refine at_skip (by kernel_rfl) ?_
      refine at_then_normal ?_
      refine at_seq_join (x := C9 [1,1,1,1,1,0,1,0,0,1,0]) (y := C9 [1,1,1,1,1,0,1,0,0,1,1]) (fun ff ΔΔ => ∃ (e5_b5_0 : List (List Int)) (e5_b2_1 : CacheS), cacheLeastS_j5 v0_7 (cacheLeastS_l0 uses y1_1 (cacheLeastS_k0 ) fuel1) e5_b5_0 e5_b2_1 = some y ∧ ff = [(0, .int .i64 (wr ((1 : Int) + y1_1))), (1, .slice usesa (List.length uses) usescap), (5, .pointer (some ⟨b2_1, 0, none⟩)), (6, .pointer (some ⟨b5_0, 0, none⟩)), (7, .int .i64 v0_7)] ∧ (ListsA b5_0 69 e5_b5_0) :: (CacheA b2_1 e5_b2_1) :: Γ = ΔΔ) (by kernel_rfl) ?_ ?_
      · rintro _ _ ⟨e5_b5_0, e5_b2_1, H, rfl, rfl⟩
        rw [cacheLeastS_j5] at H
        refine at_region (id := 8) 3 (by kernel_rfl) (by kernel_rfl) ?_
        refine s_pure 32 (.int .i64 v0_7) (by kernel_rfl) (by kernel_rfl) (fun _ => by kernel_rfl) ?_
        obtain ⟨hc8_1_0, H⟩ := chkE H
        refine s_pure 33 (.int .i64 (v0_7 + (1 : Int))) (by kernel_rfl) (by kernel_rfl) (run_eq (v := .int .i64 (IntKind.i64.wrap (v0_7 + (1 : Int)))) (fun _ => by kernel_rfl) (by rw [inR.wrap hc8_1_0])) ?_
        refine s_pure 7 (.int .i64 (v0_7 + (1 : Int))) (by kernel_rfl) (by kernel_rfl) (fun _ => by kernel_rfl) ?_
        refine ops_end ?_
        refine At.env [(0, .int .i64 (wr ((1 : Int) + y1_1))), (1, .slice usesa (List.length uses) usescap), (5, .pointer (some ⟨b2_1, 0, none⟩)), (6, .pointer (some ⟨b5_0, 0, none⟩)), (7, .int .i64 (v0_7 + (1 : Int)))] ⟨by kernel_rfl, by kernel_rfl, by kernel_rfl, by kernel_rfl, by kernel_rfl, trivial⟩ ?_
        refine at_round_normal ?_
        exact at_roundR fuel1 [(0, .int .i64 (wr ((1 : Int) + y1_1))), (1, .slice usesa (List.length uses) usescap), (5, .pointer (some ⟨b2_1, 0, none⟩)), (6, .pointer (some ⟨b5_0, 0, none⟩)), (7, .int .i64 (v0_7 + (1 : Int)))] ((ListsA b5_0 69 e5_b5_0) :: (CacheA b2_1 e5_b2_1) :: Γ) (Nat.lt_succ_self _) ⟨by kernel_rfl, by kernel_rfl, by kernel_rfl, by kernel_rfl, by kernel_rfl, trivial⟩ (fun w hw => (Sat.less (.take .here (.take .here .refl)) hw)) ⟨fuel1, v0_7 + (1 : Int), e5_b5_0, e5_b2_1, H, rfl, rfl, rfl⟩
      · refine at_block (i := 1) (x := C9 [1,1,1,1,1,0,1,0,0,1,0,0]) (by kernel_rfl) ?_
        refine at_seq (x := C9 [1,1,1,1,1,0,1,0,0,1,0,0,0]) (y := C9 [1,1,1,1,1,0,1,0,0,1,0,0,1]) (by kernel_rfl) ?_
        refine at_region (id := 9) 6 (by kernel_rfl) (by kernel_rfl) ?_
        refine s_pure 34 (.slice usesa (List.length uses) usescap) (by kernel_rfl) (by kernel_rfl) (fun _ => by kernel_rfl) ?_
        refine s_pure 35 (.int .i64 v0_7) (by kernel_rfl) (by kernel_rfl) (fun _ => by kernel_rfl) ?_
        obtain ⟨hc9_2_0, H⟩ := chkE H
        refine reads_at (Reads.conv (fun w hw => hw.less (.drop .here (.drop .here .refl))) hrusesa) (by have := hc9_2_0; omega) ?_
        intro bb1 oo1 ha1
        refine s_pure 36 (.pointer (some ⟨bb1, oo1 + ((v0_7).toNat * 1 + 0), none⟩)) (by kernel_rfl) (by kernel_rfl) (index_at (t := 22) (sz := 1) (E := 3) (a := usesa) (m := (List.length uses)) (c := usescap) (b := bb1) (off := oo1) (i := (v0_7).toNat) (tinfo 3) (fun _ => by kernel_rfl) (by kernel_rfl) (by kernel_rfl) (by kernel_rfl) ha1 (idx_cast hc9_2_0) (idx_nat hc9_2_0) rfl) ?_
        refine s_load 37 (.int .i64 (nth uses v0_7)) (by kernel_rfl) (by kernel_rfl) (load1_at (off := oo1 + ((v0_7).toNat * 1 + 0)) (v := .int .i64 (nth uses v0_7)) (fun _ => by kernel_rfl) rfl (reads_cell (k := 1) (Reads.conv (fun w hw => hw.less (.drop .here (.drop .here .refl))) hrusesa) (ints_rows _) ha1 (nth_row hc9_2_0) (show [(.int .i64 (nth uses v0_7) : Value)][0]? = some _ from rfl))) ?_
        obtain ⟨y9_4, hy9_4, H⟩ := bindE H
        refine s_quiet 38 (.int .i64 y9_4) 17 #[.int .i64 (nth uses v0_7), .int .i64 (10)] (by kernel_rfl) (by kernel_rfl) (fun _ => by kernel_rfl) (WithinF_tr (nth uses v0_7) (10 : Int) y9_4 hy9_4) ?_
        refine s_pure 8 (.int .i64 y9_4) (by kernel_rfl) (by kernel_rfl) (fun _ => by kernel_rfl) ?_
        refine ops_end ?_
        refine At.env [(0, .int .i64 (wr ((1 : Int) + y1_1))), (1, .slice usesa (List.length uses) usescap), (5, .pointer (some ⟨b2_1, 0, none⟩)), (6, .pointer (some ⟨b5_0, 0, none⟩)), (7, .int .i64 v0_7), (8, .int .i64 y9_4)] ⟨by kernel_rfl, by kernel_rfl, by kernel_rfl, by kernel_rfl, by kernel_rfl, by kernel_rfl, trivial⟩ ?_
        refine at_then_normal ?_
        refine at_seq (x := C9 [1,1,1,1,1,0,1,0,0,1,0,0,1,0]) (y := C9 [1,1,1,1,1,0,1,0,0,1,0,0,1,1]) (by kernel_rfl) ?_
        refine at_region (id := 10) 3 (by kernel_rfl) (by kernel_rfl) ?_
        refine s_pure 39 (.int .i64 y9_4) (by kernel_rfl) (by kernel_rfl) (fun _ => by kernel_rfl) ?_
        refine s_pure 40 (.int .i64 (y9_4.tmod (2 : Int))) (by kernel_rfl) (by kernel_rfl) (run_remP (a := y9_4) (b := 2) (fun _ => by kernel_rfl) (by decide)) ?_
        refine s_pure 9 (.int .i64 (y9_4.tmod (2 : Int))) (by kernel_rfl) (by kernel_rfl) (fun _ => by kernel_rfl) ?_
        refine ops_end ?_
        refine At.env [(0, .int .i64 (wr ((1 : Int) + y1_1))), (1, .slice usesa (List.length uses) usescap), (5, .pointer (some ⟨b2_1, 0, none⟩)), (6, .pointer (some ⟨b5_0, 0, none⟩)), (7, .int .i64 v0_7), (8, .int .i64 y9_4), (9, .int .i64 (y9_4.tmod (2 : Int)))] ⟨by kernel_rfl, by kernel_rfl, by kernel_rfl, by kernel_rfl, by kernel_rfl, by kernel_rfl, by kernel_rfl, trivial⟩ ?_
        refine at_then_normal ?_
        refine at_seq (x := C9 [1,1,1,1,1,0,1,0,0,1,0,0,1,1,0]) (y := C9 [1,1,1,1,1,0,1,0,0,1,0,0,1,1,1]) (by kernel_rfl) ?_
        refine at_region (id := 11) 1 (by kernel_rfl) (by kernel_rfl) ?_
        refine s_pure 10 (.int .i64 (-1)) (by kernel_rfl) (by kernel_rfl) (fun _ => by kernel_rfl) ?_
        refine ops_end ?_
        refine At.env [(0, .int .i64 (wr ((1 : Int) + y1_1))), (1, .slice usesa (List.length uses) usescap), (5, .pointer (some ⟨b2_1, 0, none⟩)), (6, .pointer (some ⟨b5_0, 0, none⟩)), (7, .int .i64 v0_7), (8, .int .i64 y9_4), (9, .int .i64 (y9_4.tmod (2 : Int))), (10, .int .i64 (-1))] ⟨by kernel_rfl, by kernel_rfl, by kernel_rfl, by kernel_rfl, by kernel_rfl, by kernel_rfl, by kernel_rfl, by kernel_rfl, trivial⟩ ?_
        refine at_then_normal ?_
        refine at_seq (x := C9 [1,1,1,1,1,0,1,0,0,1,0,0,1,1,1,0]) (y := C9 [1,1,1,1,1,0,1,0,0,1,0,0,1,1,1,1]) (by kernel_rfl) ?_
        refine at_seq (x := C9 [1,1,1,1,1,0,1,0,0,1,0,0,1,1,1,0,0]) (y := C9 [1,1,1,1,1,0,1,0,0,1,0,0,1,1,1,0,1]) (by kernel_rfl) ?_
        refine at_region (id := 12) 5 (by kernel_rfl) (by kernel_rfl) ?_
        refine s_pure 41 (.int .i64 (y9_4.tmod (2 : Int))) (by kernel_rfl) (by kernel_rfl) (fun _ => by kernel_rfl) ?_
        obtain ⟨hc12_1_0, H⟩ := chkE H
        refine s_pure 42 (.pointer (some ⟨b5_0, ((y9_4.tmod (2 : Int))).toNat, none⟩)) (by kernel_rfl) (by kernel_rfl) (index_arr (t := 69) (E := 22) (m := 2) (tinfo 22) (fun _ => by kernel_rfl) (by kernel_rfl) (by kernel_rfl) (by kernel_rfl) hc12_1_0.1) ?_
        refine At.lfocus hc12_1_0.2 .here ?_
        intro a12_2 c12_2
        refine s_load 43 (.slice a12_2 (List.length (lget v0_b5_0 (y9_4.tmod (2 : Int)))) c12_2) (by kernel_rfl) (by kernel_rfl) (lists_load (i := (y9_4.tmod (2 : Int))) (fun _ => by kernel_rfl) (.there .here)) ?_
        refine s_pure 44 (.int .i64 (((List.length (lget v0_b5_0 (y9_4.tmod (2 : Int)))) : Nat) : Int)) (by kernel_rfl) (by kernel_rfl) (fun _ => by kernel_rfl) ?_
        refine s_pure 45 (.int .i64 (0)) (by kernel_rfl) (by kernel_rfl) (fun _ => by kernel_rfl) ?_
        refine ops_end ?_
        refine At.env [(0, .int .i64 (wr ((1 : Int) + y1_1))), (1, .slice usesa (List.length uses) usescap), (5, .pointer (some ⟨b2_1, 0, none⟩)), (6, .pointer (some ⟨b5_0, 0, none⟩)), (7, .int .i64 v0_7), (8, .int .i64 y9_4), (9, .int .i64 (y9_4.tmod (2 : Int))), (10, .int .i64 (-1)), (43, .slice a12_2 (List.length (lget v0_b5_0 (y9_4.tmod (2 : Int)))) c12_2), (44, .int .i64 (((List.length (lget v0_b5_0 (y9_4.tmod (2 : Int)))) : Nat) : Int)), (45, .int .i64 (0))] ⟨by kernel_rfl, by kernel_rfl, by kernel_rfl, by kernel_rfl, by kernel_rfl, by kernel_rfl, by kernel_rfl, by kernel_rfl, by kernel_rfl, by kernel_rfl, by kernel_rfl, trivial⟩ ?_
        refine at_then_normal ?_
        refine at_block (i := 2) (x := C9 [1,1,1,1,1,0,1,0,0,1,0,0,1,1,1,0,1,0]) (by kernel_rfl) ?_
        refine At.conv (Γ' := (IntsA a12_2 c12_2 (lget v0_b5_0 (y9_4.tmod (2 : Int)))) :: (ListsX b5_0 69 v0_b5_0 (y9_4.tmod (2 : Int)) a12_2 c12_2) :: (CacheA b2_1 v0_b2_1) :: Γ) (fun w hw => (Sat.less (.take .here (.take .here (.take .here .refl))) hw)) ?_
        refine at_loopR (x := C9 [1,1,1,1,1,0,1,0,0,1,0,0,1,1,1,0,1,0,0]) (fun mm ff ΔΔ => ∃ (fuel : Nat) (v4_10 : Int) (v4_45 : Int), cacheLeastS_l4 v0_b5_0 y9_4 (cacheLeastS_k4 v0_b2_1 y9_4 v0_b5_0 v0_7 (cacheLeastS_l0 uses y1_1 (cacheLeastS_k0 ) fuel1) y1_1) fuel v4_10 v4_45 = some y ∧ fuel = mm ∧ ff = [(0, .int .i64 (wr ((1 : Int) + y1_1))), (1, .slice usesa (List.length uses) usescap), (5, .pointer (some ⟨b2_1, 0, none⟩)), (6, .pointer (some ⟨b5_0, 0, none⟩)), (7, .int .i64 v0_7), (8, .int .i64 y9_4), (9, .int .i64 (y9_4.tmod (2 : Int))), (10, .int .i64 v4_10), (43, .slice a12_2 (List.length (lget v0_b5_0 (y9_4.tmod (2 : Int)))) c12_2), (44, .int .i64 (((List.length (lget v0_b5_0 (y9_4.tmod (2 : Int)))) : Nat) : Int)), (45, .int .i64 v4_45)] ∧ (IntsA a12_2 c12_2 (lget v0_b5_0 (y9_4.tmod (2 : Int)))) :: (ListsX b5_0 69 v0_b5_0 (y9_4.tmod (2 : Int)) a12_2 c12_2) :: (CacheA b2_1 v0_b2_1) :: Γ = ΔΔ) (64) (by kernel_rfl) [(0, .int .i64 (wr ((1 : Int) + y1_1))), (1, .slice usesa (List.length uses) usescap), (5, .pointer (some ⟨b2_1, 0, none⟩)), (6, .pointer (some ⟨b5_0, 0, none⟩)), (7, .int .i64 v0_7), (8, .int .i64 y9_4), (9, .int .i64 (y9_4.tmod (2 : Int))), (10, .int .i64 (-1)), (43, .slice a12_2 (List.length (lget v0_b5_0 (y9_4.tmod (2 : Int)))) c12_2), (44, .int .i64 (((List.length (lget v0_b5_0 (y9_4.tmod (2 : Int)))) : Nat) : Int)), (45, .int .i64 0)] ⟨by kernel_rfl, by kernel_rfl, by kernel_rfl, by kernel_rfl, by kernel_rfl, by kernel_rfl, by kernel_rfl, by kernel_rfl, by kernel_rfl, by kernel_rfl, by kernel_rfl, trivial⟩ ⟨64, (-1), 0, H, rfl, rfl, rfl⟩ ?_
        rintro _ _ _ ⟨fuel2, v4_10, v4_45, H, rfl, rfl, rfl⟩
        rcases fuel2 with _ | fuel2
        · exact (noneE H).elim
        rw [cacheLeastS_l4] at H
        refine at_seq (x := C9 [1,1,1,1,1,0,1,0,0,1,0,0,1,1,1,0,1,0,0,0]) (y := C9 [1,1,1,1,1,0,1,0,0,1,0,0,1,1,1,0,1,0,0,1]) (by kernel_rfl) ?_
        refine at_region (id := 13) 1 (by kernel_rfl) (by kernel_rfl) ?_
        refine s_pure 46 (.bool (decide (v4_45 < (((List.length (lget v0_b5_0 (y9_4.tmod (2 : Int)))) : Nat) : Int)))) (by kernel_rfl) (by kernel_rfl) (fun _ => by kernel_rfl) ?_
        refine ops_end ?_
        refine At.env [(0, .int .i64 (wr ((1 : Int) + y1_1))), (1, .slice usesa (List.length uses) usescap), (5, .pointer (some ⟨b2_1, 0, none⟩)), (6, .pointer (some ⟨b5_0, 0, none⟩)), (7, .int .i64 v0_7), (8, .int .i64 y9_4), (9, .int .i64 (y9_4.tmod (2 : Int))), (10, .int .i64 v4_10), (43, .slice a12_2 (List.length (lget v0_b5_0 (y9_4.tmod (2 : Int)))) c12_2), (44, .int .i64 (((List.length (lget v0_b5_0 (y9_4.tmod (2 : Int)))) : Nat) : Int)), (45, .int .i64 v4_45), (46, .bool (decide (v4_45 < (((List.length (lget v0_b5_0 (y9_4.tmod (2 : Int)))) : Nat) : Int))))] ⟨by kernel_rfl, by kernel_rfl, by kernel_rfl, by kernel_rfl, by kernel_rfl, by kernel_rfl, by kernel_rfl, by kernel_rfl, by kernel_rfl, by kernel_rfl, by kernel_rfl, by kernel_rfl, trivial⟩ ?_
        refine at_then_normal ?_
        refine at_seq (x := C9 [1,1,1,1,1,0,1,0,0,1,0,0,1,1,1,0,1,0,0,1,0]) (y := C9 [1,1,1,1,1,0,1,0,0,1,0,0,1,1,1,0,1,0,0,1,1]) (by kernel_rfl) ?_
        rcases Bool.eq_false_or_eq_true (decide (v4_45 < (((List.length (lget v0_b5_0 (y9_4.tmod (2 : Int)))) : Nat) : Int))) with h2 | h2
        · replace H := bifT H h2
          refine at_true (t := decide (v4_45 < (((List.length (lget v0_b5_0 (y9_4.tmod (2 : Int)))) : Nat) : Int))) (x := C9 [1,1,1,1,1,0,1,0,0,1,0,0,1,1,1,0,1,0,0,1,0,0]) (y := C9 [1,1,1,1,1,0,1,0,0,1,0,0,1,1,1,0,1,0,0,1,0,1]) (o := .tmp 46) (by kernel_rfl) (by kernel_rfl) (by kernel_rfl) h2 ?_
          refine at_skip (by kernel_rfl) ?_
          refine at_then_normal ?_
          refine at_seq_join (x := C9 [1,1,1,1,1,0,1,0,0,1,0,0,1,1,1,0,1,0,0,1,1,0]) (y := C9 [1,1,1,1,1,0,1,0,0,1,0,0,1,1,1,0,1,0,0,1,1,1]) (fun ff ΔΔ => ∃ (e10_10 : Int), cacheLeastS_j10 v4_45 (cacheLeastS_l4 v0_b5_0 y9_4 (cacheLeastS_k4 v0_b2_1 y9_4 v0_b5_0 v0_7 (cacheLeastS_l0 uses y1_1 (cacheLeastS_k0 ) fuel1) y1_1) fuel2) e10_10 = some y ∧ ff = [(0, .int .i64 (wr ((1 : Int) + y1_1))), (1, .slice usesa (List.length uses) usescap), (5, .pointer (some ⟨b2_1, 0, none⟩)), (6, .pointer (some ⟨b5_0, 0, none⟩)), (7, .int .i64 v0_7), (8, .int .i64 y9_4), (9, .int .i64 (y9_4.tmod (2 : Int))), (10, .int .i64 e10_10), (43, .slice a12_2 (List.length (lget v0_b5_0 (y9_4.tmod (2 : Int)))) c12_2), (44, .int .i64 (((List.length (lget v0_b5_0 (y9_4.tmod (2 : Int)))) : Nat) : Int)), (45, .int .i64 v4_45)] ∧ (IntsA a12_2 c12_2 (lget v0_b5_0 (y9_4.tmod (2 : Int)))) :: (ListsX b5_0 69 v0_b5_0 (y9_4.tmod (2 : Int)) a12_2 c12_2) :: (CacheA b2_1 v0_b2_1) :: Γ = ΔΔ) (by kernel_rfl) ?_ ?_
          · rintro _ _ ⟨e10_10, H, rfl, rfl⟩
            rw [cacheLeastS_j10] at H
            refine at_region (id := 17) 2 (by kernel_rfl) (by kernel_rfl) ?_
            obtain ⟨hc17_0_0, H⟩ := chkE H
            refine s_pure 54 (.int .i64 (v4_45 + (1 : Int))) (by kernel_rfl) (by kernel_rfl) (run_eq (v := .int .i64 (IntKind.i64.wrap (v4_45 + (1 : Int)))) (fun _ => by kernel_rfl) (by rw [inR.wrap hc17_0_0])) ?_
            refine s_pure 45 (.int .i64 (v4_45 + (1 : Int))) (by kernel_rfl) (by kernel_rfl) (fun _ => by kernel_rfl) ?_
            refine ops_end ?_
            refine At.env [(0, .int .i64 (wr ((1 : Int) + y1_1))), (1, .slice usesa (List.length uses) usescap), (5, .pointer (some ⟨b2_1, 0, none⟩)), (6, .pointer (some ⟨b5_0, 0, none⟩)), (7, .int .i64 v0_7), (8, .int .i64 y9_4), (9, .int .i64 (y9_4.tmod (2 : Int))), (10, .int .i64 e10_10), (43, .slice a12_2 (List.length (lget v0_b5_0 (y9_4.tmod (2 : Int)))) c12_2), (44, .int .i64 (((List.length (lget v0_b5_0 (y9_4.tmod (2 : Int)))) : Nat) : Int)), (45, .int .i64 (v4_45 + (1 : Int)))] ⟨by kernel_rfl, by kernel_rfl, by kernel_rfl, by kernel_rfl, by kernel_rfl, by kernel_rfl, by kernel_rfl, by kernel_rfl, by kernel_rfl, by kernel_rfl, by kernel_rfl, trivial⟩ ?_
            refine at_round_normal ?_
            exact at_roundR fuel2 [(0, .int .i64 (wr ((1 : Int) + y1_1))), (1, .slice usesa (List.length uses) usescap), (5, .pointer (some ⟨b2_1, 0, none⟩)), (6, .pointer (some ⟨b5_0, 0, none⟩)), (7, .int .i64 v0_7), (8, .int .i64 y9_4), (9, .int .i64 (y9_4.tmod (2 : Int))), (10, .int .i64 e10_10), (43, .slice a12_2 (List.length (lget v0_b5_0 (y9_4.tmod (2 : Int)))) c12_2), (44, .int .i64 (((List.length (lget v0_b5_0 (y9_4.tmod (2 : Int)))) : Nat) : Int)), (45, .int .i64 (v4_45 + (1 : Int)))] ((IntsA a12_2 c12_2 (lget v0_b5_0 (y9_4.tmod (2 : Int)))) :: (ListsX b5_0 69 v0_b5_0 (y9_4.tmod (2 : Int)) a12_2 c12_2) :: (CacheA b2_1 v0_b2_1) :: Γ) (Nat.lt_succ_self _) ⟨by kernel_rfl, by kernel_rfl, by kernel_rfl, by kernel_rfl, by kernel_rfl, by kernel_rfl, by kernel_rfl, by kernel_rfl, by kernel_rfl, by kernel_rfl, by kernel_rfl, trivial⟩ (fun w hw => (Sat.less (.take .here (.take .here (.take .here .refl))) hw)) ⟨fuel2, e10_10, v4_45 + (1 : Int), H, rfl, rfl, rfl⟩
          · refine at_block (i := 3) (x := C9 [1,1,1,1,1,0,1,0,0,1,0,0,1,1,1,0,1,0,0,1,1,0,0]) (by kernel_rfl) ?_
            refine at_seq (x := C9 [1,1,1,1,1,0,1,0,0,1,0,0,1,1,1,0,1,0,0,1,1,0,0,0]) (y := C9 [1,1,1,1,1,0,1,0,0,1,0,0,1,1,1,0,1,0,0,1,1,0,0,1]) (by kernel_rfl) ?_
            refine at_region (id := 14) 5 (by kernel_rfl) (by kernel_rfl) ?_
            refine s_pure 47 (.int .i64 v4_45) (by kernel_rfl) (by kernel_rfl) (fun _ => by kernel_rfl) ?_
            obtain ⟨hc14_1_0, H⟩ := chkE H
            refine rows_at .here (by have := hc14_1_0; simp only [ints_length]; omega) ?_
            intro bb2 oo2 ha2
            refine s_pure 48 (.pointer (some ⟨bb2, oo2 + ((v4_45).toNat * 1 + 0), none⟩)) (by kernel_rfl) (by kernel_rfl) (index_at (t := 22) (sz := 1) (E := 3) (a := a12_2) (m := (List.length (lget v0_b5_0 (y9_4.tmod (2 : Int))))) (c := c12_2) (b := bb2) (off := oo2) (i := (v4_45).toNat) (tinfo 3) (fun _ => by kernel_rfl) (by kernel_rfl) (by kernel_rfl) (by kernel_rfl) ha2 (idx_cast hc14_1_0) (idx_nat hc14_1_0) rfl) ?_
            refine s_load 49 (.int .i64 (nth (lget v0_b5_0 (y9_4.tmod (2 : Int))) v4_45)) (by kernel_rfl) (by kernel_rfl) (load1_at (off := oo2 + ((v4_45).toNat * 1 + 0)) (v := .int .i64 (nth (lget v0_b5_0 (y9_4.tmod (2 : Int))) v4_45)) (fun _ => by kernel_rfl) rfl (reads_cell (k := 1) (RowsA.reads (k := 1) .here) (ints_rows _) ha2 (nth_row hc14_1_0) (show [(.int .i64 (nth (lget v0_b5_0 (y9_4.tmod (2 : Int))) v4_45) : Value)][0]? = some _ from rfl))) ?_
            refine s_pure 11 (.int .i64 v4_45) (by kernel_rfl) (by kernel_rfl) (fun _ => by kernel_rfl) ?_
            refine s_pure 12 (.int .i64 (nth (lget v0_b5_0 (y9_4.tmod (2 : Int))) v4_45)) (by kernel_rfl) (by kernel_rfl) (fun _ => by kernel_rfl) ?_
            refine ops_end ?_
            refine At.env [(0, .int .i64 (wr ((1 : Int) + y1_1))), (1, .slice usesa (List.length uses) usescap), (5, .pointer (some ⟨b2_1, 0, none⟩)), (6, .pointer (some ⟨b5_0, 0, none⟩)), (7, .int .i64 v0_7), (8, .int .i64 y9_4), (9, .int .i64 (y9_4.tmod (2 : Int))), (10, .int .i64 v4_10), (11, .int .i64 v4_45), (12, .int .i64 (nth (lget v0_b5_0 (y9_4.tmod (2 : Int))) v4_45)), (43, .slice a12_2 (List.length (lget v0_b5_0 (y9_4.tmod (2 : Int)))) c12_2), (44, .int .i64 (((List.length (lget v0_b5_0 (y9_4.tmod (2 : Int)))) : Nat) : Int)), (45, .int .i64 v4_45)] ⟨by kernel_rfl, by kernel_rfl, by kernel_rfl, by kernel_rfl, by kernel_rfl, by kernel_rfl, by kernel_rfl, by kernel_rfl, by kernel_rfl, by kernel_rfl, by kernel_rfl, by kernel_rfl, by kernel_rfl, trivial⟩ ?_
            refine at_then_normal ?_
            refine at_seq (x := C9 [1,1,1,1,1,0,1,0,0,1,0,0,1,1,1,0,1,0,0,1,1,0,0,1,0]) (y := C9 [1,1,1,1,1,0,1,0,0,1,0,0,1,1,1,0,1,0,0,1,1,0,0,1,1]) (by kernel_rfl) ?_
            refine at_region (id := 15) 3 (by kernel_rfl) (by kernel_rfl) ?_
            refine s_pure 50 (.int .i64 (nth (lget v0_b5_0 (y9_4.tmod (2 : Int))) v4_45)) (by kernel_rfl) (by kernel_rfl) (fun _ => by kernel_rfl) ?_
            refine s_pure 51 (.int .i64 y9_4) (by kernel_rfl) (by kernel_rfl) (fun _ => by kernel_rfl) ?_
            refine s_pure 52 (.bool (decide ((nth (lget v0_b5_0 (y9_4.tmod (2 : Int))) v4_45) = y9_4))) (by kernel_rfl) (by kernel_rfl) (fun _ => by kernel_rfl) ?_
            refine ops_end ?_
            refine At.env [(0, .int .i64 (wr ((1 : Int) + y1_1))), (1, .slice usesa (List.length uses) usescap), (5, .pointer (some ⟨b2_1, 0, none⟩)), (6, .pointer (some ⟨b5_0, 0, none⟩)), (7, .int .i64 v0_7), (8, .int .i64 y9_4), (9, .int .i64 (y9_4.tmod (2 : Int))), (10, .int .i64 v4_10), (11, .int .i64 v4_45), (43, .slice a12_2 (List.length (lget v0_b5_0 (y9_4.tmod (2 : Int)))) c12_2), (44, .int .i64 (((List.length (lget v0_b5_0 (y9_4.tmod (2 : Int)))) : Nat) : Int)), (45, .int .i64 v4_45), (52, .bool (decide ((nth (lget v0_b5_0 (y9_4.tmod (2 : Int))) v4_45) = y9_4)))] ⟨by kernel_rfl, by kernel_rfl, by kernel_rfl, by kernel_rfl, by kernel_rfl, by kernel_rfl, by kernel_rfl, by kernel_rfl, by kernel_rfl, by kernel_rfl, by kernel_rfl, by kernel_rfl, by kernel_rfl, trivial⟩ ?_
            refine at_then_normal ?_
            rcases Bool.eq_false_or_eq_true (decide ((nth (lget v0_b5_0 (y9_4.tmod (2 : Int))) v4_45) = y9_4)) with h3 | h3
            · replace H := bifT H h3
              refine at_true (t := decide ((nth (lget v0_b5_0 (y9_4.tmod (2 : Int))) v4_45) = y9_4)) (x := C9 [1,1,1,1,1,0,1,0,0,1,0,0,1,1,1,0,1,0,0,1,1,0,0,1,1,0]) (y := C9 [1,1,1,1,1,0,1,0,0,1,0,0,1,1,1,0,1,0,0,1,1,0,0,1,1,1]) (o := .tmp 52) (by kernel_rfl) (by kernel_rfl) (by kernel_rfl) h3 ?_
              refine at_region (id := 16) 2 (by kernel_rfl) (by kernel_rfl) ?_
              refine s_pure 53 (.int .i64 v4_45) (by kernel_rfl) (by kernel_rfl) (fun _ => by kernel_rfl) ?_
              refine s_pure 10 (.int .i64 v4_45) (by kernel_rfl) (by kernel_rfl) (fun _ => by kernel_rfl) ?_
              refine ops_end ?_
              refine At.env [(0, .int .i64 (wr ((1 : Int) + y1_1))), (1, .slice usesa (List.length uses) usescap), (5, .pointer (some ⟨b2_1, 0, none⟩)), (6, .pointer (some ⟨b5_0, 0, none⟩)), (7, .int .i64 v0_7), (8, .int .i64 y9_4), (9, .int .i64 (y9_4.tmod (2 : Int))), (10, .int .i64 v4_45), (43, .slice a12_2 (List.length (lget v0_b5_0 (y9_4.tmod (2 : Int)))) c12_2), (44, .int .i64 (((List.length (lget v0_b5_0 (y9_4.tmod (2 : Int)))) : Nat) : Int)), (45, .int .i64 v4_45)] ⟨by kernel_rfl, by kernel_rfl, by kernel_rfl, by kernel_rfl, by kernel_rfl, by kernel_rfl, by kernel_rfl, by kernel_rfl, by kernel_rfl, by kernel_rfl, by kernel_rfl, trivial⟩ ?_
              refine at_in_normal ?_
              refine at_round_normal ?_
              exact at_join_mk [(0, .int .i64 (wr ((1 : Int) + y1_1))), (1, .slice usesa (List.length uses) usescap), (5, .pointer (some ⟨b2_1, 0, none⟩)), (6, .pointer (some ⟨b5_0, 0, none⟩)), (7, .int .i64 v0_7), (8, .int .i64 y9_4), (9, .int .i64 (y9_4.tmod (2 : Int))), (10, .int .i64 v4_45), (43, .slice a12_2 (List.length (lget v0_b5_0 (y9_4.tmod (2 : Int)))) c12_2), (44, .int .i64 (((List.length (lget v0_b5_0 (y9_4.tmod (2 : Int)))) : Nat) : Int)), (45, .int .i64 v4_45)] ((IntsA a12_2 c12_2 (lget v0_b5_0 (y9_4.tmod (2 : Int)))) :: (ListsX b5_0 69 v0_b5_0 (y9_4.tmod (2 : Int)) a12_2 c12_2) :: (CacheA b2_1 v0_b2_1) :: Γ) ⟨by kernel_rfl, by kernel_rfl, by kernel_rfl, by kernel_rfl, by kernel_rfl, by kernel_rfl, by kernel_rfl, by kernel_rfl, by kernel_rfl, by kernel_rfl, by kernel_rfl, trivial⟩ (fun w hw => (Sat.less (.take .here (.take .here (.take .here .refl))) hw)) ⟨v4_45, H, rfl, rfl⟩
            · replace H := bifF H h3
              refine at_false (t := decide ((nth (lget v0_b5_0 (y9_4.tmod (2 : Int))) v4_45) = y9_4)) (x := C9 [1,1,1,1,1,0,1,0,0,1,0,0,1,1,1,0,1,0,0,1,1,0,0,1,1,0]) (y := C9 [1,1,1,1,1,0,1,0,0,1,0,0,1,1,1,0,1,0,0,1,1,0,0,1,1,1]) (o := .tmp 52) (by kernel_rfl) (by kernel_rfl) (by kernel_rfl) h3 ?_
              refine at_skip (by kernel_rfl) ?_
              refine at_in_normal ?_
              refine at_round_normal ?_
              exact at_join_mk [(0, .int .i64 (wr ((1 : Int) + y1_1))), (1, .slice usesa (List.length uses) usescap), (5, .pointer (some ⟨b2_1, 0, none⟩)), (6, .pointer (some ⟨b5_0, 0, none⟩)), (7, .int .i64 v0_7), (8, .int .i64 y9_4), (9, .int .i64 (y9_4.tmod (2 : Int))), (10, .int .i64 v4_10), (43, .slice a12_2 (List.length (lget v0_b5_0 (y9_4.tmod (2 : Int)))) c12_2), (44, .int .i64 (((List.length (lget v0_b5_0 (y9_4.tmod (2 : Int)))) : Nat) : Int)), (45, .int .i64 v4_45)] ((IntsA a12_2 c12_2 (lget v0_b5_0 (y9_4.tmod (2 : Int)))) :: (ListsX b5_0 69 v0_b5_0 (y9_4.tmod (2 : Int)) a12_2 c12_2) :: (CacheA b2_1 v0_b2_1) :: Γ) ⟨by kernel_rfl, by kernel_rfl, by kernel_rfl, by kernel_rfl, by kernel_rfl, by kernel_rfl, by kernel_rfl, by kernel_rfl, by kernel_rfl, by kernel_rfl, by kernel_rfl, trivial⟩ (fun w hw => (Sat.less (.take .here (.take .here (.take .here .refl))) hw)) ⟨v4_10, H, rfl, rfl⟩
        · replace H := bifF H h2
          refine at_false (t := decide (v4_45 < (((List.length (lget v0_b5_0 (y9_4.tmod (2 : Int)))) : Nat) : Int))) (x := C9 [1,1,1,1,1,0,1,0,0,1,0,0,1,1,1,0,1,0,0,1,0,0]) (y := C9 [1,1,1,1,1,0,1,0,0,1,0,0,1,1,1,0,1,0,0,1,0,1]) (o := .tmp 46) (by kernel_rfl) (by kernel_rfl) (by kernel_rfl) h2 ?_
          refine at_exit (i := 2) (by kernel_rfl) ?_
          refine at_then_exit ?_
          refine at_then_exit ?_
          rw [cacheLeastS_k4] at H
          refine At.env [(0, .int .i64 (wr ((1 : Int) + y1_1))), (1, .slice usesa (List.length uses) usescap), (5, .pointer (some ⟨b2_1, 0, none⟩)), (6, .pointer (some ⟨b5_0, 0, none⟩)), (7, .int .i64 v0_7), (8, .int .i64 y9_4), (9, .int .i64 (y9_4.tmod (2 : Int))), (10, .int .i64 v4_10), (43, .slice a12_2 (List.length (lget v0_b5_0 (y9_4.tmod (2 : Int)))) c12_2), (44, .int .i64 (((List.length (lget v0_b5_0 (y9_4.tmod (2 : Int)))) : Nat) : Int)), (45, .int .i64 v4_45)] ⟨by kernel_rfl, by kernel_rfl, by kernel_rfl, by kernel_rfl, by kernel_rfl, by kernel_rfl, by kernel_rfl, by kernel_rfl, by kernel_rfl, by kernel_rfl, by kernel_rfl, trivial⟩ ?_
          refine At.conv (Γ' := (IntsA a12_2 c12_2 (lget v0_b5_0 (y9_4.tmod (2 : Int)))) :: (ListsX b5_0 69 v0_b5_0 (y9_4.tmod (2 : Int)) a12_2 c12_2) :: (CacheA b2_1 v0_b2_1) :: Γ) (fun w hw => (Sat.less (.take .here (.take .here (.take .here .refl))) hw)) ?_
          refine at_in_here ?_
          refine at_then_normal ?_
          refine At.conv (Γ' := (ListsA b5_0 69 v0_b5_0) :: (CacheA b2_1 v0_b2_1) :: Γ) (fun w hw => ListsA.unfocus (Sat.less (.take .here (.take .here (.take .here .refl))) hw)) ?_
          refine at_seq_join (x := C9 [1,1,1,1,1,0,1,0,0,1,0,0,1,1,1,1,0]) (y := C9 [1,1,1,1,1,0,1,0,0,1,0,0,1,1,1,1,1]) (fun ff ΔΔ => ∃ (e6_b5_0 : List (List Int)) (e6_b2_1 : CacheS), cacheLeastS_j6 y9_4 v0_7 (cacheLeastS_l0 uses y1_1 (cacheLeastS_k0 ) fuel1) e6_b5_0 e6_b2_1 = some y ∧ ff = [(0, .int .i64 (wr ((1 : Int) + y1_1))), (1, .slice usesa (List.length uses) usescap), (5, .pointer (some ⟨b2_1, 0, none⟩)), (6, .pointer (some ⟨b5_0, 0, none⟩)), (7, .int .i64 v0_7), (8, .int .i64 y9_4), (9, .int .i64 (y9_4.tmod (2 : Int)))] ∧ (ListsA b5_0 69 e6_b5_0) :: (CacheA b2_1 e6_b2_1) :: Γ = ΔΔ) (by kernel_rfl) ?_ ?_
          · rintro _ _ ⟨e6_b5_0, e6_b2_1, H, rfl, rfl⟩
            rw [cacheLeastS_j6] at H
            refine at_region (id := 34) 9 (by kernel_rfl) (by kernel_rfl) ?_
            refine s_pure 133 (.int .i64 (y9_4.tmod (2 : Int))) (by kernel_rfl) (by kernel_rfl) (fun _ => by kernel_rfl) ?_
            refine s_pure 134 (.int .i64 (y9_4.tmod (2 : Int))) (by kernel_rfl) (by kernel_rfl) (fun _ => by kernel_rfl) ?_
            obtain ⟨hc34_2_0, H⟩ := chkE H
            refine s_pure 135 (.pointer (some ⟨b5_0, ((y9_4.tmod (2 : Int))).toNat, none⟩)) (by kernel_rfl) (by kernel_rfl) (index_arr (t := 69) (E := 22) (m := 2) (tinfo 22) (fun _ => by kernel_rfl) (by kernel_rfl) (by kernel_rfl) (by kernel_rfl) hc34_2_0.1) ?_
            refine At.lfocus hc34_2_0.2 .here ?_
            intro a34_3 c34_3
            refine s_load 136 (.slice a34_3 (List.length (lget e6_b5_0 (y9_4.tmod (2 : Int)))) c34_3) (by kernel_rfl) (by kernel_rfl) (lists_load (i := (y9_4.tmod (2 : Int))) (fun _ => by kernel_rfl) (.there .here)) ?_
            refine s_pure 137 (.int .i64 y9_4) (by kernel_rfl) (by kernel_rfl) (fun _ => by kernel_rfl) ?_
            obtain ⟨l34_5, hl34_5, H⟩ := letE H
            refine s_step 138 (by kernel_rfl) (by kernel_rfl) (st_new_ints (T := 3) (xs := l34_5) 1 hl34_5 (fun _ => by kernel_rfl) (by kernel_rfl)) ?_
            rintro _ _ ⟨b34_5, rfl, rfl⟩
            obtain ⟨hc34_6_0, H⟩ := chkE H
            obtain ⟨l34_6, hl34_6, H⟩ := letE H
            refine s_step 139 (by kernel_rfl) (by kernel_rfl) (st_append_ints (xs := lget e6_b5_0 (y9_4.tmod (2 : Int))) (ys := l34_5) (zs := l34_6) (m1 := (List.length (lget e6_b5_0 (y9_4.tmod (2 : Int))))) (m2 := (List.length l34_5)) (m := List.length l34_6) (cap2 := 1) 22 22 3 (tinfo 3) (fun _ => by kernel_rfl) (by kernel_rfl) (by kernel_rfl) (by kernel_rfl) (by kernel_rfl) (by kernel_rfl) (.there .here) (RowsA.reads (k := 1) .here) (by first | rfl | simp) (by first | rfl | simp) (by rw [← hl34_6]; first | done | simp) (by rw [← hl34_6]; first | done | simp) (by rw [← hl34_6]; exact hc34_6_0)) ?_
            rintro _ _ ⟨a34_6, c34_6, rfl, rfl⟩
            obtain ⟨hc34_7_0, H⟩ := chkE H
            refine s_pure 140 (.pointer (some ⟨b5_0, ((y9_4.tmod (2 : Int))).toNat, none⟩)) (by kernel_rfl) (by kernel_rfl) (index_arr (t := 69) (E := 22) (m := 2) (tinfo 22) (fun _ => by kernel_rfl) (by kernel_rfl) (by kernel_rfl) (by kernel_rfl) hc34_7_0.1) ?_
            obtain ⟨ls34_8, hls34_8, H⟩ := letE H
            refine s_do (by kernel_rfl) (by kernel_rfl) (st_lists (i := (y9_4.tmod (2 : Int))) (v := l34_6) (fun _ => by kernel_rfl) (.there (.there .here)) .here) ?_
            rintro _ _ ⟨rfl, rfl⟩
            rw [hls34_8]
            refine ops_end ?_
            refine At.env [(0, .int .i64 (wr ((1 : Int) + y1_1))), (1, .slice usesa (List.length uses) usescap), (5, .pointer (some ⟨b2_1, 0, none⟩)), (6, .pointer (some ⟨b5_0, 0, none⟩)), (7, .int .i64 v0_7)] ⟨by kernel_rfl, by kernel_rfl, by kernel_rfl, by kernel_rfl, by kernel_rfl, trivial⟩ ?_
            refine at_in_normal ?_
            refine at_round_normal ?_
            exact at_join_mk [(0, .int .i64 (wr ((1 : Int) + y1_1))), (1, .slice usesa (List.length uses) usescap), (5, .pointer (some ⟨b2_1, 0, none⟩)), (6, .pointer (some ⟨b5_0, 0, none⟩)), (7, .int .i64 v0_7)] ((ListsA b5_0 69 ls34_8) :: (CacheA b2_1 e6_b2_1) :: Γ) ⟨by kernel_rfl, by kernel_rfl, by kernel_rfl, by kernel_rfl, by kernel_rfl, trivial⟩ (fun w hw => (Sat.less (.take .here (.take (.there .here) (.drop .here .refl))) hw)) ⟨ls34_8, e6_b2_1, H, rfl, rfl⟩
          · refine at_seq (x := C9 [1,1,1,1,1,0,1,0,0,1,0,0,1,1,1,1,0,0]) (y := C9 [1,1,1,1,1,0,1,0,0,1,0,0,1,1,1,1,0,1]) (by kernel_rfl) ?_
            refine at_region (id := 18) 2 (by kernel_rfl) (by kernel_rfl) ?_
            refine s_pure 55 (.int .i64 v4_10) (by kernel_rfl) (by kernel_rfl) (fun _ => by kernel_rfl) ?_
            refine s_pure 56 (.bool (decide ((0 : Int) ≤ v4_10))) (by kernel_rfl) (by kernel_rfl) (fun _ => by kernel_rfl) ?_
            refine ops_end ?_
            refine At.env [(0, .int .i64 (wr ((1 : Int) + y1_1))), (1, .slice usesa (List.length uses) usescap), (5, .pointer (some ⟨b2_1, 0, none⟩)), (6, .pointer (some ⟨b5_0, 0, none⟩)), (7, .int .i64 v0_7), (8, .int .i64 y9_4), (9, .int .i64 (y9_4.tmod (2 : Int))), (10, .int .i64 v4_10), (56, .bool (decide ((0 : Int) ≤ v4_10)))] ⟨by kernel_rfl, by kernel_rfl, by kernel_rfl, by kernel_rfl, by kernel_rfl, by kernel_rfl, by kernel_rfl, by kernel_rfl, by kernel_rfl, trivial⟩ ?_
            refine at_then_normal ?_
            rcases Bool.eq_false_or_eq_true (decide ((0 : Int) ≤ v4_10)) with h4 | h4
            · replace H := bifT H h4
              refine at_true (t := decide ((0 : Int) ≤ v4_10)) (x := C9 [1,1,1,1,1,0,1,0,0,1,0,0,1,1,1,1,0,1,0]) (y := C9 [1,1,1,1,1,0,1,0,0,1,0,0,1,1,1,1,0,1,1]) (o := .tmp 56) (by kernel_rfl) (by kernel_rfl) (by kernel_rfl) h4 ?_
              refine at_seq (x := C9 [1,1,1,1,1,0,1,0,0,1,0,0,1,1,1,1,0,1,0,0]) (y := C9 [1,1,1,1,1,0,1,0,0,1,0,0,1,1,1,1,0,1,0,1]) (by kernel_rfl) ?_
              refine at_seq_join (x := C9 [1,1,1,1,1,0,1,0,0,1,0,0,1,1,1,1,0,1,0,0,0]) (y := C9 [1,1,1,1,1,0,1,0,0,1,0,0,1,1,1,1,0,1,0,0,1]) (fun ff ΔΔ => ∃ (e7_65 : Bool) (e7_b2_1 : CacheS), cacheLeastS_j7 y9_4 v0_b5_0 v4_10 v0_7 (cacheLeastS_l0 uses y1_1 (cacheLeastS_k0 ) fuel1) e7_65 e7_b2_1 = some y ∧ ff = [(0, .int .i64 (wr ((1 : Int) + y1_1))), (1, .slice usesa (List.length uses) usescap), (5, .pointer (some ⟨b2_1, 0, none⟩)), (6, .pointer (some ⟨b5_0, 0, none⟩)), (7, .int .i64 v0_7), (8, .int .i64 y9_4), (9, .int .i64 (y9_4.tmod (2 : Int))), (10, .int .i64 v4_10), (65, .bool e7_65)] ∧ (ListsA b5_0 69 v0_b5_0) :: (CacheA b2_1 e7_b2_1) :: Γ = ΔΔ) (by kernel_rfl) ?_ ?_
              · rintro _ _ ⟨e7_65, e7_b2_1, H, rfl, rfl⟩
                rw [cacheLeastS_j7] at H
                rcases Bool.eq_false_or_eq_true (e7_65) with h5 | h5
                · replace H := bifT H h5
                  refine at_true (t := e7_65) (x := C9 [1,1,1,1,1,0,1,0,0,1,0,0,1,1,1,1,0,1,0,0,1,0]) (y := C9 [1,1,1,1,1,0,1,0,0,1,0,0,1,1,1,1,0,1,0,0,1,1]) (o := .tmp 65) (by kernel_rfl) (by kernel_rfl) (by kernel_rfl) h5 ?_
                  refine at_seq (x := C9 [1,1,1,1,1,0,1,0,0,1,0,0,1,1,1,1,0,1,0,0,1,0,0]) (y := C9 [1,1,1,1,1,0,1,0,0,1,0,0,1,1,1,1,0,1,0,0,1,0,1]) (by kernel_rfl) ?_
                  refine at_region (id := 20) 1 (by kernel_rfl) (by kernel_rfl) ?_
                  refine s_pure 4 (.bool false) (by kernel_rfl) (by kernel_rfl) (fun _ => by kernel_rfl) ?_
                  refine ops_end ?_
                  refine At.env [(4, .bool false)] ⟨by kernel_rfl, trivial⟩ ?_
                  refine at_then_normal ?_
                  refine at_ret (by kernel_rfl) ?_
                  refine at_then_ret ?_
                  refine at_then_ret ?_
                  refine at_in_ret ?_
                  refine at_then_ret ?_
                  refine at_then_ret ?_
                  refine at_in_ret ?_
                  refine at_then_ret ?_
                  obtain rfl := someE H
                  refine at_backR [.bool false] (Γ) (rs := [.tmp 4]) (by kernel_rfl) (.cons (.tmp (by kernel_rfl)) .nil) (fun w hw => (Sat.less (.drop .here (.drop .here .refl)) hw)) ?_
                  exact ⟨rfl, rfl⟩
                · replace H := bifF H h5
                  refine at_false (t := e7_65) (x := C9 [1,1,1,1,1,0,1,0,0,1,0,0,1,1,1,1,0,1,0,0,1,0]) (y := C9 [1,1,1,1,1,0,1,0,0,1,0,0,1,1,1,1,0,1,0,0,1,1]) (o := .tmp 65) (by kernel_rfl) (by kernel_rfl) (by kernel_rfl) h5 ?_
                  refine at_skip (by kernel_rfl) ?_
                  refine at_then_normal ?_
                  refine at_region_draw (id := 21) (by kernel_rfl) (by kernel_rfl) ?_
                  refine d_pure 0 66 (.int .i64 (y9_4.tmod (2 : Int))) (by kernel_rfl) (by kernel_rfl) (by kernel_rfl) (fun _ => by kernel_rfl) ?_
                  refine d_pure 1 67 (.int .i64 (y9_4.tmod (2 : Int))) (by kernel_rfl) (by kernel_rfl) (by kernel_rfl) (fun _ => by kernel_rfl) ?_
                  obtain ⟨hc21_2_0, H⟩ := chkE H
                  refine d_pure 2 68 (.pointer (some ⟨b5_0, ((y9_4.tmod (2 : Int))).toNat, none⟩)) (by kernel_rfl) (by kernel_rfl) (by kernel_rfl) (index_arr (t := 69) (E := 22) (m := 2) (tinfo 22) (fun _ => by kernel_rfl) (by kernel_rfl) (by kernel_rfl) (by kernel_rfl) hc21_2_0.1) ?_
                  refine Draw.lfocus hc21_2_0.2 .here ?_
                  intro a21_3 c21_3
                  refine d_load 3 69 (.slice a21_3 (List.length (lget v0_b5_0 (y9_4.tmod (2 : Int)))) c21_3) (by kernel_rfl) (by kernel_rfl) (by kernel_rfl) (lists_load (i := (y9_4.tmod (2 : Int))) (fun _ => by kernel_rfl) (.there .here)) ?_
                  refine d_pure 4 70 (.int .i64 v4_10) (by kernel_rfl) (by kernel_rfl) (by kernel_rfl) (fun _ => by kernel_rfl) ?_
                  obtain ⟨hc21_5_0, H⟩ := chkE H
                  obtain ⟨l21_5, hl21_5, H⟩ := letE H
                  refine Draw.known (p := (List.length (lget v0_b5_0 (y9_4.tmod (2 : Int)))) ≤ c21_3) (fun w hw => by have := (RowsA.len (hw.pull .here)).2; simpa using this) ?_
                  intro hcap1
                  have hcapl21_5 : (List.length (lget v0_b5_0 (y9_4.tmod (2 : Int)))) ≤ c21_3 := hcap1
                  have hcl21_5 := hc21_5_0
                  obtain ⟨a21_5, ha21_5⟩ : ∃ y : Option Addr, y = (if c21_3 = 0 then a21_3 else Option.map (fun x => Addr.add x (0 * 1)) a21_3) := ⟨_, rfl⟩
                  have hrl21_5 : Reads W0 ((IntsA a21_3 c21_3 (lget v0_b5_0 (y9_4.tmod (2 : Int)))) :: (ListsX b5_0 69 v0_b5_0 (y9_4.tmod (2 : Int)) a21_3 c21_3) :: (CacheA b2_1 e7_b2_1) :: Γ) a21_5 (ints l21_5) := by rw [ha21_5, ← hl21_5]; exact Reads.part (lo := 0) (hi := (v4_10).toNat) (RowsA.reads (k := 1) .here) rfl (by omega)
                  refine d_pure 5 71 (.slice a21_5 (List.length l21_5) (c21_3 - 0)) (by kernel_rfl) (by kernel_rfl) (by kernel_rfl) (run_eq (slice_at (t := 22) (lo := 0) (hi := (v4_10).toNat) (mx := c21_3) (sz := 1) (E := 3) (a := a21_3) (m := (List.length (lget v0_b5_0 (y9_4.tmod (2 : Int))))) (c := c21_3) none (some (.int .i64 v4_10)) none (tinfo 3) (fun _ => by kernel_rfl) (by kernel_rfl) (by kernel_rfl) (by kernel_rfl) (Or.inl ⟨rfl, rfl⟩) (Or.inr ⟨_, rfl, by omega⟩) (Or.inl ⟨rfl, rfl⟩) (by omega) (by omega) (by omega)) (by rw [← ha21_5, show (v4_10).toNat - 0 = List.length l21_5 from by rw [← hl21_5]; simp only [List.length_take, List.length_drop]; omega])) ?_
                  refine d_pure 7 73 (.int .i64 (y9_4.tmod (2 : Int))) (by kernel_rfl) (by kernel_rfl) (by kernel_rfl) (fun _ => by kernel_rfl) ?_
                  obtain ⟨hc21_8_0, H⟩ := chkE H
                  refine d_pure 8 74 (.pointer (some ⟨b5_0, ((y9_4.tmod (2 : Int))).toNat, none⟩)) (by kernel_rfl) (by kernel_rfl) (by kernel_rfl) (index_arr (t := 69) (E := 22) (m := 2) (tinfo 22) (fun _ => by kernel_rfl) (by kernel_rfl) (by kernel_rfl) (by kernel_rfl) hc21_8_0.1) ?_
                  refine d_load 9 75 (.slice a21_3 (List.length (lget v0_b5_0 (y9_4.tmod (2 : Int)))) c21_3) (by kernel_rfl) (by kernel_rfl) (by kernel_rfl) (lists_load (i := (y9_4.tmod (2 : Int))) (fun _ => by kernel_rfl) (.there .here)) ?_
                  refine d_pure 10 76 (.int .i64 v4_10) (by kernel_rfl) (by kernel_rfl) (by kernel_rfl) (fun _ => by kernel_rfl) ?_
                  obtain ⟨hc21_11_0, H⟩ := chkE H
                  refine d_pure 11 77 (.int .i64 (v4_10 + (1 : Int))) (by kernel_rfl) (by kernel_rfl) (by kernel_rfl) (run_eq (v := .int .i64 (IntKind.i64.wrap (v4_10 + (1 : Int)))) (fun _ => by kernel_rfl) (by rw [inR.wrap hc21_11_0])) ?_
                  obtain ⟨hc21_12_0, H⟩ := chkE H
                  obtain ⟨l21_12, hl21_12, H⟩ := letE H
                  refine Draw.known (p := (List.length (lget v0_b5_0 (y9_4.tmod (2 : Int)))) ≤ c21_3) (fun w hw => by have := (RowsA.len (hw.pull .here)).2; simpa using this) ?_
                  intro hcap2
                  have hcapl21_12 : (List.length (lget v0_b5_0 (y9_4.tmod (2 : Int)))) ≤ c21_3 := hcap2
                  have hcl21_12 := hc21_12_0
                  obtain ⟨a21_12, ha21_12⟩ : ∃ y : Option Addr, y = (if c21_3 = ((v4_10 + (1 : Int))).toNat then a21_3 else Option.map (fun x => Addr.add x (((v4_10 + (1 : Int))).toNat * 1)) a21_3) := ⟨_, rfl⟩
                  have hrl21_12 : Reads W0 ((IntsA a21_3 c21_3 (lget v0_b5_0 (y9_4.tmod (2 : Int)))) :: (ListsX b5_0 69 v0_b5_0 (y9_4.tmod (2 : Int)) a21_3 c21_3) :: (CacheA b2_1 e7_b2_1) :: Γ) a21_12 (ints l21_12) := by rw [ha21_12, ← hl21_12]; exact Reads.part (lo := ((v4_10 + (1 : Int))).toNat) (hi := (List.length (lget v0_b5_0 (y9_4.tmod (2 : Int))))) (RowsA.reads (k := 1) .here) rfl (by omega)
                  refine d_pure 12 78 (.slice a21_12 (List.length l21_12) (c21_3 - ((v4_10 + (1 : Int))).toNat)) (by kernel_rfl) (by kernel_rfl) (by kernel_rfl) (run_eq (slice_at (t := 22) (lo := ((v4_10 + (1 : Int))).toNat) (hi := (List.length (lget v0_b5_0 (y9_4.tmod (2 : Int))))) (mx := c21_3) (sz := 1) (E := 3) (a := a21_3) (m := (List.length (lget v0_b5_0 (y9_4.tmod (2 : Int))))) (c := c21_3) (some (.int .i64 (v4_10 + (1 : Int)))) none none (tinfo 3) (fun _ => by kernel_rfl) (by kernel_rfl) (by kernel_rfl) (by kernel_rfl) (Or.inr ⟨_, rfl, by omega⟩) (Or.inl ⟨rfl, rfl, rfl⟩) (Or.inl ⟨rfl, rfl⟩) (by omega) (by omega) (by omega)) (by rw [← ha21_12, show (List.length (lget v0_b5_0 (y9_4.tmod (2 : Int)))) - ((v4_10 + (1 : Int))).toNat = List.length l21_12 from by rw [← hl21_12]; simp only [List.length_take, List.length_drop]; omega])) ?_
                  obtain ⟨hc21_6_0, H⟩ := chkE H
                  obtain ⟨l21_6, hl21_6, H⟩ := letE H
                  refine d_step 6 72 [5, 3, 4, 2, 1] [12, 11, 10, 8, 7, 0] [9] (by kernel_rfl) (by kernel_rfl) (by kernel_rfl) (StepTo.conv (fun w hw => RowsA.none_mk (k := 1) (a := none) hw) (st_append_ints (xs := ([] : List Int)) (ys := l21_5) (zs := l21_6) (m1 := 0) (m2 := (List.length l21_5)) (m := List.length l21_6) (cap2 := (c21_3 - 0)) 22 22 3 (tinfo 3) (fun _ => by kernel_rfl) (by kernel_rfl) (by kernel_rfl) (by kernel_rfl) (by kernel_rfl) (by kernel_rfl) .here (Reads.conv (fun w hw => hw.less (.take (.there .here) (.take (.there .here) (.take (.there .here) (.drop .here .refl))))) hrl21_5) (by first | rfl | simp) (by first | rfl | simp) (by rw [← hl21_6]; first | done | simp) (by rw [← hl21_6]; first | done | simp) (by rw [← hl21_6]; exact hc21_6_0))) ?_
                  rintro _ _ ⟨a21_6, c21_6, rfl, rfl⟩
                  refine ⟨(stable_cons 9 75 (.slice a21_3 (List.length (lget v0_b5_0 (y9_4.tmod (2 : Int)))) c21_3) (by kernel_rfl) (by kernel_rfl) (by kernel_rfl) (lists_load (i := (y9_4.tmod (2 : Int))) (fun _ => by kernel_rfl) (.there (.there .here))) stable_nil), ?_⟩
                  obtain ⟨hc21_13_0, H⟩ := chkE H
                  obtain ⟨l21_13, hl21_13, H⟩ := letE H
                  refine d_step 13 79 [6, 12, 5, 9, 11, 3, 4, 8, 10, 2, 7, 1] [0] [] (by kernel_rfl) (by kernel_rfl) (by kernel_rfl) (st_append_ints (xs := l21_6) (ys := l21_12) (zs := l21_13) (m1 := (List.length l21_6)) (m2 := (List.length l21_12)) (m := List.length l21_13) (cap2 := (c21_3 - ((v4_10 + (1 : Int))).toNat)) 22 22 3 (tinfo 3) (fun _ => by kernel_rfl) (by kernel_rfl) (by kernel_rfl) (by kernel_rfl) (by kernel_rfl) (by kernel_rfl) .here (Reads.conv (fun w hw => hw.less (.take (.there .here) (.take (.there .here) (.take (.there .here) (.drop .here .refl))))) hrl21_12) (by first | rfl | simp) (by first | rfl | simp) (by rw [← hl21_13]; first | done | simp) (by rw [← hl21_13]; first | done | simp) (by rw [← hl21_13]; exact hc21_13_0)) ?_
                  rintro _ _ ⟨a21_13, c21_13, rfl, rfl⟩
                  refine ⟨stable_nil, ?_⟩
                  obtain ⟨hc21_14_0, H⟩ := chkE H
                  refine d_pure 14 80 (.pointer (some ⟨b5_0, ((y9_4.tmod (2 : Int))).toNat, none⟩)) (by kernel_rfl) (by kernel_rfl) (by kernel_rfl) (index_arr (t := 69) (E := 22) (m := 2) (tinfo 22) (fun _ => by kernel_rfl) (by kernel_rfl) (by kernel_rfl) (by kernel_rfl) hc21_14_0.1) ?_
                  obtain ⟨ls21_15, hls21_15, H⟩ := letE H
                  refine d_do 15 [14, 13, 0, 1, 2, 3, 4, 5, 6, 7, 8, 9, 10, 11, 12] [] [] (by kernel_rfl) (by kernel_rfl) (by kernel_rfl) (st_lists (i := (y9_4.tmod (2 : Int))) (v := l21_13) (fun _ => by kernel_rfl) (.there (.there .here)) .here) ?_
                  rintro _ _ ⟨rfl, rfl⟩
                  rw [hls21_15]
                  refine ⟨stable_nil, ?_⟩
                  refine draw_end (by kernel_rfl) ?_
                  refine At.env [(0, .int .i64 (wr ((1 : Int) + y1_1))), (1, .slice usesa (List.length uses) usescap), (5, .pointer (some ⟨b2_1, 0, none⟩)), (6, .pointer (some ⟨b5_0, 0, none⟩)), (7, .int .i64 v0_7), (8, .int .i64 y9_4), (9, .int .i64 (y9_4.tmod (2 : Int)))] ⟨by kernel_rfl, by kernel_rfl, by kernel_rfl, by kernel_rfl, by kernel_rfl, by kernel_rfl, by kernel_rfl, trivial⟩ ?_
                  refine at_round_normal ?_
                  exact at_join_mk [(0, .int .i64 (wr ((1 : Int) + y1_1))), (1, .slice usesa (List.length uses) usescap), (5, .pointer (some ⟨b2_1, 0, none⟩)), (6, .pointer (some ⟨b5_0, 0, none⟩)), (7, .int .i64 v0_7), (8, .int .i64 y9_4), (9, .int .i64 (y9_4.tmod (2 : Int)))] ((ListsA b5_0 69 ls21_15) :: (CacheA b2_1 e7_b2_1) :: Γ) ⟨by kernel_rfl, by kernel_rfl, by kernel_rfl, by kernel_rfl, by kernel_rfl, by kernel_rfl, by kernel_rfl, trivial⟩ (fun w hw => (Sat.less (.take .here (.take (.there .here) (.drop .here .refl))) hw)) ⟨ls21_15, e7_b2_1, H, rfl, rfl⟩
              · refine at_region (id := 19) 9 (by kernel_rfl) (by kernel_rfl) ?_
                refine s_pure 57 (.pointer (some ⟨b2_1, 0, none⟩)) (by kernel_rfl) (by kernel_rfl) (fun _ => by kernel_rfl) ?_
                refine s_pure 58 (.int .i64 y9_4) (by kernel_rfl) (by kernel_rfl) (fun _ => by kernel_rfl) ?_
                obtain ⟨y19_2, hy19_2, H⟩ := bindE H
                refine s_call 59 31 #[.pointer (some ⟨b2_1, 0, none⟩), .int .i64 y9_4] (by kernel_rfl) (by kernel_rfl) (fun _ => by kernel_rfl) (Tr.conv (Γ' := (CacheA b2_1 v0_b2_1) :: (ListsA b5_0 69 v0_b5_0) :: Γ) (fun w hw => (Sat.less (.take (.there .here) (.take .here .refl)) hw)) (TouchF_tr b2_1 v0_b2_1 y9_4 y19_2 hy19_2)) ?_
                rintro _ _ ⟨rfl, rfl⟩
                refine s_pure 60 (.bool !y19_2.1) (by kernel_rfl) (by kernel_rfl) (fun _ => by kernel_rfl) ?_
                rcases Bool.eq_false_or_eq_true (!y19_2.1) with h6 | h6
                · replace H := bifT H h6
                  refine s_pure 61 (.bool true) (by kernel_rfl) (by kernel_rfl) (run_eq (v := .bool (!y19_2.1)) (fun _ => by kernel_rfl) (congrArg Value.bool h6)) ?_
                  refine s_pass 62 (by kernel_rfl) (by kernel_rfl) ?_
                  refine s_pass 63 (by kernel_rfl) (by kernel_rfl) ?_
                  refine s_pass 64 (by kernel_rfl) (by kernel_rfl) ?_
                  refine s_pure 65 (.bool true) (by kernel_rfl) (by kernel_rfl) (fun _ => by kernel_rfl) ?_
                  refine ops_end ?_
                  refine At.env [(0, .int .i64 (wr ((1 : Int) + y1_1))), (1, .slice usesa (List.length uses) usescap), (5, .pointer (some ⟨b2_1, 0, none⟩)), (6, .pointer (some ⟨b5_0, 0, none⟩)), (7, .int .i64 v0_7), (8, .int .i64 y9_4), (9, .int .i64 (y9_4.tmod (2 : Int))), (10, .int .i64 v4_10), (65, .bool true)] ⟨by kernel_rfl, by kernel_rfl, by kernel_rfl, by kernel_rfl, by kernel_rfl, by kernel_rfl, by kernel_rfl, by kernel_rfl, by kernel_rfl, trivial⟩ ?_
                  refine at_round_normal ?_
                  exact at_join_mk [(0, .int .i64 (wr ((1 : Int) + y1_1))), (1, .slice usesa (List.length uses) usescap), (5, .pointer (some ⟨b2_1, 0, none⟩)), (6, .pointer (some ⟨b5_0, 0, none⟩)), (7, .int .i64 v0_7), (8, .int .i64 y9_4), (9, .int .i64 (y9_4.tmod (2 : Int))), (10, .int .i64 v4_10), (65, .bool true)] ((ListsA b5_0 69 v0_b5_0) :: (CacheA b2_1 y19_2.2) :: Γ) ⟨by kernel_rfl, by kernel_rfl, by kernel_rfl, by kernel_rfl, by kernel_rfl, by kernel_rfl, by kernel_rfl, by kernel_rfl, by kernel_rfl, trivial⟩ (fun w hw => (Sat.less (.take (.there .here) (.take .here .refl)) hw)) ⟨true, y19_2.2, H, rfl, rfl⟩
                · replace H := bifF H h6
                  refine s_pure 61 (.bool false) (by kernel_rfl) (by kernel_rfl) (run_eq (v := .bool (!y19_2.1)) (fun _ => by kernel_rfl) (congrArg Value.bool h6)) ?_
                  refine s_pure 62 (.pointer (some ⟨b2_1, 0, none⟩)) (by kernel_rfl) (by kernel_rfl) (fun _ => by kernel_rfl) ?_
                  refine s_pure 63 (.int .i64 y9_4) (by kernel_rfl) (by kernel_rfl) (fun _ => by kernel_rfl) ?_
                  obtain ⟨y19_7, hy19_7, H⟩ := bindE H
                  refine s_call 64 27 #[.pointer (some ⟨b2_1, 0, none⟩), .int .i64 y9_4] (by kernel_rfl) (by kernel_rfl) (fun _ => by kernel_rfl) (FullF_tr b2_1 y19_2.2 y9_4 y19_7 hy19_7) ?_
                  rintro _ _ ⟨rfl, rfl⟩
                  refine s_pure 65 (.bool y19_7) (by kernel_rfl) (by kernel_rfl) (fun _ => by kernel_rfl) ?_
                  refine ops_end ?_
                  refine At.env [(0, .int .i64 (wr ((1 : Int) + y1_1))), (1, .slice usesa (List.length uses) usescap), (5, .pointer (some ⟨b2_1, 0, none⟩)), (6, .pointer (some ⟨b5_0, 0, none⟩)), (7, .int .i64 v0_7), (8, .int .i64 y9_4), (9, .int .i64 (y9_4.tmod (2 : Int))), (10, .int .i64 v4_10), (65, .bool y19_7)] ⟨by kernel_rfl, by kernel_rfl, by kernel_rfl, by kernel_rfl, by kernel_rfl, by kernel_rfl, by kernel_rfl, by kernel_rfl, by kernel_rfl, trivial⟩ ?_
                  refine at_round_normal ?_
                  exact at_join_mk [(0, .int .i64 (wr ((1 : Int) + y1_1))), (1, .slice usesa (List.length uses) usescap), (5, .pointer (some ⟨b2_1, 0, none⟩)), (6, .pointer (some ⟨b5_0, 0, none⟩)), (7, .int .i64 v0_7), (8, .int .i64 y9_4), (9, .int .i64 (y9_4.tmod (2 : Int))), (10, .int .i64 v4_10), (65, .bool y19_7)] ((ListsA b5_0 69 v0_b5_0) :: (CacheA b2_1 y19_2.2) :: Γ) ⟨by kernel_rfl, by kernel_rfl, by kernel_rfl, by kernel_rfl, by kernel_rfl, by kernel_rfl, by kernel_rfl, by kernel_rfl, by kernel_rfl, trivial⟩ (fun w hw => (Sat.less (.take (.there .here) (.take .here .refl)) hw)) ⟨y19_7, y19_2.2, H, rfl, rfl⟩
            · replace H := bifF H h4
              refine at_false (t := decide ((0 : Int) ≤ v4_10)) (x := C9 [1,1,1,1,1,0,1,0,0,1,0,0,1,1,1,1,0,1,0]) (y := C9 [1,1,1,1,1,0,1,0,0,1,0,0,1,1,1,1,0,1,1]) (o := .tmp 56) (by kernel_rfl) (by kernel_rfl) (by kernel_rfl) h4 ?_
              refine at_seq (x := C9 [1,1,1,1,1,0,1,0,0,1,0,0,1,1,1,1,0,1,1,0]) (y := C9 [1,1,1,1,1,0,1,0,0,1,0,0,1,1,1,1,0,1,1,1]) (by kernel_rfl) ?_
              refine at_seq (x := C9 [1,1,1,1,1,0,1,0,0,1,0,0,1,1,1,1,0,1,1,0,0]) (y := C9 [1,1,1,1,1,0,1,0,0,1,0,0,1,1,1,1,0,1,1,0,1]) (by kernel_rfl) ?_
              refine at_region_draw (id := 22) (by kernel_rfl) (by kernel_rfl) ?_
              refine d_pure 0 81 (.pointer (some ⟨b2_1, 0, none⟩)) (by kernel_rfl) (by kernel_rfl) (by kernel_rfl) (fun _ => by kernel_rfl) ?_
              refine d_pure 1 82 (.int .i64 y9_4) (by kernel_rfl) (by kernel_rfl) (by kernel_rfl) (fun _ => by kernel_rfl) ?_
              refine d_pure 3 84 (.int .i64 (y9_4.tmod (2 : Int))) (by kernel_rfl) (by kernel_rfl) (by kernel_rfl) (fun _ => by kernel_rfl) ?_
              obtain ⟨hc22_4_0, H⟩ := chkE H
              refine d_pure 4 85 (.pointer (some ⟨b5_0, ((y9_4.tmod (2 : Int))).toNat, none⟩)) (by kernel_rfl) (by kernel_rfl) (by kernel_rfl) (index_arr (t := 69) (E := 22) (m := 2) (tinfo 22) (fun _ => by kernel_rfl) (by kernel_rfl) (by kernel_rfl) (by kernel_rfl) hc22_4_0.1) ?_
              refine Draw.lfocus hc22_4_0.2 .here ?_
              intro a22_5 c22_5
              refine d_load 5 86 (.slice a22_5 (List.length (lget v0_b5_0 (y9_4.tmod (2 : Int)))) c22_5) (by kernel_rfl) (by kernel_rfl) (by kernel_rfl) (lists_load (i := (y9_4.tmod (2 : Int))) (fun _ => by kernel_rfl) (.there .here)) ?_
              refine d_pure 6 87 (.int .i64 (((List.length (lget v0_b5_0 (y9_4.tmod (2 : Int)))) : Nat) : Int)) (by kernel_rfl) (by kernel_rfl) (by kernel_rfl) (fun _ => by kernel_rfl) ?_
              refine d_pure 7 88 (.int .i64 (wr ((1 : Int) + y1_1))) (by kernel_rfl) (by kernel_rfl) (by kernel_rfl) (fun _ => by kernel_rfl) ?_
              refine d_pure 8 89 (.bool (decide ((((List.length (lget v0_b5_0 (y9_4.tmod (2 : Int)))) : Nat) : Int) = (wr ((1 : Int) + y1_1))))) (by kernel_rfl) (by kernel_rfl) (by kernel_rfl) (fun _ => by kernel_rfl) ?_
              obtain ⟨y22_2, hy22_2, H⟩ := bindE H
              refine d_call 2 83 [0, 1] [8, 7, 6, 4, 3] [5] 27 #[.pointer (some ⟨b2_1, 0, none⟩), .int .i64 y9_4] (by kernel_rfl) (by kernel_rfl) (by kernel_rfl) (fun _ => by kernel_rfl) (Tr.conv (Γ' := (CacheA b2_1 v0_b2_1) :: (IntsA a22_5 c22_5 (lget v0_b5_0 (y9_4.tmod (2 : Int)))) :: (ListsX b5_0 69 v0_b5_0 (y9_4.tmod (2 : Int)) a22_5 c22_5) :: Γ) (fun w hw => (Sat.less (.take (.there (.there .here)) (.take .here (.take .here .refl))) hw)) (FullF_tr b2_1 v0_b2_1 y9_4 y22_2 hy22_2)) ?_
              rintro _ _ ⟨rfl, rfl⟩
              refine ⟨(stable_cons 5 86 (.slice a22_5 (List.length (lget v0_b5_0 (y9_4.tmod (2 : Int)))) c22_5) (by kernel_rfl) (by kernel_rfl) (by kernel_rfl) (lists_load (i := (y9_4.tmod (2 : Int))) (fun _ => by kernel_rfl) (.there (.there .here))) stable_nil), ?_⟩
              refine d_pure 9 90 (.bool (!(y22_2 == (decide ((((List.length (lget v0_b5_0 (y9_4.tmod (2 : Int)))) : Nat) : Int) = (wr ((1 : Int) + y1_1))))))) (by kernel_rfl) (by kernel_rfl) (by kernel_rfl) (fun _ => by kernel_rfl) ?_
              refine draw_end (by kernel_rfl) ?_
              refine At.env [(0, .int .i64 (wr ((1 : Int) + y1_1))), (1, .slice usesa (List.length uses) usescap), (5, .pointer (some ⟨b2_1, 0, none⟩)), (6, .pointer (some ⟨b5_0, 0, none⟩)), (7, .int .i64 v0_7), (8, .int .i64 y9_4), (9, .int .i64 (y9_4.tmod (2 : Int))), (90, .bool (!(y22_2 == (decide ((((List.length (lget v0_b5_0 (y9_4.tmod (2 : Int)))) : Nat) : Int) = (wr ((1 : Int) + y1_1)))))))] ⟨by kernel_rfl, by kernel_rfl, by kernel_rfl, by kernel_rfl, by kernel_rfl, by kernel_rfl, by kernel_rfl, by kernel_rfl, trivial⟩ ?_
              refine at_then_normal ?_
              rcases Bool.eq_false_or_eq_true (!(y22_2 == (decide ((((List.length (lget v0_b5_0 (y9_4.tmod (2 : Int)))) : Nat) : Int) = (wr ((1 : Int) + y1_1)))))) with h7 | h7
              · replace H := bifT H h7
                refine at_true (t := !(y22_2 == (decide ((((List.length (lget v0_b5_0 (y9_4.tmod (2 : Int)))) : Nat) : Int) = (wr ((1 : Int) + y1_1)))))) (x := C9 [1,1,1,1,1,0,1,0,0,1,0,0,1,1,1,1,0,1,1,0,1,0]) (y := C9 [1,1,1,1,1,0,1,0,0,1,0,0,1,1,1,1,0,1,1,0,1,1]) (o := .tmp 90) (by kernel_rfl) (by kernel_rfl) (by kernel_rfl) h7 ?_
                refine At.conv (Γ' := (ListsA b5_0 69 v0_b5_0) :: (CacheA b2_1 v0_b2_1) :: Γ) (fun w hw => ListsA.unfocus (Sat.less (.take (.there .here) (.take (.there .here) (.take .here .refl))) hw)) ?_
                refine at_seq (x := C9 [1,1,1,1,1,0,1,0,0,1,0,0,1,1,1,1,0,1,1,0,1,0,0]) (y := C9 [1,1,1,1,1,0,1,0,0,1,0,0,1,1,1,1,0,1,1,0,1,0,1]) (by kernel_rfl) ?_
                refine at_region (id := 23) 1 (by kernel_rfl) (by kernel_rfl) ?_
                refine s_pure 4 (.bool false) (by kernel_rfl) (by kernel_rfl) (fun _ => by kernel_rfl) ?_
                refine ops_end ?_
                refine At.env [(4, .bool false)] ⟨by kernel_rfl, trivial⟩ ?_
                refine at_then_normal ?_
                refine at_ret (by kernel_rfl) ?_
                refine at_then_ret ?_
                refine at_then_ret ?_
                refine at_in_ret ?_
                refine at_then_ret ?_
                refine at_then_ret ?_
                refine at_in_ret ?_
                refine at_then_ret ?_
                obtain rfl := someE H
                refine at_backR [.bool false] (Γ) (rs := [.tmp 4]) (by kernel_rfl) (.cons (.tmp (by kernel_rfl)) .nil) (fun w hw => (Sat.less (.drop .here (.drop .here .refl)) hw)) ?_
                exact ⟨rfl, rfl⟩
              · replace H := bifF H h7
                refine at_false (t := !(y22_2 == (decide ((((List.length (lget v0_b5_0 (y9_4.tmod (2 : Int)))) : Nat) : Int) = (wr ((1 : Int) + y1_1)))))) (x := C9 [1,1,1,1,1,0,1,0,0,1,0,0,1,1,1,1,0,1,1,0,1,0]) (y := C9 [1,1,1,1,1,0,1,0,0,1,0,0,1,1,1,1,0,1,1,0,1,1]) (o := .tmp 90) (by kernel_rfl) (by kernel_rfl) (by kernel_rfl) h7 ?_
                refine at_skip (by kernel_rfl) ?_
                refine at_then_normal ?_
                refine At.conv (Γ' := (ListsA b5_0 69 v0_b5_0) :: (CacheA b2_1 v0_b2_1) :: Γ) (fun w hw => ListsA.unfocus (Sat.less (.take (.there .here) (.take (.there .here) (.take .here .refl))) hw)) ?_
                refine at_seq_join (x := C9 [1,1,1,1,1,0,1,0,0,1,0,0,1,1,1,1,0,1,1,1,0]) (y := C9 [1,1,1,1,1,0,1,0,0,1,0,0,1,1,1,1,0,1,1,1,1]) (fun ff ΔΔ => ∃ (e8_b5_0 : List (List Int)) (e8_b2_1 : CacheS), cacheLeastS_j8 y9_4 v0_7 (cacheLeastS_l0 uses y1_1 (cacheLeastS_k0 ) fuel1) e8_b5_0 e8_b2_1 = some y ∧ ff = [(0, .int .i64 (wr ((1 : Int) + y1_1))), (1, .slice usesa (List.length uses) usescap), (5, .pointer (some ⟨b2_1, 0, none⟩)), (6, .pointer (some ⟨b5_0, 0, none⟩)), (7, .int .i64 v0_7), (8, .int .i64 y9_4), (9, .int .i64 (y9_4.tmod (2 : Int)))] ∧ (ListsA b5_0 69 e8_b5_0) :: (CacheA b2_1 e8_b2_1) :: Γ = ΔΔ) (by kernel_rfl) ?_ ?_
                · rintro _ _ ⟨e8_b5_0, e8_b2_1, H, rfl, rfl⟩
                  rw [cacheLeastS_j8] at H
                  refine at_seq (x := C9 [1,1,1,1,1,0,1,0,0,1,0,0,1,1,1,1,0,1,1,1,1,0]) (y := C9 [1,1,1,1,1,0,1,0,0,1,0,0,1,1,1,1,0,1,1,1,1,1]) (by kernel_rfl) ?_
                  refine at_region (id := 32) 5 (by kernel_rfl) (by kernel_rfl) ?_
                  refine s_pure 128 (.pointer (some ⟨b2_1, 0, none⟩)) (by kernel_rfl) (by kernel_rfl) (fun _ => by kernel_rfl) ?_
                  refine s_pure 129 (.int .i64 y9_4) (by kernel_rfl) (by kernel_rfl) (fun _ => by kernel_rfl) ?_
                  obtain ⟨y32_2, hy32_2, H⟩ := bindE H
                  refine s_call 130 16 #[.int .i64 y9_4, .int .i64 (-1), .int .i64 (-1), .bool false, .slice none 0 0] (by kernel_rfl) (by kernel_rfl) (fun _ => by kernel_rfl) (ENewF_tr y9_4 ((-1) : Int) ((-1) : Int) false none 0 ([] : List Int) Reads.nil y32_2 hy32_2) ?_
                  rintro _ _ ⟨a32_2_00, c32_2_00, rfl, rfl⟩
                  obtain ⟨y32_3, hy32_3, H⟩ := bindE H
                  refine s_call 131 15 #[.pointer (some ⟨b2_1, 0, none⟩), .agg #[.int .i64 y32_2.fwd, .int .i64 y32_2.back, .int .i64 y32_2.line, .int .i64 y32_2.used, .bool y32_2.dirty, .slice a32_2_00 (List.length y32_2.data) c32_2_00]] (by kernel_rfl) (by kernel_rfl) (fun _ => by kernel_rfl) (Tr.conv (Γ' := (CacheA b2_1 e8_b2_1) :: (IntsA a32_2_00 c32_2_00 y32_2.data) :: (ListsA b5_0 69 e8_b5_0) :: Γ) (fun w hw => (Sat.less (.take (.there (.there .here)) (.take .here (.take .here .refl))) hw)) (PutF_tr b2_1 e8_b2_1 a32_2_00 c32_2_00 y32_2 (RowsA.reads (k := 1) .here) y32_3 hy32_3)) ?_
                  rintro _ _ ⟨rfl, rfl⟩
                  refine s_pure 132 (.bool (!(decide (y32_3.1 = (0 : Int))))) (by kernel_rfl) (by kernel_rfl) (fun _ => by kernel_rfl) ?_
                  refine ops_end ?_
                  refine At.env [(0, .int .i64 (wr ((1 : Int) + y1_1))), (1, .slice usesa (List.length uses) usescap), (5, .pointer (some ⟨b2_1, 0, none⟩)), (6, .pointer (some ⟨b5_0, 0, none⟩)), (7, .int .i64 v0_7), (8, .int .i64 y9_4), (9, .int .i64 (y9_4.tmod (2 : Int))), (132, .bool (!(decide (y32_3.1 = (0 : Int)))))] ⟨by kernel_rfl, by kernel_rfl, by kernel_rfl, by kernel_rfl, by kernel_rfl, by kernel_rfl, by kernel_rfl, by kernel_rfl, trivial⟩ ?_
                  refine at_then_normal ?_
                  rcases Bool.eq_false_or_eq_true (!(decide (y32_3.1 = (0 : Int)))) with h8 | h8
                  · replace H := bifT H h8
                    refine at_true (t := !(decide (y32_3.1 = (0 : Int)))) (x := C9 [1,1,1,1,1,0,1,0,0,1,0,0,1,1,1,1,0,1,1,1,1,1,0]) (y := C9 [1,1,1,1,1,0,1,0,0,1,0,0,1,1,1,1,0,1,1,1,1,1,1]) (o := .tmp 132) (by kernel_rfl) (by kernel_rfl) (by kernel_rfl) h8 ?_
                    refine at_seq (x := C9 [1,1,1,1,1,0,1,0,0,1,0,0,1,1,1,1,0,1,1,1,1,1,0,0]) (y := C9 [1,1,1,1,1,0,1,0,0,1,0,0,1,1,1,1,0,1,1,1,1,1,0,1]) (by kernel_rfl) ?_
                    refine at_region (id := 33) 1 (by kernel_rfl) (by kernel_rfl) ?_
                    refine s_pure 4 (.bool false) (by kernel_rfl) (by kernel_rfl) (fun _ => by kernel_rfl) ?_
                    refine ops_end ?_
                    refine At.env [(4, .bool false)] ⟨by kernel_rfl, trivial⟩ ?_
                    refine at_then_normal ?_
                    refine at_ret (by kernel_rfl) ?_
                    refine at_then_ret ?_
                    refine at_in_ret ?_
                    refine at_then_ret ?_
                    refine at_then_ret ?_
                    refine at_in_ret ?_
                    refine at_then_ret ?_
                    obtain rfl := someE H
                    refine at_backR [.bool false] (Γ) (rs := [.tmp 4]) (by kernel_rfl) (.cons (.tmp (by kernel_rfl)) .nil) (fun w hw => (Sat.less (.drop .here (.drop .here (.drop .here .refl))) hw)) ?_
                    exact ⟨rfl, rfl⟩
                  · replace H := bifF H h8
                    refine at_false (t := !(decide (y32_3.1 = (0 : Int)))) (x := C9 [1,1,1,1,1,0,1,0,0,1,0,0,1,1,1,1,0,1,1,1,1,1,0]) (y := C9 [1,1,1,1,1,0,1,0,0,1,0,0,1,1,1,1,0,1,1,1,1,1,1]) (o := .tmp 132) (by kernel_rfl) (by kernel_rfl) (by kernel_rfl) h8 ?_
                    refine at_skip (by kernel_rfl) ?_
                    refine at_round_normal ?_
                    exact at_join_mk [(0, .int .i64 (wr ((1 : Int) + y1_1))), (1, .slice usesa (List.length uses) usescap), (5, .pointer (some ⟨b2_1, 0, none⟩)), (6, .pointer (some ⟨b5_0, 0, none⟩)), (7, .int .i64 v0_7), (8, .int .i64 y9_4), (9, .int .i64 (y9_4.tmod (2 : Int)))] ((ListsA b5_0 69 e8_b5_0) :: (CacheA b2_1 y32_3.2) :: Γ) ⟨by kernel_rfl, by kernel_rfl, by kernel_rfl, by kernel_rfl, by kernel_rfl, by kernel_rfl, by kernel_rfl, trivial⟩ (fun w hw => (Sat.less (.take (.there (.there .here)) (.take .here (.drop .here .refl))) hw)) ⟨e8_b5_0, y32_3.2, H, rfl, rfl⟩
                · refine at_seq (x := C9 [1,1,1,1,1,0,1,0,0,1,0,0,1,1,1,1,0,1,1,1,0,0]) (y := C9 [1,1,1,1,1,0,1,0,0,1,0,0,1,1,1,1,0,1,1,1,0,1]) (by kernel_rfl) ?_
                  refine at_region (id := 24) 6 (by kernel_rfl) (by kernel_rfl) ?_
                  refine s_pure 91 (.int .i64 (y9_4.tmod (2 : Int))) (by kernel_rfl) (by kernel_rfl) (fun _ => by kernel_rfl) ?_
                  obtain ⟨hc24_1_0, H⟩ := chkE H
                  refine s_pure 92 (.pointer (some ⟨b5_0, ((y9_4.tmod (2 : Int))).toNat, none⟩)) (by kernel_rfl) (by kernel_rfl) (index_arr (t := 69) (E := 22) (m := 2) (tinfo 22) (fun _ => by kernel_rfl) (by kernel_rfl) (by kernel_rfl) (by kernel_rfl) hc24_1_0.1) ?_
                  refine At.lfocus hc24_1_0.2 .here ?_
                  intro a24_2 c24_2
                  refine s_load 93 (.slice a24_2 (List.length (lget v0_b5_0 (y9_4.tmod (2 : Int)))) c24_2) (by kernel_rfl) (by kernel_rfl) (lists_load (i := (y9_4.tmod (2 : Int))) (fun _ => by kernel_rfl) (.there .here)) ?_
                  refine s_pure 94 (.int .i64 (((List.length (lget v0_b5_0 (y9_4.tmod (2 : Int)))) : Nat) : Int)) (by kernel_rfl) (by kernel_rfl) (fun _ => by kernel_rfl) ?_
                  refine s_pure 95 (.int .i64 (wr ((1 : Int) + y1_1))) (by kernel_rfl) (by kernel_rfl) (fun _ => by kernel_rfl) ?_
                  refine s_pure 96 (.bool (decide ((((List.length (lget v0_b5_0 (y9_4.tmod (2 : Int)))) : Nat) : Int) = (wr ((1 : Int) + y1_1))))) (by kernel_rfl) (by kernel_rfl) (fun _ => by kernel_rfl) ?_
                  refine ops_end ?_
                  refine At.env [(0, .int .i64 (wr ((1 : Int) + y1_1))), (1, .slice usesa (List.length uses) usescap), (5, .pointer (some ⟨b2_1, 0, none⟩)), (6, .pointer (some ⟨b5_0, 0, none⟩)), (7, .int .i64 v0_7), (8, .int .i64 y9_4), (9, .int .i64 (y9_4.tmod (2 : Int))), (96, .bool (decide ((((List.length (lget v0_b5_0 (y9_4.tmod (2 : Int)))) : Nat) : Int) = (wr ((1 : Int) + y1_1)))))] ⟨by kernel_rfl, by kernel_rfl, by kernel_rfl, by kernel_rfl, by kernel_rfl, by kernel_rfl, by kernel_rfl, by kernel_rfl, trivial⟩ ?_
                  refine at_then_normal ?_
                  rcases Bool.eq_false_or_eq_true (decide ((((List.length (lget v0_b5_0 (y9_4.tmod (2 : Int)))) : Nat) : Int) = (wr ((1 : Int) + y1_1)))) with h9 | h9
                  · replace H := bifT H h9
                    refine at_true (t := decide ((((List.length (lget v0_b5_0 (y9_4.tmod (2 : Int)))) : Nat) : Int) = (wr ((1 : Int) + y1_1)))) (x := C9 [1,1,1,1,1,0,1,0,0,1,0,0,1,1,1,1,0,1,1,1,0,1,0]) (y := C9 [1,1,1,1,1,0,1,0,0,1,0,0,1,1,1,1,0,1,1,1,0,1,1]) (o := .tmp 96) (by kernel_rfl) (by kernel_rfl) (by kernel_rfl) h9 ?_
                    refine At.conv (Γ' := (ListsA b5_0 69 v0_b5_0) :: (CacheA b2_1 v0_b2_1) :: Γ) (fun w hw => ListsA.unfocus (Sat.less (.take .here (.take .here (.take .here .refl))) hw)) ?_
                    refine at_seq (x := C9 [1,1,1,1,1,0,1,0,0,1,0,0,1,1,1,1,0,1,1,1,0,1,0,0]) (y := C9 [1,1,1,1,1,0,1,0,0,1,0,0,1,1,1,1,0,1,1,1,0,1,0,1]) (by kernel_rfl) ?_
                    refine at_region (id := 25) 8 (by kernel_rfl) (by kernel_rfl) ?_
                    refine s_pure 98 (.pointer (some ⟨b2_1, 0, none⟩)) (by kernel_rfl) (by kernel_rfl) (fun _ => by kernel_rfl) ?_
                    refine s_pure 99 (.int .i64 y9_4) (by kernel_rfl) (by kernel_rfl) (fun _ => by kernel_rfl) ?_
                    refine CacheA.tox (.there .here) ?_
                    intro x25_2_b2_1
                    obtain ⟨y25_2, hy25_2, H⟩ := bindE H
                    refine s_call 100 39 #[.pointer (some ⟨b2_1, 0, none⟩), .int .i64 y9_4] (by kernel_rfl) (by kernel_rfl) (fun _ => by kernel_rfl) (VictimF_tr b2_1 x25_2_b2_1 v0_b2_1 y9_4 y25_2 hy25_2) ?_
                    rintro _ _ ⟨rfl, rfl⟩
                    refine s_pure 97 (.tuple #[.int .i64 y25_2.1, .bool y25_2.2]) (by kernel_rfl) (by kernel_rfl) (fun _ => by kernel_rfl) ?_
                    refine s_pure 101 (.int .i64 y25_2.1) (by kernel_rfl) (by kernel_rfl) (fun _ => by kernel_rfl) ?_
                    refine s_pure 102 (.bool y25_2.2) (by kernel_rfl) (by kernel_rfl) (fun _ => by kernel_rfl) ?_
                    refine s_pure 13 (.int .i64 y25_2.1) (by kernel_rfl) (by kernel_rfl) (fun _ => by kernel_rfl) ?_
                    refine s_pure 14 (.bool y25_2.2) (by kernel_rfl) (by kernel_rfl) (fun _ => by kernel_rfl) ?_
                    refine ops_end ?_
                    refine At.env [(0, .int .i64 (wr ((1 : Int) + y1_1))), (1, .slice usesa (List.length uses) usescap), (5, .pointer (some ⟨b2_1, 0, none⟩)), (6, .pointer (some ⟨b5_0, 0, none⟩)), (7, .int .i64 v0_7), (8, .int .i64 y9_4), (9, .int .i64 (y9_4.tmod (2 : Int))), (13, .int .i64 y25_2.1), (14, .bool y25_2.2)] ⟨by kernel_rfl, by kernel_rfl, by kernel_rfl, by kernel_rfl, by kernel_rfl, by kernel_rfl, by kernel_rfl, by kernel_rfl, by kernel_rfl, trivial⟩ ?_
                    refine at_then_normal ?_
                    refine At.conv (Γ' := (CacheA b2_1 v0_b2_1) :: (ListsA b5_0 69 v0_b5_0) :: Γ) (fun w hw => CacheXA.shut (hw.pull .here)) ?_
                    refine at_seq (x := C9 [1,1,1,1,1,0,1,0,0,1,0,0,1,1,1,1,0,1,1,1,0,1,0,1,0]) (y := C9 [1,1,1,1,1,0,1,0,0,1,0,0,1,1,1,1,0,1,1,1,0,1,0,1,1]) (by kernel_rfl) ?_
                    refine at_seq_join (x := C9 [1,1,1,1,1,0,1,0,0,1,0,0,1,1,1,1,0,1,1,1,0,1,0,1,0,0]) (y := C9 [1,1,1,1,1,0,1,0,0,1,0,0,1,1,1,1,0,1,1,1,0,1,0,1,0,1]) (fun ff ΔΔ => ∃ (e9_113 : Bool), cacheLeastS_j9 v0_b2_1 y25_2 y9_4 v0_b5_0 v0_7 (cacheLeastS_l0 uses y1_1 (cacheLeastS_k0 ) fuel1) e9_113 = some y ∧ ff = [(0, .int .i64 (wr ((1 : Int) + y1_1))), (1, .slice usesa (List.length uses) usescap), (5, .pointer (some ⟨b2_1, 0, none⟩)), (6, .pointer (some ⟨b5_0, 0, none⟩)), (7, .int .i64 v0_7), (8, .int .i64 y9_4), (9, .int .i64 (y9_4.tmod (2 : Int))), (13, .int .i64 y25_2.1), (113, .bool e9_113)] ∧ (CacheA b2_1 v0_b2_1) :: (ListsA b5_0 69 v0_b5_0) :: Γ = ΔΔ) (by kernel_rfl) ?_ ?_
                    · rintro _ _ ⟨e9_113, H, rfl, rfl⟩
                      rw [cacheLeastS_j9] at H
                      rcases Bool.eq_false_or_eq_true (e9_113) with h10 | h10
                      · replace H := bifT H h10
                        refine at_true (t := e9_113) (x := C9 [1,1,1,1,1,0,1,0,0,1,0,0,1,1,1,1,0,1,1,1,0,1,0,1,0,1,0]) (y := C9 [1,1,1,1,1,0,1,0,0,1,0,0,1,1,1,1,0,1,1,1,0,1,0,1,0,1,1]) (o := .tmp 113) (by kernel_rfl) (by kernel_rfl) (by kernel_rfl) h10 ?_
                        refine at_seq (x := C9 [1,1,1,1,1,0,1,0,0,1,0,0,1,1,1,1,0,1,1,1,0,1,0,1,0,1,0,0]) (y := C9 [1,1,1,1,1,0,1,0,0,1,0,0,1,1,1,1,0,1,1,1,0,1,0,1,0,1,0,1]) (by kernel_rfl) ?_
                        refine at_region (id := 27) 1 (by kernel_rfl) (by kernel_rfl) ?_
                        refine s_pure 4 (.bool false) (by kernel_rfl) (by kernel_rfl) (fun _ => by kernel_rfl) ?_
                        refine ops_end ?_
                        refine At.env [(4, .bool false)] ⟨by kernel_rfl, trivial⟩ ?_
                        refine at_then_normal ?_
                        refine at_ret (by kernel_rfl) ?_
                        refine at_then_ret ?_
                        refine at_then_ret ?_
                        refine at_then_ret ?_
                        refine at_in_ret ?_
                        refine at_then_ret ?_
                        refine at_then_ret ?_
                        refine at_in_ret ?_
                        refine at_then_ret ?_
                        obtain rfl := someE H
                        refine at_backR [.bool false] (Γ) (rs := [.tmp 4]) (by kernel_rfl) (.cons (.tmp (by kernel_rfl)) .nil) (fun w hw => (Sat.less (.drop .here (.drop .here .refl)) hw)) ?_
                        exact ⟨rfl, rfl⟩
                      · replace H := bifF H h10
                        refine at_false (t := e9_113) (x := C9 [1,1,1,1,1,0,1,0,0,1,0,0,1,1,1,1,0,1,1,1,0,1,0,1,0,1,0]) (y := C9 [1,1,1,1,1,0,1,0,0,1,0,0,1,1,1,1,0,1,1,1,0,1,0,1,0,1,1]) (o := .tmp 113) (by kernel_rfl) (by kernel_rfl) (by kernel_rfl) h10 ?_
                        refine at_skip (by kernel_rfl) ?_
                        refine at_then_normal ?_
                        refine at_seq (x := C9 [1,1,1,1,1,0,1,0,0,1,0,0,1,1,1,1,0,1,1,1,0,1,0,1,1,0]) (y := C9 [1,1,1,1,1,0,1,0,0,1,0,0,1,1,1,1,0,1,1,1,0,1,0,1,1,1]) (by kernel_rfl) ?_
                        refine at_seq (x := C9 [1,1,1,1,1,0,1,0,0,1,0,0,1,1,1,1,0,1,1,1,0,1,0,1,1,0,0]) (y := C9 [1,1,1,1,1,0,1,0,0,1,0,0,1,1,1,1,0,1,1,1,0,1,0,1,1,0,1]) (by kernel_rfl) ?_
                        refine at_region (id := 28) 9 (by kernel_rfl) (by kernel_rfl) ?_
                        refine s_pure 115 (.pointer (some ⟨b2_1, 0, none⟩)) (by kernel_rfl) (by kernel_rfl) (fun _ => by kernel_rfl) ?_
                        refine s_pure 116 (.int .i64 y25_2.1) (by kernel_rfl) (by kernel_rfl) (fun _ => by kernel_rfl) ?_
                        obtain ⟨y28_2, hy28_2, H⟩ := bindE H
                        refine s_call 117 24 #[.pointer (some ⟨b2_1, 0, none⟩), .int .i64 y25_2.1] (by kernel_rfl) (by kernel_rfl) (fun _ => by kernel_rfl) (DropF_tr b2_1 v0_b2_1 y25_2.1 y28_2 hy28_2) ?_
                        rintro _ _ ⟨a28_2_00, c28_2_00, rfl, rfl⟩
                        refine s_pure 114 (.tuple #[.agg #[.int .i64 y28_2.1.fwd, .int .i64 y28_2.1.back, .int .i64 y28_2.1.line, .int .i64 y28_2.1.used, .bool y28_2.1.dirty, .slice a28_2_00 (List.length y28_2.1.data) c28_2_00], .bool y28_2.2.1]) (by kernel_rfl) (by kernel_rfl) (fun _ => by kernel_rfl) ?_
                        refine s_pure 118 (.agg #[.int .i64 y28_2.1.fwd, .int .i64 y28_2.1.back, .int .i64 y28_2.1.line, .int .i64 y28_2.1.used, .bool y28_2.1.dirty, .slice a28_2_00 (List.length y28_2.1.data) c28_2_00]) (by kernel_rfl) (by kernel_rfl) (fun _ => by kernel_rfl) ?_
                        refine s_pure 119 (.bool y28_2.2.1) (by kernel_rfl) (by kernel_rfl) (fun _ => by kernel_rfl) ?_
                        refine s_step 15 (by kernel_rfl) (by kernel_rfl) (st_new (T := 31) (cells := #[.int .i64 (0), .int .i64 (0), .int .i64 (0), .int .i64 (0), .bool false, .slice none 0 0]) (fun a => .pointer (some a)) (fun _ => by kernel_rfl)) ?_
                        rintro _ _ ⟨b28_6, rfl, rfl⟩
                        refine s_do (by kernel_rfl) (by kernel_rfl) (st_store (off := 0) (vs := [.int .i64 y28_2.1.fwd, .int .i64 y28_2.1.back, .int .i64 y28_2.1.line, .int .i64 y28_2.1.used, .bool y28_2.1.dirty, .slice a28_2_00 (List.length y28_2.1.data) c28_2_00]) (c' := #[.int .i64 y28_2.1.fwd, .int .i64 y28_2.1.back, .int .i64 y28_2.1.line, .int .i64 y28_2.1.used, .bool y28_2.1.dirty, .slice a28_2_00 (List.length y28_2.1.data) c28_2_00]) (fun _ => by kernel_rfl) .here (by kernel_rfl) (by kernel_rfl) (by kernel_rfl)) ?_
                        rintro _ _ ⟨rfl, rfl⟩
                        refine s_pure 16 (.bool y28_2.2.1) (by kernel_rfl) (by kernel_rfl) (fun _ => by kernel_rfl) ?_
                        refine ops_end ?_
                        refine At.env [(0, .int .i64 (wr ((1 : Int) + y1_1))), (1, .slice usesa (List.length uses) usescap), (5, .pointer (some ⟨b2_1, 0, none⟩)), (6, .pointer (some ⟨b5_0, 0, none⟩)), (7, .int .i64 v0_7), (8, .int .i64 y9_4), (9, .int .i64 (y9_4.tmod (2 : Int))), (16, .bool y28_2.2.1)] ⟨by kernel_rfl, by kernel_rfl, by kernel_rfl, by kernel_rfl, by kernel_rfl, by kernel_rfl, by kernel_rfl, by kernel_rfl, trivial⟩ ?_
                        refine at_then_normal ?_
                        refine at_seq (x := C9 [1,1,1,1,1,0,1,0,0,1,0,0,1,1,1,1,0,1,1,1,0,1,0,1,1,0,1,0]) (y := C9 [1,1,1,1,1,0,1,0,0,1,0,0,1,1,1,1,0,1,1,1,0,1,0,1,1,0,1,1]) (by kernel_rfl) ?_
                        refine at_region (id := 29) 2 (by kernel_rfl) (by kernel_rfl) ?_
                        refine s_pure 120 (.bool y28_2.2.1) (by kernel_rfl) (by kernel_rfl) (fun _ => by kernel_rfl) ?_
                        refine s_pure 121 (.bool !y28_2.2.1) (by kernel_rfl) (by kernel_rfl) (fun _ => by kernel_rfl) ?_
                        refine ops_end ?_
                        refine At.env [(0, .int .i64 (wr ((1 : Int) + y1_1))), (1, .slice usesa (List.length uses) usescap), (5, .pointer (some ⟨b2_1, 0, none⟩)), (6, .pointer (some ⟨b5_0, 0, none⟩)), (7, .int .i64 v0_7), (8, .int .i64 y9_4), (9, .int .i64 (y9_4.tmod (2 : Int))), (121, .bool !y28_2.2.1)] ⟨by kernel_rfl, by kernel_rfl, by kernel_rfl, by kernel_rfl, by kernel_rfl, by kernel_rfl, by kernel_rfl, by kernel_rfl, trivial⟩ ?_
                        refine at_then_normal ?_
                        rcases Bool.eq_false_or_eq_true (!y28_2.2.1) with h11 | h11
                        · replace H := bifT H h11
                          refine at_true (t := !y28_2.2.1) (x := C9 [1,1,1,1,1,0,1,0,0,1,0,0,1,1,1,1,0,1,1,1,0,1,0,1,1,0,1,1,0]) (y := C9 [1,1,1,1,1,0,1,0,0,1,0,0,1,1,1,1,0,1,1,1,0,1,0,1,1,0,1,1,1]) (o := .tmp 121) (by kernel_rfl) (by kernel_rfl) (by kernel_rfl) h11 ?_
                          refine at_seq (x := C9 [1,1,1,1,1,0,1,0,0,1,0,0,1,1,1,1,0,1,1,1,0,1,0,1,1,0,1,1,0,0]) (y := C9 [1,1,1,1,1,0,1,0,0,1,0,0,1,1,1,1,0,1,1,1,0,1,0,1,1,0,1,1,0,1]) (by kernel_rfl) ?_
                          refine at_region (id := 30) 1 (by kernel_rfl) (by kernel_rfl) ?_
                          refine s_pure 4 (.bool false) (by kernel_rfl) (by kernel_rfl) (fun _ => by kernel_rfl) ?_
                          refine ops_end ?_
                          refine At.env [(4, .bool false)] ⟨by kernel_rfl, trivial⟩ ?_
                          refine at_then_normal ?_
                          refine at_ret (by kernel_rfl) ?_
                          refine at_then_ret ?_
                          refine at_then_ret ?_
                          refine at_then_ret ?_
                          refine at_in_ret ?_
                          refine at_then_ret ?_
                          refine at_then_ret ?_
                          refine at_in_ret ?_
                          refine at_then_ret ?_
                          obtain rfl := someE H
                          refine at_backR [.bool false] (Γ) (rs := [.tmp 4]) (by kernel_rfl) (.cons (.tmp (by kernel_rfl)) .nil) (fun w hw => (Sat.less (.drop .here (.drop .here (.drop .here (.drop .here .refl)))) hw)) ?_
                          exact ⟨rfl, rfl⟩
                        · replace H := bifF H h11
                          refine at_false (t := !y28_2.2.1) (x := C9 [1,1,1,1,1,0,1,0,0,1,0,0,1,1,1,1,0,1,1,1,0,1,0,1,1,0,1,1,0]) (y := C9 [1,1,1,1,1,0,1,0,0,1,0,0,1,1,1,1,0,1,1,1,0,1,0,1,1,0,1,1,1]) (o := .tmp 121) (by kernel_rfl) (by kernel_rfl) (by kernel_rfl) h11 ?_
                          refine at_skip (by kernel_rfl) ?_
                          refine at_then_normal ?_
                          refine at_region (id := 31) 7 (by kernel_rfl) (by kernel_rfl) ?_
                          refine s_pure 122 (.int .i64 (y9_4.tmod (2 : Int))) (by kernel_rfl) (by kernel_rfl) (fun _ => by kernel_rfl) ?_
                          refine s_pure 123 (.int .i64 (y9_4.tmod (2 : Int))) (by kernel_rfl) (by kernel_rfl) (fun _ => by kernel_rfl) ?_
                          obtain ⟨hc31_2_0, H⟩ := chkE H
                          refine s_pure 124 (.pointer (some ⟨b5_0, ((y9_4.tmod (2 : Int))).toNat, none⟩)) (by kernel_rfl) (by kernel_rfl) (index_arr (t := 69) (E := 22) (m := 2) (tinfo 22) (fun _ => by kernel_rfl) (by kernel_rfl) (by kernel_rfl) (by kernel_rfl) hc31_2_0.1) ?_
                          refine At.lfocus hc31_2_0.2 (.there (.there (.there .here))) ?_
                          intro a31_3 c31_3
                          refine s_load 125 (.slice a31_3 (List.length (lget v0_b5_0 (y9_4.tmod (2 : Int)))) c31_3) (by kernel_rfl) (by kernel_rfl) (lists_load (i := (y9_4.tmod (2 : Int))) (fun _ => by kernel_rfl) (.there .here)) ?_
                          obtain ⟨hc31_4_0, H⟩ := chkE H
                          obtain ⟨l31_4, hl31_4, H⟩ := letE H
                          refine At.known (p := (List.length (lget v0_b5_0 (y9_4.tmod (2 : Int)))) ≤ c31_3) (fun w hw => by have := (RowsA.len (hw.pull .here)).2; simpa using this) ?_
                          intro hcap3
                          have hcapl31_4 : (List.length (lget v0_b5_0 (y9_4.tmod (2 : Int)))) ≤ c31_3 := hcap3
                          have hcl31_4 := hc31_4_0
                          obtain ⟨a31_4, ha31_4⟩ : ∃ y : Option Addr, y = (if c31_3 = ((1 : Int)).toNat then a31_3 else Option.map (fun x => Addr.add x (((1 : Int)).toNat * 1)) a31_3) := ⟨_, rfl⟩
                          have hrl31_4 : Reads W0 ((IntsA a31_3 c31_3 (lget v0_b5_0 (y9_4.tmod (2 : Int)))) :: (ListsX b5_0 69 v0_b5_0 (y9_4.tmod (2 : Int)) a31_3 c31_3) :: (Asn.own b28_6 (.cells #[.int .i64 y28_2.1.fwd, .int .i64 y28_2.1.back, .int .i64 y28_2.1.line, .int .i64 y28_2.1.used, .bool y28_2.1.dirty, .slice a28_2_00 (List.length y28_2.1.data) c28_2_00] 31 (0, 0))) :: (IntsA a28_2_00 c28_2_00 y28_2.1.data) :: (CacheA b2_1 y28_2.2.2) :: Γ) a31_4 (ints l31_4) := by rw [ha31_4, ← hl31_4]; exact Reads.part (lo := ((1 : Int)).toNat) (hi := (List.length (lget v0_b5_0 (y9_4.tmod (2 : Int))))) (RowsA.reads (k := 1) .here) rfl (by omega)
                          refine At.conv (Γ' := (IntsA a31_4 (c31_3 - ((1 : Int)).toNat) l31_4) :: (ListsX b5_0 69 v0_b5_0 (y9_4.tmod (2 : Int)) a31_3 c31_3) :: (Asn.own b28_6 (.cells #[.int .i64 y28_2.1.fwd, .int .i64 y28_2.1.back, .int .i64 y28_2.1.line, .int .i64 y28_2.1.used, .bool y28_2.1.dirty, .slice a28_2_00 (List.length y28_2.1.data) c28_2_00] 31 (0, 0))) :: (IntsA a28_2_00 c28_2_00 y28_2.1.data) :: (CacheA b2_1 y28_2.2.2) :: Γ) (fun w hw => by have q := RowsA.suffix (j := ((1 : Int)).toNat) ha31_4 rfl (by simp only [ints_length]; omega) (hw.pull .here); rw [show (ints (lget v0_b5_0 (y9_4.tmod (2 : Int)))).drop ((1 : Int)).toNat = ints l31_4 from by rw [← hl31_4]; first | (rw [List.take_of_length_le (by rw [List.length_drop]; exact Nat.le_refl _)]; simp [ints, List.map_drop]; done) | simp [ints, List.map_drop]] at q; exact q) ?_
                          refine s_pure 126 (.slice a31_4 (List.length l31_4) (c31_3 - ((1 : Int)).toNat)) (by kernel_rfl) (by kernel_rfl) (run_eq (slice_at (t := 22) (lo := ((1 : Int)).toNat) (hi := (List.length (lget v0_b5_0 (y9_4.tmod (2 : Int))))) (mx := c31_3) (sz := 1) (E := 3) (a := a31_3) (m := (List.length (lget v0_b5_0 (y9_4.tmod (2 : Int))))) (c := c31_3) (some (.int .i64 (1))) none none (tinfo 3) (fun _ => by kernel_rfl) (by kernel_rfl) (by kernel_rfl) (by kernel_rfl) (Or.inr ⟨_, rfl, by omega⟩) (Or.inl ⟨rfl, rfl, rfl⟩) (Or.inl ⟨rfl, rfl⟩) (by omega) (by omega) (by omega)) (by rw [← ha31_4, show (List.length (lget v0_b5_0 (y9_4.tmod (2 : Int)))) - ((1 : Int)).toNat = List.length l31_4 from by rw [← hl31_4]; simp only [List.length_take, List.length_drop]; omega])) ?_
                          obtain ⟨hc31_5_0, H⟩ := chkE H
                          refine s_pure 127 (.pointer (some ⟨b5_0, ((y9_4.tmod (2 : Int))).toNat, none⟩)) (by kernel_rfl) (by kernel_rfl) (index_arr (t := 69) (E := 22) (m := 2) (tinfo 22) (fun _ => by kernel_rfl) (by kernel_rfl) (by kernel_rfl) (by kernel_rfl) hc31_5_0.1) ?_
                          obtain ⟨ls31_6, hls31_6, H⟩ := letE H
                          refine s_do (by kernel_rfl) (by kernel_rfl) (st_lists (i := (y9_4.tmod (2 : Int))) (v := l31_4) (fun _ => by kernel_rfl) (.there .here) .here) ?_
                          rintro _ _ ⟨rfl, rfl⟩
                          rw [hls31_6]
                          refine ops_end ?_
                          refine At.env [(0, .int .i64 (wr ((1 : Int) + y1_1))), (1, .slice usesa (List.length uses) usescap), (5, .pointer (some ⟨b2_1, 0, none⟩)), (6, .pointer (some ⟨b5_0, 0, none⟩)), (7, .int .i64 v0_7), (8, .int .i64 y9_4), (9, .int .i64 (y9_4.tmod (2 : Int)))] ⟨by kernel_rfl, by kernel_rfl, by kernel_rfl, by kernel_rfl, by kernel_rfl, by kernel_rfl, by kernel_rfl, trivial⟩ ?_
                          refine at_round_normal ?_
                          exact at_join_mk [(0, .int .i64 (wr ((1 : Int) + y1_1))), (1, .slice usesa (List.length uses) usescap), (5, .pointer (some ⟨b2_1, 0, none⟩)), (6, .pointer (some ⟨b5_0, 0, none⟩)), (7, .int .i64 v0_7), (8, .int .i64 y9_4), (9, .int .i64 (y9_4.tmod (2 : Int)))] ((ListsA b5_0 69 ls31_6) :: (CacheA b2_1 y28_2.2.2) :: Γ) ⟨by kernel_rfl, by kernel_rfl, by kernel_rfl, by kernel_rfl, by kernel_rfl, by kernel_rfl, by kernel_rfl, trivial⟩ (fun w hw => (Sat.less (.take .here (.take (.there (.there .here)) (.drop .here (.drop .here .refl)))) hw)) ⟨ls31_6, y28_2.2.2, H, rfl, rfl⟩
                    · refine at_region (id := 26) 11 (by kernel_rfl) (by kernel_rfl) ?_
                      refine s_pure 103 (.bool y25_2.2) (by kernel_rfl) (by kernel_rfl) (fun _ => by kernel_rfl) ?_
                      refine s_pure 104 (.bool !y25_2.2) (by kernel_rfl) (by kernel_rfl) (fun _ => by kernel_rfl) ?_
                      rcases Bool.eq_false_or_eq_true (!y25_2.2) with h12 | h12
                      · replace H := bifT H h12
                        refine s_pure 105 (.bool true) (by kernel_rfl) (by kernel_rfl) (run_eq (v := .bool (!y25_2.2)) (fun _ => by kernel_rfl) (congrArg Value.bool h12)) ?_
                        refine s_pass 106 (by kernel_rfl) (by kernel_rfl) ?_
                        refine s_pass 107 (by kernel_rfl) (by kernel_rfl) ?_
                        refine s_pass 108 (by kernel_rfl) (by kernel_rfl) ?_
                        refine s_pass 109 (by kernel_rfl) (by kernel_rfl) ?_
                        refine s_pass 110 (by kernel_rfl) (by kernel_rfl) ?_
                        refine s_pass 111 (by kernel_rfl) (by kernel_rfl) ?_
                        refine s_pass 112 (by kernel_rfl) (by kernel_rfl) ?_
                        refine s_pure 113 (.bool true) (by kernel_rfl) (by kernel_rfl) (fun _ => by kernel_rfl) ?_
                        refine ops_end ?_
                        refine At.env [(0, .int .i64 (wr ((1 : Int) + y1_1))), (1, .slice usesa (List.length uses) usescap), (5, .pointer (some ⟨b2_1, 0, none⟩)), (6, .pointer (some ⟨b5_0, 0, none⟩)), (7, .int .i64 v0_7), (8, .int .i64 y9_4), (9, .int .i64 (y9_4.tmod (2 : Int))), (13, .int .i64 y25_2.1), (113, .bool true)] ⟨by kernel_rfl, by kernel_rfl, by kernel_rfl, by kernel_rfl, by kernel_rfl, by kernel_rfl, by kernel_rfl, by kernel_rfl, by kernel_rfl, trivial⟩ ?_
                        refine at_round_normal ?_
                        exact at_join_mk [(0, .int .i64 (wr ((1 : Int) + y1_1))), (1, .slice usesa (List.length uses) usescap), (5, .pointer (some ⟨b2_1, 0, none⟩)), (6, .pointer (some ⟨b5_0, 0, none⟩)), (7, .int .i64 v0_7), (8, .int .i64 y9_4), (9, .int .i64 (y9_4.tmod (2 : Int))), (13, .int .i64 y25_2.1), (113, .bool true)] ((CacheA b2_1 v0_b2_1) :: (ListsA b5_0 69 v0_b5_0) :: Γ) ⟨by kernel_rfl, by kernel_rfl, by kernel_rfl, by kernel_rfl, by kernel_rfl, by kernel_rfl, by kernel_rfl, by kernel_rfl, by kernel_rfl, trivial⟩ (fun w hw => (Sat.less (.take .here (.take .here .refl)) hw)) ⟨true, H, rfl, rfl⟩
                      · replace H := bifF H h12
                        refine s_pure 105 (.bool false) (by kernel_rfl) (by kernel_rfl) (run_eq (v := .bool (!y25_2.2)) (fun _ => by kernel_rfl) (congrArg Value.bool h12)) ?_
                        refine s_pure 106 (.int .i64 y25_2.1) (by kernel_rfl) (by kernel_rfl) (fun _ => by kernel_rfl) ?_
                        refine s_pure 107 (.int .i64 (y9_4.tmod (2 : Int))) (by kernel_rfl) (by kernel_rfl) (fun _ => by kernel_rfl) ?_
                        obtain ⟨hc26_5_0, H⟩ := chkE H
                        refine s_pure 108 (.pointer (some ⟨b5_0, ((y9_4.tmod (2 : Int))).toNat, none⟩)) (by kernel_rfl) (by kernel_rfl) (index_arr (t := 69) (E := 22) (m := 2) (tinfo 22) (fun _ => by kernel_rfl) (by kernel_rfl) (by kernel_rfl) (by kernel_rfl) hc26_5_0.1) ?_
                        refine At.lfocus hc26_5_0.2 (.there .here) ?_
                        intro a26_6 c26_6
                        refine s_load 109 (.slice a26_6 (List.length (lget v0_b5_0 (y9_4.tmod (2 : Int)))) c26_6) (by kernel_rfl) (by kernel_rfl) (lists_load (i := (y9_4.tmod (2 : Int))) (fun _ => by kernel_rfl) (.there .here)) ?_
                        obtain ⟨hc26_7_0, H⟩ := chkE H
                        refine rows_at .here (by have := hc26_7_0; simp only [ints_length]; omega) ?_
                        intro bb3 oo3 ha3
                        refine s_pure 110 (.pointer (some ⟨bb3, oo3 + (((0 : Int)).toNat * 1 + 0), none⟩)) (by kernel_rfl) (by kernel_rfl) (index_at (t := 22) (sz := 1) (E := 3) (a := a26_6) (m := (List.length (lget v0_b5_0 (y9_4.tmod (2 : Int))))) (c := c26_6) (b := bb3) (off := oo3) (i := ((0 : Int)).toNat) (tinfo 3) (fun _ => by kernel_rfl) (by kernel_rfl) (by kernel_rfl) (by kernel_rfl) ha3 (idx_cast hc26_7_0) (idx_nat hc26_7_0) rfl) ?_
                        refine s_load 111 (.int .i64 (nth (lget v0_b5_0 (y9_4.tmod (2 : Int))) (0 : Int))) (by kernel_rfl) (by kernel_rfl) (load1_at (off := oo3 + (((0 : Int)).toNat * 1 + 0)) (v := .int .i64 (nth (lget v0_b5_0 (y9_4.tmod (2 : Int))) (0 : Int))) (fun _ => by kernel_rfl) rfl (reads_cell (k := 1) (RowsA.reads (k := 1) .here) (ints_rows _) ha3 (nth_row hc26_7_0) (show [(.int .i64 (nth (lget v0_b5_0 (y9_4.tmod (2 : Int))) (0 : Int)) : Value)][0]? = some _ from rfl))) ?_
                        refine s_pure 112 (.bool (!(decide (y25_2.1 = (nth (lget v0_b5_0 (y9_4.tmod (2 : Int))) (0 : Int)))))) (by kernel_rfl) (by kernel_rfl) (fun _ => by kernel_rfl) ?_
                        refine s_pure 113 (.bool (!(decide (y25_2.1 = (nth (lget v0_b5_0 (y9_4.tmod (2 : Int))) (0 : Int)))))) (by kernel_rfl) (by kernel_rfl) (fun _ => by kernel_rfl) ?_
                        refine ops_end ?_
                        refine At.env [(0, .int .i64 (wr ((1 : Int) + y1_1))), (1, .slice usesa (List.length uses) usescap), (5, .pointer (some ⟨b2_1, 0, none⟩)), (6, .pointer (some ⟨b5_0, 0, none⟩)), (7, .int .i64 v0_7), (8, .int .i64 y9_4), (9, .int .i64 (y9_4.tmod (2 : Int))), (13, .int .i64 y25_2.1), (113, .bool (!(decide (y25_2.1 = (nth (lget v0_b5_0 (y9_4.tmod (2 : Int))) (0 : Int))))))] ⟨by kernel_rfl, by kernel_rfl, by kernel_rfl, by kernel_rfl, by kernel_rfl, by kernel_rfl, by kernel_rfl, by kernel_rfl, by kernel_rfl, trivial⟩ ?_
                        refine at_round_normal ?_
                        refine At.conv (Γ' := (ListsA b5_0 69 v0_b5_0) :: (CacheA b2_1 v0_b2_1) :: Γ) (fun w hw => ListsA.unfocus (Sat.less (.take .here (.take .here (.take .here .refl))) hw)) ?_
                        exact at_join_mk [(0, .int .i64 (wr ((1 : Int) + y1_1))), (1, .slice usesa (List.length uses) usescap), (5, .pointer (some ⟨b2_1, 0, none⟩)), (6, .pointer (some ⟨b5_0, 0, none⟩)), (7, .int .i64 v0_7), (8, .int .i64 y9_4), (9, .int .i64 (y9_4.tmod (2 : Int))), (13, .int .i64 y25_2.1), (113, .bool (!(decide (y25_2.1 = (nth (lget v0_b5_0 (y9_4.tmod (2 : Int))) (0 : Int))))))] ((CacheA b2_1 v0_b2_1) :: (ListsA b5_0 69 v0_b5_0) :: Γ) ⟨by kernel_rfl, by kernel_rfl, by kernel_rfl, by kernel_rfl, by kernel_rfl, by kernel_rfl, by kernel_rfl, by kernel_rfl, by kernel_rfl, trivial⟩ (fun w hw => (Sat.less (.take (.there .here) (.take .here .refl)) hw)) ⟨!(decide (y25_2.1 = (nth (lget v0_b5_0 (y9_4.tmod (2 : Int))) (0 : Int)))), H, rfl, rfl⟩
                  · replace H := bifF H h9
                    refine at_false (t := decide ((((List.length (lget v0_b5_0 (y9_4.tmod (2 : Int)))) : Nat) : Int) = (wr ((1 : Int) + y1_1)))) (x := C9 [1,1,1,1,1,0,1,0,0,1,0,0,1,1,1,1,0,1,1,1,0,1,0]) (y := C9 [1,1,1,1,1,0,1,0,0,1,0,0,1,1,1,1,0,1,1,1,0,1,1]) (o := .tmp 96) (by kernel_rfl) (by kernel_rfl) (by kernel_rfl) h9 ?_
                    refine at_skip (by kernel_rfl) ?_
                    refine at_round_normal ?_
                    refine At.conv (Γ' := (ListsA b5_0 69 v0_b5_0) :: (CacheA b2_1 v0_b2_1) :: Γ) (fun w hw => ListsA.unfocus (Sat.less (.take .here (.take .here (.take .here .refl))) hw)) ?_
                    exact at_join_mk [(0, .int .i64 (wr ((1 : Int) + y1_1))), (1, .slice usesa (List.length uses) usescap), (5, .pointer (some ⟨b2_1, 0, none⟩)), (6, .pointer (some ⟨b5_0, 0, none⟩)), (7, .int .i64 v0_7), (8, .int .i64 y9_4), (9, .int .i64 (y9_4.tmod (2 : Int)))] ((ListsA b5_0 69 v0_b5_0) :: (CacheA b2_1 v0_b2_1) :: Γ) ⟨by kernel_rfl, by kernel_rfl, by kernel_rfl, by kernel_rfl, by kernel_rfl, by kernel_rfl, by kernel_rfl, trivial⟩ (fun w hw => (Sat.less (.take .here (.take .here .refl)) hw)) ⟨v0_b5_0, v0_b2_1, H, rfl, rfl⟩
    · replace H := bifF H h1
      refine at_false (t := e3_31) (x := C9 [1,1,1,1,1,0,1,0,0,0,1,0]) (y := C9 [1,1,1,1,1,0,1,0,0,0,1,1]) (o := .tmp 31) (by kernel_rfl) (by kernel_rfl) (by kernel_rfl) h1 ?_
      refine at_exit (i := 0) (by kernel_rfl) ?_
      refine at_then_exit ?_
      refine at_then_exit ?_
      rw [cacheLeastS_k0] at H
      refine At.env [(0, .int .i64 (wr ((1 : Int) + y1_1))), (1, .slice usesa (List.length uses) usescap), (5, .pointer (some ⟨b2_1, 0, none⟩)), (6, .pointer (some ⟨b5_0, 0, none⟩)), (7, .int .i64 v0_7)] ⟨by kernel_rfl, by kernel_rfl, by kernel_rfl, by kernel_rfl, by kernel_rfl, trivial⟩ ?_
      refine At.conv (Γ' := (ListsA b5_0 69 v0_b5_0) :: (CacheA b2_1 v0_b2_1) :: Γ) (fun w hw => (Sat.less (.take .here (.take .here .refl)) hw)) ?_
      refine at_in_here ?_
      refine at_then_normal ?_
      refine at_seq (x := C9 [1,1,1,1,1,1,0]) (y := C9 [1,1,1,1,1,1,1]) (by kernel_rfl) ?_
      obtain ⟨hc1, H⟩ := chkE H
      refine At.l2 hc1 .here ?_
      intro a035_b5_0 c035_b5_0 a135_b5_0 c135_b5_0
      refine at_region_draw (id := 35) (by kernel_rfl) (by kernel_rfl) ?_
      refine d_pure 0 141 (.pointer (some ⟨b2_1, 0, none⟩)) (by kernel_rfl) (by kernel_rfl) (by kernel_rfl) (fun _ => by kernel_rfl) ?_
      refine d_pure 2 143 (.pointer (some ⟨b5_0, 0, none⟩)) (by kernel_rfl) (by kernel_rfl) (by kernel_rfl) (fun _ => by kernel_rfl) ?_
      refine d_load 3 144 (.slice a035_b5_0 (List.length (lget v0_b5_0 0)) c035_b5_0) (by kernel_rfl) (by kernel_rfl) (by kernel_rfl) (load1 (off := 0) (fun _ => by kernel_rfl) (holds_own .here) (by kernel_rfl)) ?_
      refine d_pure 4 145 (.int .i64 (((List.length (lget v0_b5_0 0)) : Nat) : Int)) (by kernel_rfl) (by kernel_rfl) (by kernel_rfl) (fun _ => by kernel_rfl) ?_
      refine d_pure 5 146 (.pointer (some ⟨b5_0, 1, none⟩)) (by kernel_rfl) (by kernel_rfl) (by kernel_rfl) (fun _ => by kernel_rfl) ?_
      refine d_load 6 147 (.slice a135_b5_0 (List.length (lget v0_b5_0 1)) c135_b5_0) (by kernel_rfl) (by kernel_rfl) (by kernel_rfl) (load1 (off := 1) (fun _ => by kernel_rfl) (holds_own .here) (by kernel_rfl)) ?_
      refine d_pure 7 148 (.int .i64 (((List.length (lget v0_b5_0 1)) : Nat) : Int)) (by kernel_rfl) (by kernel_rfl) (by kernel_rfl) (fun _ => by kernel_rfl) ?_
      obtain ⟨u35_8, hu35_8, H⟩ := letE H
      refine d_pure 8 149 (.int .i64 u35_8) (by kernel_rfl) (by kernel_rfl) (by kernel_rfl) (run_eq (v := .int .i64 (wr ((((List.length (lget v0_b5_0 0)) : Nat) : Int) + (((List.length (lget v0_b5_0 1)) : Nat) : Int)))) (fun _ => by kernel_rfl) (by rw [hu35_8])) ?_
      obtain ⟨y35_1, hy35_1, H⟩ := letE H
      refine d_call 1 142 [0] [8, 7, 5, 4, 2] [6, 3] 23 #[.pointer (some ⟨b2_1, 0, none⟩)] (by kernel_rfl) (by kernel_rfl) (by kernel_rfl) (fun _ => by kernel_rfl) (Tr.conv (Γ' := (CacheA b2_1 v0_b2_1) :: (Asn.own b5_0 (.cells #[.slice a035_b5_0 (List.length (lget v0_b5_0 0)) c035_b5_0, .slice a135_b5_0 (List.length (lget v0_b5_0 1)) c135_b5_0] 69 (0, 0))) :: (IntsA a035_b5_0 c035_b5_0 (lget v0_b5_0 0)) :: (IntsA a135_b5_0 c135_b5_0 (lget v0_b5_0 1)) :: Γ) (fun w hw => (Sat.less (.take (.there (.there (.there .here))) (.take .here (.take .here (.take .here .refl)))) hw)) (LenF_tr b2_1 v0_b2_1 y35_1 hy35_1)) ?_
      rintro _ _ ⟨rfl, rfl⟩
      refine ⟨(stable_cons 6 147 (.slice a135_b5_0 (List.length (lget v0_b5_0 1)) c135_b5_0) (by kernel_rfl) (by kernel_rfl) (by kernel_rfl) (load1 (off := 1) (fun _ => by kernel_rfl) (holds_own (.there .here)) (by kernel_rfl)) (stable_cons 3 144 (.slice a035_b5_0 (List.length (lget v0_b5_0 0)) c035_b5_0) (by kernel_rfl) (by kernel_rfl) (by kernel_rfl) (load1 (off := 0) (fun _ => by kernel_rfl) (holds_own (.there .here)) (by kernel_rfl)) stable_nil)), ?_⟩
      refine d_pure 9 150 (.bool (decide (y35_1 = u35_8))) (by kernel_rfl) (by kernel_rfl) (by kernel_rfl) (fun _ => by kernel_rfl) ?_
      rcases Bool.eq_false_or_eq_true (decide (y35_1 = u35_8)) with h13 | h13
      · replace H := bifT H h13
        refine d_pure 10 151 (.bool true) (by kernel_rfl) (by kernel_rfl) (by kernel_rfl) (run_eq (v := .bool (decide (y35_1 = u35_8))) (fun _ => by kernel_rfl) (congrArg Value.bool h13)) ?_
        obtain ⟨y35_11, hy35_11, H⟩ := bindE H
        refine d_call 11 152 [10, 9, 1, 8, 0, 4, 7, 3, 6, 2, 5] [] [] 29 #[] (by kernel_rfl) (by kernel_rfl) (by kernel_rfl) (fun _ => by kernel_rfl) (W8F_tr  y35_11 hy35_11) ?_
        rintro _ _ ⟨rfl, rfl⟩
        refine ⟨stable_nil, ?_⟩
        refine d_pure 12 153 (.bool y35_11) (by kernel_rfl) (by kernel_rfl) (by kernel_rfl) (fun _ => by kernel_rfl) ?_
        refine d_pure 13 4 (.bool y35_11) (by kernel_rfl) (by kernel_rfl) (by kernel_rfl) (fun _ => by kernel_rfl) ?_
        refine draw_end (by kernel_rfl) ?_
        refine At.env [(4, .bool y35_11)] ⟨by kernel_rfl, trivial⟩ ?_
        refine at_then_normal ?_
        refine at_ret (by kernel_rfl) ?_
        obtain rfl := someE H
        refine at_backR [.bool y35_11] (Γ) (rs := [.tmp 4]) (by kernel_rfl) (.cons (.tmp (by kernel_rfl)) .nil) (fun w hw => (Sat.less (.drop .here (.drop .here (.drop .here (.drop .here .refl)))) hw)) ?_
        exact ⟨rfl, rfl⟩
      · replace H := bifF H h13
        refine d_pure 10 151 (.bool false) (by kernel_rfl) (by kernel_rfl) (by kernel_rfl) (run_eq (v := .bool (decide (y35_1 = u35_8))) (fun _ => by kernel_rfl) (congrArg Value.bool h13)) ?_
        refine d_off 11 152 (by kernel_rfl) (by kernel_rfl) (by kernel_rfl) ?_
        refine d_pure 12 153 (.bool false) (by kernel_rfl) (by kernel_rfl) (by kernel_rfl) (fun _ => by kernel_rfl) ?_
        refine d_pure 13 4 (.bool false) (by kernel_rfl) (by kernel_rfl) (by kernel_rfl) (fun _ => by kernel_rfl) ?_
        refine draw_end (by kernel_rfl) ?_
        refine At.env [(4, .bool false)] ⟨by kernel_rfl, trivial⟩ ?_
        refine at_then_normal ?_
        refine at_ret (by kernel_rfl) ?_
        obtain rfl := someE H
        refine at_backR [.bool false] (Γ) (rs := [.tmp 4]) (by kernel_rfl) (.cons (.tmp (by kernel_rfl)) .nil) (fun w hw => (Sat.less (.drop .here (.drop .here (.drop .here (.drop .here .refl)))) hw)) ?_
        exact ⟨rfl, rfl⟩
  · refine at_region (id := 7) 8 (by kernel_rfl) (by kernel_rfl) ?_
    refine s_pure 24 (.int .i64 v0_7) (by kernel_rfl) (by kernel_rfl) (fun _ => by kernel_rfl) ?_
    refine s_pure 25 (.slice usesa (List.length uses) usescap) (by kernel_rfl) (by kernel_rfl) (fun _ => by kernel_rfl) ?_
    refine s_pure 26 (.int .i64 (((List.length uses) : Nat) : Int)) (by kernel_rfl) (by kernel_rfl) (fun _ => by kernel_rfl) ?_
    refine s_pure 27 (.bool (decide (v0_7 < (((List.length uses) : Nat) : Int)))) (by kernel_rfl) (by kernel_rfl) (fun _ => by kernel_rfl) ?_
    rcases Bool.eq_false_or_eq_true (decide (v0_7 < (((List.length uses) : Nat) : Int))) with h14 | h14
    · replace H := bifT H h14
      refine s_pure 28 (.bool true) (by kernel_rfl) (by kernel_rfl) (run_eq (v := .bool (decide (v0_7 < (((List.length uses) : Nat) : Int)))) (fun _ => by kernel_rfl) (congrArg Value.bool h14)) ?_
      refine s_pure 29 (.int .i64 v0_7) (by kernel_rfl) (by kernel_rfl) (fun _ => by kernel_rfl) ?_
      refine s_pure 30 (.bool (decide (v0_7 < (30 : Int)))) (by kernel_rfl) (by kernel_rfl) (fun _ => by kernel_rfl) ?_
      refine s_pure 31 (.bool (decide (v0_7 < (30 : Int)))) (by kernel_rfl) (by kernel_rfl) (fun _ => by kernel_rfl) ?_
      refine ops_end ?_
      refine At.env [(0, .int .i64 (wr ((1 : Int) + y1_1))), (1, .slice usesa (List.length uses) usescap), (5, .pointer (some ⟨b2_1, 0, none⟩)), (6, .pointer (some ⟨b5_0, 0, none⟩)), (7, .int .i64 v0_7), (31, .bool (decide (v0_7 < (30 : Int))))] ⟨by kernel_rfl, by kernel_rfl, by kernel_rfl, by kernel_rfl, by kernel_rfl, by kernel_rfl, trivial⟩ ?_
      refine at_round_normal ?_
      exact at_join_mk [(0, .int .i64 (wr ((1 : Int) + y1_1))), (1, .slice usesa (List.length uses) usescap), (5, .pointer (some ⟨b2_1, 0, none⟩)), (6, .pointer (some ⟨b5_0, 0, none⟩)), (7, .int .i64 v0_7), (31, .bool (decide (v0_7 < (30 : Int))))] ((ListsA b5_0 69 v0_b5_0) :: (CacheA b2_1 v0_b2_1) :: Γ) ⟨by kernel_rfl, by kernel_rfl, by kernel_rfl, by kernel_rfl, by kernel_rfl, by kernel_rfl, trivial⟩ (fun w hw => (Sat.less (.take .here (.take .here .refl)) hw)) ⟨decide (v0_7 < (30 : Int)), H, rfl, rfl⟩
    · replace H := bifF H h14
      refine s_pure 28 (.bool false) (by kernel_rfl) (by kernel_rfl) (run_eq (v := .bool (decide (v0_7 < (((List.length uses) : Nat) : Int)))) (fun _ => by kernel_rfl) (congrArg Value.bool h14)) ?_
      refine s_pass 29 (by kernel_rfl) (by kernel_rfl) ?_
      refine s_pass 30 (by kernel_rfl) (by kernel_rfl) ?_
      refine s_pure 31 (.bool false) (by kernel_rfl) (by kernel_rfl) (fun _ => by kernel_rfl) ?_
      refine ops_end ?_
      refine At.env [(0, .int .i64 (wr ((1 : Int) + y1_1))), (1, .slice usesa (List.length uses) usescap), (5, .pointer (some ⟨b2_1, 0, none⟩)), (6, .pointer (some ⟨b5_0, 0, none⟩)), (7, .int .i64 v0_7), (31, .bool false)] ⟨by kernel_rfl, by kernel_rfl, by kernel_rfl, by kernel_rfl, by kernel_rfl, by kernel_rfl, trivial⟩ ?_
      refine at_round_normal ?_
      exact at_join_mk [(0, .int .i64 (wr ((1 : Int) + y1_1))), (1, .slice usesa (List.length uses) usescap), (5, .pointer (some ⟨b2_1, 0, none⟩)), (6, .pointer (some ⟨b5_0, 0, none⟩)), (7, .int .i64 v0_7), (31, .bool false)] ((ListsA b5_0 69 v0_b5_0) :: (CacheA b2_1 v0_b2_1) :: Γ) ⟨by kernel_rfl, by kernel_rfl, by kernel_rfl, by kernel_rfl, by kernel_rfl, by kernel_rfl, trivial⟩ (fun w hw => (Sat.less (.take .here (.take .here .refl)) hw)) ⟨false, H, rfl, rfl⟩
end Go.Proofs.Ytfpiolnbnfngkaa
