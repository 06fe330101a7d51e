/- The law CacheSets: its walk. -/
import Derived.Test.YtfpiolnbnfngkaaVcA
import Derived.Test.YtfpiolnbnfngkaaKsA
import Derived.Test.YtfpiolnbnfngkaaSlMapV
namespace Go.Proofs.Ytfpiolnbnfngkaa
open Go Go.RowKit
set_option linter.unusedVariables false
set_option linter.unusedSimpArgs false
def wakes8S : Option (Bool) :=
  letP (newC (1 : Int) (1 : Int)) fun y1_0 => (linesS y1_0).bind fun y2_4 => (bif decide ((((List.length y2_4) : Nat) : Int) = (0 : Int)) then letP ([7] : List Int) fun l2_10 => (enewS (4 : Int) ((-1) : Int) ((-1) : Int) false l2_10).bind fun y2_11 => (putS y1_0 y2_11).bind fun y2_12 => (bif decide (y2_12.1 = (0 : Int)) then (enewS (5 : Int) ((-1) : Int) ((-1) : Int) false ([] : List Int)).bind fun y2_17 => (putS y2_12.2 y2_17).bind fun y2_18 => (bif decide (y2_18.1 = (5 : Int)) then letP (lenC y2_18.2) fun y2_23 => some (decide (y2_23 = (1 : Int))) else some false) else some false) else some false)
noncomputable def C29 (p : List Nat) : Code := codeAt (bodyOf Try.f29) p
set_option maxRecDepth 100000 in
set_option maxHeartbeats 8000000 in
theorem W8F_tr {W0 : World} {Γ : List Asn}   (y : Bool) (H : wakes8S = some y) : Tr Try.prog 29 #[] W0 (Γ) (fun r Δ => r = .bool y ∧ Δ = Γ) := by
  unfold wakes8S at H
  refine Tr.enter (fn := Try.f29) (c := C29 []) (args := []) 29 Try.func29 (by kernel_rfl) (by kernel_rfl) ?_
  refine At.env [] trivial ?_
  refine at_seq (x := C29 [0]) (y := C29 [1]) (by kernel_rfl) ?_
  refine at_region (id := 0) 1 (by kernel_rfl) (by kernel_rfl) ?_
  refine s_pure 0 (.bool false) (by kernel_rfl) (by kernel_rfl) (fun _ => by kernel_rfl) ?_
  refine ops_end ?_
  refine At.env [] trivial ?_
  refine at_then_normal ?_
  refine at_seq (x := C29 [1,0]) (y := C29 [1,1]) (by kernel_rfl) ?_
  refine at_region (id := 1) 2 (by kernel_rfl) (by kernel_rfl) ?_
  obtain ⟨y1_0, hy1_0, H⟩ := letE H
  refine s_call 2 13 #[.int .i64 (1), .int .i64 (1)] (by kernel_rfl) (by kernel_rfl) (fun _ => by kernel_rfl) (NewF_tr (1 : Int) (1 : Int) y1_0 hy1_0) ?_
  rintro _ _ ⟨b1_0, rfl, rfl⟩
  refine s_pure 1 (.pointer (some ⟨b1_0, 0, none⟩)) (by kernel_rfl) (by kernel_rfl) (fun _ => by kernel_rfl) ?_
  refine ops_end ?_
  refine At.env [(1, .pointer (some ⟨b1_0, 0, none⟩))] ⟨by kernel_rfl, trivial⟩ ?_
  refine at_then_normal ?_
  refine at_seq (x := C29 [1,1,0]) (y := C29 [1,1,1]) (by kernel_rfl) ?_
  refine at_region (id := 2) 27 (by kernel_rfl) (by kernel_rfl) ?_
  refine s_pure 3 (.pointer (some ⟨b1_0, 0, none⟩)) (by kernel_rfl) (by kernel_rfl) (fun _ => by kernel_rfl) ?_
  refine s_pure 4 (.bool true) (by kernel_rfl) (by kernel_rfl) (fun _ => by kernel_rfl) ?_
  refine s_pure 5 (.bool true) (by kernel_rfl) (by kernel_rfl) (fun _ => by kernel_rfl) ?_
  refine s_pure 6 (.pointer (some ⟨b1_0, 0, none⟩)) (by kernel_rfl) (by kernel_rfl) (fun _ => by kernel_rfl) ?_
  refine CacheA.tox .here ?_
  intro x2_4_b1_0
  obtain ⟨y2_4, hy2_4, H⟩ := bindE H
  refine s_call 7 28 #[.pointer (some ⟨b1_0, 0, none⟩)] (by kernel_rfl) (by kernel_rfl) (fun _ => by kernel_rfl) (LinesF_tr b1_0 x2_4_b1_0 y1_0 y2_4 hy2_4) ?_
  rintro _ _ ⟨a2_4_00, c2_4_00, rfl, rfl⟩
  refine s_pure 8 (.int .i64 (((List.length y2_4) : Nat) : Int)) (by kernel_rfl) (by kernel_rfl) (fun _ => by kernel_rfl) ?_
  refine s_pure 9 (.bool (decide ((((List.length y2_4) : Nat) : Int) = (0 : Int)))) (by kernel_rfl) (by kernel_rfl) (fun _ => by kernel_rfl) ?_
  refine s_pure 10 (.bool (decide ((((List.length y2_4) : Nat) : Int) = (0 : Int)))) (by kernel_rfl) (by kernel_rfl) (fun _ => by kernel_rfl) ?_
  rcases Bool.eq_false_or_eq_true (decide ((((List.length y2_4) : Nat) : Int) = (0 : Int))) with h1 | h1
  · replace H := bifT H h1
    refine s_pure 11 (.bool true) (by kernel_rfl) (by kernel_rfl) (run_eq (v := .bool (decide ((((List.length y2_4) : Nat) : Int) = (0 : Int)))) (fun _ => by kernel_rfl) (congrArg Value.bool h1)) ?_
    refine s_pure 12 (.pointer (some ⟨b1_0, 0, none⟩)) (by kernel_rfl) (by kernel_rfl) (fun _ => by kernel_rfl) ?_
    obtain ⟨l2_10, hl2_10, H⟩ := letE H
    refine s_step 13 (by kernel_rfl) (by kernel_rfl) (st_new_ints (T := 3) (xs := l2_10) 1 hl2_10 (fun _ => by kernel_rfl) (by kernel_rfl)) ?_
    rintro _ _ ⟨b2_10, rfl, rfl⟩
    obtain ⟨y2_11, hy2_11, H⟩ := bindE H
    refine s_call 14 16 #[.int .i64 (4), .int .i64 (-1), .int .i64 (-1), .bool false, .slice (some ⟨b2_10, 0, none⟩) (List.length l2_10) 1] (by kernel_rfl) (by kernel_rfl) (fun _ => by kernel_rfl) (ENewF_tr (4 : Int) ((-1) : Int) ((-1) : Int) false (some ⟨b2_10, 0, none⟩) 1 l2_10 (RowsA.reads (k := 1) .here) y2_11 hy2_11) ?_
    rintro _ _ ⟨a2_11_00, c2_11_00, rfl, rfl⟩
    refine At.conv (Γ' := (CacheA b1_0 y1_0) :: (IntsA a2_11_00 c2_11_00 y2_11.data) :: (IntsA (some ⟨b2_10, 0, none⟩) 1 l2_10) :: (IntsA a2_4_00 c2_4_00 y2_4) :: Γ) (fun w hw => CacheXA.shut (hw.pull (.there (.there (.there .here))))) ?_
    obtain ⟨y2_12, hy2_12, H⟩ := bindE H
    refine s_call 15 15 #[.pointer (some ⟨b1_0, 0, none⟩), .agg #[.int .i64 y2_11.fwd, .int .i64 y2_11.back, .int .i64 y2_11.line, .int .i64 y2_11.used, .bool y2_11.dirty, .slice a2_11_00 (List.length y2_11.data) c2_11_00]] (by kernel_rfl) (by kernel_rfl) (fun _ => by kernel_rfl) (PutF_tr b1_0 y1_0 a2_11_00 c2_11_00 y2_11 (RowsA.reads (k := 1) .here) y2_12 hy2_12) ?_
    rintro _ _ ⟨rfl, rfl⟩
    refine s_pure 16 (.bool (decide (y2_12.1 = (0 : Int)))) (by kernel_rfl) (by kernel_rfl) (fun _ => by kernel_rfl) ?_
    refine s_pure 17 (.bool (decide (y2_12.1 = (0 : Int)))) (by kernel_rfl) (by kernel_rfl) (fun _ => by kernel_rfl) ?_
    rcases Bool.eq_false_or_eq_true (decide (y2_12.1 = (0 : Int))) with h2 | h2
    · replace H := bifT H h2
      refine s_pure 18 (.bool true) (by kernel_rfl) (by kernel_rfl) (run_eq (v := .bool (decide (y2_12.1 = (0 : Int)))) (fun _ => by kernel_rfl) (congrArg Value.bool h2)) ?_
      refine s_pure 19 (.pointer (some ⟨b1_0, 0, none⟩)) (by kernel_rfl) (by kernel_rfl) (fun _ => by kernel_rfl) ?_
      obtain ⟨y2_17, hy2_17, H⟩ := bindE H
      refine s_call 20 16 #[.int .i64 (5), .int .i64 (-1), .int .i64 (-1), .bool false, .slice none 0 0] (by kernel_rfl) (by kernel_rfl) (fun _ => by kernel_rfl) (ENewF_tr (5 : Int) ((-1) : Int) ((-1) : Int) false none 0 ([] : List Int) Reads.nil y2_17 hy2_17) ?_
      rintro _ _ ⟨a2_17_00, c2_17_00, rfl, rfl⟩
      obtain ⟨y2_18, hy2_18, H⟩ := bindE H
      refine s_call 21 15 #[.pointer (some ⟨b1_0, 0, none⟩), .agg #[.int .i64 y2_17.fwd, .int .i64 y2_17.back, .int .i64 y2_17.line, .int .i64 y2_17.used, .bool y2_17.dirty, .slice a2_17_00 (List.length y2_17.data) c2_17_00]] (by kernel_rfl) (by kernel_rfl) (fun _ => by kernel_rfl) (Tr.conv (Γ' := (CacheA b1_0 y2_12.2) :: (IntsA a2_17_00 c2_17_00 y2_17.data) :: (IntsA a2_11_00 c2_11_00 y2_11.data) :: (IntsA (some ⟨b2_10, 0, none⟩) 1 l2_10) :: (IntsA a2_4_00 c2_4_00 y2_4) :: Γ) (fun w hw => (Sat.less (.take (.there .here) (.take .here (.take .here (.take .here (.take .here .refl))))) hw)) (PutF_tr b1_0 y2_12.2 a2_17_00 c2_17_00 y2_17 (RowsA.reads (k := 1) .here) y2_18 hy2_18)) ?_
      rintro _ _ ⟨rfl, rfl⟩
      refine s_pure 22 (.bool (decide (y2_18.1 = (5 : Int)))) (by kernel_rfl) (by kernel_rfl) (fun _ => by kernel_rfl) ?_
      refine s_pure 23 (.bool (decide (y2_18.1 = (5 : Int)))) (by kernel_rfl) (by kernel_rfl) (fun _ => by kernel_rfl) ?_
      rcases Bool.eq_false_or_eq_true (decide (y2_18.1 = (5 : Int))) with h3 | h3
      · replace H := bifT H h3
        refine s_pure 24 (.bool true) (by kernel_rfl) (by kernel_rfl) (run_eq (v := .bool (decide (y2_18.1 = (5 : Int)))) (fun _ => by kernel_rfl) (congrArg Value.bool h3)) ?_
        refine s_pure 25 (.pointer (some ⟨b1_0, 0, none⟩)) (by kernel_rfl) (by kernel_rfl) (fun _ => by kernel_rfl) ?_
        obtain ⟨y2_23, hy2_23, H⟩ := letE H
        refine s_call 26 23 #[.pointer (some ⟨b1_0, 0, none⟩)] (by kernel_rfl) (by kernel_rfl) (fun _ => by kernel_rfl) (LenF_tr b1_0 y2_18.2 y2_23 hy2_23) ?_
        rintro _ _ ⟨rfl, rfl⟩
        refine s_pure 27 (.bool (decide (y2_23 = (1 : Int)))) (by kernel_rfl) (by kernel_rfl) (fun _ => by kernel_rfl) ?_
        refine s_pure 28 (.bool (decide (y2_23 = (1 : Int)))) (by kernel_rfl) (by kernel_rfl) (fun _ => by kernel_rfl) ?_
        refine s_pure 0 (.bool (decide (y2_23 = (1 : Int)))) (by kernel_rfl) (by kernel_rfl) (fun _ => by kernel_rfl) ?_
        refine ops_end ?_
        refine At.env [(0, .bool (decide (y2_23 = (1 : Int))))] ⟨by kernel_rfl, trivial⟩ ?_
        refine at_then_normal ?_
        refine at_ret (by kernel_rfl) ?_
        obtain rfl := someE H
        refine at_backR [.bool (decide (y2_23 = (1 : Int)))] (Γ) (rs := [.tmp 0]) (by kernel_rfl) (.cons (.tmp (by kernel_rfl)) .nil) (fun w hw => (Sat.less (.drop .here (.drop .here (.drop .here (.drop .here (.drop .here .refl))))) hw)) ?_
        exact ⟨rfl, rfl⟩
      · replace H := bifF H h3
        refine s_pure 24 (.bool false) (by kernel_rfl) (by kernel_rfl) (run_eq (v := .bool (decide (y2_18.1 = (5 : Int)))) (fun _ => by kernel_rfl) (congrArg Value.bool h3)) ?_
        refine s_pass 25 (by kernel_rfl) (by kernel_rfl) ?_
        refine s_pass 26 (by kernel_rfl) (by kernel_rfl) ?_
        refine s_pass 27 (by kernel_rfl) (by kernel_rfl) ?_
        refine s_pure 28 (.bool false) (by kernel_rfl) (by kernel_rfl) (fun _ => by kernel_rfl) ?_
        refine s_pure 0 (.bool false) (by kernel_rfl) (by kernel_rfl) (fun _ => by kernel_rfl) ?_
        refine ops_end ?_
        refine At.env [(0, .bool false)] ⟨by kernel_rfl, trivial⟩ ?_
        refine at_then_normal ?_
        refine at_ret (by kernel_rfl) ?_
        obtain rfl := someE H
        refine at_backR [.bool false] (Γ) (rs := [.tmp 0]) (by kernel_rfl) (.cons (.tmp (by kernel_rfl)) .nil) (fun w hw => (Sat.less (.drop .here (.drop .here (.drop .here (.drop .here (.drop .here .refl))))) hw)) ?_
        exact ⟨rfl, rfl⟩
    · replace H := bifF H h2
      refine s_pure 18 (.bool false) (by kernel_rfl) (by kernel_rfl) (run_eq (v := .bool (decide (y2_12.1 = (0 : Int)))) (fun _ => by kernel_rfl) (congrArg Value.bool h2)) ?_
      refine s_pass 19 (by kernel_rfl) (by kernel_rfl) ?_
      refine s_pass 20 (by kernel_rfl) (by kernel_rfl) ?_
      refine s_pass 21 (by kernel_rfl) (by kernel_rfl) ?_
      refine s_pass 22 (by kernel_rfl) (by kernel_rfl) ?_
      refine s_pure 23 (.bool false) (by kernel_rfl) (by kernel_rfl) (fun _ => by kernel_rfl) ?_
      refine s_pure 24 (.bool false) (by kernel_rfl) (by kernel_rfl) (fun _ => by kernel_rfl) ?_
      refine s_pass 25 (by kernel_rfl) (by kernel_rfl) ?_
      refine s_pass 26 (by kernel_rfl) (by kernel_rfl) ?_
      refine s_pass 27 (by kernel_rfl) (by kernel_rfl) ?_
      refine s_pure 28 (.bool false) (by kernel_rfl) (by kernel_rfl) (fun _ => by kernel_rfl) ?_
      refine s_pure 0 (.bool false) (by kernel_rfl) (by kernel_rfl) (fun _ => by kernel_rfl) ?_
      refine ops_end ?_
      refine At.env [(0, .bool false)] ⟨by kernel_rfl, trivial⟩ ?_
      refine at_then_normal ?_
      refine at_ret (by kernel_rfl) ?_
      obtain rfl := someE H
      refine at_backR [.bool false] (Γ) (rs := [.tmp 0]) (by kernel_rfl) (.cons (.tmp (by kernel_rfl)) .nil) (fun w hw => (Sat.less (.drop .here (.drop .here (.drop .here (.drop .here .refl)))) hw)) ?_
      exact ⟨rfl, rfl⟩
  · replace H := bifF H h1
    refine s_pure 11 (.bool false) (by kernel_rfl) (by kernel_rfl) (run_eq (v := .bool (decide ((((List.length y2_4) : Nat) : Int) = (0 : Int)))) (fun _ => by kernel_rfl) (congrArg Value.bool h1)) ?_
    refine s_pass 12 (by kernel_rfl) (by kernel_rfl) ?_
    refine s_pass 13 (by kernel_rfl) (by kernel_rfl) ?_
    refine s_pass 14 (by kernel_rfl) (by kernel_rfl) ?_
    refine s_pass 15 (by kernel_rfl) (by kernel_rfl) ?_
    refine s_pass 16 (by kernel_rfl) (by kernel_rfl) ?_
    refine s_pure 17 (.bool false) (by kernel_rfl) (by kernel_rfl) (fun _ => by kernel_rfl) ?_
    refine s_pure 18 (.bool false) (by kernel_rfl) (by kernel_rfl) (fun _ => by kernel_rfl) ?_
    refine s_pass 19 (by kernel_rfl) (by kernel_rfl) ?_
    refine s_pass 20 (by kernel_rfl) (by kernel_rfl) ?_
    refine s_pass 21 (by kernel_rfl) (by kernel_rfl) ?_
    refine s_pass 22 (by kernel_rfl) (by kernel_rfl) ?_
    refine s_pure 23 (.bool false) (by kernel_rfl) (by kernel_rfl) (fun _ => by kernel_rfl) ?_
    refine s_pure 24 (.bool false) (by kernel_rfl) (by kernel_rfl) (fun _ => by kernel_rfl) ?_
    refine s_pass 25 (by kernel_rfl) (by kernel_rfl) ?_
    refine s_pass 26 (by kernel_rfl) (by kernel_rfl) ?_
    refine s_pass 27 (by kernel_rfl) (by kernel_rfl) ?_
    refine s_pure 28 (.bool false) (by kernel_rfl) (by kernel_rfl) (fun _ => by kernel_rfl) ?_
    refine s_pure 0 (.bool false) (by kernel_rfl) (by kernel_rfl) (fun _ => by kernel_rfl) ?_
    refine ops_end ?_
    refine At.env [(0, .bool false)] ⟨by kernel_rfl, trivial⟩ ?_
    refine at_then_normal ?_
    refine at_ret (by kernel_rfl) ?_
    refine At.conv (Γ' := (CacheA b1_0 y1_0) :: (IntsA a2_4_00 c2_4_00 y2_4) :: Γ) (fun w hw => CacheXA.shut (hw.pull (.there .here))) ?_
    obtain rfl := someE H
    refine at_backR [.bool false] (Γ) (rs := [.tmp 0]) (by kernel_rfl) (.cons (.tmp (by kernel_rfl)) .nil) (fun w hw => (Sat.less (.drop .here (.drop .here .refl)) hw)) ?_
    exact ⟨rfl, rfl⟩
def cacheSetsS_j2 (v1_118 : Int) (r1 : Int → Option (Bool)) : Option (Bool) :=
  chk (inR (v1_118 + (1 : Int))) (r1 (v1_118 + (1 : Int)))
def cacheSetsS_j3 (v1_118 : Int) (r1 : Int → Option (Bool)) (e3_143 : Bool) : Option (Bool) :=
  (bif e3_143 then some false else cacheSetsS_j2 v1_118 r1)
def cacheSetsS_k1 (y21_1 : (List Int)) (e0_m5_0 : List (Int × Bool)) (e0_b2_2 : CacheS) (e1_118 : Int) : Option (Bool) :=
  (bif decide ((((List.length y21_1) : Nat) : Int) = ((List.length e0_m5_0 : Nat) : Int)) then letP (lenC e0_b2_2) fun y28_7 => (bif decide (y28_7 = ((List.length e0_m5_0 : Nat) : Int)) then (wakes8S).bind fun y28_13 => some y28_13 else some false) else some false)
def cacheSetsS_l1 (y21_1 : (List Int)) (e0_m5_0 : List (Int × Bool)) (k1 : Int → Option (Bool)) : Nat → Int → Option (Bool)
  | 0 => fun _ => none
  | m + 1 => fun v1_118 => (bif decide (v1_118 < (((List.length y21_1) : Nat) : Int)) then chk (0 ≤ v1_118 ∧ v1_118 < ((y21_1.length : Nat) : Int)) (letP (mget e0_m5_0 (nth y21_1 v1_118)) fun y25_5 => (bif !(y25_5.getD false) then cacheSetsS_j3 v1_118 (cacheSetsS_l1 y21_1 e0_m5_0 k1 m) true else (bif decide ((0 : Int) < v1_118) then chk (0 ≤ v1_118 ∧ v1_118 < ((y21_1.length : Nat) : Int)) (chk (inR (v1_118 - (1 : Int))) (chk (0 ≤ (v1_118 - (1 : Int)) ∧ (v1_118 - (1 : Int)) < ((y21_1.length : Nat) : Int)) (cacheSetsS_j3 v1_118 (cacheSetsS_l1 y21_1 e0_m5_0 k1 m) (decide ((nth y21_1 v1_118) ≤ (nth y21_1 (v1_118 - (1 : Int)))))))) else cacheSetsS_j3 v1_118 (cacheSetsS_l1 y21_1 e0_m5_0 k1 m) false))) else k1 v1_118)
def cacheSetsS_j5 (v0_10 : Int) (r0 : (List Int) → Int → (List (Int × Bool)) → CacheS → Option (Bool)) (e5_9x : List Int) (e5_m5_0 : List (Int × Bool)) (e5_b2_2 : CacheS) : Option (Bool) :=
  chk (inR (v0_10 + (1 : Int))) (r0 e5_9x (v0_10 + (1 : Int)) e5_m5_0 e5_b2_2)
def cacheSetsS_j9 (v0_10 : Int) (r0 : (List Int) → Int → (List (Int × Bool)) → CacheS → Option (Bool)) (e8_9x : List Int) (e8_m5_0 : List (Int × Bool)) (e7_b2_2 : CacheS) (e9_113 : Bool) : Option (Bool) :=
  (bif e9_113 then some false else cacheSetsS_j5 v0_10 r0 e8_9x e8_m5_0 e7_b2_2)
def cacheSetsS_j8 (e7_b2_2 : CacheS) (y10_4 : Int) (v0_10 : Int) (r0 : (List Int) → Int → (List (Int × Bool)) → CacheS → Option (Bool)) (e8_9x : List Int) (e8_m5_0 : List (Int × Bool)) : Option (Bool) :=
  (findS e7_b2_2 y10_4).bind fun y18_2 => letP (mget e8_m5_0 y10_4) fun y19_3 => (bif !(y18_2.2 == (y19_3.getD false)) then cacheSetsS_j9 v0_10 r0 e8_9x e8_m5_0 e7_b2_2 true else (bif y18_2.2 then cacheSetsS_j9 v0_10 r0 e8_9x e8_m5_0 e7_b2_2 (!(decide (y18_2.1.fwd = v0_10))) else cacheSetsS_j9 v0_10 r0 e8_9x e8_m5_0 e7_b2_2 false))
def cacheSetsS_j10 (v0_m5_0 : List (Int × Bool)) (y10_4 : Int) (y1_1 : Int) (v0_9x : List Int) (e7_b2_2 : CacheS) (v0_10 : Int) (r0 : (List Int) → Int → (List (Int × Bool)) → CacheS → Option (Bool)) (e10_84 : Bool) : Option (Bool) :=
  (bif e10_84 then letP (mset v0_m5_0 y10_4 true) fun m16_2 => chk (0 ≤ (y10_4.tmod (wr ((1 : Int) + y1_1))) ∧ (y10_4.tmod (wr ((1 : Int) + y1_1))) < ((v0_9x.length : Nat) : Int)) (letP (wr ((nth v0_9x (y10_4.tmod (wr ((1 : Int) + y1_1)))) + (1 : Int))) fun u17_4 => chk (0 ≤ (y10_4.tmod (wr ((1 : Int) + y1_1))) ∧ (y10_4.tmod (wr ((1 : Int) + y1_1))) < ((v0_9x.length : Nat) : Int)) (letP (setI v0_9x (y10_4.tmod (wr ((1 : Int) + y1_1))) u17_4) fun w17_6 => cacheSetsS_j8 e7_b2_2 y10_4 v0_10 r0 w17_6 m16_2)) else cacheSetsS_j8 e7_b2_2 y10_4 v0_10 r0 v0_9x v0_m5_0)
def cacheSetsS_j7 (e6_13 : Bool) (v0_m5_0 : List (Int × Bool)) (y10_4 : Int) (y1_1 : Int) (v0_9x : List Int) (v0_10 : Int) (r0 : (List Int) → Int → (List (Int × Bool)) → CacheS → Option (Bool)) (e7_76 : Bool) (e7_b2_2 : CacheS) : Option (Bool) :=
  (bif e7_76 then some false else (bif !e6_13 then letP (mget v0_m5_0 y10_4) fun y15_5 => cacheSetsS_j10 v0_m5_0 y10_4 y1_1 v0_9x e7_b2_2 v0_10 r0 (!(y15_5.getD false)) else cacheSetsS_j10 v0_m5_0 y10_4 y1_1 v0_9x e7_b2_2 v0_10 r0 false))
def cacheSetsS_j6 (v0_b2_2 : CacheS) (y10_4 : Int) (v0_m5_0 : List (Int × Bool)) (y1_1 : Int) (v0_9x : List Int) (v0_10 : Int) (r0 : (List Int) → Int → (List (Int × Bool)) → CacheS → Option (Bool)) (e6_13 : Bool) : Option (Bool) :=
  (fullS v0_b2_2 y10_4).bind fun y13_2 => (bif !(y13_2 == e6_13) then cacheSetsS_j7 e6_13 v0_m5_0 y10_4 y1_1 v0_9x v0_10 r0 true v0_b2_2 else (enewS y10_4 v0_10 ((-1) : Int) false ([] : List Int)).bind fun y13_9 => (putS v0_b2_2 y13_9).bind fun y13_10 => cacheSetsS_j7 e6_13 v0_m5_0 y10_4 y1_1 v0_9x v0_10 r0 ((decide (y13_10.1 = (0 : Int))) == e6_13) y13_10.2)
def cacheSetsS_j4 (v0_10 : Int) (lines : List Int) (y1_1 : Int) (v0_m5_0 : List (Int × Bool)) (v0_9x : List Int) (v0_b2_2 : CacheS) (r0 : (List Int) → Int → (List (Int × Bool)) → CacheS → Option (Bool)) (y1_4 : Int) (k0 : (List Int) → Int → (List (Int × Bool)) → CacheS → Option (Bool)) (e4_39 : Bool) : Option (Bool) :=
  (bif e4_39 then chk (0 ≤ v0_10 ∧ v0_10 < ((lines.length : Nat) : Int)) ((withinS (nth lines v0_10) (16 : Int)).bind fun y10_4 => chk (1 ≤ (wr ((1 : Int) + y1_1))) (letP (mget v0_m5_0 y10_4) fun y12_2 => (bif !(y12_2.getD false) then chk (0 ≤ (y10_4.tmod (wr ((1 : Int) + y1_1))) ∧ (y10_4.tmod (wr ((1 : Int) + y1_1))) < ((v0_9x.length : Nat) : Int)) (cacheSetsS_j6 v0_b2_2 y10_4 v0_m5_0 y1_1 v0_9x v0_10 r0 (decide ((nth v0_9x (y10_4.tmod (wr ((1 : Int) + y1_1)))) = (wr ((1 : Int) + y1_4))))) else cacheSetsS_j6 v0_b2_2 y10_4 v0_m5_0 y1_1 v0_9x v0_10 r0 false))) else k0 v0_9x v0_10 v0_m5_0 v0_b2_2)
def cacheSetsS_k0 (e0_9x : List Int) (e0_10 : Int) (e0_m5_0 : List (Int × Bool)) (e0_b2_2 : CacheS) : Option (Bool) :=
  (linesS e0_b2_2).bind fun y21_1 => cacheSetsS_l1 y21_1 e0_m5_0 (cacheSetsS_k1 y21_1 e0_m5_0 e0_b2_2) 64 0
def cacheSetsS_l0 (lines : List Int) (y1_1 : Int) (y1_4 : Int) (k0 : (List Int) → Int → (List (Int × Bool)) → CacheS → Option (Bool)) : Nat → (List Int) → Int → (List (Int × Bool)) → CacheS → Option (Bool)
  | 0 => fun _ _ _ _ => none
  | m + 1 => fun v0_9x v0_10 v0_m5_0 v0_b2_2 => (bif decide (v0_10 < (((List.length lines) : Nat) : Int)) then cacheSetsS_j4 v0_10 lines y1_1 v0_m5_0 v0_9x v0_b2_2 (cacheSetsS_l0 lines y1_1 y1_4 k0 m) y1_4 k0 (decide (v0_10 < (30 : Int))) else cacheSetsS_j4 v0_10 lines y1_1 v0_m5_0 v0_9x v0_b2_2 (cacheSetsS_l0 lines y1_1 y1_4 k0 m) y1_4 k0 false)
def cacheSetsS (sets : Int) (ways : Int) (lines : List Int) : Option (Bool) :=
  (withinS sets (4 : Int)).bind fun y1_1 => (withinS ways (3 : Int)).bind fun y1_4 => letP (newC (wr ((1 : Int) + y1_1)) (wr ((1 : Int) + y1_4))) fun y2_2 => chk (0 ≤ (wr ((1 : Int) + y1_1)) ∧ (wr ((1 : Int) + y1_1)) ≤ 1099511627776) (letP (List.replicate ((wr ((1 : Int) + y1_1))).toNat (0 : Int)) fun l6_1 => cacheSetsS_l0 lines y1_1 y1_4 (cacheSetsS_k0 ) 64 l6_1 0 ([] : List (Int × Bool)) y2_2)
noncomputable def C6 (p : List Nat) : Code := codeAt (bodyOf Try.f6) p
set_option maxRecDepth 100000 in
set_option maxHeartbeats 8000000 in
theorem CacheSetsF_tr {W0 : World} {Γ : List Asn} (sets : Int) (ways : Int) (linesa : Option Addr) (linescap : Nat) (lines : List Int) (hrlinesa : Reads W0 Γ linesa (ints lines)) (y : Bool) (H : cacheSetsS sets ways lines = some y) : Tr Try.prog 6 #[.int .i64 sets, .int .i64 ways, .slice linesa (List.length lines) linescap] W0 (Γ) (fun r Δ => r = .bool y ∧ Δ = Γ) := by
  unfold cacheSetsS at H
  refine Tr.enter (fn := Try.f6) (c := C6 []) (args := [.int .i64 sets, .int .i64 ways, .slice linesa (List.length lines) linescap]) 160 Try.func6 (by kernel_rfl) (by kernel_rfl) ?_
  refine At.env [(0, .int .i64 sets), (1, .int .i64 ways), (2, .slice linesa (List.length lines) linescap)] ⟨by kernel_rfl, by kernel_rfl, by kernel_rfl, trivial⟩ ?_
  refine at_seq (x := C6 [0]) (y := C6 [1]) (by kernel_rfl) ?_
  refine at_region (id := 0) 1 (by kernel_rfl) (by kernel_rfl) ?_
  refine s_pure 6 (.bool false) (by kernel_rfl) (by kernel_rfl) (fun _ => by kernel_rfl) ?_
  refine ops_end ?_
  refine At.env [(0, .int .i64 sets), (1, .int .i64 ways), (2, .slice linesa (List.length lines) linescap)] ⟨by kernel_rfl, by kernel_rfl, by kernel_rfl, trivial⟩ ?_
  refine at_then_normal ?_
  refine at_seq (x := C6 [1,0]) (y := C6 [1,1]) (by kernel_rfl) ?_
  refine at_region (id := 1) 8 (by kernel_rfl) (by kernel_rfl) ?_
  refine s_pure 18 (.int .i64 sets) (by kernel_rfl) (by kernel_rfl) (fun _ => by kernel_rfl) ?_
  obtain ⟨y1_1, hy1_1, H⟩ := bindE H
  refine s_quiet 19 (.int .i64 y1_1) 17 #[.int .i64 sets, .int .i64 (4)] (by kernel_rfl) (by kernel_rfl) (fun _ => by kernel_rfl) (WithinF_tr sets (4 : Int) y1_1 hy1_1) ?_
  refine s_pure 20 (.int .i64 (wr ((1 : Int) + y1_1))) (by kernel_rfl) (by kernel_rfl) (fun _ => by kernel_rfl) ?_
  refine s_pure 21 (.int .i64 ways) (by kernel_rfl) (by kernel_rfl) (fun _ => by kernel_rfl) ?_
  obtain ⟨y1_4, hy1_4, H⟩ := bindE H
  refine s_quiet 22 (.int .i64 y1_4) 17 #[.int .i64 ways, .int .i64 (3)] (by kernel_rfl) (by kernel_rfl) (fun _ => by kernel_rfl) (WithinF_tr ways (3 : Int) y1_4 hy1_4) ?_
  refine s_pure 23 (.int .i64 (wr ((1 : Int) + y1_4))) (by kernel_rfl) (by kernel_rfl) (fun _ => by kernel_rfl) ?_
  refine s_pure 0 (.int .i64 (wr ((1 : Int) + y1_1))) (by kernel_rfl) (by kernel_rfl) (fun _ => by kernel_rfl) ?_
  refine s_pure 1 (.int .i64 (wr ((1 : Int) + y1_4))) (by kernel_rfl) (by kernel_rfl) (fun _ => by kernel_rfl) ?_
  refine ops_end ?_
  refine At.env [(0, .int .i64 (wr ((1 : Int) + y1_1))), (1, .int .i64 (wr ((1 : Int) + y1_4))), (2, .slice linesa (List.length lines) linescap)] ⟨by kernel_rfl, by kernel_rfl, by kernel_rfl, trivial⟩ ?_
  refine at_then_normal ?_
  refine at_seq (x := C6 [1,1,0]) (y := C6 [1,1,1]) (by kernel_rfl) ?_
  refine at_region (id := 2) 4 (by kernel_rfl) (by kernel_rfl) ?_
  refine s_pure 24 (.int .i64 (wr ((1 : Int) + y1_1))) (by kernel_rfl) (by kernel_rfl) (fun _ => by kernel_rfl) ?_
  refine s_pure 25 (.int .i64 (wr ((1 : Int) + y1_4))) (by kernel_rfl) (by kernel_rfl) (fun _ => by kernel_rfl) ?_
  obtain ⟨y2_2, hy2_2, H⟩ := letE H
  refine s_call 26 13 #[.int .i64 (wr ((1 : Int) + y1_1)), .int .i64 (wr ((1 : Int) + y1_4))] (by kernel_rfl) (by kernel_rfl) (fun _ => by kernel_rfl) (NewF_tr (wr ((1 : Int) + y1_1)) (wr ((1 : Int) + y1_4)) y2_2 hy2_2) ?_
  rintro _ _ ⟨b2_2, rfl, rfl⟩
  refine s_pure 7 (.pointer (some ⟨b2_2, 0, none⟩)) (by kernel_rfl) (by kernel_rfl) (fun _ => by kernel_rfl) ?_
  refine ops_end ?_
  refine At.env [(0, .int .i64 (wr ((1 : Int) + y1_1))), (1, .int .i64 (wr ((1 : Int) + y1_4))), (2, .slice linesa (List.length lines) linescap), (7, .pointer (some ⟨b2_2, 0, none⟩))] ⟨by kernel_rfl, by kernel_rfl, by kernel_rfl, by kernel_rfl, trivial⟩ ?_
  refine at_then_normal ?_
  refine at_seq (x := C6 [1,1,1,0]) (y := C6 [1,1,1,1]) (by kernel_rfl) ?_
  refine at_seq (x := C6 [1,1,1,0,0]) (y := C6 [1,1,1,0,1]) (by kernel_rfl) ?_
  refine at_region (id := 3) 2 (by kernel_rfl) (by kernel_rfl) ?_
  refine s_pure 27 (.pointer (some ⟨b2_2, 0, none⟩)) (by kernel_rfl) (by kernel_rfl) (fun _ => by kernel_rfl) ?_
  refine s_pure 28 (.bool false) (by kernel_rfl) (by kernel_rfl) (fun _ => by kernel_rfl) ?_
  refine ops_end ?_
  refine At.env [(0, .int .i64 (wr ((1 : Int) + y1_1))), (1, .int .i64 (wr ((1 : Int) + y1_4))), (2, .slice linesa (List.length lines) linescap), (7, .pointer (some ⟨b2_2, 0, none⟩)), (28, .bool false)] ⟨by kernel_rfl, by kernel_rfl, by kernel_rfl, by kernel_rfl, by kernel_rfl, trivial⟩ ?_
  refine at_then_normal ?_
  refine at_false (t := false) (x := C6 [1,1,1,0,1,0]) (y := C6 [1,1,1,0,1,1]) (o := .tmp 28) (by kernel_rfl) (by kernel_rfl) (by kernel_rfl) rfl ?_
  refine at_skip (by kernel_rfl) ?_
  refine at_then_normal ?_
  refine at_seq (x := C6 [1,1,1,1,0]) (y := C6 [1,1,1,1,1]) (by kernel_rfl) ?_
  refine at_region (id := 5) 2 (by kernel_rfl) (by kernel_rfl) ?_
  refine s_step 29 (by kernel_rfl) (by kernel_rfl) (st_kmap_make (t := 48) (fun _ => by kernel_rfl)) ?_
  rintro _ _ ⟨m5_0, rfl, rfl⟩
  refine At.conv (Γ' := (VMapA Value.bool m5_0 ([] : List (Int × Bool))) :: (CacheA b2_2 y2_2) :: Γ) (fun w hw => hw) ?_
  refine s_pure 8 (.map (some m5_0)) (by kernel_rfl) (by kernel_rfl) (fun _ => by kernel_rfl) ?_
  refine ops_end ?_
  refine At.env [(0, .int .i64 (wr ((1 : Int) + y1_1))), (1, .int .i64 (wr ((1 : Int) + y1_4))), (2, .slice linesa (List.length lines) linescap), (7, .pointer (some ⟨b2_2, 0, none⟩)), (8, .map (some m5_0))] ⟨by kernel_rfl, by kernel_rfl, by kernel_rfl, by kernel_rfl, by kernel_rfl, trivial⟩ ?_
  refine at_then_normal ?_
  refine at_seq (x := C6 [1,1,1,1,1,0]) (y := C6 [1,1,1,1,1,1]) (by kernel_rfl) ?_
  refine at_region (id := 6) 3 (by kernel_rfl) (by kernel_rfl) ?_
  refine s_pure 30 (.int .i64 (wr ((1 : Int) + y1_1))) (by kernel_rfl) (by kernel_rfl) (fun _ => by kernel_rfl) ?_
  obtain ⟨hc6_1_0, H⟩ := chkE H
  obtain ⟨l6_1, hl6_1, H⟩ := letE H
  refine s_step 31 (by kernel_rfl) (by kernel_rfl) (st_make_ints (t := 22) (E := 3) (c := (wr ((1 : Int) + y1_1))) (tinfo 3) (fun _ => by kernel_rfl) (by kernel_rfl) (by kernel_rfl) (by kernel_rfl) (by kernel_rfl) (by kernel_rfl) hc6_1_0 hl6_1) ?_
  rintro _ _ ⟨b6_1, rfl, rfl⟩
  refine s_pure 9 (.slice (some ⟨b6_1, 0, none⟩) (List.length l6_1) (((wr ((1 : Int) + y1_1))).toNat)) (by kernel_rfl) (by kernel_rfl) (fun _ => by kernel_rfl) ?_
  refine ops_end ?_
  refine At.env [(0, .int .i64 (wr ((1 : Int) + y1_1))), (1, .int .i64 (wr ((1 : Int) + y1_4))), (2, .slice linesa (List.length lines) linescap), (7, .pointer (some ⟨b2_2, 0, none⟩)), (8, .map (some m5_0)), (9, .slice (some ⟨b6_1, 0, none⟩) (List.length l6_1) (((wr ((1 : Int) + y1_1))).toNat))] ⟨by kernel_rfl, by kernel_rfl, by kernel_rfl, by kernel_rfl, by kernel_rfl, by kernel_rfl, trivial⟩ ?_
  refine at_then_normal ?_
  refine at_seq (x := C6 [1,1,1,1,1,1,0]) (y := C6 [1,1,1,1,1,1,1]) (by kernel_rfl) ?_
  refine at_seq (x := C6 [1,1,1,1,1,1,0,0]) (y := C6 [1,1,1,1,1,1,0,1]) (by kernel_rfl) ?_
  refine at_region (id := 7) 1 (by kernel_rfl) (by kernel_rfl) ?_
  refine s_pure 10 (.int .i64 (0)) (by kernel_rfl) (by kernel_rfl) (fun _ => by kernel_rfl) ?_
  refine ops_end ?_
  refine At.env [(0, .int .i64 (wr ((1 : Int) + y1_1))), (1, .int .i64 (wr ((1 : Int) + y1_4))), (2, .slice linesa (List.length lines) linescap), (7, .pointer (some ⟨b2_2, 0, none⟩)), (8, .map (some m5_0)), (9, .slice (some ⟨b6_1, 0, none⟩) (List.length l6_1) (((wr ((1 : Int) + y1_1))).toNat)), (10, .int .i64 (0))] ⟨by kernel_rfl, by kernel_rfl, by kernel_rfl, by kernel_rfl, by kernel_rfl, by kernel_rfl, by kernel_rfl, trivial⟩ ?_
  refine at_then_normal ?_
  refine at_block (i := 0) (x := C6 [1,1,1,1,1,1,0,1,0]) (by kernel_rfl) ?_
  refine At.conv (Γ' := (IntsA (some ⟨b6_1, 0, none⟩) (((wr ((1 : Int) + y1_1))).toNat) l6_1) :: (VMapA Value.bool m5_0 ([] : List (Int × Bool))) :: (CacheA b2_2 y2_2) :: Γ) (fun w hw => (Sat.less (.take .here (.take .here (.take .here .refl))) hw)) ?_
  refine at_loopR (x := C6 [1,1,1,1,1,1,0,1,0,0]) (fun mm ff ΔΔ => ∃ (fuel : Nat) (v0_9x : List Int) (v0_10 : Int) (v0_m5_0 : List (Int × Bool)) (v0_b2_2 : CacheS) (v0_9a : Option Addr) (v0_9c : Nat), cacheSetsS_l0 lines y1_1 y1_4 (cacheSetsS_k0 ) fuel v0_9x v0_10 v0_m5_0 v0_b2_2 = some y ∧ fuel = mm ∧ ff = [(0, .int .i64 (wr ((1 : Int) + y1_1))), (1, .int .i64 (wr ((1 : Int) + y1_4))), (2, .slice linesa (List.length lines) linescap), (7, .pointer (some ⟨b2_2, 0, none⟩)), (8, .map (some m5_0)), (9, .slice v0_9a (List.length v0_9x) v0_9c), (10, .int .i64 v0_10)] ∧ (IntsA v0_9a v0_9c v0_9x) :: (VMapA Value.bool m5_0 v0_m5_0) :: (CacheA b2_2 v0_b2_2) :: Γ = ΔΔ) (64) (by kernel_rfl) [(0, .int .i64 (wr ((1 : Int) + y1_1))), (1, .int .i64 (wr ((1 : Int) + y1_4))), (2, .slice linesa (List.length lines) linescap), (7, .pointer (some ⟨b2_2, 0, none⟩)), (8, .map (some m5_0)), (9, .slice (some ⟨b6_1, 0, none⟩) (List.length l6_1) (((wr ((1 : Int) + y1_1))).toNat)), (10, .int .i64 0)] ⟨by kernel_rfl, by kernel_rfl, by kernel_rfl, by kernel_rfl, by kernel_rfl, by kernel_rfl, by kernel_rfl, trivial⟩ ⟨64, l6_1, 0, ([] : List (Int × Bool)), y2_2, some ⟨b6_1, 0, none⟩, (((wr ((1 : Int) + y1_1))).toNat), H, rfl, rfl, rfl⟩ ?_
  rintro _ _ _ ⟨fuel1, v0_9x, v0_10, v0_m5_0, v0_b2_2, v0_9a, v0_9c, H, rfl, rfl, rfl⟩
  rcases fuel1 with _ | fuel1
  · exact (noneE H).elim
  rw [cacheSetsS_l0] at H
  refine at_seq (x := C6 [1,1,1,1,1,1,0,1,0,0,0]) (y := C6 [1,1,1,1,1,1,0,1,0,0,1]) (by kernel_rfl) ?_
  refine at_seq_join (x := C6 [1,1,1,1,1,1,0,1,0,0,0,0]) (y := C6 [1,1,1,1,1,1,0,1,0,0,0,1]) (fun ff ΔΔ => ∃ (e4_39 : Bool), cacheSetsS_j4 v0_10 lines y1_1 v0_m5_0 v0_9x v0_b2_2 (cacheSetsS_l0 lines y1_1 y1_4 (cacheSetsS_k0 ) fuel1) y1_4 (cacheSetsS_k0 ) e4_39 = some y ∧ ff = [(0, .int .i64 (wr ((1 : Int) + y1_1))), (1, .int .i64 (wr ((1 : Int) + y1_4))), (2, .slice linesa (List.length lines) linescap), (7, .pointer (some ⟨b2_2, 0, none⟩)), (8, .map (some m5_0)), (9, .slice v0_9a (List.length v0_9x) v0_9c), (10, .int .i64 v0_10), (39, .bool e4_39)] ∧ (IntsA v0_9a v0_9c v0_9x) :: (VMapA Value.bool m5_0 v0_m5_0) :: (CacheA b2_2 v0_b2_2) :: Γ = ΔΔ) (by kernel_rfl) ?_ ?_
  · rintro _ _ ⟨e4_39, H, rfl, rfl⟩
    rw [cacheSetsS_j4] at H
    rcases Bool.eq_false_or_eq_true (e4_39) with h1 | h1
    · replace H := bifT H h1
      refine at_true (t := e4_39) (x := C6 [1,1,1,1,1,1,0,1,0,0,0,1,0]) (y := C6 [1,1,1,1,1,1,0,1,0,0,0,1,1]) (o := .tmp 39) (by kernel_rfl) (by kernel_rfl) (by kernel_rfl) h1 ?_
      refine at_skip (by kernel_rfl) ?_
      refine at_then_normal ?_
      refine at_seq_join (x := C6 [1,1,1,1,1,1,0,1,0,0,1,0]) (y := C6 [1,1,1,1,1,1,0,1,0,0,1,1]) (fun ff ΔΔ => ∃ (e5_9x : List Int) (e5_m5_0 : List (Int × Bool)) (e5_b2_2 : CacheS) (e5_9a : Option Addr) (e5_9c : Nat), cacheSetsS_j5 v0_10 (cacheSetsS_l0 lines y1_1 y1_4 (cacheSetsS_k0 ) fuel1) e5_9x e5_m5_0 e5_b2_2 = some y ∧ ff = [(0, .int .i64 (wr ((1 : Int) + y1_1))), (1, .int .i64 (wr ((1 : Int) + y1_4))), (2, .slice linesa (List.length lines) linescap), (7, .pointer (some ⟨b2_2, 0, none⟩)), (8, .map (some m5_0)), (9, .slice e5_9a (List.length e5_9x) e5_9c), (10, .int .i64 v0_10)] ∧ (IntsA e5_9a e5_9c e5_9x) :: (VMapA Value.bool m5_0 e5_m5_0) :: (CacheA b2_2 e5_b2_2) :: Γ = ΔΔ) (by kernel_rfl) ?_ ?_
      · rintro _ _ ⟨e5_9x, e5_m5_0, e5_b2_2, e5_9a, e5_9c, H, rfl, rfl⟩
        rw [cacheSetsS_j5] at H
        refine at_region (id := 9) 3 (by kernel_rfl) (by kernel_rfl) ?_
        refine s_pure 40 (.int .i64 v0_10) (by kernel_rfl) (by kernel_rfl) (fun _ => by kernel_rfl) ?_
        obtain ⟨hc9_1_0, H⟩ := chkE H
        refine s_pure 41 (.int .i64 (v0_10 + (1 : Int))) (by kernel_rfl) (by kernel_rfl) (run_eq (v := .int .i64 (IntKind.i64.wrap (v0_10 + (1 : Int)))) (fun _ => by kernel_rfl) (by rw [inR.wrap hc9_1_0])) ?_
        refine s_pure 10 (.int .i64 (v0_10 + (1 : Int))) (by kernel_rfl) (by kernel_rfl) (fun _ => by kernel_rfl) ?_
        refine ops_end ?_
        refine At.env [(0, .int .i64 (wr ((1 : Int) + y1_1))), (1, .int .i64 (wr ((1 : Int) + y1_4))), (2, .slice linesa (List.length lines) linescap), (7, .pointer (some ⟨b2_2, 0, none⟩)), (8, .map (some m5_0)), (9, .slice e5_9a (List.length e5_9x) e5_9c), (10, .int .i64 (v0_10 + (1 : Int)))] ⟨by kernel_rfl, by kernel_rfl, by kernel_rfl, by kernel_rfl, by kernel_rfl, by kernel_rfl, by kernel_rfl, trivial⟩ ?_
        refine at_round_normal ?_
        exact at_roundR fuel1 [(0, .int .i64 (wr ((1 : Int) + y1_1))), (1, .int .i64 (wr ((1 : Int) + y1_4))), (2, .slice linesa (List.length lines) linescap), (7, .pointer (some ⟨b2_2, 0, none⟩)), (8, .map (some m5_0)), (9, .slice e5_9a (List.length e5_9x) e5_9c), (10, .int .i64 (v0_10 + (1 : Int)))] ((IntsA e5_9a e5_9c e5_9x) :: (VMapA Value.bool m5_0 e5_m5_0) :: (CacheA b2_2 e5_b2_2) :: Γ) (Nat.lt_succ_self _) ⟨by kernel_rfl, by kernel_rfl, by kernel_rfl, by kernel_rfl, by kernel_rfl, by kernel_rfl, by kernel_rfl, trivial⟩ (fun w hw => (Sat.less (.take .here (.take .here (.take .here .refl))) hw)) ⟨fuel1, e5_9x, v0_10 + (1 : Int), e5_m5_0, e5_b2_2, e5_9a, e5_9c, H, rfl, rfl, rfl⟩
      · refine at_block (i := 1) (x := C6 [1,1,1,1,1,1,0,1,0,0,1,0,0]) (by kernel_rfl) ?_
        refine at_seq (x := C6 [1,1,1,1,1,1,0,1,0,0,1,0,0,0]) (y := C6 [1,1,1,1,1,1,0,1,0,0,1,0,0,1]) (by kernel_rfl) ?_
        refine at_region (id := 10) 6 (by kernel_rfl) (by kernel_rfl) ?_
        refine s_pure 42 (.slice linesa (List.length lines) linescap) (by kernel_rfl) (by kernel_rfl) (fun _ => by kernel_rfl) ?_
        refine s_pure 43 (.int .i64 v0_10) (by kernel_rfl) (by kernel_rfl) (fun _ => by kernel_rfl) ?_
        obtain ⟨hc10_2_0, H⟩ := chkE H
        refine reads_at (Reads.conv (fun w hw => hw.less (.drop .here (.drop .here (.drop .here .refl)))) hrlinesa) (by have := hc10_2_0; omega) ?_
        intro bb1 oo1 ha1
        refine s_pure 44 (.pointer (some ⟨bb1, oo1 + ((v0_10).toNat * 1 + 0), none⟩)) (by kernel_rfl) (by kernel_rfl) (index_at (t := 22) (sz := 1) (E := 3) (a := linesa) (m := (List.length lines)) (c := linescap) (b := bb1) (off := oo1) (i := (v0_10).toNat) (tinfo 3) (fun _ => by kernel_rfl) (by kernel_rfl) (by kernel_rfl) (by kernel_rfl) ha1 (idx_cast hc10_2_0) (idx_nat hc10_2_0) rfl) ?_
        refine s_load 45 (.int .i64 (nth lines v0_10)) (by kernel_rfl) (by kernel_rfl) (load1_at (off := oo1 + ((v0_10).toNat * 1 + 0)) (v := .int .i64 (nth lines v0_10)) (fun _ => by kernel_rfl) rfl (reads_cell (k := 1) (Reads.conv (fun w hw => hw.less (.drop .here (.drop .here (.drop .here .refl)))) hrlinesa) (ints_rows _) ha1 (nth_row hc10_2_0) (show [(.int .i64 (nth lines v0_10) : Value)][0]? = some _ from rfl))) ?_
        obtain ⟨y10_4, hy10_4, H⟩ := bindE H
        refine s_quiet 46 (.int .i64 y10_4) 17 #[.int .i64 (nth lines v0_10), .int .i64 (16)] (by kernel_rfl) (by kernel_rfl) (fun _ => by kernel_rfl) (WithinF_tr (nth lines v0_10) (16 : Int) y10_4 hy10_4) ?_
        refine s_pure 11 (.int .i64 y10_4) (by kernel_rfl) (by kernel_rfl) (fun _ => by kernel_rfl) ?_
        refine ops_end ?_
        refine At.env [(0, .int .i64 (wr ((1 : Int) + y1_1))), (1, .int .i64 (wr ((1 : Int) + y1_4))), (2, .slice linesa (List.length lines) linescap), (7, .pointer (some ⟨b2_2, 0, none⟩)), (8, .map (some m5_0)), (9, .slice v0_9a (List.length v0_9x) v0_9c), (10, .int .i64 v0_10), (11, .int .i64 y10_4)] ⟨by kernel_rfl, by kernel_rfl, by kernel_rfl, by kernel_rfl, by kernel_rfl, by kernel_rfl, by kernel_rfl, by kernel_rfl, trivial⟩ ?_
        refine at_then_normal ?_
        refine at_seq (x := C6 [1,1,1,1,1,1,0,1,0,0,1,0,0,1,0]) (y := C6 [1,1,1,1,1,1,0,1,0,0,1,0,0,1,1]) (by kernel_rfl) ?_
        refine at_region (id := 11) 4 (by kernel_rfl) (by kernel_rfl) ?_
        refine s_pure 47 (.int .i64 y10_4) (by kernel_rfl) (by kernel_rfl) (fun _ => by kernel_rfl) ?_
        refine s_pure 48 (.int .i64 (wr ((1 : Int) + y1_1))) (by kernel_rfl) (by kernel_rfl) (fun _ => by kernel_rfl) ?_
        obtain ⟨hc11_2_0, H⟩ := chkE H
        refine s_pure 49 (.int .i64 (y10_4.tmod (wr ((1 : Int) + y1_1)))) (by kernel_rfl) (by kernel_rfl) (run_remP (a := y10_4) (b := wr ((1 : Int) + y1_1)) (fun _ => by kernel_rfl) hc11_2_0) ?_
        refine s_pure 12 (.int .i64 (y10_4.tmod (wr ((1 : Int) + y1_1)))) (by kernel_rfl) (by kernel_rfl) (fun _ => by kernel_rfl) ?_
        refine ops_end ?_
        refine At.env [(0, .int .i64 (wr ((1 : Int) + y1_1))), (1, .int .i64 (wr ((1 : Int) + y1_4))), (2, .slice linesa (List.length lines) linescap), (7, .pointer (some ⟨b2_2, 0, none⟩)), (8, .map (some m5_0)), (9, .slice v0_9a (List.length v0_9x) v0_9c), (10, .int .i64 v0_10), (11, .int .i64 y10_4), (12, .int .i64 (y10_4.tmod (wr ((1 : Int) + y1_1))))] ⟨by kernel_rfl, by kernel_rfl, by kernel_rfl, by kernel_rfl, by kernel_rfl, by kernel_rfl, by kernel_rfl, by kernel_rfl, by kernel_rfl, trivial⟩ ?_
        refine at_then_normal ?_
        refine at_seq_join (x := C6 [1,1,1,1,1,1,0,1,0,0,1,0,0,1,1,0]) (y := C6 [1,1,1,1,1,1,0,1,0,0,1,0,0,1,1,1]) (fun ff ΔΔ => ∃ (e6_13 : Bool), cacheSetsS_j6 v0_b2_2 y10_4 v0_m5_0 y1_1 v0_9x v0_10 (cacheSetsS_l0 lines y1_1 y1_4 (cacheSetsS_k0 ) fuel1) e6_13 = some y ∧ ff = [(0, .int .i64 (wr ((1 : Int) + y1_1))), (1, .int .i64 (wr ((1 : Int) + y1_4))), (2, .slice linesa (List.length lines) linescap), (7, .pointer (some ⟨b2_2, 0, none⟩)), (8, .map (some m5_0)), (9, .slice v0_9a (List.length v0_9x) v0_9c), (10, .int .i64 v0_10), (11, .int .i64 y10_4), (12, .int .i64 (y10_4.tmod (wr ((1 : Int) + y1_1)))), (13, .bool e6_13)] ∧ (IntsA v0_9a v0_9c v0_9x) :: (VMapA Value.bool m5_0 v0_m5_0) :: (CacheA b2_2 v0_b2_2) :: Γ = ΔΔ) (by kernel_rfl) ?_ ?_
        · rintro _ _ ⟨e6_13, H, rfl, rfl⟩
          rw [cacheSetsS_j6] at H
          refine at_seq (x := C6 [1,1,1,1,1,1,0,1,0,0,1,0,0,1,1,1,0]) (y := C6 [1,1,1,1,1,1,0,1,0,0,1,0,0,1,1,1,1]) (by kernel_rfl) ?_
          refine at_seq_join (x := C6 [1,1,1,1,1,1,0,1,0,0,1,0,0,1,1,1,0,0]) (y := C6 [1,1,1,1,1,1,0,1,0,0,1,0,0,1,1,1,0,1]) (fun ff ΔΔ => ∃ (e7_76 : Bool) (e7_b2_2 : CacheS), cacheSetsS_j7 e6_13 v0_m5_0 y10_4 y1_1 v0_9x v0_10 (cacheSetsS_l0 lines y1_1 y1_4 (cacheSetsS_k0 ) fuel1) e7_76 e7_b2_2 = some y ∧ ff = [(0, .int .i64 (wr ((1 : Int) + y1_1))), (1, .int .i64 (wr ((1 : Int) + y1_4))), (2, .slice linesa (List.length lines) linescap), (7, .pointer (some ⟨b2_2, 0, none⟩)), (8, .map (some m5_0)), (9, .slice v0_9a (List.length v0_9x) v0_9c), (10, .int .i64 v0_10), (11, .int .i64 y10_4), (12, .int .i64 (y10_4.tmod (wr ((1 : Int) + y1_1)))), (13, .bool e6_13), (76, .bool e7_76)] ∧ (IntsA v0_9a v0_9c v0_9x) :: (VMapA Value.bool m5_0 v0_m5_0) :: (CacheA b2_2 e7_b2_2) :: Γ = ΔΔ) (by kernel_rfl) ?_ ?_
          · rintro _ _ ⟨e7_76, e7_b2_2, H, rfl, rfl⟩
            rw [cacheSetsS_j7] at H
            rcases Bool.eq_false_or_eq_true (e7_76) with h2 | h2
            · replace H := bifT H h2
              refine at_true (t := e7_76) (x := C6 [1,1,1,1,1,1,0,1,0,0,1,0,0,1,1,1,0,1,0]) (y := C6 [1,1,1,1,1,1,0,1,0,0,1,0,0,1,1,1,0,1,1]) (o := .tmp 76) (by kernel_rfl) (by kernel_rfl) (by kernel_rfl) h2 ?_
              refine at_seq (x := C6 [1,1,1,1,1,1,0,1,0,0,1,0,0,1,1,1,0,1,0,0]) (y := C6 [1,1,1,1,1,1,0,1,0,0,1,0,0,1,1,1,0,1,0,1]) (by kernel_rfl) ?_
              refine at_region (id := 14) 1 (by kernel_rfl) (by kernel_rfl) ?_
              refine s_pure 6 (.bool false) (by kernel_rfl) (by kernel_rfl) (fun _ => by kernel_rfl) ?_
              refine ops_end ?_
              refine At.env [(6, .bool false)] ⟨by kernel_rfl, trivial⟩ ?_
              refine at_then_normal ?_
              refine at_ret (by kernel_rfl) ?_
              refine at_then_ret ?_
              refine at_in_ret ?_
              refine at_then_ret ?_
              refine at_then_ret ?_
              refine at_in_ret ?_
              refine at_then_ret ?_
              obtain rfl := someE H
              refine at_backR [.bool false] (Γ) (rs := [.tmp 6]) (by kernel_rfl) (.cons (.tmp (by kernel_rfl)) .nil) (fun w hw => (Sat.less (.drop .here (.drop .here (.drop .here .refl))) hw)) ?_
              exact ⟨rfl, rfl⟩
            · replace H := bifF H h2
              refine at_false (t := e7_76) (x := C6 [1,1,1,1,1,1,0,1,0,0,1,0,0,1,1,1,0,1,0]) (y := C6 [1,1,1,1,1,1,0,1,0,0,1,0,0,1,1,1,0,1,1]) (o := .tmp 76) (by kernel_rfl) (by kernel_rfl) (by kernel_rfl) h2 ?_
              refine at_skip (by kernel_rfl) ?_
              refine at_then_normal ?_
              refine at_seq_join (x := C6 [1,1,1,1,1,1,0,1,0,0,1,0,0,1,1,1,1,0]) (y := C6 [1,1,1,1,1,1,0,1,0,0,1,0,0,1,1,1,1,1]) (fun ff ΔΔ => ∃ (e8_9x : List Int) (e8_m5_0 : List (Int × Bool)) (e8_9a : Option Addr) (e8_9c : Nat), cacheSetsS_j8 e7_b2_2 y10_4 v0_10 (cacheSetsS_l0 lines y1_1 y1_4 (cacheSetsS_k0 ) fuel1) e8_9x e8_m5_0 = some y ∧ ff = [(0, .int .i64 (wr ((1 : Int) + y1_1))), (1, .int .i64 (wr ((1 : Int) + y1_4))), (2, .slice linesa (List.length lines) linescap), (7, .pointer (some ⟨b2_2, 0, none⟩)), (8, .map (some m5_0)), (9, .slice e8_9a (List.length e8_9x) e8_9c), (10, .int .i64 v0_10), (11, .int .i64 y10_4)] ∧ (IntsA e8_9a e8_9c e8_9x) :: (VMapA Value.bool m5_0 e8_m5_0) :: (CacheA b2_2 e7_b2_2) :: Γ = ΔΔ) (by kernel_rfl) ?_ ?_
              · rintro _ _ ⟨e8_9x, e8_m5_0, e8_9a, e8_9c, H, rfl, rfl⟩
                rw [cacheSetsS_j8] at H
                refine at_seq (x := C6 [1,1,1,1,1,1,0,1,0,0,1,0,0,1,1,1,1,1,0]) (y := C6 [1,1,1,1,1,1,0,1,0,0,1,0,0,1,1,1,1,1,1]) (by kernel_rfl) ?_
                refine at_region (id := 18) 9 (by kernel_rfl) (by kernel_rfl) ?_
                refine s_pure 94 (.pointer (some ⟨b2_2, 0, none⟩)) (by kernel_rfl) (by kernel_rfl) (fun _ => by kernel_rfl) ?_
                refine s_pure 95 (.int .i64 y10_4) (by kernel_rfl) (by kernel_rfl) (fun _ => by kernel_rfl) ?_
                obtain ⟨y18_2, hy18_2, H⟩ := bindE H
                refine s_call 96 20 #[.pointer (some ⟨b2_2, 0, none⟩), .int .i64 y10_4] (by kernel_rfl) (by kernel_rfl) (fun _ => by kernel_rfl) (Tr.conv (Γ' := (CacheA b2_2 e7_b2_2) :: (IntsA e8_9a e8_9c e8_9x) :: (VMapA Value.bool m5_0 e8_m5_0) :: Γ) (fun w hw => (Sat.less (.take (.there (.there .here)) (.take .here (.take .here .refl))) hw)) (FindF_tr b2_2 e7_b2_2 y10_4 y18_2 hy18_2)) ?_
                rintro _ _ ⟨a18_2_00, c18_2_00, rfl, rfl⟩
                refine s_pure 93 (.tuple #[.agg #[.int .i64 y18_2.1.fwd, .int .i64 y18_2.1.back, .int .i64 y18_2.1.line, .int .i64 y18_2.1.used, .bool y18_2.1.dirty, .slice a18_2_00 (List.length y18_2.1.data) c18_2_00], .bool y18_2.2]) (by kernel_rfl) (by kernel_rfl) (fun _ => by kernel_rfl) ?_
                refine s_pure 97 (.agg #[.int .i64 y18_2.1.fwd, .int .i64 y18_2.1.back, .int .i64 y18_2.1.line, .int .i64 y18_2.1.used, .bool y18_2.1.dirty, .slice a18_2_00 (List.length y18_2.1.data) c18_2_00]) (by kernel_rfl) (by kernel_rfl) (fun _ => by kernel_rfl) ?_
                refine s_pure 98 (.bool y18_2.2) (by kernel_rfl) (by kernel_rfl) (fun _ => by kernel_rfl) ?_
                refine s_step 14 (by kernel_rfl) (by kernel_rfl) (st_new (T := 31) (cells := #[.int .i64 (0), .int .i64 (0), .int .i64 (0), .int .i64 (0), .bool false, .slice none 0 0]) (fun a => .pointer (some a)) (fun _ => by kernel_rfl)) ?_
                rintro _ _ ⟨b18_6, rfl, rfl⟩
                refine s_do (by kernel_rfl) (by kernel_rfl) (st_store (off := 0) (vs := [.int .i64 y18_2.1.fwd, .int .i64 y18_2.1.back, .int .i64 y18_2.1.line, .int .i64 y18_2.1.used, .bool y18_2.1.dirty, .slice a18_2_00 (List.length y18_2.1.data) c18_2_00]) (c' := #[.int .i64 y18_2.1.fwd, .int .i64 y18_2.1.back, .int .i64 y18_2.1.line, .int .i64 y18_2.1.used, .bool y18_2.1.dirty, .slice a18_2_00 (List.length y18_2.1.data) c18_2_00]) (fun _ => by kernel_rfl) .here (by kernel_rfl) (by kernel_rfl) (by kernel_rfl)) ?_
                rintro _ _ ⟨rfl, rfl⟩
                refine s_pure 15 (.bool y18_2.2) (by kernel_rfl) (by kernel_rfl) (fun _ => by kernel_rfl) ?_
                refine ops_end ?_
                refine At.env [(0, .int .i64 (wr ((1 : Int) + y1_1))), (1, .int .i64 (wr ((1 : Int) + y1_4))), (2, .slice linesa (List.length lines) linescap), (7, .pointer (some ⟨b2_2, 0, none⟩)), (8, .map (some m5_0)), (9, .slice e8_9a (List.length e8_9x) e8_9c), (10, .int .i64 v0_10), (11, .int .i64 y10_4), (14, .pointer (some ⟨b18_6, 0, none⟩)), (15, .bool y18_2.2)] ⟨by kernel_rfl, by kernel_rfl, by kernel_rfl, by kernel_rfl, by kernel_rfl, by kernel_rfl, by kernel_rfl, by kernel_rfl, by kernel_rfl, by kernel_rfl, trivial⟩ ?_
                refine at_then_normal ?_
                refine at_seq_join (x := C6 [1,1,1,1,1,1,0,1,0,0,1,0,0,1,1,1,1,1,1,0]) (y := C6 [1,1,1,1,1,1,0,1,0,0,1,0,0,1,1,1,1,1,1,1]) (fun ff ΔΔ => ∃ (e9_113 : Bool), cacheSetsS_j9 v0_10 (cacheSetsS_l0 lines y1_1 y1_4 (cacheSetsS_k0 ) fuel1) e8_9x e8_m5_0 e7_b2_2 e9_113 = some y ∧ ff = [(0, .int .i64 (wr ((1 : Int) + y1_1))), (1, .int .i64 (wr ((1 : Int) + y1_4))), (2, .slice linesa (List.length lines) linescap), (7, .pointer (some ⟨b2_2, 0, none⟩)), (8, .map (some m5_0)), (9, .slice e8_9a (List.length e8_9x) e8_9c), (10, .int .i64 v0_10), (113, .bool e9_113)] ∧ (CacheA b2_2 e7_b2_2) :: (IntsA e8_9a e8_9c e8_9x) :: (VMapA Value.bool m5_0 e8_m5_0) :: Γ = ΔΔ) (by kernel_rfl) ?_ ?_
                · rintro _ _ ⟨e9_113, H, rfl, rfl⟩
                  rw [cacheSetsS_j9] at H
                  rcases Bool.eq_false_or_eq_true (e9_113) with h3 | h3
                  · replace H := bifT H h3
                    refine at_true (t := e9_113) (x := C6 [1,1,1,1,1,1,0,1,0,0,1,0,0,1,1,1,1,1,1,1,0]) (y := C6 [1,1,1,1,1,1,0,1,0,0,1,0,0,1,1,1,1,1,1,1,1]) (o := .tmp 113) (by kernel_rfl) (by kernel_rfl) (by kernel_rfl) h3 ?_
                    refine at_seq (x := C6 [1,1,1,1,1,1,0,1,0,0,1,0,0,1,1,1,1,1,1,1,0,0]) (y := C6 [1,1,1,1,1,1,0,1,0,0,1,0,0,1,1,1,1,1,1,1,0,1]) (by kernel_rfl) ?_
                    refine at_region (id := 20) 1 (by kernel_rfl) (by kernel_rfl) ?_
                    refine s_pure 6 (.bool false) (by kernel_rfl) (by kernel_rfl) (fun _ => by kernel_rfl) ?_
                    refine ops_end ?_
                    refine At.env [(6, .bool false)] ⟨by kernel_rfl, trivial⟩ ?_
                    refine at_then_normal ?_
                    refine at_ret (by kernel_rfl) ?_
                    refine at_in_ret ?_
                    refine at_then_ret ?_
                    refine at_then_ret ?_
                    refine at_in_ret ?_
                    refine at_then_ret ?_
                    obtain rfl := someE H
                    refine at_backR [.bool false] (Γ) (rs := [.tmp 6]) (by kernel_rfl) (.cons (.tmp (by kernel_rfl)) .nil) (fun w hw => (Sat.less (.drop .here (.drop .here (.drop .here .refl))) hw)) ?_
                    exact ⟨rfl, rfl⟩
                  · replace H := bifF H h3
                    refine at_false (t := e9_113) (x := C6 [1,1,1,1,1,1,0,1,0,0,1,0,0,1,1,1,1,1,1,1,0]) (y := C6 [1,1,1,1,1,1,0,1,0,0,1,0,0,1,1,1,1,1,1,1,1]) (o := .tmp 113) (by kernel_rfl) (by kernel_rfl) (by kernel_rfl) h3 ?_
                    refine at_skip (by kernel_rfl) ?_
                    refine at_in_normal ?_
                    refine at_round_normal ?_
                    exact at_join_mk [(0, .int .i64 (wr ((1 : Int) + y1_1))), (1, .int .i64 (wr ((1 : Int) + y1_4))), (2, .slice linesa (List.length lines) linescap), (7, .pointer (some ⟨b2_2, 0, none⟩)), (8, .map (some m5_0)), (9, .slice e8_9a (List.length e8_9x) e8_9c), (10, .int .i64 v0_10)] ((IntsA e8_9a e8_9c e8_9x) :: (VMapA Value.bool m5_0 e8_m5_0) :: (CacheA b2_2 e7_b2_2) :: Γ) ⟨by kernel_rfl, by kernel_rfl, by kernel_rfl, by kernel_rfl, by kernel_rfl, by kernel_rfl, by kernel_rfl, trivial⟩ (fun w hw => (Sat.less (.take (.there .here) (.take (.there .here) (.take .here .refl))) hw)) ⟨e8_9x, e8_m5_0, e7_b2_2, e8_9a, e8_9c, H, rfl, rfl⟩
                · refine at_region (id := 19) 15 (by kernel_rfl) (by kernel_rfl) ?_
                  refine s_pure 99 (.bool y18_2.2) (by kernel_rfl) (by kernel_rfl) (fun _ => by kernel_rfl) ?_
                  refine s_pure 100 (.map (some m5_0)) (by kernel_rfl) (by kernel_rfl) (fun _ => by kernel_rfl) ?_
                  refine s_pure 101 (.int .i64 y10_4) (by kernel_rfl) (by kernel_rfl) (fun _ => by kernel_rfl) ?_
                  obtain ⟨y19_3, hy19_3, H⟩ := letE H
                  refine s_load 102 (.bool (y19_3.getD false)) (by kernel_rfl) (by kernel_rfl) (vmap_lookup1 (f := Value.bool) false (t := 48) (K := 3) (V := 4) (ik := .i64) (k := y10_4) (info := tinfo 4) hy19_3 (fun _ => by kernel_rfl) (by kernel_rfl) (by kernel_rfl) (by kernel_rfl) (by kernel_rfl) (.there (.there (.there (.there .here))))) ?_
                  refine s_pure 103 (.bool (!(y18_2.2 == (y19_3.getD false)))) (by kernel_rfl) (by kernel_rfl) (fun _ => by kernel_rfl) ?_
                  rcases Bool.eq_false_or_eq_true (!(y18_2.2 == (y19_3.getD false))) with h4 | h4
                  · replace H := bifT H h4
                    refine s_pure 104 (.bool true) (by kernel_rfl) (by kernel_rfl) (run_eq (v := .bool (!(y18_2.2 == (y19_3.getD false)))) (fun _ => by kernel_rfl) (congrArg Value.bool h4)) ?_
                    refine s_pass 105 (by kernel_rfl) (by kernel_rfl) ?_
                    refine s_pass 106 (by kernel_rfl) (by kernel_rfl) ?_
                    refine s_pass 107 (by kernel_rfl) (by kernel_rfl) ?_
                    refine s_pass 108 (by kernel_rfl) (by kernel_rfl) ?_
                    refine s_pass 109 (by kernel_rfl) (by kernel_rfl) ?_
                    refine s_pass 110 (by kernel_rfl) (by kernel_rfl) ?_
                    refine s_pass 111 (by kernel_rfl) (by kernel_rfl) ?_
                    refine s_pass 112 (by kernel_rfl) (by kernel_rfl) ?_
                    refine s_pure 113 (.bool true) (by kernel_rfl) (by kernel_rfl) (fun _ => by kernel_rfl) ?_
                    refine ops_end ?_
                    refine At.env [(0, .int .i64 (wr ((1 : Int) + y1_1))), (1, .int .i64 (wr ((1 : Int) + y1_4))), (2, .slice linesa (List.length lines) linescap), (7, .pointer (some ⟨b2_2, 0, none⟩)), (8, .map (some m5_0)), (9, .slice e8_9a (List.length e8_9x) e8_9c), (10, .int .i64 v0_10), (113, .bool true)] ⟨by kernel_rfl, by kernel_rfl, by kernel_rfl, by kernel_rfl, by kernel_rfl, by kernel_rfl, by kernel_rfl, by kernel_rfl, trivial⟩ ?_
                    refine at_round_normal ?_
                    exact at_join_mk [(0, .int .i64 (wr ((1 : Int) + y1_1))), (1, .int .i64 (wr ((1 : Int) + y1_4))), (2, .slice linesa (List.length lines) linescap), (7, .pointer (some ⟨b2_2, 0, none⟩)), (8, .map (some m5_0)), (9, .slice e8_9a (List.length e8_9x) e8_9c), (10, .int .i64 v0_10), (113, .bool true)] ((CacheA b2_2 e7_b2_2) :: (IntsA e8_9a e8_9c e8_9x) :: (VMapA Value.bool m5_0 e8_m5_0) :: Γ) ⟨by kernel_rfl, by kernel_rfl, by kernel_rfl, by kernel_rfl, by kernel_rfl, by kernel_rfl, by kernel_rfl, by kernel_rfl, trivial⟩ (fun w hw => (Sat.less (.take (.there (.there .here)) (.take (.there (.there .here)) (.take (.there (.there .here)) (.drop .here (.drop .here .refl))))) hw)) ⟨true, H, rfl, rfl⟩
                  · replace H := bifF H h4
                    refine s_pure 104 (.bool false) (by kernel_rfl) (by kernel_rfl) (run_eq (v := .bool (!(y18_2.2 == (y19_3.getD false)))) (fun _ => by kernel_rfl) (congrArg Value.bool h4)) ?_
                    refine s_pure 105 (.bool y18_2.2) (by kernel_rfl) (by kernel_rfl) (fun _ => by kernel_rfl) ?_
                    rcases Bool.eq_false_or_eq_true (y18_2.2) with h5 | h5
                    · replace H := bifT H h5
                      refine s_pure 106 (.bool true) (by kernel_rfl) (by kernel_rfl) (run_eq (v := .bool (y18_2.2)) (fun _ => by kernel_rfl) (congrArg Value.bool h5)) ?_
                      refine s_pure 107 (.pointer (some ⟨b18_6, 0, none⟩)) (by kernel_rfl) (by kernel_rfl) (fun _ => by kernel_rfl) ?_
                      refine s_pure 108 (.pointer (some ⟨b18_6, 0, none⟩)) (by kernel_rfl) (by kernel_rfl) (fun _ => by kernel_rfl) ?_
                      refine s_load 109 (.int .i64 y18_2.1.fwd) (by kernel_rfl) (by kernel_rfl) (load1 (off := 0) (fun _ => by kernel_rfl) (holds_own .here) (by kernel_rfl)) ?_
                      refine s_pure 110 (.int .i64 v0_10) (by kernel_rfl) (by kernel_rfl) (fun _ => by kernel_rfl) ?_
                      refine s_pure 111 (.bool (!(decide (y18_2.1.fwd = v0_10)))) (by kernel_rfl) (by kernel_rfl) (fun _ => by kernel_rfl) ?_
                      refine s_pure 112 (.bool (!(decide (y18_2.1.fwd = v0_10)))) (by kernel_rfl) (by kernel_rfl) (fun _ => by kernel_rfl) ?_
                      refine s_pure 113 (.bool (!(decide (y18_2.1.fwd = v0_10)))) (by kernel_rfl) (by kernel_rfl) (fun _ => by kernel_rfl) ?_
                      refine ops_end ?_
                      refine At.env [(0, .int .i64 (wr ((1 : Int) + y1_1))), (1, .int .i64 (wr ((1 : Int) + y1_4))), (2, .slice linesa (List.length lines) linescap), (7, .pointer (some ⟨b2_2, 0, none⟩)), (8, .map (some m5_0)), (9, .slice e8_9a (List.length e8_9x) e8_9c), (10, .int .i64 v0_10), (113, .bool (!(decide (y18_2.1.fwd = v0_10))))] ⟨by kernel_rfl, by kernel_rfl, by kernel_rfl, by kernel_rfl, by kernel_rfl, by kernel_rfl, by kernel_rfl, by kernel_rfl, trivial⟩ ?_
                      refine at_round_normal ?_
                      exact at_join_mk [(0, .int .i64 (wr ((1 : Int) + y1_1))), (1, .int .i64 (wr ((1 : Int) + y1_4))), (2, .slice linesa (List.length lines) linescap), (7, .pointer (some ⟨b2_2, 0, none⟩)), (8, .map (some m5_0)), (9, .slice e8_9a (List.length e8_9x) e8_9c), (10, .int .i64 v0_10), (113, .bool (!(decide (y18_2.1.fwd = v0_10))))] ((CacheA b2_2 e7_b2_2) :: (IntsA e8_9a e8_9c e8_9x) :: (VMapA Value.bool m5_0 e8_m5_0) :: Γ) ⟨by kernel_rfl, by kernel_rfl, by kernel_rfl, by kernel_rfl, by kernel_rfl, by kernel_rfl, by kernel_rfl, by kernel_rfl, trivial⟩ (fun w hw => (Sat.less (.take (.there (.there .here)) (.take (.there (.there .here)) (.take (.there (.there .here)) (.drop .here (.drop .here .refl))))) hw)) ⟨!(decide (y18_2.1.fwd = v0_10)), H, rfl, rfl⟩
                    · replace H := bifF H h5
                      refine s_pure 106 (.bool false) (by kernel_rfl) (by kernel_rfl) (run_eq (v := .bool (y18_2.2)) (fun _ => by kernel_rfl) (congrArg Value.bool h5)) ?_
                      refine s_pass 107 (by kernel_rfl) (by kernel_rfl) ?_
                      refine s_pass 108 (by kernel_rfl) (by kernel_rfl) ?_
                      refine s_pass 109 (by kernel_rfl) (by kernel_rfl) ?_
                      refine s_pass 110 (by kernel_rfl) (by kernel_rfl) ?_
                      refine s_pass 111 (by kernel_rfl) (by kernel_rfl) ?_
                      refine s_pure 112 (.bool false) (by kernel_rfl) (by kernel_rfl) (fun _ => by kernel_rfl) ?_
                      refine s_pure 113 (.bool false) (by kernel_rfl) (by kernel_rfl) (fun _ => by kernel_rfl) ?_
                      refine ops_end ?_
                      refine At.env [(0, .int .i64 (wr ((1 : Int) + y1_1))), (1, .int .i64 (wr ((1 : Int) + y1_4))), (2, .slice linesa (List.length lines) linescap), (7, .pointer (some ⟨b2_2, 0, none⟩)), (8, .map (some m5_0)), (9, .slice e8_9a (List.length e8_9x) e8_9c), (10, .int .i64 v0_10), (113, .bool false)] ⟨by kernel_rfl, by kernel_rfl, by kernel_rfl, by kernel_rfl, by kernel_rfl, by kernel_rfl, by kernel_rfl, by kernel_rfl, trivial⟩ ?_
                      refine at_round_normal ?_
                      exact at_join_mk [(0, .int .i64 (wr ((1 : Int) + y1_1))), (1, .int .i64 (wr ((1 : Int) + y1_4))), (2, .slice linesa (List.length lines) linescap), (7, .pointer (some ⟨b2_2, 0, none⟩)), (8, .map (some m5_0)), (9, .slice e8_9a (List.length e8_9x) e8_9c), (10, .int .i64 v0_10), (113, .bool false)] ((CacheA b2_2 e7_b2_2) :: (IntsA e8_9a e8_9c e8_9x) :: (VMapA Value.bool m5_0 e8_m5_0) :: Γ) ⟨by kernel_rfl, by kernel_rfl, by kernel_rfl, by kernel_rfl, by kernel_rfl, by kernel_rfl, by kernel_rfl, by kernel_rfl, trivial⟩ (fun w hw => (Sat.less (.take (.there (.there .here)) (.take (.there (.there .here)) (.take (.there (.there .here)) (.drop .here (.drop .here .refl))))) hw)) ⟨false, H, rfl, rfl⟩
              · refine at_seq_join (x := C6 [1,1,1,1,1,1,0,1,0,0,1,0,0,1,1,1,1,0,0]) (y := C6 [1,1,1,1,1,1,0,1,0,0,1,0,0,1,1,1,1,0,1]) (fun ff ΔΔ => ∃ (e10_84 : Bool), cacheSetsS_j10 v0_m5_0 y10_4 y1_1 v0_9x e7_b2_2 v0_10 (cacheSetsS_l0 lines y1_1 y1_4 (cacheSetsS_k0 ) fuel1) e10_84 = some y ∧ ff = [(0, .int .i64 (wr ((1 : Int) + y1_1))), (1, .int .i64 (wr ((1 : Int) + y1_4))), (2, .slice linesa (List.length lines) linescap), (7, .pointer (some ⟨b2_2, 0, none⟩)), (8, .map (some m5_0)), (9, .slice v0_9a (List.length v0_9x) v0_9c), (10, .int .i64 v0_10), (11, .int .i64 y10_4), (12, .int .i64 (y10_4.tmod (wr ((1 : Int) + y1_1)))), (84, .bool e10_84)] ∧ (IntsA v0_9a v0_9c v0_9x) :: (VMapA Value.bool m5_0 v0_m5_0) :: (CacheA b2_2 e7_b2_2) :: Γ = ΔΔ) (by kernel_rfl) ?_ ?_
                · rintro _ _ ⟨e10_84, H, rfl, rfl⟩
                  rw [cacheSetsS_j10] at H
                  rcases Bool.eq_false_or_eq_true (e10_84) with h6 | h6
                  · replace H := bifT H h6
                    refine at_true (t := e10_84) (x := C6 [1,1,1,1,1,1,0,1,0,0,1,0,0,1,1,1,1,0,1,0]) (y := C6 [1,1,1,1,1,1,0,1,0,0,1,0,0,1,1,1,1,0,1,1]) (o := .tmp 84) (by kernel_rfl) (by kernel_rfl) (by kernel_rfl) h6 ?_
                    refine at_seq (x := C6 [1,1,1,1,1,1,0,1,0,0,1,0,0,1,1,1,1,0,1,0,0]) (y := C6 [1,1,1,1,1,1,0,1,0,0,1,0,0,1,1,1,1,0,1,0,1]) (by kernel_rfl) ?_
                    refine at_region (id := 16) 3 (by kernel_rfl) (by kernel_rfl) ?_
                    refine s_pure 85 (.map (some m5_0)) (by kernel_rfl) (by kernel_rfl) (fun _ => by kernel_rfl) ?_
                    refine s_pure 86 (.int .i64 y10_4) (by kernel_rfl) (by kernel_rfl) (fun _ => by kernel_rfl) ?_
                    obtain ⟨m16_2, hm16_2, H⟩ := letE H
                    refine s_do (by kernel_rfl) (by kernel_rfl) (st_vset (f := Value.bool) (x := true) (t := 48) (K := 3) (V := 4) (ik := .i64) (k := y10_4) (fun _ => by kernel_rfl) (by kernel_rfl) (by kernel_rfl) (.there .here)) ?_
                    rintro _ _ ⟨rfl, rfl⟩
                    rw [hm16_2]
                    refine ops_end ?_
                    refine At.env [(0, .int .i64 (wr ((1 : Int) + y1_1))), (1, .int .i64 (wr ((1 : Int) + y1_4))), (2, .slice linesa (List.length lines) linescap), (7, .pointer (some ⟨b2_2, 0, none⟩)), (8, .map (some m5_0)), (9, .slice v0_9a (List.length v0_9x) v0_9c), (10, .int .i64 v0_10), (11, .int .i64 y10_4), (12, .int .i64 (y10_4.tmod (wr ((1 : Int) + y1_1))))] ⟨by kernel_rfl, by kernel_rfl, by kernel_rfl, by kernel_rfl, by kernel_rfl, by kernel_rfl, by kernel_rfl, by kernel_rfl, by kernel_rfl, trivial⟩ ?_
                    refine at_then_normal ?_
                    refine at_region (id := 17) 7 (by kernel_rfl) (by kernel_rfl) ?_
                    refine s_pure 87 (.slice v0_9a (List.length v0_9x) v0_9c) (by kernel_rfl) (by kernel_rfl) (fun _ => by kernel_rfl) ?_
                    refine s_pure 88 (.int .i64 (y10_4.tmod (wr ((1 : Int) + y1_1)))) (by kernel_rfl) (by kernel_rfl) (fun _ => by kernel_rfl) ?_
                    obtain ⟨hc17_2_0, H⟩ := chkE H
                    refine rows_at (.there .here) (by have := hc17_2_0; simp only [ints_length]; omega) ?_
                    intro bb2 oo2 ha2
                    refine s_pure 89 (.pointer (some ⟨bb2, oo2 + (((y10_4.tmod (wr ((1 : Int) + y1_1)))).toNat * 1 + 0), none⟩)) (by kernel_rfl) (by kernel_rfl) (index_at (t := 22) (sz := 1) (E := 3) (a := v0_9a) (m := (List.length v0_9x)) (c := v0_9c) (b := bb2) (off := oo2) (i := ((y10_4.tmod (wr ((1 : Int) + y1_1)))).toNat) (tinfo 3) (fun _ => by kernel_rfl) (by kernel_rfl) (by kernel_rfl) (by kernel_rfl) ha2 (idx_cast hc17_2_0) (idx_nat hc17_2_0) rfl) ?_
                    refine s_load 90 (.int .i64 (nth v0_9x (y10_4.tmod (wr ((1 : Int) + y1_1))))) (by kernel_rfl) (by kernel_rfl) (load1_at (off := oo2 + (((y10_4.tmod (wr ((1 : Int) + y1_1)))).toNat * 1 + 0)) (v := .int .i64 (nth v0_9x (y10_4.tmod (wr ((1 : Int) + y1_1))))) (fun _ => by kernel_rfl) rfl (reads_cell (k := 1) (RowsA.reads (k := 1) (.there .here)) (ints_rows _) ha2 (nth_row hc17_2_0) (show [(.int .i64 (nth v0_9x (y10_4.tmod (wr ((1 : Int) + y1_1)))) : Value)][0]? = some _ from rfl))) ?_
                    obtain ⟨u17_4, hu17_4, H⟩ := letE H
                    refine s_pure 91 (.int .i64 u17_4) (by kernel_rfl) (by kernel_rfl) (run_eq (v := .int .i64 (wr ((nth v0_9x (y10_4.tmod (wr ((1 : Int) + y1_1)))) + (1 : Int)))) (fun _ => by kernel_rfl) (by rw [hu17_4])) ?_
                    obtain ⟨hc17_5_0, H⟩ := chkE H
                    refine s_pure 92 (.pointer (some ⟨bb2, oo2 + (((y10_4.tmod (wr ((1 : Int) + y1_1)))).toNat * 1 + 0), none⟩)) (by kernel_rfl) (by kernel_rfl) (index_at (t := 22) (sz := 1) (E := 3) (a := v0_9a) (m := (List.length v0_9x)) (c := v0_9c) (b := bb2) (off := oo2) (i := ((y10_4.tmod (wr ((1 : Int) + y1_1)))).toNat) (tinfo 3) (fun _ => by kernel_rfl) (by kernel_rfl) (by kernel_rfl) (by kernel_rfl) ha2 (idx_cast hc17_5_0) (idx_nat hc17_5_0) rfl) ?_
                    obtain ⟨w17_6, hw17_6, H⟩ := letE H
                    refine s_do (by kernel_rfl) (by kernel_rfl) (st_to_int (st_row (k := 1) (off := oo2) (i := ((y10_4.tmod (wr ((1 : Int) + y1_1)))).toNat) (j := 0) (row := [.int .i64 (nth v0_9x (y10_4.tmod (wr ((1 : Int) + y1_1))))]) (row' := [.int .i64 u17_4]) (vs := [.int .i64 u17_4]) (fun _ => by kernel_rfl) (.there .here) ha2 (nth_row hc17_5_0) rfl (by kernel_rfl) (by kernel_rfl) rfl)) ?_
                    rintro _ _ ⟨rfl, rfl⟩
                    have hsw17_6 : w17_6 = List.set v0_9x ((y10_4.tmod (wr ((1 : Int) + y1_1)))).toNat u17_4 := hw17_6.symm
                    rw [← hsw17_6]
                    have hnw17_6 : List.length v0_9x = List.length w17_6 := by rw [hsw17_6]; simp
                    rw [hnw17_6]
                    refine ops_end ?_
                    refine At.env [(0, .int .i64 (wr ((1 : Int) + y1_1))), (1, .int .i64 (wr ((1 : Int) + y1_4))), (2, .slice linesa (List.length lines) linescap), (7, .pointer (some ⟨b2_2, 0, none⟩)), (8, .map (some m5_0)), (9, .slice v0_9a (List.length w17_6) v0_9c), (10, .int .i64 v0_10), (11, .int .i64 y10_4)] ⟨by kernel_rfl, by kernel_rfl, by kernel_rfl, by kernel_rfl, by kernel_rfl, by kernel_rfl, by kernel_rfl, by kernel_rfl, trivial⟩ ?_
                    refine at_round_normal ?_
                    exact at_join_mk [(0, .int .i64 (wr ((1 : Int) + y1_1))), (1, .int .i64 (wr ((1 : Int) + y1_4))), (2, .slice linesa (List.length lines) linescap), (7, .pointer (some ⟨b2_2, 0, none⟩)), (8, .map (some m5_0)), (9, .slice v0_9a (List.length w17_6) v0_9c), (10, .int .i64 v0_10), (11, .int .i64 y10_4)] ((IntsA v0_9a v0_9c w17_6) :: (VMapA Value.bool m5_0 m16_2) :: (CacheA b2_2 e7_b2_2) :: Γ) ⟨by kernel_rfl, by kernel_rfl, by kernel_rfl, by kernel_rfl, by kernel_rfl, by kernel_rfl, by kernel_rfl, by kernel_rfl, trivial⟩ (fun w hw => (Sat.less (.take .here (.take .here (.take .here .refl))) hw)) ⟨w17_6, m16_2, v0_9a, v0_9c, H, rfl, rfl⟩
                  · replace H := bifF H h6
                    refine at_false (t := e10_84) (x := C6 [1,1,1,1,1,1,0,1,0,0,1,0,0,1,1,1,1,0,1,0]) (y := C6 [1,1,1,1,1,1,0,1,0,0,1,0,0,1,1,1,1,0,1,1]) (o := .tmp 84) (by kernel_rfl) (by kernel_rfl) (by kernel_rfl) h6 ?_
                    refine at_skip (by kernel_rfl) ?_
                    refine at_round_normal ?_
                    exact at_join_mk [(0, .int .i64 (wr ((1 : Int) + y1_1))), (1, .int .i64 (wr ((1 : Int) + y1_4))), (2, .slice linesa (List.length lines) linescap), (7, .pointer (some ⟨b2_2, 0, none⟩)), (8, .map (some m5_0)), (9, .slice v0_9a (List.length v0_9x) v0_9c), (10, .int .i64 v0_10), (11, .int .i64 y10_4)] ((IntsA v0_9a v0_9c v0_9x) :: (VMapA Value.bool m5_0 v0_m5_0) :: (CacheA b2_2 e7_b2_2) :: Γ) ⟨by kernel_rfl, by kernel_rfl, by kernel_rfl, by kernel_rfl, by kernel_rfl, by kernel_rfl, by kernel_rfl, by kernel_rfl, trivial⟩ (fun w hw => (Sat.less (.take .here (.take .here (.take .here .refl))) hw)) ⟨v0_9x, v0_m5_0, v0_9a, v0_9c, H, rfl, rfl⟩
                · refine at_region (id := 15) 8 (by kernel_rfl) (by kernel_rfl) ?_
                  refine s_pure 77 (.bool e6_13) (by kernel_rfl) (by kernel_rfl) (fun _ => by kernel_rfl) ?_
                  refine s_pure 78 (.bool !e6_13) (by kernel_rfl) (by kernel_rfl) (fun _ => by kernel_rfl) ?_
                  rcases Bool.eq_false_or_eq_true (!e6_13) with h7 | h7
                  · replace H := bifT H h7
                    refine s_pure 79 (.bool true) (by kernel_rfl) (by kernel_rfl) (run_eq (v := .bool (!e6_13)) (fun _ => by kernel_rfl) (congrArg Value.bool h7)) ?_
                    refine s_pure 80 (.map (some m5_0)) (by kernel_rfl) (by kernel_rfl) (fun _ => by kernel_rfl) ?_
                    refine s_pure 81 (.int .i64 y10_4) (by kernel_rfl) (by kernel_rfl) (fun _ => by kernel_rfl) ?_
                    obtain ⟨y15_5, hy15_5, H⟩ := letE H
                    refine s_load 82 (.bool (y15_5.getD false)) (by kernel_rfl) (by kernel_rfl) (vmap_lookup1 (f := Value.bool) false (t := 48) (K := 3) (V := 4) (ik := .i64) (k := y10_4) (info := tinfo 4) hy15_5 (fun _ => by kernel_rfl) (by kernel_rfl) (by kernel_rfl) (by kernel_rfl) (by kernel_rfl) (.there .here)) ?_
                    refine s_pure 83 (.bool (!(y15_5.getD false))) (by kernel_rfl) (by kernel_rfl) (fun _ => by kernel_rfl) ?_
                    refine s_pure 84 (.bool (!(y15_5.getD false))) (by kernel_rfl) (by kernel_rfl) (fun _ => by kernel_rfl) ?_
                    refine ops_end ?_
                    refine At.env [(0, .int .i64 (wr ((1 : Int) + y1_1))), (1, .int .i64 (wr ((1 : Int) + y1_4))), (2, .slice linesa (List.length lines) linescap), (7, .pointer (some ⟨b2_2, 0, none⟩)), (8, .map (some m5_0)), (9, .slice v0_9a (List.length v0_9x) v0_9c), (10, .int .i64 v0_10), (11, .int .i64 y10_4), (12, .int .i64 (y10_4.tmod (wr ((1 : Int) + y1_1)))), (84, .bool (!(y15_5.getD false)))] ⟨by kernel_rfl, by kernel_rfl, by kernel_rfl, by kernel_rfl, by kernel_rfl, by kernel_rfl, by kernel_rfl, by kernel_rfl, by kernel_rfl, by kernel_rfl, trivial⟩ ?_
                    refine at_round_normal ?_
                    exact at_join_mk [(0, .int .i64 (wr ((1 : Int) + y1_1))), (1, .int .i64 (wr ((1 : Int) + y1_4))), (2, .slice linesa (List.length lines) linescap), (7, .pointer (some ⟨b2_2, 0, none⟩)), (8, .map (some m5_0)), (9, .slice v0_9a (List.length v0_9x) v0_9c), (10, .int .i64 v0_10), (11, .int .i64 y10_4), (12, .int .i64 (y10_4.tmod (wr ((1 : Int) + y1_1)))), (84, .bool (!(y15_5.getD false)))] ((IntsA v0_9a v0_9c v0_9x) :: (VMapA Value.bool m5_0 v0_m5_0) :: (CacheA b2_2 e7_b2_2) :: Γ) ⟨by kernel_rfl, by kernel_rfl, by kernel_rfl, by kernel_rfl, by kernel_rfl, by kernel_rfl, by kernel_rfl, by kernel_rfl, by kernel_rfl, by kernel_rfl, trivial⟩ (fun w hw => (Sat.less (.take .here (.take .here (.take .here .refl))) hw)) ⟨!(y15_5.getD false), H, rfl, rfl⟩
                  · replace H := bifF H h7
                    refine s_pure 79 (.bool false) (by kernel_rfl) (by kernel_rfl) (run_eq (v := .bool (!e6_13)) (fun _ => by kernel_rfl) (congrArg Value.bool h7)) ?_
                    refine s_pass 80 (by kernel_rfl) (by kernel_rfl) ?_
                    refine s_pass 81 (by kernel_rfl) (by kernel_rfl) ?_
                    refine s_pass 82 (by kernel_rfl) (by kernel_rfl) ?_
                    refine s_pass 83 (by kernel_rfl) (by kernel_rfl) ?_
                    refine s_pure 84 (.bool false) (by kernel_rfl) (by kernel_rfl) (fun _ => by kernel_rfl) ?_
                    refine ops_end ?_
                    refine At.env [(0, .int .i64 (wr ((1 : Int) + y1_1))), (1, .int .i64 (wr ((1 : Int) + y1_4))), (2, .slice linesa (List.length lines) linescap), (7, .pointer (some ⟨b2_2, 0, none⟩)), (8, .map (some m5_0)), (9, .slice v0_9a (List.length v0_9x) v0_9c), (10, .int .i64 v0_10), (11, .int .i64 y10_4), (12, .int .i64 (y10_4.tmod (wr ((1 : Int) + y1_1)))), (84, .bool false)] ⟨by kernel_rfl, by kernel_rfl, by kernel_rfl, by kernel_rfl, by kernel_rfl, by kernel_rfl, by kernel_rfl, by kernel_rfl, by kernel_rfl, by kernel_rfl, trivial⟩ ?_
                    refine at_round_normal ?_
                    exact at_join_mk [(0, .int .i64 (wr ((1 : Int) + y1_1))), (1, .int .i64 (wr ((1 : Int) + y1_4))), (2, .slice linesa (List.length lines) linescap), (7, .pointer (some ⟨b2_2, 0, none⟩)), (8, .map (some m5_0)), (9, .slice v0_9a (List.length v0_9x) v0_9c), (10, .int .i64 v0_10), (11, .int .i64 y10_4), (12, .int .i64 (y10_4.tmod (wr ((1 : Int) + y1_1)))), (84, .bool false)] ((IntsA v0_9a v0_9c v0_9x) :: (VMapA Value.bool m5_0 v0_m5_0) :: (CacheA b2_2 e7_b2_2) :: Γ) ⟨by kernel_rfl, by kernel_rfl, by kernel_rfl, by kernel_rfl, by kernel_rfl, by kernel_rfl, by kernel_rfl, by kernel_rfl, by kernel_rfl, by kernel_rfl, trivial⟩ (fun w hw => (Sat.less (.take .here (.take .here (.take .here .refl))) hw)) ⟨false, H, rfl, rfl⟩
          · refine at_region (id := 13) 15 (by kernel_rfl) (by kernel_rfl) ?_
            refine s_pure 62 (.pointer (some ⟨b2_2, 0, none⟩)) (by kernel_rfl) (by kernel_rfl) (fun _ => by kernel_rfl) ?_
            refine s_pure 63 (.int .i64 y10_4) (by kernel_rfl) (by kernel_rfl) (fun _ => by kernel_rfl) ?_
            obtain ⟨y13_2, hy13_2, H⟩ := bindE H
            refine s_call 64 27 #[.pointer (some ⟨b2_2, 0, none⟩), .int .i64 y10_4] (by kernel_rfl) (by kernel_rfl) (fun _ => by kernel_rfl) (Tr.conv (Γ' := (CacheA b2_2 v0_b2_2) :: (IntsA v0_9a v0_9c v0_9x) :: (VMapA Value.bool m5_0 v0_m5_0) :: Γ) (fun w hw => (Sat.less (.take (.there (.there .here)) (.take .here (.take .here .refl))) hw)) (FullF_tr b2_2 v0_b2_2 y10_4 y13_2 hy13_2)) ?_
            rintro _ _ ⟨rfl, rfl⟩
            refine s_pure 65 (.bool e6_13) (by kernel_rfl) (by kernel_rfl) (fun _ => by kernel_rfl) ?_
            refine s_pure 66 (.bool (!(y13_2 == e6_13))) (by kernel_rfl) (by kernel_rfl) (fun _ => by kernel_rfl) ?_
            rcases Bool.eq_false_or_eq_true (!(y13_2 == e6_13)) with h8 | h8
            · replace H := bifT H h8
              refine s_pure 67 (.bool true) (by kernel_rfl) (by kernel_rfl) (run_eq (v := .bool (!(y13_2 == e6_13))) (fun _ => by kernel_rfl) (congrArg Value.bool h8)) ?_
              refine s_pass 68 (by kernel_rfl) (by kernel_rfl) ?_
              refine s_pass 69 (by kernel_rfl) (by kernel_rfl) ?_
              refine s_pass 70 (by kernel_rfl) (by kernel_rfl) ?_
              refine s_pass 71 (by kernel_rfl) (by kernel_rfl) ?_
              refine s_pass 72 (by kernel_rfl) (by kernel_rfl) ?_
              refine s_pass 73 (by kernel_rfl) (by kernel_rfl) ?_
              refine s_pass 74 (by kernel_rfl) (by kernel_rfl) ?_
              refine s_pass 75 (by kernel_rfl) (by kernel_rfl) ?_
              refine s_pure 76 (.bool true) (by kernel_rfl) (by kernel_rfl) (fun _ => by kernel_rfl) ?_
              refine ops_end ?_
              refine At.env [(0, .int .i64 (wr ((1 : Int) + y1_1))), (1, .int .i64 (wr ((1 : Int) + y1_4))), (2, .slice linesa (List.length lines) linescap), (7, .pointer (some ⟨b2_2, 0, none⟩)), (8, .map (some m5_0)), (9, .slice v0_9a (List.length v0_9x) v0_9c), (10, .int .i64 v0_10), (11, .int .i64 y10_4), (12, .int .i64 (y10_4.tmod (wr ((1 : Int) + y1_1)))), (13, .bool e6_13), (76, .bool true)] ⟨by kernel_rfl, by kernel_rfl, by kernel_rfl, by kernel_rfl, by kernel_rfl, by kernel_rfl, by kernel_rfl, by kernel_rfl, by kernel_rfl, by kernel_rfl, by kernel_rfl, trivial⟩ ?_
              refine at_round_normal ?_
              exact at_join_mk [(0, .int .i64 (wr ((1 : Int) + y1_1))), (1, .int .i64 (wr ((1 : Int) + y1_4))), (2, .slice linesa (List.length lines) linescap), (7, .pointer (some ⟨b2_2, 0, none⟩)), (8, .map (some m5_0)), (9, .slice v0_9a (List.length v0_9x) v0_9c), (10, .int .i64 v0_10), (11, .int .i64 y10_4), (12, .int .i64 (y10_4.tmod (wr ((1 : Int) + y1_1)))), (13, .bool e6_13), (76, .bool true)] ((IntsA v0_9a v0_9c v0_9x) :: (VMapA Value.bool m5_0 v0_m5_0) :: (CacheA b2_2 v0_b2_2) :: Γ) ⟨by kernel_rfl, by kernel_rfl, by kernel_rfl, by kernel_rfl, by kernel_rfl, by kernel_rfl, by kernel_rfl, by kernel_rfl, by kernel_rfl, by kernel_rfl, by kernel_rfl, trivial⟩ (fun w hw => (Sat.less (.take (.there .here) (.take (.there .here) (.take .here .refl))) hw)) ⟨true, v0_b2_2, H, rfl, rfl⟩
            · replace H := bifF H h8
              refine s_pure 67 (.bool false) (by kernel_rfl) (by kernel_rfl) (run_eq (v := .bool (!(y13_2 == e6_13))) (fun _ => by kernel_rfl) (congrArg Value.bool h8)) ?_
              refine s_pure 68 (.pointer (some ⟨b2_2, 0, none⟩)) (by kernel_rfl) (by kernel_rfl) (fun _ => by kernel_rfl) ?_
              refine s_pure 69 (.int .i64 y10_4) (by kernel_rfl) (by kernel_rfl) (fun _ => by kernel_rfl) ?_
              refine s_pure 70 (.int .i64 v0_10) (by kernel_rfl) (by kernel_rfl) (fun _ => by kernel_rfl) ?_
              obtain ⟨y13_9, hy13_9, H⟩ := bindE H
              refine s_call 71 16 #[.int .i64 y10_4, .int .i64 v0_10, .int .i64 (-1), .bool false, .slice none 0 0] (by kernel_rfl) (by kernel_rfl) (fun _ => by kernel_rfl) (ENewF_tr y10_4 v0_10 ((-1) : Int) false none 0 ([] : List Int) Reads.nil y13_9 hy13_9) ?_
              rintro _ _ ⟨a13_9_00, c13_9_00, rfl, rfl⟩
              obtain ⟨y13_10, hy13_10, H⟩ := bindE H
              refine s_call 72 15 #[.pointer (some ⟨b2_2, 0, none⟩), .agg #[.int .i64 y13_9.fwd, .int .i64 y13_9.back, .int .i64 y13_9.line, .int .i64 y13_9.used, .bool y13_9.dirty, .slice a13_9_00 (List.length y13_9.data) c13_9_00]] (by kernel_rfl) (by kernel_rfl) (fun _ => by kernel_rfl) (Tr.conv (Γ' := (CacheA b2_2 v0_b2_2) :: (IntsA a13_9_00 c13_9_00 y13_9.data) :: (IntsA v0_9a v0_9c v0_9x) :: (VMapA Value.bool m5_0 v0_m5_0) :: Γ) (fun w hw => (Sat.less (.take (.there .here) (.take .here (.take .here (.take .here .refl)))) hw)) (PutF_tr b2_2 v0_b2_2 a13_9_00 c13_9_00 y13_9 (RowsA.reads (k := 1) .here) y13_10 hy13_10)) ?_
              rintro _ _ ⟨rfl, rfl⟩
              refine s_pure 73 (.bool (decide (y13_10.1 = (0 : Int)))) (by kernel_rfl) (by kernel_rfl) (fun _ => by kernel_rfl) ?_
              refine s_pure 74 (.bool e6_13) (by kernel_rfl) (by kernel_rfl) (fun _ => by kernel_rfl) ?_
              refine s_pure 75 (.bool ((decide (y13_10.1 = (0 : Int))) == e6_13)) (by kernel_rfl) (by kernel_rfl) (fun _ => by kernel_rfl) ?_
              refine s_pure 76 (.bool ((decide (y13_10.1 = (0 : Int))) == e6_13)) (by kernel_rfl) (by kernel_rfl) (fun _ => by kernel_rfl) ?_
              refine ops_end ?_
              refine At.env [(0, .int .i64 (wr ((1 : Int) + y1_1))), (1, .int .i64 (wr ((1 : Int) + y1_4))), (2, .slice linesa (List.length lines) linescap), (7, .pointer (some ⟨b2_2, 0, none⟩)), (8, .map (some m5_0)), (9, .slice v0_9a (List.length v0_9x) v0_9c), (10, .int .i64 v0_10), (11, .int .i64 y10_4), (12, .int .i64 (y10_4.tmod (wr ((1 : Int) + y1_1)))), (13, .bool e6_13), (76, .bool ((decide (y13_10.1 = (0 : Int))) == e6_13))] ⟨by kernel_rfl, by kernel_rfl, by kernel_rfl, by kernel_rfl, by kernel_rfl, by kernel_rfl, by kernel_rfl, by kernel_rfl, by kernel_rfl, by kernel_rfl, by kernel_rfl, trivial⟩ ?_
              refine at_round_normal ?_
              exact at_join_mk [(0, .int .i64 (wr ((1 : Int) + y1_1))), (1, .int .i64 (wr ((1 : Int) + y1_4))), (2, .slice linesa (List.length lines) linescap), (7, .pointer (some ⟨b2_2, 0, none⟩)), (8, .map (some m5_0)), (9, .slice v0_9a (List.length v0_9x) v0_9c), (10, .int .i64 v0_10), (11, .int .i64 y10_4), (12, .int .i64 (y10_4.tmod (wr ((1 : Int) + y1_1)))), (13, .bool e6_13), (76, .bool ((decide (y13_10.1 = (0 : Int))) == e6_13))] ((IntsA v0_9a v0_9c v0_9x) :: (VMapA Value.bool m5_0 v0_m5_0) :: (CacheA b2_2 y13_10.2) :: Γ) ⟨by kernel_rfl, by kernel_rfl, by kernel_rfl, by kernel_rfl, by kernel_rfl, by kernel_rfl, by kernel_rfl, by kernel_rfl, by kernel_rfl, by kernel_rfl, by kernel_rfl, trivial⟩ (fun w hw => (Sat.less (.take (.there (.there .here)) (.take (.there (.there .here)) (.take .here (.drop .here .refl)))) hw)) ⟨((decide (y13_10.1 = (0 : Int))) == e6_13), y13_10.2, H, rfl, rfl⟩
        · refine at_region (id := 12) 13 (by kernel_rfl) (by kernel_rfl) ?_
          refine s_pure 50 (.map (some m5_0)) (by kernel_rfl) (by kernel_rfl) (fun _ => by kernel_rfl) ?_
          refine s_pure 51 (.int .i64 y10_4) (by kernel_rfl) (by kernel_rfl) (fun _ => by kernel_rfl) ?_
          obtain ⟨y12_2, hy12_2, H⟩ := letE H
          refine s_load 52 (.bool (y12_2.getD false)) (by kernel_rfl) (by kernel_rfl) (vmap_lookup1 (f := Value.bool) false (t := 48) (K := 3) (V := 4) (ik := .i64) (k := y10_4) (info := tinfo 4) hy12_2 (fun _ => by kernel_rfl) (by kernel_rfl) (by kernel_rfl) (by kernel_rfl) (by kernel_rfl) (.there .here)) ?_
          refine s_pure 53 (.bool (!(y12_2.getD false))) (by kernel_rfl) (by kernel_rfl) (fun _ => by kernel_rfl) ?_
          rcases Bool.eq_false_or_eq_true (!(y12_2.getD false)) with h9 | h9
          · replace H := bifT H h9
            refine s_pure 54 (.bool true) (by kernel_rfl) (by kernel_rfl) (run_eq (v := .bool (!(y12_2.getD false))) (fun _ => by kernel_rfl) (congrArg Value.bool h9)) ?_
            refine s_pure 55 (.slice v0_9a (List.length v0_9x) v0_9c) (by kernel_rfl) (by kernel_rfl) (fun _ => by kernel_rfl) ?_
            refine s_pure 56 (.int .i64 (y10_4.tmod (wr ((1 : Int) + y1_1)))) (by kernel_rfl) (by kernel_rfl) (fun _ => by kernel_rfl) ?_
            obtain ⟨hc12_7_0, H⟩ := chkE H
            refine rows_at .here (by have := hc12_7_0; simp only [ints_length]; omega) ?_
            intro bb3 oo3 ha3
            refine s_pure 57 (.pointer (some ⟨bb3, oo3 + (((y10_4.tmod (wr ((1 : Int) + y1_1)))).toNat * 1 + 0), none⟩)) (by kernel_rfl) (by kernel_rfl) (index_at (t := 22) (sz := 1) (E := 3) (a := v0_9a) (m := (List.length v0_9x)) (c := v0_9c) (b := bb3) (off := oo3) (i := ((y10_4.tmod (wr ((1 : Int) + y1_1)))).toNat) (tinfo 3) (fun _ => by kernel_rfl) (by kernel_rfl) (by kernel_rfl) (by kernel_rfl) ha3 (idx_cast hc12_7_0) (idx_nat hc12_7_0) rfl) ?_
            refine s_load 58 (.int .i64 (nth v0_9x (y10_4.tmod (wr ((1 : Int) + y1_1))))) (by kernel_rfl) (by kernel_rfl) (load1_at (off := oo3 + (((y10_4.tmod (wr ((1 : Int) + y1_1)))).toNat * 1 + 0)) (v := .int .i64 (nth v0_9x (y10_4.tmod (wr ((1 : Int) + y1_1))))) (fun _ => by kernel_rfl) rfl (reads_cell (k := 1) (RowsA.reads (k := 1) .here) (ints_rows _) ha3 (nth_row hc12_7_0) (show [(.int .i64 (nth v0_9x (y10_4.tmod (wr ((1 : Int) + y1_1)))) : Value)][0]? = some _ from rfl))) ?_
            refine s_pure 59 (.int .i64 (wr ((1 : Int) + y1_4))) (by kernel_rfl) (by kernel_rfl) (fun _ => by kernel_rfl) ?_
            refine s_pure 60 (.bool (decide ((nth v0_9x (y10_4.tmod (wr ((1 : Int) + y1_1)))) = (wr ((1 : Int) + y1_4))))) (by kernel_rfl) (by kernel_rfl) (fun _ => by kernel_rfl) ?_
            refine s_pure 61 (.bool (decide ((nth v0_9x (y10_4.tmod (wr ((1 : Int) + y1_1)))) = (wr ((1 : Int) + y1_4))))) (by kernel_rfl) (by kernel_rfl) (fun _ => by kernel_rfl) ?_
            refine s_pure 13 (.bool (decide ((nth v0_9x (y10_4.tmod (wr ((1 : Int) + y1_1)))) = (wr ((1 : Int) + y1_4))))) (by kernel_rfl) (by kernel_rfl) (fun _ => by kernel_rfl) ?_
            refine ops_end ?_
            refine At.env [(0, .int .i64 (wr ((1 : Int) + y1_1))), (1, .int .i64 (wr ((1 : Int) + y1_4))), (2, .slice linesa (List.length lines) linescap), (7, .pointer (some ⟨b2_2, 0, none⟩)), (8, .map (some m5_0)), (9, .slice v0_9a (List.length v0_9x) v0_9c), (10, .int .i64 v0_10), (11, .int .i64 y10_4), (12, .int .i64 (y10_4.tmod (wr ((1 : Int) + y1_1)))), (13, .bool (decide ((nth v0_9x (y10_4.tmod (wr ((1 : Int) + y1_1)))) = (wr ((1 : Int) + y1_4)))))] ⟨by kernel_rfl, by kernel_rfl, by kernel_rfl, by kernel_rfl, by kernel_rfl, by kernel_rfl, by kernel_rfl, by kernel_rfl, by kernel_rfl, by kernel_rfl, trivial⟩ ?_
            refine at_round_normal ?_
            exact at_join_mk [(0, .int .i64 (wr ((1 : Int) + y1_1))), (1, .int .i64 (wr ((1 : Int) + y1_4))), (2, .slice linesa (List.length lines) linescap), (7, .pointer (some ⟨b2_2, 0, none⟩)), (8, .map (some m5_0)), (9, .slice v0_9a (List.length v0_9x) v0_9c), (10, .int .i64 v0_10), (11, .int .i64 y10_4), (12, .int .i64 (y10_4.tmod (wr ((1 : Int) + y1_1)))), (13, .bool (decide ((nth v0_9x (y10_4.tmod (wr ((1 : Int) + y1_1)))) = (wr ((1 : Int) + y1_4)))))] ((IntsA v0_9a v0_9c v0_9x) :: (VMapA Value.bool m5_0 v0_m5_0) :: (CacheA b2_2 v0_b2_2) :: Γ) ⟨by kernel_rfl, by kernel_rfl, by kernel_rfl, by kernel_rfl, by kernel_rfl, by kernel_rfl, by kernel_rfl, by kernel_rfl, by kernel_rfl, by kernel_rfl, trivial⟩ (fun w hw => (Sat.less (.take .here (.take .here (.take .here .refl))) hw)) ⟨decide ((nth v0_9x (y10_4.tmod (wr ((1 : Int) + y1_1)))) = (wr ((1 : Int) + y1_4))), H, rfl, rfl⟩
          · replace H := bifF H h9
            refine s_pure 54 (.bool false) (by kernel_rfl) (by kernel_rfl) (run_eq (v := .bool (!(y12_2.getD false))) (fun _ => by kernel_rfl) (congrArg Value.bool h9)) ?_
            refine s_pass 55 (by kernel_rfl) (by kernel_rfl) ?_
            refine s_pass 56 (by kernel_rfl) (by kernel_rfl) ?_
            refine s_pass 57 (by kernel_rfl) (by kernel_rfl) ?_
            refine s_pass 58 (by kernel_rfl) (by kernel_rfl) ?_
            refine s_pass 59 (by kernel_rfl) (by kernel_rfl) ?_
            refine s_pass 60 (by kernel_rfl) (by kernel_rfl) ?_
            refine s_pure 61 (.bool false) (by kernel_rfl) (by kernel_rfl) (fun _ => by kernel_rfl) ?_
            refine s_pure 13 (.bool false) (by kernel_rfl) (by kernel_rfl) (fun _ => by kernel_rfl) ?_
            refine ops_end ?_
            refine At.env [(0, .int .i64 (wr ((1 : Int) + y1_1))), (1, .int .i64 (wr ((1 : Int) + y1_4))), (2, .slice linesa (List.length lines) linescap), (7, .pointer (some ⟨b2_2, 0, none⟩)), (8, .map (some m5_0)), (9, .slice v0_9a (List.length v0_9x) v0_9c), (10, .int .i64 v0_10), (11, .int .i64 y10_4), (12, .int .i64 (y10_4.tmod (wr ((1 : Int) + y1_1)))), (13, .bool false)] ⟨by kernel_rfl, by kernel_rfl, by kernel_rfl, by kernel_rfl, by kernel_rfl, by kernel_rfl, by kernel_rfl, by kernel_rfl, by kernel_rfl, by kernel_rfl, trivial⟩ ?_
            refine at_round_normal ?_
            exact at_join_mk [(0, .int .i64 (wr ((1 : Int) + y1_1))), (1, .int .i64 (wr ((1 : Int) + y1_4))), (2, .slice linesa (List.length lines) linescap), (7, .pointer (some ⟨b2_2, 0, none⟩)), (8, .map (some m5_0)), (9, .slice v0_9a (List.length v0_9x) v0_9c), (10, .int .i64 v0_10), (11, .int .i64 y10_4), (12, .int .i64 (y10_4.tmod (wr ((1 : Int) + y1_1)))), (13, .bool false)] ((IntsA v0_9a v0_9c v0_9x) :: (VMapA Value.bool m5_0 v0_m5_0) :: (CacheA b2_2 v0_b2_2) :: Γ) ⟨by kernel_rfl, by kernel_rfl, by kernel_rfl, by kernel_rfl, by kernel_rfl, by kernel_rfl, by kernel_rfl, by kernel_rfl, by kernel_rfl, by kernel_rfl, trivial⟩ (fun w hw => (Sat.less (.take .here (.take .here (.take .here .refl))) hw)) ⟨false, H, rfl, rfl⟩
    · replace H := bifF H h1
      refine at_false (t := e4_39) (x := C6 [1,1,1,1,1,1,0,1,0,0,0,1,0]) (y := C6 [1,1,1,1,1,1,0,1,0,0,0,1,1]) (o := .tmp 39) (by kernel_rfl) (by kernel_rfl) (by kernel_rfl) h1 ?_
      refine at_exit (i := 0) (by kernel_rfl) ?_
      refine at_then_exit ?_
      refine at_then_exit ?_
      rw [cacheSetsS_k0] at H
      refine At.env [(0, .int .i64 (wr ((1 : Int) + y1_1))), (1, .int .i64 (wr ((1 : Int) + y1_4))), (2, .slice linesa (List.length lines) linescap), (7, .pointer (some ⟨b2_2, 0, none⟩)), (8, .map (some m5_0)), (9, .slice v0_9a (List.length v0_9x) v0_9c), (10, .int .i64 v0_10)] ⟨by kernel_rfl, by kernel_rfl, by kernel_rfl, by kernel_rfl, by kernel_rfl, by kernel_rfl, by kernel_rfl, trivial⟩ ?_
      refine At.conv (Γ' := (IntsA v0_9a v0_9c v0_9x) :: (VMapA Value.bool m5_0 v0_m5_0) :: (CacheA b2_2 v0_b2_2) :: Γ) (fun w hw => (Sat.less (.take .here (.take .here (.take .here .refl))) hw)) ?_
      refine at_in_here ?_
      refine at_then_normal ?_
      refine at_seq (x := C6 [1,1,1,1,1,1,1,0]) (y := C6 [1,1,1,1,1,1,1,1]) (by kernel_rfl) ?_
      refine at_region (id := 21) 3 (by kernel_rfl) (by kernel_rfl) ?_
      refine s_pure 114 (.pointer (some ⟨b2_2, 0, none⟩)) (by kernel_rfl) (by kernel_rfl) (fun _ => by kernel_rfl) ?_
      refine CacheA.tox (.there (.there .here)) ?_
      intro x21_1_b2_2
      obtain ⟨y21_1, hy21_1, H⟩ := bindE H
      refine s_call 115 28 #[.pointer (some ⟨b2_2, 0, none⟩)] (by kernel_rfl) (by kernel_rfl) (fun _ => by kernel_rfl) (LinesF_tr b2_2 x21_1_b2_2 v0_b2_2 y21_1 hy21_1) ?_
      rintro _ _ ⟨a21_1_00, c21_1_00, rfl, rfl⟩
      refine s_pure 16 (.slice a21_1_00 (List.length y21_1) c21_1_00) (by kernel_rfl) (by kernel_rfl) (fun _ => by kernel_rfl) ?_
      refine ops_end ?_
      refine At.env [(7, .pointer (some ⟨b2_2, 0, none⟩)), (8, .map (some m5_0)), (16, .slice a21_1_00 (List.length y21_1) c21_1_00)] ⟨by kernel_rfl, by kernel_rfl, by kernel_rfl, trivial⟩ ?_
      refine at_then_normal ?_
      refine At.conv (Γ' := (CacheA b2_2 v0_b2_2) :: (IntsA a21_1_00 c21_1_00 y21_1) :: (IntsA v0_9a v0_9c v0_9x) :: (VMapA Value.bool m5_0 v0_m5_0) :: Γ) (fun w hw => CacheXA.shut (hw.pull (.there .here))) ?_
      refine at_seq (x := C6 [1,1,1,1,1,1,1,1,0]) (y := C6 [1,1,1,1,1,1,1,1,1]) (by kernel_rfl) ?_
      refine at_seq (x := C6 [1,1,1,1,1,1,1,1,0,0]) (y := C6 [1,1,1,1,1,1,1,1,0,1]) (by kernel_rfl) ?_
      refine at_region (id := 22) 3 (by kernel_rfl) (by kernel_rfl) ?_
      refine s_pure 116 (.slice a21_1_00 (List.length y21_1) c21_1_00) (by kernel_rfl) (by kernel_rfl) (fun _ => by kernel_rfl) ?_
      refine s_pure 117 (.int .i64 (((List.length y21_1) : Nat) : Int)) (by kernel_rfl) (by kernel_rfl) (fun _ => by kernel_rfl) ?_
      refine s_pure 118 (.int .i64 (0)) (by kernel_rfl) (by kernel_rfl) (fun _ => by kernel_rfl) ?_
      refine ops_end ?_
      refine At.env [(7, .pointer (some ⟨b2_2, 0, none⟩)), (8, .map (some m5_0)), (16, .slice a21_1_00 (List.length y21_1) c21_1_00), (117, .int .i64 (((List.length y21_1) : Nat) : Int)), (118, .int .i64 (0))] ⟨by kernel_rfl, by kernel_rfl, by kernel_rfl, by kernel_rfl, by kernel_rfl, trivial⟩ ?_
      refine at_then_normal ?_
      refine at_block (i := 2) (x := C6 [1,1,1,1,1,1,1,1,0,1,0]) (by kernel_rfl) ?_
      refine At.conv (Γ' := (CacheA b2_2 v0_b2_2) :: (IntsA a21_1_00 c21_1_00 y21_1) :: (VMapA Value.bool m5_0 v0_m5_0) :: Γ) (fun w hw => (Sat.less (.take .here (.take .here (.take (.there .here) (.drop .here .refl)))) hw)) ?_
      refine at_loopR (x := C6 [1,1,1,1,1,1,1,1,0,1,0,0]) (fun mm ff ΔΔ => ∃ (fuel : Nat) (v1_118 : Int), cacheSetsS_l1 y21_1 v0_m5_0 (cacheSetsS_k1 y21_1 v0_m5_0 v0_b2_2) fuel v1_118 = some y ∧ fuel = mm ∧ ff = [(7, .pointer (some ⟨b2_2, 0, none⟩)), (8, .map (some m5_0)), (16, .slice a21_1_00 (List.length y21_1) c21_1_00), (117, .int .i64 (((List.length y21_1) : Nat) : Int)), (118, .int .i64 v1_118)] ∧ (CacheA b2_2 v0_b2_2) :: (IntsA a21_1_00 c21_1_00 y21_1) :: (VMapA Value.bool m5_0 v0_m5_0) :: Γ = ΔΔ) (64) (by kernel_rfl) [(7, .pointer (some ⟨b2_2, 0, none⟩)), (8, .map (some m5_0)), (16, .slice a21_1_00 (List.length y21_1) c21_1_00), (117, .int .i64 (((List.length y21_1) : Nat) : Int)), (118, .int .i64 0)] ⟨by kernel_rfl, by kernel_rfl, by kernel_rfl, by kernel_rfl, by kernel_rfl, trivial⟩ ⟨64, 0, H, rfl, rfl, rfl⟩ ?_
      rintro _ _ _ ⟨fuel2, v1_118, H, rfl, rfl, rfl⟩
      rcases fuel2 with _ | fuel2
      · exact (noneE H).elim
      rw [cacheSetsS_l1] at H
      refine at_seq (x := C6 [1,1,1,1,1,1,1,1,0,1,0,0,0]) (y := C6 [1,1,1,1,1,1,1,1,0,1,0,0,1]) (by kernel_rfl) ?_
      refine at_region (id := 23) 1 (by kernel_rfl) (by kernel_rfl) ?_
      refine s_pure 119 (.bool (decide (v1_118 < (((List.length y21_1) : Nat) : Int)))) (by kernel_rfl) (by kernel_rfl) (fun _ => by kernel_rfl) ?_
      refine ops_end ?_
      refine At.env [(7, .pointer (some ⟨b2_2, 0, none⟩)), (8, .map (some m5_0)), (16, .slice a21_1_00 (List.length y21_1) c21_1_00), (117, .int .i64 (((List.length y21_1) : Nat) : Int)), (118, .int .i64 v1_118), (119, .bool (decide (v1_118 < (((List.length y21_1) : Nat) : Int))))] ⟨by kernel_rfl, by kernel_rfl, by kernel_rfl, by kernel_rfl, by kernel_rfl, by kernel_rfl, trivial⟩ ?_
      refine at_then_normal ?_
      refine at_seq (x := C6 [1,1,1,1,1,1,1,1,0,1,0,0,1,0]) (y := C6 [1,1,1,1,1,1,1,1,0,1,0,0,1,1]) (by kernel_rfl) ?_
      rcases Bool.eq_false_or_eq_true (decide (v1_118 < (((List.length y21_1) : Nat) : Int))) with h10 | h10
      · replace H := bifT H h10
        refine at_true (t := decide (v1_118 < (((List.length y21_1) : Nat) : Int))) (x := C6 [1,1,1,1,1,1,1,1,0,1,0,0,1,0,0]) (y := C6 [1,1,1,1,1,1,1,1,0,1,0,0,1,0,1]) (o := .tmp 119) (by kernel_rfl) (by kernel_rfl) (by kernel_rfl) h10 ?_
        refine at_skip (by kernel_rfl) ?_
        refine at_then_normal ?_
        refine at_seq_join (x := C6 [1,1,1,1,1,1,1,1,0,1,0,0,1,1,0]) (y := C6 [1,1,1,1,1,1,1,1,0,1,0,0,1,1,1]) (fun ff ΔΔ => cacheSetsS_j2 v1_118 (cacheSetsS_l1 y21_1 v0_m5_0 (cacheSetsS_k1 y21_1 v0_m5_0 v0_b2_2) fuel2) = some y ∧ ff = [(7, .pointer (some ⟨b2_2, 0, none⟩)), (8, .map (some m5_0)), (16, .slice a21_1_00 (List.length y21_1) c21_1_00), (117, .int .i64 (((List.length y21_1) : Nat) : Int)), (118, .int .i64 v1_118)] ∧ (CacheA b2_2 v0_b2_2) :: (IntsA a21_1_00 c21_1_00 y21_1) :: (VMapA Value.bool m5_0 v0_m5_0) :: Γ = ΔΔ) (by kernel_rfl) ?_ ?_
        · rintro _ _ ⟨H, rfl, rfl⟩
          rw [cacheSetsS_j2] at H
          refine at_region (id := 27) 2 (by kernel_rfl) (by kernel_rfl) ?_
          obtain ⟨hc27_0_0, H⟩ := chkE H
          refine s_pure 144 (.int .i64 (v1_118 + (1 : Int))) (by kernel_rfl) (by kernel_rfl) (run_eq (v := .int .i64 (IntKind.i64.wrap (v1_118 + (1 : Int)))) (fun _ => by kernel_rfl) (by rw [inR.wrap hc27_0_0])) ?_
          refine s_pure 118 (.int .i64 (v1_118 + (1 : Int))) (by kernel_rfl) (by kernel_rfl) (fun _ => by kernel_rfl) ?_
          refine ops_end ?_
          refine At.env [(7, .pointer (some ⟨b2_2, 0, none⟩)), (8, .map (some m5_0)), (16, .slice a21_1_00 (List.length y21_1) c21_1_00), (117, .int .i64 (((List.length y21_1) : Nat) : Int)), (118, .int .i64 (v1_118 + (1 : Int)))] ⟨by kernel_rfl, by kernel_rfl, by kernel_rfl, by kernel_rfl, by kernel_rfl, trivial⟩ ?_
          refine at_round_normal ?_
          exact at_roundR fuel2 [(7, .pointer (some ⟨b2_2, 0, none⟩)), (8, .map (some m5_0)), (16, .slice a21_1_00 (List.length y21_1) c21_1_00), (117, .int .i64 (((List.length y21_1) : Nat) : Int)), (118, .int .i64 (v1_118 + (1 : Int)))] ((CacheA b2_2 v0_b2_2) :: (IntsA a21_1_00 c21_1_00 y21_1) :: (VMapA Value.bool m5_0 v0_m5_0) :: Γ) (Nat.lt_succ_self _) ⟨by kernel_rfl, by kernel_rfl, by kernel_rfl, by kernel_rfl, by kernel_rfl, trivial⟩ (fun w hw => (Sat.less (.take .here (.take .here (.take .here .refl))) hw)) ⟨fuel2, v1_118 + (1 : Int), H, rfl, rfl, rfl⟩
        · refine at_block (i := 3) (x := C6 [1,1,1,1,1,1,1,1,0,1,0,0,1,1,0,0]) (by kernel_rfl) ?_
          refine at_seq (x := C6 [1,1,1,1,1,1,1,1,0,1,0,0,1,1,0,0,0]) (y := C6 [1,1,1,1,1,1,1,1,0,1,0,0,1,1,0,0,1]) (by kernel_rfl) ?_
          refine at_region (id := 24) 2 (by kernel_rfl) (by kernel_rfl) ?_
          refine s_pure 120 (.int .i64 v1_118) (by kernel_rfl) (by kernel_rfl) (fun _ => by kernel_rfl) ?_
          refine s_pure 17 (.int .i64 v1_118) (by kernel_rfl) (by kernel_rfl) (fun _ => by kernel_rfl) ?_
          refine ops_end ?_
          refine At.env [(7, .pointer (some ⟨b2_2, 0, none⟩)), (8, .map (some m5_0)), (16, .slice a21_1_00 (List.length y21_1) c21_1_00), (17, .int .i64 v1_118), (117, .int .i64 (((List.length y21_1) : Nat) : Int)), (118, .int .i64 v1_118)] ⟨by kernel_rfl, by kernel_rfl, by kernel_rfl, by kernel_rfl, by kernel_rfl, by kernel_rfl, trivial⟩ ?_
          refine at_then_normal ?_
          refine at_seq_join (x := C6 [1,1,1,1,1,1,1,1,0,1,0,0,1,1,0,0,1,0]) (y := C6 [1,1,1,1,1,1,1,1,0,1,0,0,1,1,0,0,1,1]) (fun ff ΔΔ => ∃ (e3_143 : Bool), cacheSetsS_j3 v1_118 (cacheSetsS_l1 y21_1 v0_m5_0 (cacheSetsS_k1 y21_1 v0_m5_0 v0_b2_2) fuel2) e3_143 = some y ∧ ff = [(7, .pointer (some ⟨b2_2, 0, none⟩)), (8, .map (some m5_0)), (16, .slice a21_1_00 (List.length y21_1) c21_1_00), (117, .int .i64 (((List.length y21_1) : Nat) : Int)), (118, .int .i64 v1_118), (143, .bool e3_143)] ∧ (CacheA b2_2 v0_b2_2) :: (IntsA a21_1_00 c21_1_00 y21_1) :: (VMapA Value.bool m5_0 v0_m5_0) :: Γ = ΔΔ) (by kernel_rfl) ?_ ?_
          · rintro _ _ ⟨e3_143, H, rfl, rfl⟩
            rw [cacheSetsS_j3] at H
            rcases Bool.eq_false_or_eq_true (e3_143) with h11 | h11
            · replace H := bifT H h11
              refine at_true (t := e3_143) (x := C6 [1,1,1,1,1,1,1,1,0,1,0,0,1,1,0,0,1,1,0]) (y := C6 [1,1,1,1,1,1,1,1,0,1,0,0,1,1,0,0,1,1,1]) (o := .tmp 143) (by kernel_rfl) (by kernel_rfl) (by kernel_rfl) h11 ?_
              refine at_seq (x := C6 [1,1,1,1,1,1,1,1,0,1,0,0,1,1,0,0,1,1,0,0]) (y := C6 [1,1,1,1,1,1,1,1,0,1,0,0,1,1,0,0,1,1,0,1]) (by kernel_rfl) ?_
              refine at_region (id := 26) 1 (by kernel_rfl) (by kernel_rfl) ?_
              refine s_pure 6 (.bool false) (by kernel_rfl) (by kernel_rfl) (fun _ => by kernel_rfl) ?_
              refine ops_end ?_
              refine At.env [(6, .bool false)] ⟨by kernel_rfl, trivial⟩ ?_
              refine at_then_normal ?_
              refine at_ret (by kernel_rfl) ?_
              refine at_in_ret ?_
              refine at_then_ret ?_
              refine at_then_ret ?_
              refine at_in_ret ?_
              refine at_then_ret ?_
              obtain rfl := someE H
              refine at_backR [.bool false] (Γ) (rs := [.tmp 6]) (by kernel_rfl) (.cons (.tmp (by kernel_rfl)) .nil) (fun w hw => (Sat.less (.drop .here (.drop .here (.drop .here .refl))) hw)) ?_
              exact ⟨rfl, rfl⟩
            · replace H := bifF H h11
              refine at_false (t := e3_143) (x := C6 [1,1,1,1,1,1,1,1,0,1,0,0,1,1,0,0,1,1,0]) (y := C6 [1,1,1,1,1,1,1,1,0,1,0,0,1,1,0,0,1,1,1]) (o := .tmp 143) (by kernel_rfl) (by kernel_rfl) (by kernel_rfl) h11 ?_
              refine at_skip (by kernel_rfl) ?_
              refine at_in_normal ?_
              refine at_round_normal ?_
              exact at_join_mk [(7, .pointer (some ⟨b2_2, 0, none⟩)), (8, .map (some m5_0)), (16, .slice a21_1_00 (List.length y21_1) c21_1_00), (117, .int .i64 (((List.length y21_1) : Nat) : Int)), (118, .int .i64 v1_118)] ((CacheA b2_2 v0_b2_2) :: (IntsA a21_1_00 c21_1_00 y21_1) :: (VMapA Value.bool m5_0 v0_m5_0) :: Γ) ⟨by kernel_rfl, by kernel_rfl, by kernel_rfl, by kernel_rfl, by kernel_rfl, trivial⟩ (fun w hw => (Sat.less (.take .here (.take .here (.take .here .refl))) hw)) ⟨H, rfl, rfl⟩
          · refine at_region_draw (id := 25) (by kernel_rfl) (by kernel_rfl) ?_
            refine d_pure 0 121 (.map (some m5_0)) (by kernel_rfl) (by kernel_rfl) (by kernel_rfl) (fun _ => by kernel_rfl) ?_
            refine d_pure 1 122 (.slice a21_1_00 (List.length y21_1) c21_1_00) (by kernel_rfl) (by kernel_rfl) (by kernel_rfl) (fun _ => by kernel_rfl) ?_
            refine d_pure 2 123 (.int .i64 v1_118) (by kernel_rfl) (by kernel_rfl) (by kernel_rfl) (fun _ => by kernel_rfl) ?_
            obtain ⟨hc25_3_0, H⟩ := chkE H
            refine rows_at_draw (.there .here) (by have := hc25_3_0; simp only [ints_length]; omega) ?_
            intro bb4 oo4 ha4
            refine d_pure 3 124 (.pointer (some ⟨bb4, oo4 + ((v1_118).toNat * 1 + 0), none⟩)) (by kernel_rfl) (by kernel_rfl) (by kernel_rfl) (index_at (t := 22) (sz := 1) (E := 3) (a := a21_1_00) (m := (List.length y21_1)) (c := c21_1_00) (b := bb4) (off := oo4) (i := (v1_118).toNat) (tinfo 3) (fun _ => by kernel_rfl) (by kernel_rfl) (by kernel_rfl) (by kernel_rfl) ha4 (idx_cast hc25_3_0) (idx_nat hc25_3_0) rfl) ?_
            refine d_load 4 125 (.int .i64 (nth y21_1 v1_118)) (by kernel_rfl) (by kernel_rfl) (by kernel_rfl) (load1_at (off := oo4 + ((v1_118).toNat * 1 + 0)) (v := .int .i64 (nth y21_1 v1_118)) (fun _ => by kernel_rfl) rfl (reads_cell (k := 1) (RowsA.reads (k := 1) (.there .here)) (ints_rows _) ha4 (nth_row hc25_3_0) (show [(.int .i64 (nth y21_1 v1_118) : Value)][0]? = some _ from rfl))) ?_
            obtain ⟨y25_5, hy25_5, H⟩ := letE H
            refine d_load 5 126 (.bool (y25_5.getD false)) (by kernel_rfl) (by kernel_rfl) (by kernel_rfl) (vmap_lookup1 (f := Value.bool) false (t := 48) (K := 3) (V := 4) (ik := .i64) (k := nth y21_1 v1_118) (info := tinfo 4) hy25_5 (fun _ => by kernel_rfl) (by kernel_rfl) (by kernel_rfl) (by kernel_rfl) (by kernel_rfl) (.there (.there .here))) ?_
            refine d_pure 6 127 (.bool (!(y25_5.getD false))) (by kernel_rfl) (by kernel_rfl) (by kernel_rfl) (fun _ => by kernel_rfl) ?_
            rcases Bool.eq_false_or_eq_true (!(y25_5.getD false)) with h12 | h12
            · replace H := bifT H h12
              refine d_pure 7 128 (.bool true) (by kernel_rfl) (by kernel_rfl) (by kernel_rfl) (run_eq (v := .bool (!(y25_5.getD false))) (fun _ => by kernel_rfl) (congrArg Value.bool h12)) ?_
              refine d_off 8 129 (by kernel_rfl) (by kernel_rfl) (by kernel_rfl) ?_
              refine d_off 9 130 (by kernel_rfl) (by kernel_rfl) (by kernel_rfl) ?_
              refine d_off 10 131 (by kernel_rfl) (by kernel_rfl) (by kernel_rfl) ?_
              refine d_off 11 132 (by kernel_rfl) (by kernel_rfl) (by kernel_rfl) ?_
              refine d_off 12 133 (by kernel_rfl) (by kernel_rfl) (by kernel_rfl) ?_
              refine d_off 13 134 (by kernel_rfl) (by kernel_rfl) (by kernel_rfl) ?_
              refine d_off 14 135 (by kernel_rfl) (by kernel_rfl) (by kernel_rfl) ?_
              refine d_off 15 136 (by kernel_rfl) (by kernel_rfl) (by kernel_rfl) ?_
              refine d_off 16 137 (by kernel_rfl) (by kernel_rfl) (by kernel_rfl) ?_
              refine d_off 17 138 (by kernel_rfl) (by kernel_rfl) (by kernel_rfl) ?_
              refine d_off 18 139 (by kernel_rfl) (by kernel_rfl) (by kernel_rfl) ?_
              refine d_off 19 140 (by kernel_rfl) (by kernel_rfl) (by kernel_rfl) ?_
              refine d_off 20 141 (by kernel_rfl) (by kernel_rfl) (by kernel_rfl) ?_
              refine d_off 21 142 (by kernel_rfl) (by kernel_rfl) (by kernel_rfl) ?_
              refine d_pure 22 143 (.bool true) (by kernel_rfl) (by kernel_rfl) (by kernel_rfl) (fun _ => by kernel_rfl) ?_
              refine draw_end (by kernel_rfl) ?_
              refine At.env [(7, .pointer (some ⟨b2_2, 0, none⟩)), (8, .map (some m5_0)), (16, .slice a21_1_00 (List.length y21_1) c21_1_00), (117, .int .i64 (((List.length y21_1) : Nat) : Int)), (118, .int .i64 v1_118), (143, .bool true)] ⟨by kernel_rfl, by kernel_rfl, by kernel_rfl, by kernel_rfl, by kernel_rfl, by kernel_rfl, trivial⟩ ?_
              refine at_round_normal ?_
              exact at_join_mk [(7, .pointer (some ⟨b2_2, 0, none⟩)), (8, .map (some m5_0)), (16, .slice a21_1_00 (List.length y21_1) c21_1_00), (117, .int .i64 (((List.length y21_1) : Nat) : Int)), (118, .int .i64 v1_118), (143, .bool true)] ((CacheA b2_2 v0_b2_2) :: (IntsA a21_1_00 c21_1_00 y21_1) :: (VMapA Value.bool m5_0 v0_m5_0) :: Γ) ⟨by kernel_rfl, by kernel_rfl, by kernel_rfl, by kernel_rfl, by kernel_rfl, by kernel_rfl, trivial⟩ (fun w hw => (Sat.less (.take .here (.take .here (.take .here .refl))) hw)) ⟨true, H, rfl, rfl⟩
            · replace H := bifF H h12
              refine d_pure 7 128 (.bool false) (by kernel_rfl) (by kernel_rfl) (by kernel_rfl) (run_eq (v := .bool (!(y25_5.getD false))) (fun _ => by kernel_rfl) (congrArg Value.bool h12)) ?_
              refine d_pure 8 129 (.int .i64 v1_118) (by kernel_rfl) (by kernel_rfl) (by kernel_rfl) (fun _ => by kernel_rfl) ?_
              refine d_pure 9 130 (.bool (decide ((0 : Int) < v1_118))) (by kernel_rfl) (by kernel_rfl) (by kernel_rfl) (fun _ => by kernel_rfl) ?_
              rcases Bool.eq_false_or_eq_true (decide ((0 : Int) < v1_118)) with h13 | h13
              · replace H := bifT H h13
                refine d_pure 10 131 (.bool true) (by kernel_rfl) (by kernel_rfl) (by kernel_rfl) (run_eq (v := .bool (decide ((0 : Int) < v1_118))) (fun _ => by kernel_rfl) (congrArg Value.bool h13)) ?_
                refine d_pure 11 132 (.slice a21_1_00 (List.length y21_1) c21_1_00) (by kernel_rfl) (by kernel_rfl) (by kernel_rfl) (fun _ => by kernel_rfl) ?_
                refine d_pure 12 133 (.int .i64 v1_118) (by kernel_rfl) (by kernel_rfl) (by kernel_rfl) (fun _ => by kernel_rfl) ?_
                obtain ⟨hc25_13_0, H⟩ := chkE H
                refine d_pure 13 134 (.pointer (some ⟨bb4, oo4 + ((v1_118).toNat * 1 + 0), none⟩)) (by kernel_rfl) (by kernel_rfl) (by kernel_rfl) (index_at (t := 22) (sz := 1) (E := 3) (a := a21_1_00) (m := (List.length y21_1)) (c := c21_1_00) (b := bb4) (off := oo4) (i := (v1_118).toNat) (tinfo 3) (fun _ => by kernel_rfl) (by kernel_rfl) (by kernel_rfl) (by kernel_rfl) ha4 (idx_cast hc25_13_0) (idx_nat hc25_13_0) rfl) ?_
                refine d_load 14 135 (.int .i64 (nth y21_1 v1_118)) (by kernel_rfl) (by kernel_rfl) (by kernel_rfl) (load1_at (off := oo4 + ((v1_118).toNat * 1 + 0)) (v := .int .i64 (nth y21_1 v1_118)) (fun _ => by kernel_rfl) rfl (reads_cell (k := 1) (RowsA.reads (k := 1) (.there .here)) (ints_rows _) ha4 (nth_row hc25_13_0) (show [(.int .i64 (nth y21_1 v1_118) : Value)][0]? = some _ from rfl))) ?_
                refine d_pure 15 136 (.slice a21_1_00 (List.length y21_1) c21_1_00) (by kernel_rfl) (by kernel_rfl) (by kernel_rfl) (fun _ => by kernel_rfl) ?_
                refine d_pure 16 137 (.int .i64 v1_118) (by kernel_rfl) (by kernel_rfl) (by kernel_rfl) (fun _ => by kernel_rfl) ?_
                obtain ⟨hc25_17_0, H⟩ := chkE H
                refine d_pure 17 138 (.int .i64 (v1_118 - (1 : Int))) (by kernel_rfl) (by kernel_rfl) (by kernel_rfl) (run_eq (v := .int .i64 (IntKind.i64.wrap (v1_118 - (1 : Int)))) (fun _ => by kernel_rfl) (by rw [inR.wrap hc25_17_0])) ?_
                obtain ⟨hc25_18_0, H⟩ := chkE H
                refine d_pure 18 139 (.pointer (some ⟨bb4, oo4 + (((v1_118 - (1 : Int))).toNat * 1 + 0), none⟩)) (by kernel_rfl) (by kernel_rfl) (by kernel_rfl) (index_at (t := 22) (sz := 1) (E := 3) (a := a21_1_00) (m := (List.length y21_1)) (c := c21_1_00) (b := bb4) (off := oo4) (i := ((v1_118 - (1 : Int))).toNat) (tinfo 3) (fun _ => by kernel_rfl) (by kernel_rfl) (by kernel_rfl) (by kernel_rfl) ha4 (idx_cast hc25_18_0) (idx_nat hc25_18_0) rfl) ?_
                refine d_load 19 140 (.int .i64 (nth y21_1 (v1_118 - (1 : Int)))) (by kernel_rfl) (by kernel_rfl) (by kernel_rfl) (load1_at (off := oo4 + (((v1_118 - (1 : Int))).toNat * 1 + 0)) (v := .int .i64 (nth y21_1 (v1_118 - (1 : Int)))) (fun _ => by kernel_rfl) rfl (reads_cell (k := 1) (RowsA.reads (k := 1) (.there .here)) (ints_rows _) ha4 (nth_row hc25_18_0) (show [(.int .i64 (nth y21_1 (v1_118 - (1 : Int))) : Value)][0]? = some _ from rfl))) ?_
                refine d_pure 20 141 (.bool (decide ((nth y21_1 v1_118) ≤ (nth y21_1 (v1_118 - (1 : Int)))))) (by kernel_rfl) (by kernel_rfl) (by kernel_rfl) (fun _ => by kernel_rfl) ?_
                refine d_pure 21 142 (.bool (decide ((nth y21_1 v1_118) ≤ (nth y21_1 (v1_118 - (1 : Int)))))) (by kernel_rfl) (by kernel_rfl) (by kernel_rfl) (fun _ => by kernel_rfl) ?_
                refine d_pure 22 143 (.bool (decide ((nth y21_1 v1_118) ≤ (nth y21_1 (v1_118 - (1 : Int)))))) (by kernel_rfl) (by kernel_rfl) (by kernel_rfl) (fun _ => by kernel_rfl) ?_
                refine draw_end (by kernel_rfl) ?_
                refine At.env [(7, .pointer (some ⟨b2_2, 0, none⟩)), (8, .map (some m5_0)), (16, .slice a21_1_00 (List.length y21_1) c21_1_00), (117, .int .i64 (((List.length y21_1) : Nat) : Int)), (118, .int .i64 v1_118), (143, .bool (decide ((nth y21_1 v1_118) ≤ (nth y21_1 (v1_118 - (1 : Int))))))] ⟨by kernel_rfl, by kernel_rfl, by kernel_rfl, by kernel_rfl, by kernel_rfl, by kernel_rfl, trivial⟩ ?_
                refine at_round_normal ?_
                exact at_join_mk [(7, .pointer (some ⟨b2_2, 0, none⟩)), (8, .map (some m5_0)), (16, .slice a21_1_00 (List.length y21_1) c21_1_00), (117, .int .i64 (((List.length y21_1) : Nat) : Int)), (118, .int .i64 v1_118), (143, .bool (decide ((nth y21_1 v1_118) ≤ (nth y21_1 (v1_118 - (1 : Int))))))] ((CacheA b2_2 v0_b2_2) :: (IntsA a21_1_00 c21_1_00 y21_1) :: (VMapA Value.bool m5_0 v0_m5_0) :: Γ) ⟨by kernel_rfl, by kernel_rfl, by kernel_rfl, by kernel_rfl, by kernel_rfl, by kernel_rfl, trivial⟩ (fun w hw => (Sat.less (.take .here (.take .here (.take .here .refl))) hw)) ⟨decide ((nth y21_1 v1_118) ≤ (nth y21_1 (v1_118 - (1 : Int)))), H, rfl, rfl⟩
              · replace H := bifF H h13
                refine d_pure 10 131 (.bool false) (by kernel_rfl) (by kernel_rfl) (by kernel_rfl) (run_eq (v := .bool (decide ((0 : Int) < v1_118))) (fun _ => by kernel_rfl) (congrArg Value.bool h13)) ?_
                refine d_off 11 132 (by kernel_rfl) (by kernel_rfl) (by kernel_rfl) ?_
                refine d_off 12 133 (by kernel_rfl) (by kernel_rfl) (by kernel_rfl) ?_
                refine d_off 13 134 (by kernel_rfl) (by kernel_rfl) (by kernel_rfl) ?_
                refine d_off 14 135 (by kernel_rfl) (by kernel_rfl) (by kernel_rfl) ?_
                refine d_off 15 136 (by kernel_rfl) (by kernel_rfl) (by kernel_rfl) ?_
                refine d_off 16 137 (by kernel_rfl) (by kernel_rfl) (by kernel_rfl) ?_
                refine d_off 17 138 (by kernel_rfl) (by kernel_rfl) (by kernel_rfl) ?_
                refine d_off 18 139 (by kernel_rfl) (by kernel_rfl) (by kernel_rfl) ?_
                refine d_off 19 140 (by kernel_rfl) (by kernel_rfl) (by kernel_rfl) ?_
                refine d_off 20 141 (by kernel_rfl) (by kernel_rfl) (by kernel_rfl) ?_
                refine d_pure 21 142 (.bool false) (by kernel_rfl) (by kernel_rfl) (by kernel_rfl) (fun _ => by kernel_rfl) ?_
                refine d_pure 22 143 (.bool false) (by kernel_rfl) (by kernel_rfl) (by kernel_rfl) (fun _ => by kernel_rfl) ?_
                refine draw_end (by kernel_rfl) ?_
                refine At.env [(7, .pointer (some ⟨b2_2, 0, none⟩)), (8, .map (some m5_0)), (16, .slice a21_1_00 (List.length y21_1) c21_1_00), (117, .int .i64 (((List.length y21_1) : Nat) : Int)), (118, .int .i64 v1_118), (143, .bool false)] ⟨by kernel_rfl, by kernel_rfl, by kernel_rfl, by kernel_rfl, by kernel_rfl, by kernel_rfl, trivial⟩ ?_
                refine at_round_normal ?_
                exact at_join_mk [(7, .pointer (some ⟨b2_2, 0, none⟩)), (8, .map (some m5_0)), (16, .slice a21_1_00 (List.length y21_1) c21_1_00), (117, .int .i64 (((List.length y21_1) : Nat) : Int)), (118, .int .i64 v1_118), (143, .bool false)] ((CacheA b2_2 v0_b2_2) :: (IntsA a21_1_00 c21_1_00 y21_1) :: (VMapA Value.bool m5_0 v0_m5_0) :: Γ) ⟨by kernel_rfl, by kernel_rfl, by kernel_rfl, by kernel_rfl, by kernel_rfl, by kernel_rfl, trivial⟩ (fun w hw => (Sat.less (.take .here (.take .here (.take .here .refl))) hw)) ⟨false, H, rfl, rfl⟩
      · replace H := bifF H h10
        refine at_false (t := decide (v1_118 < (((List.length y21_1) : Nat) : Int))) (x := C6 [1,1,1,1,1,1,1,1,0,1,0,0,1,0,0]) (y := C6 [1,1,1,1,1,1,1,1,0,1,0,0,1,0,1]) (o := .tmp 119) (by kernel_rfl) (by kernel_rfl) (by kernel_rfl) h10 ?_
        refine at_exit (i := 2) (by kernel_rfl) ?_
        refine at_then_exit ?_
        refine at_then_exit ?_
        rw [cacheSetsS_k1] at H
        refine At.env [(7, .pointer (some ⟨b2_2, 0, none⟩)), (8, .map (some m5_0)), (16, .slice a21_1_00 (List.length y21_1) c21_1_00), (117, .int .i64 (((List.length y21_1) : Nat) : Int)), (118, .int .i64 v1_118)] ⟨by kernel_rfl, by kernel_rfl, by kernel_rfl, by kernel_rfl, by kernel_rfl, trivial⟩ ?_
        refine At.conv (Γ' := (CacheA b2_2 v0_b2_2) :: (IntsA a21_1_00 c21_1_00 y21_1) :: (VMapA Value.bool m5_0 v0_m5_0) :: Γ) (fun w hw => (Sat.less (.take .here (.take .here (.take .here .refl))) hw)) ?_
        refine at_in_here ?_
        refine at_then_normal ?_
        refine at_seq (x := C6 [1,1,1,1,1,1,1,1,1,0]) (y := C6 [1,1,1,1,1,1,1,1,1,1]) (by kernel_rfl) ?_
        refine at_region (id := 28) 16 (by kernel_rfl) (by kernel_rfl) ?_
        refine s_pure 145 (.slice a21_1_00 (List.length y21_1) c21_1_00) (by kernel_rfl) (by kernel_rfl) (fun _ => by kernel_rfl) ?_
        refine s_pure 146 (.int .i64 (((List.length y21_1) : Nat) : Int)) (by kernel_rfl) (by kernel_rfl) (fun _ => by kernel_rfl) ?_
        refine s_pure 147 (.map (some m5_0)) (by kernel_rfl) (by kernel_rfl) (fun _ => by kernel_rfl) ?_
        refine s_load 148 (.int .i64 ((List.length v0_m5_0 : Nat) : Int)) (by kernel_rfl) (by kernel_rfl) (vmap_len (f := Value.bool) (t2 := 3) (t := 48) (K := 3) (V := 4) (fun _ => by kernel_rfl) (by kernel_rfl) (.there (.there .here))) ?_
        refine s_pure 149 (.bool (decide ((((List.length y21_1) : Nat) : Int) = ((List.length v0_m5_0 : Nat) : Int)))) (by kernel_rfl) (by kernel_rfl) (fun _ => by kernel_rfl) ?_
        rcases Bool.eq_false_or_eq_true (decide ((((List.length y21_1) : Nat) : Int) = ((List.length v0_m5_0 : Nat) : Int))) with h14 | h14
        · replace H := bifT H h14
          refine s_pure 150 (.bool true) (by kernel_rfl) (by kernel_rfl) (run_eq (v := .bool (decide ((((List.length y21_1) : Nat) : Int) = ((List.length v0_m5_0 : Nat) : Int)))) (fun _ => by kernel_rfl) (congrArg Value.bool h14)) ?_
          refine s_pure 151 (.pointer (some ⟨b2_2, 0, none⟩)) (by kernel_rfl) (by kernel_rfl) (fun _ => by kernel_rfl) ?_
          obtain ⟨y28_7, hy28_7, H⟩ := letE H
          refine s_call 152 23 #[.pointer (some ⟨b2_2, 0, none⟩)] (by kernel_rfl) (by kernel_rfl) (fun _ => by kernel_rfl) (LenF_tr b2_2 v0_b2_2 y28_7 hy28_7) ?_
          rintro _ _ ⟨rfl, rfl⟩
          refine s_pure 153 (.map (some m5_0)) (by kernel_rfl) (by kernel_rfl) (fun _ => by kernel_rfl) ?_
          refine s_load 154 (.int .i64 ((List.length v0_m5_0 : Nat) : Int)) (by kernel_rfl) (by kernel_rfl) (vmap_len (f := Value.bool) (t2 := 3) (t := 48) (K := 3) (V := 4) (fun _ => by kernel_rfl) (by kernel_rfl) (.there (.there .here))) ?_
          refine s_pure 155 (.bool (decide (y28_7 = ((List.length v0_m5_0 : Nat) : Int)))) (by kernel_rfl) (by kernel_rfl) (fun _ => by kernel_rfl) ?_
          refine s_pure 156 (.bool (decide (y28_7 = ((List.length v0_m5_0 : Nat) : Int)))) (by kernel_rfl) (by kernel_rfl) (fun _ => by kernel_rfl) ?_
          rcases Bool.eq_false_or_eq_true (decide (y28_7 = ((List.length v0_m5_0 : Nat) : Int))) with h15 | h15
          · replace H := bifT H h15
            refine s_pure 157 (.bool true) (by kernel_rfl) (by kernel_rfl) (run_eq (v := .bool (decide (y28_7 = ((List.length v0_m5_0 : Nat) : Int)))) (fun _ => by kernel_rfl) (congrArg Value.bool h15)) ?_
            obtain ⟨y28_13, hy28_13, H⟩ := bindE H
            refine s_call 158 29 #[] (by kernel_rfl) (by kernel_rfl) (fun _ => by kernel_rfl) (W8F_tr  y28_13 hy28_13) ?_
            rintro _ _ ⟨rfl, rfl⟩
            refine s_pure 159 (.bool y28_13) (by kernel_rfl) (by kernel_rfl) (fun _ => by kernel_rfl) ?_
            refine s_pure 6 (.bool y28_13) (by kernel_rfl) (by kernel_rfl) (fun _ => by kernel_rfl) ?_
            refine ops_end ?_
            refine At.env [(6, .bool y28_13)] ⟨by kernel_rfl, trivial⟩ ?_
            refine at_then_normal ?_
            refine at_ret (by kernel_rfl) ?_
            obtain rfl := someE H
            refine at_backR [.bool y28_13] (Γ) (rs := [.tmp 6]) (by kernel_rfl) (.cons (.tmp (by kernel_rfl)) .nil) (fun w hw => (Sat.less (.drop .here (.drop .here (.drop .here .refl))) hw)) ?_
            exact ⟨rfl, rfl⟩
          · replace H := bifF H h15
            refine s_pure 157 (.bool false) (by kernel_rfl) (by kernel_rfl) (run_eq (v := .bool (decide (y28_7 = ((List.length v0_m5_0 : Nat) : Int)))) (fun _ => by kernel_rfl) (congrArg Value.bool h15)) ?_
            refine s_pass 158 (by kernel_rfl) (by kernel_rfl) ?_
            refine s_pure 159 (.bool false) (by kernel_rfl) (by kernel_rfl) (fun _ => by kernel_rfl) ?_
            refine s_pure 6 (.bool false) (by kernel_rfl) (by kernel_rfl) (fun _ => by kernel_rfl) ?_
            refine ops_end ?_
            refine At.env [(6, .bool false)] ⟨by kernel_rfl, trivial⟩ ?_
            refine at_then_normal ?_
            refine at_ret (by kernel_rfl) ?_
            obtain rfl := someE H
            refine at_backR [.bool false] (Γ) (rs := [.tmp 6]) (by kernel_rfl) (.cons (.tmp (by kernel_rfl)) .nil) (fun w hw => (Sat.less (.drop .here (.drop .here (.drop .here .refl))) hw)) ?_
            exact ⟨rfl, rfl⟩
        · replace H := bifF H h14
          refine s_pure 150 (.bool false) (by kernel_rfl) (by kernel_rfl) (run_eq (v := .bool (decide ((((List.length y21_1) : Nat) : Int) = ((List.length v0_m5_0 : Nat) : Int)))) (fun _ => by kernel_rfl) (congrArg Value.bool h14)) ?_
          refine s_pass 151 (by kernel_rfl) (by kernel_rfl) ?_
          refine s_pass 152 (by kernel_rfl) (by kernel_rfl) ?_
          refine s_pass 153 (by kernel_rfl) (by kernel_rfl) ?_
          refine s_pass 154 (by kernel_rfl) (by kernel_rfl) ?_
          refine s_pass 155 (by kernel_rfl) (by kernel_rfl) ?_
          refine s_pure 156 (.bool false) (by kernel_rfl) (by kernel_rfl) (fun _ => by kernel_rfl) ?_
          refine s_pure 157 (.bool false) (by kernel_rfl) (by kernel_rfl) (fun _ => by kernel_rfl) ?_
          refine s_pass 158 (by kernel_rfl) (by kernel_rfl) ?_
          refine s_pure 159 (.bool false) (by kernel_rfl) (by kernel_rfl) (fun _ => by kernel_rfl) ?_
          refine s_pure 6 (.bool false) (by kernel_rfl) (by kernel_rfl) (fun _ => by kernel_rfl) ?_
          refine ops_end ?_
          refine At.env [(6, .bool false)] ⟨by kernel_rfl, trivial⟩ ?_
          refine at_then_normal ?_
          refine at_ret (by kernel_rfl) ?_
          obtain rfl := someE H
          refine at_backR [.bool false] (Γ) (rs := [.tmp 6]) (by kernel_rfl) (.cons (.tmp (by kernel_rfl)) .nil) (fun w hw => (Sat.less (.drop .here (.drop .here (.drop .here .refl))) hw)) ?_
          exact ⟨rfl, rfl⟩
  · refine at_region (id := 8) 8 (by kernel_rfl) (by kernel_rfl) ?_
    refine s_pure 32 (.int .i64 v0_10) (by kernel_rfl) (by kernel_rfl) (fun _ => by kernel_rfl) ?_
    refine s_pure 33 (.slice linesa (List.length lines) linescap) (by kernel_rfl) (by kernel_rfl) (fun _ => by kernel_rfl) ?_
    refine s_pure 34 (.int .i64 (((List.length lines) : Nat) : Int)) (by kernel_rfl) (by kernel_rfl) (fun _ => by kernel_rfl) ?_
    refine s_pure 35 (.bool (decide (v0_10 < (((List.length lines) : Nat) : Int)))) (by kernel_rfl) (by kernel_rfl) (fun _ => by kernel_rfl) ?_
    rcases Bool.eq_false_or_eq_true (decide (v0_10 < (((List.length lines) : Nat) : Int))) with h16 | h16
    · replace H := bifT H h16
      refine s_pure 36 (.bool true) (by kernel_rfl) (by kernel_rfl) (run_eq (v := .bool (decide (v0_10 < (((List.length lines) : Nat) : Int)))) (fun _ => by kernel_rfl) (congrArg Value.bool h16)) ?_
      refine s_pure 37 (.int .i64 v0_10) (by kernel_rfl) (by kernel_rfl) (fun _ => by kernel_rfl) ?_
      refine s_pure 38 (.bool (decide (v0_10 < (30 : Int)))) (by kernel_rfl) (by kernel_rfl) (fun _ => by kernel_rfl) ?_
      refine s_pure 39 (.bool (decide (v0_10 < (30 : Int)))) (by kernel_rfl) (by kernel_rfl) (fun _ => by kernel_rfl) ?_
      refine ops_end ?_
      refine At.env [(0, .int .i64 (wr ((1 : Int) + y1_1))), (1, .int .i64 (wr ((1 : Int) + y1_4))), (2, .slice linesa (List.length lines) linescap), (7, .pointer (some ⟨b2_2, 0, none⟩)), (8, .map (some m5_0)), (9, .slice v0_9a (List.length v0_9x) v0_9c), (10, .int .i64 v0_10), (39, .bool (decide (v0_10 < (30 : Int))))] ⟨by kernel_rfl, by kernel_rfl, by kernel_rfl, by kernel_rfl, by kernel_rfl, by kernel_rfl, by kernel_rfl, by kernel_rfl, trivial⟩ ?_
      refine at_round_normal ?_
      exact at_join_mk [(0, .int .i64 (wr ((1 : Int) + y1_1))), (1, .int .i64 (wr ((1 : Int) + y1_4))), (2, .slice linesa (List.length lines) linescap), (7, .pointer (some ⟨b2_2, 0, none⟩)), (8, .map (some m5_0)), (9, .slice v0_9a (List.length v0_9x) v0_9c), (10, .int .i64 v0_10), (39, .bool (decide (v0_10 < (30 : Int))))] ((IntsA v0_9a v0_9c v0_9x) :: (VMapA Value.bool m5_0 v0_m5_0) :: (CacheA b2_2 v0_b2_2) :: Γ) ⟨by kernel_rfl, by kernel_rfl, by kernel_rfl, by kernel_rfl, by kernel_rfl, by kernel_rfl, by kernel_rfl, by kernel_rfl, trivial⟩ (fun w hw => (Sat.less (.take .here (.take .here (.take .here .refl))) hw)) ⟨decide (v0_10 < (30 : Int)), H, rfl, rfl⟩
    · replace H := bifF H h16
      refine s_pure 36 (.bool false) (by kernel_rfl) (by kernel_rfl) (run_eq (v := .bool (decide (v0_10 < (((List.length lines) : Nat) : Int)))) (fun _ => by kernel_rfl) (congrArg Value.bool h16)) ?_
      refine s_pass 37 (by kernel_rfl) (by kernel_rfl) ?_
      refine s_pass 38 (by kernel_rfl) (by kernel_rfl) ?_
      refine s_pure 39 (.bool false) (by kernel_rfl) (by kernel_rfl) (fun _ => by kernel_rfl) ?_
      refine ops_end ?_
      refine At.env [(0, .int .i64 (wr ((1 : Int) + y1_1))), (1, .int .i64 (wr ((1 : Int) + y1_4))), (2, .slice linesa (List.length lines) linescap), (7, .pointer (some ⟨b2_2, 0, none⟩)), (8, .map (some m5_0)), (9, .slice v0_9a (List.length v0_9x) v0_9c), (10, .int .i64 v0_10), (39, .bool false)] ⟨by kernel_rfl, by kernel_rfl, by kernel_rfl, by kernel_rfl, by kernel_rfl, by kernel_rfl, by kernel_rfl, by kernel_rfl, trivial⟩ ?_
      refine at_round_normal ?_
      exact at_join_mk [(0, .int .i64 (wr ((1 : Int) + y1_1))), (1, .int .i64 (wr ((1 : Int) + y1_4))), (2, .slice linesa (List.length lines) linescap), (7, .pointer (some ⟨b2_2, 0, none⟩)), (8, .map (some m5_0)), (9, .slice v0_9a (List.length v0_9x) v0_9c), (10, .int .i64 v0_10), (39, .bool false)] ((IntsA v0_9a v0_9c v0_9x) :: (VMapA Value.bool m5_0 v0_m5_0) :: (CacheA b2_2 v0_b2_2) :: Γ) ⟨by kernel_rfl, by kernel_rfl, by kernel_rfl, by kernel_rfl, by kernel_rfl, by kernel_rfl, by kernel_rfl, by kernel_rfl, trivial⟩ (fun w hw => (Sat.less (.take .here (.take .here (.take .here .refl))) hw)) ⟨false, H, rfl, rfl⟩
end Go.Proofs.Ytfpiolnbnfngkaa
