/- The law CacheClock: its walk. -/
import Derived.Test.YtfpiolnbnfngkaaVcA
import Derived.Test.YtfpiolnbnfngkaaKsA
namespace Go.Proofs.Ytfpiolnbnfngkaa
open Go Go.RowKit
set_option linter.unusedVariables false
set_option linter.unusedSimpArgs false
def wakes8S : Option (Bool) :=
  letP (newC (1 : Int) (1 : Int)) fun y1_0 => (linesS y1_0).bind fun y2_4 => (bif decide ((((List.length y2_4) : Nat) : Int) = (0 : Int)) then letP ([7] : List Int) fun l2_10 => (enewS (4 : Int) ((-1) : Int) ((-1) : Int) false l2_10).bind fun y2_11 => (putS y1_0 y2_11).bind fun y2_12 => (bif decide (y2_12.1 = (0 : Int)) then (enewS (5 : Int) ((-1) : Int) ((-1) : Int) false ([] : List Int)).bind fun y2_17 => (putS y2_12.2 y2_17).bind fun y2_18 => (bif decide (y2_18.1 = (5 : Int)) then letP (lenC y2_18.2) fun y2_23 => some (decide (y2_23 = (1 : Int))) else some false) else some false) else some false)
noncomputable def C29 (p : List Nat) : Code := codeAt (bodyOf Try.f29) p
set_option maxRecDepth 100000 in
set_option maxHeartbeats 8000000 in
theorem W8F_tr {W0 : World} {Γ : List Asn}   (y : Bool) (H : wakes8S = some y) : Tr Try.prog 29 #[] W0 (Γ) (fun r Δ => r = .bool y ∧ Δ = Γ) := by
  unfold wakes8S at H
  refine Tr.enter (fn := Try.f29) (c := C29 []) (args := []) 29 Try.func29 (by kernel_rfl) (by kernel_rfl) ?_
  refine At.env [] trivial ?_
  refine at_seq (x := C29 [0]) (y := C29 [1]) (by kernel_rfl) ?_
  refine at_region (id := 0) 1 (by kernel_rfl) (by kernel_rfl) ?_
  refine s_pure 0 (.bool false) (by kernel_rfl) (by kernel_rfl) (fun _ => by kernel_rfl) ?_
  refine ops_end ?_
  refine At.env [] trivial ?_
  refine at_then_normal ?_
  refine at_seq (x := C29 [1,0]) (y := C29 [1,1]) (by kernel_rfl) ?_
  refine at_region (id := 1) 2 (by kernel_rfl) (by kernel_rfl) ?_
  obtain ⟨y1_0, hy1_0, H⟩ := letE H
  refine s_call 2 13 #[.int .i64 (1), .int .i64 (1)] (by kernel_rfl) (by kernel_rfl) (fun _ => by kernel_rfl) (NewF_tr (1 : Int) (1 : Int) y1_0 hy1_0) ?_
  rintro _ _ ⟨b1_0, rfl, rfl⟩
  refine s_pure 1 (.pointer (some ⟨b1_0, 0, none⟩)) (by kernel_rfl) (by kernel_rfl) (fun _ => by kernel_rfl) ?_
  refine ops_end ?_
  refine At.env [(1, .pointer (some ⟨b1_0, 0, none⟩))] ⟨by kernel_rfl, trivial⟩ ?_
  refine at_then_normal ?_
  refine at_seq (x := C29 [1,1,0]) (y := C29 [1,1,1]) (by kernel_rfl) ?_
  refine at_region (id := 2) 27 (by kernel_rfl) (by kernel_rfl) ?_
  refine s_pure 3 (.pointer (some ⟨b1_0, 0, none⟩)) (by kernel_rfl) (by kernel_rfl) (fun _ => by kernel_rfl) ?_
  refine s_pure 4 (.bool true) (by kernel_rfl) (by kernel_rfl) (fun _ => by kernel_rfl) ?_
  refine s_pure 5 (.bool true) (by kernel_rfl) (by kernel_rfl) (fun _ => by kernel_rfl) ?_
  refine s_pure 6 (.pointer (some ⟨b1_0, 0, none⟩)) (by kernel_rfl) (by kernel_rfl) (fun _ => by kernel_rfl) ?_
  refine CacheA.tox .here ?_
  intro x2_4_b1_0
  obtain ⟨y2_4, hy2_4, H⟩ := bindE H
  refine s_call 7 28 #[.pointer (some ⟨b1_0, 0, none⟩)] (by kernel_rfl) (by kernel_rfl) (fun _ => by kernel_rfl) (LinesF_tr b1_0 x2_4_b1_0 y1_0 y2_4 hy2_4) ?_
  rintro _ _ ⟨a2_4_00, c2_4_00, rfl, rfl⟩
  refine s_pure 8 (.int .i64 (((List.length y2_4) : Nat) : Int)) (by kernel_rfl) (by kernel_rfl) (fun _ => by kernel_rfl) ?_
  refine s_pure 9 (.bool (decide ((((List.length y2_4) : Nat) : Int) = (0 : Int)))) (by kernel_rfl) (by kernel_rfl) (fun _ => by kernel_rfl) ?_
  refine s_pure 10 (.bool (decide ((((List.length y2_4) : Nat) : Int) = (0 : Int)))) (by kernel_rfl) (by kernel_rfl) (fun _ => by kernel_rfl) ?_
  rcases Bool.eq_false_or_eq_true (decide ((((List.length y2_4) : Nat) : Int) = (0 : Int))) with h1 | h1
  · replace H := bifT H h1
    refine s_pure 11 (.bool true) (by kernel_rfl) (by kernel_rfl) (run_eq (v := .bool (decide ((((List.length y2_4) : Nat) : Int) = (0 : Int)))) (fun _ => by kernel_rfl) (congrArg Value.bool h1)) ?_
    refine s_pure 12 (.pointer (some ⟨b1_0, 0, none⟩)) (by kernel_rfl) (by kernel_rfl) (fun _ => by kernel_rfl) ?_
    obtain ⟨l2_10, hl2_10, H⟩ := letE H
    refine s_step 13 (by kernel_rfl) (by kernel_rfl) (st_new_ints (T := 3) (xs := l2_10) 1 hl2_10 (fun _ => by kernel_rfl) (by kernel_rfl)) ?_
    rintro _ _ ⟨b2_10, rfl, rfl⟩
    obtain ⟨y2_11, hy2_11, H⟩ := bindE H
    refine s_call 14 16 #[.int .i64 (4), .int .i64 (-1), .int .i64 (-1), .bool false, .slice (some ⟨b2_10, 0, none⟩) (List.length l2_10) 1] (by kernel_rfl) (by kernel_rfl) (fun _ => by kernel_rfl) (ENewF_tr (4 : Int) ((-1) : Int) ((-1) : Int) false (some ⟨b2_10, 0, none⟩) 1 l2_10 (RowsA.reads (k := 1) .here) y2_11 hy2_11) ?_
    rintro _ _ ⟨a2_11_00, c2_11_00, rfl, rfl⟩
    refine At.conv (Γ' := (CacheA b1_0 y1_0) :: (IntsA a2_11_00 c2_11_00 y2_11.data) :: (IntsA (some ⟨b2_10, 0, none⟩) 1 l2_10) :: (IntsA a2_4_00 c2_4_00 y2_4) :: Γ) (fun w hw => CacheXA.shut (hw.pull (.there (.there (.there .here))))) ?_
    obtain ⟨y2_12, hy2_12, H⟩ := bindE H
    refine s_call 15 15 #[.pointer (some ⟨b1_0, 0, none⟩), .agg #[.int .i64 y2_11.fwd, .int .i64 y2_11.back, .int .i64 y2_11.line, .int .i64 y2_11.used, .bool y2_11.dirty, .slice a2_11_00 (List.length y2_11.data) c2_11_00]] (by kernel_rfl) (by kernel_rfl) (fun _ => by kernel_rfl) (PutF_tr b1_0 y1_0 a2_11_00 c2_11_00 y2_11 (RowsA.reads (k := 1) .here) y2_12 hy2_12) ?_
    rintro _ _ ⟨rfl, rfl⟩
    refine s_pure 16 (.bool (decide (y2_12.1 = (0 : Int)))) (by kernel_rfl) (by kernel_rfl) (fun _ => by kernel_rfl) ?_
    refine s_pure 17 (.bool (decide (y2_12.1 = (0 : Int)))) (by kernel_rfl) (by kernel_rfl) (fun _ => by kernel_rfl) ?_
    rcases Bool.eq_false_or_eq_true (decide (y2_12.1 = (0 : Int))) with h2 | h2
    · replace H := bifT H h2
      refine s_pure 18 (.bool true) (by kernel_rfl) (by kernel_rfl) (run_eq (v := .bool (decide (y2_12.1 = (0 : Int)))) (fun _ => by kernel_rfl) (congrArg Value.bool h2)) ?_
      refine s_pure 19 (.pointer (some ⟨b1_0, 0, none⟩)) (by kernel_rfl) (by kernel_rfl) (fun _ => by kernel_rfl) ?_
      obtain ⟨y2_17, hy2_17, H⟩ := bindE H
      refine s_call 20 16 #[.int .i64 (5), .int .i64 (-1), .int .i64 (-1), .bool false, .slice none 0 0] (by kernel_rfl) (by kernel_rfl) (fun _ => by kernel_rfl) (ENewF_tr (5 : Int) ((-1) : Int) ((-1) : Int) false none 0 ([] : List Int) Reads.nil y2_17 hy2_17) ?_
      rintro _ _ ⟨a2_17_00, c2_17_00, rfl, rfl⟩
      obtain ⟨y2_18, hy2_18, H⟩ := bindE H
      refine s_call 21 15 #[.pointer (some ⟨b1_0, 0, none⟩), .agg #[.int .i64 y2_17.fwd, .int .i64 y2_17.back, .int .i64 y2_17.line, .int .i64 y2_17.used, .bool y2_17.dirty, .slice a2_17_00 (List.length y2_17.data) c2_17_00]] (by kernel_rfl) (by kernel_rfl) (fun _ => by kernel_rfl) (Tr.conv (Γ' := (CacheA b1_0 y2_12.2) :: (IntsA a2_17_00 c2_17_00 y2_17.data) :: (IntsA a2_11_00 c2_11_00 y2_11.data) :: (IntsA (some ⟨b2_10, 0, none⟩) 1 l2_10) :: (IntsA a2_4_00 c2_4_00 y2_4) :: Γ) (fun w hw => (Sat.less (.take (.there .here) (.take .here (.take .here (.take .here (.take .here .refl))))) hw)) (PutF_tr b1_0 y2_12.2 a2_17_00 c2_17_00 y2_17 (RowsA.reads (k := 1) .here) y2_18 hy2_18)) ?_
      rintro _ _ ⟨rfl, rfl⟩
      refine s_pure 22 (.bool (decide (y2_18.1 = (5 : Int)))) (by kernel_rfl) (by kernel_rfl) (fun _ => by kernel_rfl) ?_
      refine s_pure 23 (.bool (decide (y2_18.1 = (5 : Int)))) (by kernel_rfl) (by kernel_rfl) (fun _ => by kernel_rfl) ?_
      rcases Bool.eq_false_or_eq_true (decide (y2_18.1 = (5 : Int))) with h3 | h3
      · replace H := bifT H h3
        refine s_pure 24 (.bool true) (by kernel_rfl) (by kernel_rfl) (run_eq (v := .bool (decide (y2_18.1 = (5 : Int)))) (fun _ => by kernel_rfl) (congrArg Value.bool h3)) ?_
        refine s_pure 25 (.pointer (some ⟨b1_0, 0, none⟩)) (by kernel_rfl) (by kernel_rfl) (fun _ => by kernel_rfl) ?_
        obtain ⟨y2_23, hy2_23, H⟩ := letE H
        refine s_call 26 23 #[.pointer (some ⟨b1_0, 0, none⟩)] (by kernel_rfl) (by kernel_rfl) (fun _ => by kernel_rfl) (LenF_tr b1_0 y2_18.2 y2_23 hy2_23) ?_
        rintro _ _ ⟨rfl, rfl⟩
        refine s_pure 27 (.bool (decide (y2_23 = (1 : Int)))) (by kernel_rfl) (by kernel_rfl) (fun _ => by kernel_rfl) ?_
        refine s_pure 28 (.bool (decide (y2_23 = (1 : Int)))) (by kernel_rfl) (by kernel_rfl) (fun _ => by kernel_rfl) ?_
        refine s_pure 0 (.bool (decide (y2_23 = (1 : Int)))) (by kernel_rfl) (by kernel_rfl) (fun _ => by kernel_rfl) ?_
        refine ops_end ?_
        refine At.env [(0, .bool (decide (y2_23 = (1 : Int))))] ⟨by kernel_rfl, trivial⟩ ?_
        refine at_then_normal ?_
        refine at_ret (by kernel_rfl) ?_
        obtain rfl := someE H
        refine at_backR [.bool (decide (y2_23 = (1 : Int)))] (Γ) (rs := [.tmp 0]) (by kernel_rfl) (.cons (.tmp (by kernel_rfl)) .nil) (fun w hw => (Sat.less (.drop .here (.drop .here (.drop .here (.drop .here (.drop .here .refl))))) hw)) ?_
        exact ⟨rfl, rfl⟩
      · replace H := bifF H h3
        refine s_pure 24 (.bool false) (by kernel_rfl) (by kernel_rfl) (run_eq (v := .bool (decide (y2_18.1 = (5 : Int)))) (fun _ => by kernel_rfl) (congrArg Value.bool h3)) ?_
        refine s_pass 25 (by kernel_rfl) (by kernel_rfl) ?_
        refine s_pass 26 (by kernel_rfl) (by kernel_rfl) ?_
        refine s_pass 27 (by kernel_rfl) (by kernel_rfl) ?_
        refine s_pure 28 (.bool false) (by kernel_rfl) (by kernel_rfl) (fun _ => by kernel_rfl) ?_
        refine s_pure 0 (.bool false) (by kernel_rfl) (by kernel_rfl) (fun _ => by kernel_rfl) ?_
        refine ops_end ?_
        refine At.env [(0, .bool false)] ⟨by kernel_rfl, trivial⟩ ?_
        refine at_then_normal ?_
        refine at_ret (by kernel_rfl) ?_
        obtain rfl := someE H
        refine at_backR [.bool false] (Γ) (rs := [.tmp 0]) (by kernel_rfl) (.cons (.tmp (by kernel_rfl)) .nil) (fun w hw => (Sat.less (.drop .here (.drop .here (.drop .here (.drop .here (.drop .here .refl))))) hw)) ?_
        exact ⟨rfl, rfl⟩
    · replace H := bifF H h2
      refine s_pure 18 (.bool false) (by kernel_rfl) (by kernel_rfl) (run_eq (v := .bool (decide (y2_12.1 = (0 : Int)))) (fun _ => by kernel_rfl) (congrArg Value.bool h2)) ?_
      refine s_pass 19 (by kernel_rfl) (by kernel_rfl) ?_
      refine s_pass 20 (by kernel_rfl) (by kernel_rfl) ?_
      refine s_pass 21 (by kernel_rfl) (by kernel_rfl) ?_
      refine s_pass 22 (by kernel_rfl) (by kernel_rfl) ?_
      refine s_pure 23 (.bool false) (by kernel_rfl) (by kernel_rfl) (fun _ => by kernel_rfl) ?_
      refine s_pure 24 (.bool false) (by kernel_rfl) (by kernel_rfl) (fun _ => by kernel_rfl) ?_
      refine s_pass 25 (by kernel_rfl) (by kernel_rfl) ?_
      refine s_pass 26 (by kernel_rfl) (by kernel_rfl) ?_
      refine s_pass 27 (by kernel_rfl) (by kernel_rfl) ?_
      refine s_pure 28 (.bool false) (by kernel_rfl) (by kernel_rfl) (fun _ => by kernel_rfl) ?_
      refine s_pure 0 (.bool false) (by kernel_rfl) (by kernel_rfl) (fun _ => by kernel_rfl) ?_
      refine ops_end ?_
      refine At.env [(0, .bool false)] ⟨by kernel_rfl, trivial⟩ ?_
      refine at_then_normal ?_
      refine at_ret (by kernel_rfl) ?_
      obtain rfl := someE H
      refine at_backR [.bool false] (Γ) (rs := [.tmp 0]) (by kernel_rfl) (.cons (.tmp (by kernel_rfl)) .nil) (fun w hw => (Sat.less (.drop .here (.drop .here (.drop .here (.drop .here .refl)))) hw)) ?_
      exact ⟨rfl, rfl⟩
  · replace H := bifF H h1
    refine s_pure 11 (.bool false) (by kernel_rfl) (by kernel_rfl) (run_eq (v := .bool (decide ((((List.length y2_4) : Nat) : Int) = (0 : Int)))) (fun _ => by kernel_rfl) (congrArg Value.bool h1)) ?_
    refine s_pass 12 (by kernel_rfl) (by kernel_rfl) ?_
    refine s_pass 13 (by kernel_rfl) (by kernel_rfl) ?_
    refine s_pass 14 (by kernel_rfl) (by kernel_rfl) ?_
    refine s_pass 15 (by kernel_rfl) (by kernel_rfl) ?_
    refine s_pass 16 (by kernel_rfl) (by kernel_rfl) ?_
    refine s_pure 17 (.bool false) (by kernel_rfl) (by kernel_rfl) (fun _ => by kernel_rfl) ?_
    refine s_pure 18 (.bool false) (by kernel_rfl) (by kernel_rfl) (fun _ => by kernel_rfl) ?_
    refine s_pass 19 (by kernel_rfl) (by kernel_rfl) ?_
    refine s_pass 20 (by kernel_rfl) (by kernel_rfl) ?_
    refine s_pass 21 (by kernel_rfl) (by kernel_rfl) ?_
    refine s_pass 22 (by kernel_rfl) (by kernel_rfl) ?_
    refine s_pure 23 (.bool false) (by kernel_rfl) (by kernel_rfl) (fun _ => by kernel_rfl) ?_
    refine s_pure 24 (.bool false) (by kernel_rfl) (by kernel_rfl) (fun _ => by kernel_rfl) ?_
    refine s_pass 25 (by kernel_rfl) (by kernel_rfl) ?_
    refine s_pass 26 (by kernel_rfl) (by kernel_rfl) ?_
    refine s_pass 27 (by kernel_rfl) (by kernel_rfl) ?_
    refine s_pure 28 (.bool false) (by kernel_rfl) (by kernel_rfl) (fun _ => by kernel_rfl) ?_
    refine s_pure 0 (.bool false) (by kernel_rfl) (by kernel_rfl) (fun _ => by kernel_rfl) ?_
    refine ops_end ?_
    refine At.env [(0, .bool false)] ⟨by kernel_rfl, trivial⟩ ?_
    refine at_then_normal ?_
    refine at_ret (by kernel_rfl) ?_
    refine At.conv (Γ' := (CacheA b1_0 y1_0) :: (IntsA a2_4_00 c2_4_00 y2_4) :: Γ) (fun w hw => CacheXA.shut (hw.pull (.there .here))) ?_
    obtain rfl := someE H
    refine at_backR [.bool false] (Γ) (rs := [.tmp 0]) (by kernel_rfl) (.cons (.tmp (by kernel_rfl)) .nil) (fun w hw => (Sat.less (.drop .here (.drop .here .refl)) hw)) ?_
    exact ⟨rfl, rfl⟩
def cacheClockS_j2 (y18_5 : Int × CacheS) (y8_5 : Int) (v0_5 : Int) (r0 : Int → Int → CacheS → Option (Bool)) (e2_4 : Int) (e2_9 : Int) : Option (Bool) :=
  (findS y18_5.2 y8_5).bind fun y24_2 => (bif !(decide (y24_2.1.used = e2_9)) then some false else chk (inR (v0_5 + (1 : Int))) (r0 e2_4 (v0_5 + (1 : Int)) y18_5.2))
def cacheClockS_j1 (v0_5 : Int) (acts : List Int) (v0_b1_0 : CacheS) (v0_4 : Int) (r0 : Int → Int → CacheS → Option (Bool)) (k0 : Int → Int → CacheS → Option (Bool)) (e1_28 : Bool) : Option (Bool) :=
  (bif e1_28 then chk (0 ≤ v0_5 ∧ v0_5 < ((acts.length : Nat) : Int)) ((withinS (wr ((nth acts v0_5).tdiv (4 : Int))) (6 : Int)).bind fun y8_5 => (findS v0_b1_0 y8_5).bind fun y9_2 => chk (0 ≤ v0_5 ∧ v0_5 < ((acts.length : Nat) : Int)) ((withinS (nth acts v0_5) (4 : Int)).bind fun y10_4 => (bif decide (y10_4 = (0 : Int)) then (enewS y8_5 v0_5 v0_5 false ([] : List Int)).bind fun y18_4 => (putS v0_b1_0 y18_4).bind fun y18_5 => (bif !(decide (y18_5.1 = (0 : Int))) then some false else (bif !y9_2.2 then chk (inR (v0_4 + (1 : Int))) (cacheClockS_j2 y18_5 y8_5 v0_5 r0 (v0_4 + (1 : Int)) (v0_4 + (1 : Int))) else cacheClockS_j2 y18_5 y8_5 v0_5 r0 v0_4 y9_2.1.used)) else (bif decide (y10_4 = (1 : Int)) then (touchS v0_b1_0 y8_5).bind fun y28_2 => (bif !(y28_2.1 == y9_2.2) then some false else (bif y9_2.2 then chk (inR (v0_4 + (1 : Int))) ((findS y28_2.2 y8_5).bind fun y32_2 => (bif !(decide (y32_2.1.used = (v0_4 + (1 : Int)))) then some false else chk (inR (v0_5 + (1 : Int))) (r0 (v0_4 + (1 : Int)) (v0_5 + (1 : Int)) y28_2.2))) else chk (inR (v0_5 + (1 : Int))) (r0 v0_4 (v0_5 + (1 : Int)) y28_2.2))) else (bif decide (y10_4 = (2 : Int)) then (dropS v0_b1_0 y8_5).bind fun y36_2 => (bif !(y36_2.2.1 == y9_2.2) then some false else (bif y36_2.2.1 then (bif !(decide (y36_2.1.used = y9_2.1.used)) then some false else chk (inR (v0_5 + (1 : Int))) (r0 v0_4 (v0_5 + (1 : Int)) y36_2.2.2)) else chk (inR (v0_5 + (1 : Int))) (r0 v0_4 (v0_5 + (1 : Int)) y36_2.2.2))) else (victimS v0_b1_0 y8_5).bind fun y11_2 => (fullS v0_b1_0 y8_5).bind fun y12_2 => (linesS v0_b1_0).bind fun y13_1 => (findS v0_b1_0 y8_5).bind fun y14_2 => (bif !(y14_2.2 == y9_2.2) then some false else (bif !(decide (y14_2.1.used = y9_2.1.used)) then some false else chk (inR (v0_5 + (1 : Int))) (r0 v0_4 (v0_5 + (1 : Int)) v0_b1_0)))))))) else k0 v0_4 v0_5 v0_b1_0)
def cacheClockS_k0 (e0_4 : Int) (e0_5 : Int) (e0_b1_0 : CacheS) : Option (Bool) :=
  (wakes8S).bind fun y39_0 => some y39_0
def cacheClockS_l0 (acts : List Int) (k0 : Int → Int → CacheS → Option (Bool)) : Nat → Int → Int → CacheS → Option (Bool)
  | 0 => fun _ _ _ => none
  | m + 1 => fun v0_4 v0_5 v0_b1_0 => (bif decide (v0_5 < (((List.length acts) : Nat) : Int)) then cacheClockS_j1 v0_5 acts v0_b1_0 v0_4 (cacheClockS_l0 acts k0 m) k0 (decide (v0_5 < (30 : Int))) else cacheClockS_j1 v0_5 acts v0_b1_0 v0_4 (cacheClockS_l0 acts k0 m) k0 false)
def cacheClockS (acts : List Int) : Option (Bool) :=
  letP (newC (2 : Int) (3 : Int)) fun y1_0 => cacheClockS_l0 acts (cacheClockS_k0 ) 64 0 0 y1_0
noncomputable def C10 (p : List Nat) : Code := codeAt (bodyOf Try.f10) p
set_option maxRecDepth 100000 in
set_option maxHeartbeats 8000000 in
theorem CacheClockF_tr {W0 : World} {Γ : List Asn} (actsa : Option Addr) (actscap : Nat) (acts : List Int) (hractsa : Reads W0 Γ actsa (ints acts)) (y : Bool) (H : cacheClockS acts = some y) : Tr Try.prog 10 #[.slice actsa (List.length acts) actscap] W0 (Γ) (fun r Δ => r = .bool y ∧ Δ = Γ) := by
  unfold cacheClockS at H
  refine Tr.enter (fn := Try.f10) (c := C10 []) (args := [.slice actsa (List.length acts) actscap]) 140 Try.func10 (by kernel_rfl) (by kernel_rfl) ?_
  refine At.env [(0, .slice actsa (List.length acts) actscap)] ⟨by kernel_rfl, trivial⟩ ?_
  refine at_seq (x := C10 [0]) (y := C10 [1]) (by kernel_rfl) ?_
  refine at_region (id := 0) 1 (by kernel_rfl) (by kernel_rfl) ?_
  refine s_pure 2 (.bool false) (by kernel_rfl) (by kernel_rfl) (fun _ => by kernel_rfl) ?_
  refine ops_end ?_
  refine At.env [(0, .slice actsa (List.length acts) actscap)] ⟨by kernel_rfl, trivial⟩ ?_
  refine at_then_normal ?_
  refine at_seq (x := C10 [1,0]) (y := C10 [1,1]) (by kernel_rfl) ?_
  refine at_region (id := 1) 2 (by kernel_rfl) (by kernel_rfl) ?_
  obtain ⟨y1_0, hy1_0, H⟩ := letE H
  refine s_call 18 13 #[.int .i64 (2), .int .i64 (3)] (by kernel_rfl) (by kernel_rfl) (fun _ => by kernel_rfl) (NewF_tr (2 : Int) (3 : Int) y1_0 hy1_0) ?_
  rintro _ _ ⟨b1_0, rfl, rfl⟩
  refine s_pure 3 (.pointer (some ⟨b1_0, 0, none⟩)) (by kernel_rfl) (by kernel_rfl) (fun _ => by kernel_rfl) ?_
  refine ops_end ?_
  refine At.env [(0, .slice actsa (List.length acts) actscap), (3, .pointer (some ⟨b1_0, 0, none⟩))] ⟨by kernel_rfl, by kernel_rfl, trivial⟩ ?_
  refine at_then_normal ?_
  refine at_seq (x := C10 [1,1,0]) (y := C10 [1,1,1]) (by kernel_rfl) ?_
  refine at_seq (x := C10 [1,1,0,0]) (y := C10 [1,1,0,1]) (by kernel_rfl) ?_
  refine at_region (id := 2) 2 (by kernel_rfl) (by kernel_rfl) ?_
  refine s_pure 19 (.pointer (some ⟨b1_0, 0, none⟩)) (by kernel_rfl) (by kernel_rfl) (fun _ => by kernel_rfl) ?_
  refine s_pure 20 (.bool false) (by kernel_rfl) (by kernel_rfl) (fun _ => by kernel_rfl) ?_
  refine ops_end ?_
  refine At.env [(0, .slice actsa (List.length acts) actscap), (3, .pointer (some ⟨b1_0, 0, none⟩)), (20, .bool false)] ⟨by kernel_rfl, by kernel_rfl, by kernel_rfl, trivial⟩ ?_
  refine at_then_normal ?_
  refine at_false (t := false) (x := C10 [1,1,0,1,0]) (y := C10 [1,1,0,1,1]) (o := .tmp 20) (by kernel_rfl) (by kernel_rfl) (by kernel_rfl) rfl ?_
  refine at_skip (by kernel_rfl) ?_
  refine at_then_normal ?_
  refine at_seq (x := C10 [1,1,1,0]) (y := C10 [1,1,1,1]) (by kernel_rfl) ?_
  refine at_region (id := 4) 1 (by kernel_rfl) (by kernel_rfl) ?_
  refine s_pure 4 (.int .i64 (0)) (by kernel_rfl) (by kernel_rfl) (fun _ => by kernel_rfl) ?_
  refine ops_end ?_
  refine At.env [(0, .slice actsa (List.length acts) actscap), (3, .pointer (some ⟨b1_0, 0, none⟩)), (4, .int .i64 (0))] ⟨by kernel_rfl, by kernel_rfl, by kernel_rfl, trivial⟩ ?_
  refine at_then_normal ?_
  refine at_seq (x := C10 [1,1,1,1,0]) (y := C10 [1,1,1,1,1]) (by kernel_rfl) ?_
  refine at_seq (x := C10 [1,1,1,1,0,0]) (y := C10 [1,1,1,1,0,1]) (by kernel_rfl) ?_
  refine at_region (id := 5) 1 (by kernel_rfl) (by kernel_rfl) ?_
  refine s_pure 5 (.int .i64 (0)) (by kernel_rfl) (by kernel_rfl) (fun _ => by kernel_rfl) ?_
  refine ops_end ?_
  refine At.env [(0, .slice actsa (List.length acts) actscap), (3, .pointer (some ⟨b1_0, 0, none⟩)), (4, .int .i64 (0)), (5, .int .i64 (0))] ⟨by kernel_rfl, by kernel_rfl, by kernel_rfl, by kernel_rfl, trivial⟩ ?_
  refine at_then_normal ?_
  refine at_block (i := 0) (x := C10 [1,1,1,1,0,1,0]) (by kernel_rfl) ?_
  refine At.conv (Γ' := (CacheA b1_0 y1_0) :: Γ) (fun w hw => (Sat.less (.take .here .refl) hw)) ?_
  refine at_loopR (x := C10 [1,1,1,1,0,1,0,0]) (fun mm ff ΔΔ => ∃ (fuel : Nat) (v0_4 : Int) (v0_5 : Int) (v0_b1_0 : CacheS), cacheClockS_l0 acts (cacheClockS_k0 ) fuel v0_4 v0_5 v0_b1_0 = some y ∧ fuel = mm ∧ ff = [(0, .slice actsa (List.length acts) actscap), (3, .pointer (some ⟨b1_0, 0, none⟩)), (4, .int .i64 v0_4), (5, .int .i64 v0_5)] ∧ (CacheA b1_0 v0_b1_0) :: Γ = ΔΔ) (64) (by kernel_rfl) [(0, .slice actsa (List.length acts) actscap), (3, .pointer (some ⟨b1_0, 0, none⟩)), (4, .int .i64 0), (5, .int .i64 0)] ⟨by kernel_rfl, by kernel_rfl, by kernel_rfl, by kernel_rfl, trivial⟩ ⟨64, 0, 0, y1_0, H, rfl, rfl, rfl⟩ ?_
  rintro _ _ _ ⟨fuel1, v0_4, v0_5, v0_b1_0, H, rfl, rfl, rfl⟩
  rcases fuel1 with _ | fuel1
  · exact (noneE H).elim
  rw [cacheClockS_l0] at H
  refine at_seq (x := C10 [1,1,1,1,0,1,0,0,0]) (y := C10 [1,1,1,1,0,1,0,0,1]) (by kernel_rfl) ?_
  refine at_seq_join (x := C10 [1,1,1,1,0,1,0,0,0,0]) (y := C10 [1,1,1,1,0,1,0,0,0,1]) (fun ff ΔΔ => ∃ (e1_28 : Bool), cacheClockS_j1 v0_5 acts v0_b1_0 v0_4 (cacheClockS_l0 acts (cacheClockS_k0 ) fuel1) (cacheClockS_k0 ) e1_28 = some y ∧ ff = [(0, .slice actsa (List.length acts) actscap), (3, .pointer (some ⟨b1_0, 0, none⟩)), (4, .int .i64 v0_4), (5, .int .i64 v0_5), (28, .bool e1_28)] ∧ (CacheA b1_0 v0_b1_0) :: Γ = ΔΔ) (by kernel_rfl) ?_ ?_
  · rintro _ _ ⟨e1_28, H, rfl, rfl⟩
    rw [cacheClockS_j1] at H
    rcases Bool.eq_false_or_eq_true (e1_28) with h1 | h1
    · replace H := bifT H h1
      refine at_true (t := e1_28) (x := C10 [1,1,1,1,0,1,0,0,0,1,0]) (y := C10 [1,1,1,1,0,1,0,0,0,1,1]) (o := .tmp 28) (by kernel_rfl) (by kernel_rfl) (by kernel_rfl) h1 ?_
      refine at_skip (by kernel_rfl) ?_
      refine at_then_normal ?_
      refine at_seq (x := C10 [1,1,1,1,0,1,0,0,1,0]) (y := C10 [1,1,1,1,0,1,0,0,1,1]) (by kernel_rfl) ?_
      refine at_block (i := 1) (x := C10 [1,1,1,1,0,1,0,0,1,0,0]) (by kernel_rfl) ?_
      refine at_seq (x := C10 [1,1,1,1,0,1,0,0,1,0,0,0]) (y := C10 [1,1,1,1,0,1,0,0,1,0,0,1]) (by kernel_rfl) ?_
      refine at_region (id := 8) 7 (by kernel_rfl) (by kernel_rfl) ?_
      refine s_pure 31 (.slice actsa (List.length acts) actscap) (by kernel_rfl) (by kernel_rfl) (fun _ => by kernel_rfl) ?_
      refine s_pure 32 (.int .i64 v0_5) (by kernel_rfl) (by kernel_rfl) (fun _ => by kernel_rfl) ?_
      obtain ⟨hc8_2_0, H⟩ := chkE H
      refine reads_at (Reads.conv (fun w hw => hw.less (.drop .here .refl)) hractsa) (by have := hc8_2_0; omega) ?_
      intro bb1 oo1 ha1
      refine s_pure 33 (.pointer (some ⟨bb1, oo1 + ((v0_5).toNat * 1 + 0), none⟩)) (by kernel_rfl) (by kernel_rfl) (index_at (t := 22) (sz := 1) (E := 3) (a := actsa) (m := (List.length acts)) (c := actscap) (b := bb1) (off := oo1) (i := (v0_5).toNat) (tinfo 3) (fun _ => by kernel_rfl) (by kernel_rfl) (by kernel_rfl) (by kernel_rfl) ha1 (idx_cast hc8_2_0) (idx_nat hc8_2_0) rfl) ?_
      refine s_load 34 (.int .i64 (nth acts v0_5)) (by kernel_rfl) (by kernel_rfl) (load1_at (off := oo1 + ((v0_5).toNat * 1 + 0)) (v := .int .i64 (nth acts v0_5)) (fun _ => by kernel_rfl) rfl (reads_cell (k := 1) (Reads.conv (fun w hw => hw.less (.drop .here .refl)) hractsa) (ints_rows _) ha1 (nth_row hc8_2_0) (show [(.int .i64 (nth acts v0_5) : Value)][0]? = some _ from rfl))) ?_
      refine s_pure 35 (.int .i64 (wr ((nth acts v0_5).tdiv (4 : Int)))) (by kernel_rfl) (by kernel_rfl) (run_quoP (a := nth acts v0_5) (b := 4) (fun _ => by kernel_rfl) (by decide)) ?_
      obtain ⟨y8_5, hy8_5, H⟩ := bindE H
      refine s_quiet 36 (.int .i64 y8_5) 17 #[.int .i64 (wr ((nth acts v0_5).tdiv (4 : Int))), .int .i64 (6)] (by kernel_rfl) (by kernel_rfl) (fun _ => by kernel_rfl) (WithinF_tr (wr ((nth acts v0_5).tdiv (4 : Int))) (6 : Int) y8_5 hy8_5) ?_
      refine s_pure 6 (.int .i64 y8_5) (by kernel_rfl) (by kernel_rfl) (fun _ => by kernel_rfl) ?_
      refine ops_end ?_
      refine At.env [(0, .slice actsa (List.length acts) actscap), (3, .pointer (some ⟨b1_0, 0, none⟩)), (4, .int .i64 v0_4), (5, .int .i64 v0_5), (6, .int .i64 y8_5)] ⟨by kernel_rfl, by kernel_rfl, by kernel_rfl, by kernel_rfl, by kernel_rfl, trivial⟩ ?_
      refine at_then_normal ?_
      refine at_seq (x := C10 [1,1,1,1,0,1,0,0,1,0,0,1,0]) (y := C10 [1,1,1,1,0,1,0,0,1,0,0,1,1]) (by kernel_rfl) ?_
      refine at_region (id := 9) 9 (by kernel_rfl) (by kernel_rfl) ?_
      refine s_pure 38 (.pointer (some ⟨b1_0, 0, none⟩)) (by kernel_rfl) (by kernel_rfl) (fun _ => by kernel_rfl) ?_
      refine s_pure 39 (.int .i64 y8_5) (by kernel_rfl) (by kernel_rfl) (fun _ => by kernel_rfl) ?_
      obtain ⟨y9_2, hy9_2, H⟩ := bindE H
      refine s_call 40 20 #[.pointer (some ⟨b1_0, 0, none⟩), .int .i64 y8_5] (by kernel_rfl) (by kernel_rfl) (fun _ => by kernel_rfl) (FindF_tr b1_0 v0_b1_0 y8_5 y9_2 hy9_2) ?_
      rintro _ _ ⟨a9_2_00, c9_2_00, rfl, rfl⟩
      refine s_pure 37 (.tuple #[.agg #[.int .i64 y9_2.1.fwd, .int .i64 y9_2.1.back, .int .i64 y9_2.1.line, .int .i64 y9_2.1.used, .bool y9_2.1.dirty, .slice a9_2_00 (List.length y9_2.1.data) c9_2_00], .bool y9_2.2]) (by kernel_rfl) (by kernel_rfl) (fun _ => by kernel_rfl) ?_
      refine s_pure 41 (.agg #[.int .i64 y9_2.1.fwd, .int .i64 y9_2.1.back, .int .i64 y9_2.1.line, .int .i64 y9_2.1.used, .bool y9_2.1.dirty, .slice a9_2_00 (List.length y9_2.1.data) c9_2_00]) (by kernel_rfl) (by kernel_rfl) (fun _ => by kernel_rfl) ?_
      refine s_pure 42 (.bool y9_2.2) (by kernel_rfl) (by kernel_rfl) (fun _ => by kernel_rfl) ?_
      refine s_step 7 (by kernel_rfl) (by kernel_rfl) (st_new (T := 31) (cells := #[.int .i64 (0), .int .i64 (0), .int .i64 (0), .int .i64 (0), .bool false, .slice none 0 0]) (fun a => .pointer (some a)) (fun _ => by kernel_rfl)) ?_
      rintro _ _ ⟨b9_6, rfl, rfl⟩
      refine s_do (by kernel_rfl) (by kernel_rfl) (st_store (off := 0) (vs := [.int .i64 y9_2.1.fwd, .int .i64 y9_2.1.back, .int .i64 y9_2.1.line, .int .i64 y9_2.1.used, .bool y9_2.1.dirty, .slice a9_2_00 (List.length y9_2.1.data) c9_2_00]) (c' := #[.int .i64 y9_2.1.fwd, .int .i64 y9_2.1.back, .int .i64 y9_2.1.line, .int .i64 y9_2.1.used, .bool y9_2.1.dirty, .slice a9_2_00 (List.length y9_2.1.data) c9_2_00]) (fun _ => by kernel_rfl) .here (by kernel_rfl) (by kernel_rfl) (by kernel_rfl)) ?_
      rintro _ _ ⟨rfl, rfl⟩
      refine s_pure 8 (.bool y9_2.2) (by kernel_rfl) (by kernel_rfl) (fun _ => by kernel_rfl) ?_
      refine ops_end ?_
      refine At.env [(0, .slice actsa (List.length acts) actscap), (3, .pointer (some ⟨b1_0, 0, none⟩)), (4, .int .i64 v0_4), (5, .int .i64 v0_5), (6, .int .i64 y8_5), (7, .pointer (some ⟨b9_6, 0, none⟩)), (8, .bool y9_2.2)] ⟨by kernel_rfl, by kernel_rfl, by kernel_rfl, by kernel_rfl, by kernel_rfl, by kernel_rfl, by kernel_rfl, trivial⟩ ?_
      refine at_then_normal ?_
      refine at_seq (x := C10 [1,1,1,1,0,1,0,0,1,0,0,1,1,0]) (y := C10 [1,1,1,1,0,1,0,0,1,0,0,1,1,1]) (by kernel_rfl) ?_
      refine at_region (id := 10) 5 (by kernel_rfl) (by kernel_rfl) ?_
      refine s_pure 43 (.slice actsa (List.length acts) actscap) (by kernel_rfl) (by kernel_rfl) (fun _ => by kernel_rfl) ?_
      refine s_pure 44 (.int .i64 v0_5) (by kernel_rfl) (by kernel_rfl) (fun _ => by kernel_rfl) ?_
      obtain ⟨hc10_2_0, H⟩ := chkE H
      refine reads_at (Reads.conv (fun w hw => hw.less (.drop .here (.drop .here (.drop .here .refl)))) hractsa) (by have := hc10_2_0; omega) ?_
      intro bb2 oo2 ha2
      refine s_pure 45 (.pointer (some ⟨bb2, oo2 + ((v0_5).toNat * 1 + 0), none⟩)) (by kernel_rfl) (by kernel_rfl) (index_at (t := 22) (sz := 1) (E := 3) (a := actsa) (m := (List.length acts)) (c := actscap) (b := bb2) (off := oo2) (i := (v0_5).toNat) (tinfo 3) (fun _ => by kernel_rfl) (by kernel_rfl) (by kernel_rfl) (by kernel_rfl) ha2 (idx_cast hc10_2_0) (idx_nat hc10_2_0) rfl) ?_
      refine s_load 46 (.int .i64 (nth acts v0_5)) (by kernel_rfl) (by kernel_rfl) (load1_at (off := oo2 + ((v0_5).toNat * 1 + 0)) (v := .int .i64 (nth acts v0_5)) (fun _ => by kernel_rfl) rfl (reads_cell (k := 1) (Reads.conv (fun w hw => hw.less (.drop .here (.drop .here (.drop .here .refl)))) hractsa) (ints_rows _) ha2 (nth_row hc10_2_0) (show [(.int .i64 (nth acts v0_5) : Value)][0]? = some _ from rfl))) ?_
      obtain ⟨y10_4, hy10_4, H⟩ := bindE H
      refine s_quiet 47 (.int .i64 y10_4) 17 #[.int .i64 (nth acts v0_5), .int .i64 (4)] (by kernel_rfl) (by kernel_rfl) (fun _ => by kernel_rfl) (WithinF_tr (nth acts v0_5) (4 : Int) y10_4 hy10_4) ?_
      refine ops_end ?_
      refine At.env [(0, .slice actsa (List.length acts) actscap), (3, .pointer (some ⟨b1_0, 0, none⟩)), (4, .int .i64 v0_4), (5, .int .i64 v0_5), (6, .int .i64 y8_5), (7, .pointer (some ⟨b9_6, 0, none⟩)), (8, .bool y9_2.2), (47, .int .i64 y10_4)] ⟨by kernel_rfl, by kernel_rfl, by kernel_rfl, by kernel_rfl, by kernel_rfl, by kernel_rfl, by kernel_rfl, by kernel_rfl, trivial⟩ ?_
      refine at_then_normal ?_
      refine at_block (i := 2) (x := C10 [1,1,1,1,0,1,0,0,1,0,0,1,1,1,0]) (by kernel_rfl) ?_
      refine at_seq (x := C10 [1,1,1,1,0,1,0,0,1,0,0,1,1,1,0,0]) (y := C10 [1,1,1,1,0,1,0,0,1,0,0,1,1,1,0,1]) (by kernel_rfl) ?_
      refine at_region (id := 17) 2 (by kernel_rfl) (by kernel_rfl) ?_
      refine s_pure 73 (.bool (decide (y10_4 = (0 : Int)))) (by kernel_rfl) (by kernel_rfl) (fun _ => by kernel_rfl) ?_
      refine s_pure 72 (.bool (decide (y10_4 = (0 : Int)))) (by kernel_rfl) (by kernel_rfl) (fun _ => by kernel_rfl) ?_
      refine ops_end ?_
      refine At.env [(0, .slice actsa (List.length acts) actscap), (3, .pointer (some ⟨b1_0, 0, none⟩)), (4, .int .i64 v0_4), (5, .int .i64 v0_5), (6, .int .i64 y8_5), (7, .pointer (some ⟨b9_6, 0, none⟩)), (8, .bool y9_2.2), (47, .int .i64 y10_4), (72, .bool (decide (y10_4 = (0 : Int))))] ⟨by kernel_rfl, by kernel_rfl, by kernel_rfl, by kernel_rfl, by kernel_rfl, by kernel_rfl, by kernel_rfl, by kernel_rfl, by kernel_rfl, trivial⟩ ?_
      refine at_then_normal ?_
      rcases Bool.eq_false_or_eq_true (decide (y10_4 = (0 : Int))) with h2 | h2
      · replace H := bifT H h2
        refine at_true (t := decide (y10_4 = (0 : Int))) (x := C10 [1,1,1,1,0,1,0,0,1,0,0,1,1,1,0,1,0]) (y := C10 [1,1,1,1,0,1,0,0,1,0,0,1,1,1,0,1,1]) (o := .tmp 72) (by kernel_rfl) (by kernel_rfl) (by kernel_rfl) h2 ?_
        refine at_seq (x := C10 [1,1,1,1,0,1,0,0,1,0,0,1,1,1,0,1,0,0]) (y := C10 [1,1,1,1,0,1,0,0,1,0,0,1,1,1,0,1,0,1]) (by kernel_rfl) ?_
        refine at_seq (x := C10 [1,1,1,1,0,1,0,0,1,0,0,1,1,1,0,1,0,0,0]) (y := C10 [1,1,1,1,0,1,0,0,1,0,0,1,1,1,0,1,0,0,1]) (by kernel_rfl) ?_
        refine at_region (id := 18) 7 (by kernel_rfl) (by kernel_rfl) ?_
        refine s_pure 74 (.pointer (some ⟨b1_0, 0, none⟩)) (by kernel_rfl) (by kernel_rfl) (fun _ => by kernel_rfl) ?_
        refine s_pure 75 (.int .i64 y8_5) (by kernel_rfl) (by kernel_rfl) (fun _ => by kernel_rfl) ?_
        refine s_pure 76 (.int .i64 v0_5) (by kernel_rfl) (by kernel_rfl) (fun _ => by kernel_rfl) ?_
        refine s_pure 77 (.int .i64 v0_5) (by kernel_rfl) (by kernel_rfl) (fun _ => by kernel_rfl) ?_
        obtain ⟨y18_4, hy18_4, H⟩ := bindE H
        refine s_call 78 16 #[.int .i64 y8_5, .int .i64 v0_5, .int .i64 v0_5, .bool false, .slice none 0 0] (by kernel_rfl) (by kernel_rfl) (fun _ => by kernel_rfl) (ENewF_tr y8_5 v0_5 v0_5 false none 0 ([] : List Int) Reads.nil y18_4 hy18_4) ?_
        rintro _ _ ⟨a18_4_00, c18_4_00, rfl, rfl⟩
        obtain ⟨y18_5, hy18_5, H⟩ := bindE H
        refine s_call 79 15 #[.pointer (some ⟨b1_0, 0, none⟩), .agg #[.int .i64 y18_4.fwd, .int .i64 y18_4.back, .int .i64 y18_4.line, .int .i64 y18_4.used, .bool y18_4.dirty, .slice a18_4_00 (List.length y18_4.data) c18_4_00]] (by kernel_rfl) (by kernel_rfl) (fun _ => by kernel_rfl) (Tr.conv (Γ' := (CacheA b1_0 v0_b1_0) :: (IntsA a18_4_00 c18_4_00 y18_4.data) :: (Asn.own b9_6 (.cells #[.int .i64 y9_2.1.fwd, .int .i64 y9_2.1.back, .int .i64 y9_2.1.line, .int .i64 y9_2.1.used, .bool y9_2.1.dirty, .slice a9_2_00 (List.length y9_2.1.data) c9_2_00] 31 (0, 0))) :: (IntsA a9_2_00 c9_2_00 y9_2.1.data) :: Γ) (fun w hw => (Sat.less (.take (.there (.there (.there .here))) (.take .here (.take .here (.take .here .refl)))) hw)) (PutF_tr b1_0 v0_b1_0 a18_4_00 c18_4_00 y18_4 (RowsA.reads (k := 1) .here) y18_5 hy18_5)) ?_
        rintro _ _ ⟨rfl, rfl⟩
        refine s_pure 80 (.bool (!(decide (y18_5.1 = (0 : Int))))) (by kernel_rfl) (by kernel_rfl) (fun _ => by kernel_rfl) ?_
        refine ops_end ?_
        refine At.env [(0, .slice actsa (List.length acts) actscap), (3, .pointer (some ⟨b1_0, 0, none⟩)), (4, .int .i64 v0_4), (5, .int .i64 v0_5), (6, .int .i64 y8_5), (7, .pointer (some ⟨b9_6, 0, none⟩)), (8, .bool y9_2.2), (80, .bool (!(decide (y18_5.1 = (0 : Int)))))] ⟨by kernel_rfl, by kernel_rfl, by kernel_rfl, by kernel_rfl, by kernel_rfl, by kernel_rfl, by kernel_rfl, by kernel_rfl, trivial⟩ ?_
        refine at_then_normal ?_
        rcases Bool.eq_false_or_eq_true (!(decide (y18_5.1 = (0 : Int)))) with h3 | h3
        · replace H := bifT H h3
          refine at_true (t := !(decide (y18_5.1 = (0 : Int)))) (x := C10 [1,1,1,1,0,1,0,0,1,0,0,1,1,1,0,1,0,0,1,0]) (y := C10 [1,1,1,1,0,1,0,0,1,0,0,1,1,1,0,1,0,0,1,1]) (o := .tmp 80) (by kernel_rfl) (by kernel_rfl) (by kernel_rfl) h3 ?_
          refine at_seq (x := C10 [1,1,1,1,0,1,0,0,1,0,0,1,1,1,0,1,0,0,1,0,0]) (y := C10 [1,1,1,1,0,1,0,0,1,0,0,1,1,1,0,1,0,0,1,0,1]) (by kernel_rfl) ?_
          refine at_region (id := 19) 1 (by kernel_rfl) (by kernel_rfl) ?_
          refine s_pure 2 (.bool false) (by kernel_rfl) (by kernel_rfl) (fun _ => by kernel_rfl) ?_
          refine ops_end ?_
          refine At.env [(2, .bool false)] ⟨by kernel_rfl, trivial⟩ ?_
          refine at_then_normal ?_
          refine at_ret (by kernel_rfl) ?_
          refine at_then_ret ?_
          refine at_in_ret ?_
          refine at_in_ret ?_
          refine at_then_ret ?_
          refine at_then_ret ?_
          refine at_in_ret ?_
          refine at_then_ret ?_
          obtain rfl := someE H
          refine at_backR [.bool false] (Γ) (rs := [.tmp 2]) (by kernel_rfl) (.cons (.tmp (by kernel_rfl)) .nil) (fun w hw => (Sat.less (.drop .here (.drop .here (.drop .here (.drop .here .refl)))) hw)) ?_
          exact ⟨rfl, rfl⟩
        · replace H := bifF H h3
          refine at_false (t := !(decide (y18_5.1 = (0 : Int)))) (x := C10 [1,1,1,1,0,1,0,0,1,0,0,1,1,1,0,1,0,0,1,0]) (y := C10 [1,1,1,1,0,1,0,0,1,0,0,1,1,1,0,1,0,0,1,1]) (o := .tmp 80) (by kernel_rfl) (by kernel_rfl) (by kernel_rfl) h3 ?_
          refine at_skip (by kernel_rfl) ?_
          refine at_then_normal ?_
          refine at_seq (x := C10 [1,1,1,1,0,1,0,0,1,0,0,1,1,1,0,1,0,1,0]) (y := C10 [1,1,1,1,0,1,0,0,1,0,0,1,1,1,0,1,0,1,1]) (by kernel_rfl) ?_
          refine at_region (id := 20) 3 (by kernel_rfl) (by kernel_rfl) ?_
          refine s_pure 81 (.pointer (some ⟨b9_6, 3, none⟩)) (by kernel_rfl) (by kernel_rfl) (fun _ => by kernel_rfl) ?_
          refine s_load 82 (.int .i64 y9_2.1.used) (by kernel_rfl) (by kernel_rfl) (load1 (off := 3) (fun _ => by kernel_rfl) (holds_own (.there (.there .here))) (by kernel_rfl)) ?_
          refine s_pure 9 (.int .i64 y9_2.1.used) (by kernel_rfl) (by kernel_rfl) (fun _ => by kernel_rfl) ?_
          refine ops_end ?_
          refine At.env [(0, .slice actsa (List.length acts) actscap), (3, .pointer (some ⟨b1_0, 0, none⟩)), (4, .int .i64 v0_4), (5, .int .i64 v0_5), (6, .int .i64 y8_5), (8, .bool y9_2.2), (9, .int .i64 y9_2.1.used)] ⟨by kernel_rfl, by kernel_rfl, by kernel_rfl, by kernel_rfl, by kernel_rfl, by kernel_rfl, by kernel_rfl, trivial⟩ ?_
          refine at_then_normal ?_
          refine at_seq_join (x := C10 [1,1,1,1,0,1,0,0,1,0,0,1,1,1,0,1,0,1,1,0]) (y := C10 [1,1,1,1,0,1,0,0,1,0,0,1,1,1,0,1,0,1,1,1]) (fun ff ΔΔ => ∃ (e2_4 : Int) (e2_9 : Int), cacheClockS_j2 y18_5 y8_5 v0_5 (cacheClockS_l0 acts (cacheClockS_k0 ) fuel1) e2_4 e2_9 = some y ∧ ff = [(0, .slice actsa (List.length acts) actscap), (3, .pointer (some ⟨b1_0, 0, none⟩)), (4, .int .i64 e2_4), (5, .int .i64 v0_5), (6, .int .i64 y8_5), (9, .int .i64 e2_9)] ∧ (CacheA b1_0 y18_5.2) :: Γ = ΔΔ) (by kernel_rfl) ?_ ?_
          · rintro _ _ ⟨e2_4, e2_9, H, rfl, rfl⟩
            rw [cacheClockS_j2] at H
            refine at_seq (x := C10 [1,1,1,1,0,1,0,0,1,0,0,1,1,1,0,1,0,1,1,1,0]) (y := C10 [1,1,1,1,0,1,0,0,1,0,0,1,1,1,0,1,0,1,1,1,1]) (by kernel_rfl) ?_
            refine at_region (id := 24) 9 (by kernel_rfl) (by kernel_rfl) ?_
            refine s_pure 89 (.pointer (some ⟨b1_0, 0, none⟩)) (by kernel_rfl) (by kernel_rfl) (fun _ => by kernel_rfl) ?_
            refine s_pure 90 (.int .i64 y8_5) (by kernel_rfl) (by kernel_rfl) (fun _ => by kernel_rfl) ?_
            obtain ⟨y24_2, hy24_2, H⟩ := bindE H
            refine s_call 91 20 #[.pointer (some ⟨b1_0, 0, none⟩), .int .i64 y8_5] (by kernel_rfl) (by kernel_rfl) (fun _ => by kernel_rfl) (FindF_tr b1_0 y18_5.2 y8_5 y24_2 hy24_2) ?_
            rintro _ _ ⟨a24_2_00, c24_2_00, rfl, rfl⟩
            refine s_pure 88 (.tuple #[.agg #[.int .i64 y24_2.1.fwd, .int .i64 y24_2.1.back, .int .i64 y24_2.1.line, .int .i64 y24_2.1.used, .bool y24_2.1.dirty, .slice a24_2_00 (List.length y24_2.1.data) c24_2_00], .bool y24_2.2]) (by kernel_rfl) (by kernel_rfl) (fun _ => by kernel_rfl) ?_
            refine s_pure 92 (.agg #[.int .i64 y24_2.1.fwd, .int .i64 y24_2.1.back, .int .i64 y24_2.1.line, .int .i64 y24_2.1.used, .bool y24_2.1.dirty, .slice a24_2_00 (List.length y24_2.1.data) c24_2_00]) (by kernel_rfl) (by kernel_rfl) (fun _ => by kernel_rfl) ?_
            refine s_pure 93 (.bool y24_2.2) (by kernel_rfl) (by kernel_rfl) (fun _ => by kernel_rfl) ?_
            refine s_step 10 (by kernel_rfl) (by kernel_rfl) (st_new (T := 31) (cells := #[.int .i64 (0), .int .i64 (0), .int .i64 (0), .int .i64 (0), .bool false, .slice none 0 0]) (fun a => .pointer (some a)) (fun _ => by kernel_rfl)) ?_
            rintro _ _ ⟨b24_6, rfl, rfl⟩
            refine s_do (by kernel_rfl) (by kernel_rfl) (st_store (off := 0) (vs := [.int .i64 y24_2.1.fwd, .int .i64 y24_2.1.back, .int .i64 y24_2.1.line, .int .i64 y24_2.1.used, .bool y24_2.1.dirty, .slice a24_2_00 (List.length y24_2.1.data) c24_2_00]) (c' := #[.int .i64 y24_2.1.fwd, .int .i64 y24_2.1.back, .int .i64 y24_2.1.line, .int .i64 y24_2.1.used, .bool y24_2.1.dirty, .slice a24_2_00 (List.length y24_2.1.data) c24_2_00]) (fun _ => by kernel_rfl) .here (by kernel_rfl) (by kernel_rfl) (by kernel_rfl)) ?_
            rintro _ _ ⟨rfl, rfl⟩
            refine s_pure 11 (.bool y24_2.2) (by kernel_rfl) (by kernel_rfl) (fun _ => by kernel_rfl) ?_
            refine ops_end ?_
            refine At.env [(0, .slice actsa (List.length acts) actscap), (3, .pointer (some ⟨b1_0, 0, none⟩)), (4, .int .i64 e2_4), (5, .int .i64 v0_5), (9, .int .i64 e2_9), (10, .pointer (some ⟨b24_6, 0, none⟩))] ⟨by kernel_rfl, by kernel_rfl, by kernel_rfl, by kernel_rfl, by kernel_rfl, by kernel_rfl, trivial⟩ ?_
            refine at_then_normal ?_
            refine at_seq (x := C10 [1,1,1,1,0,1,0,0,1,0,0,1,1,1,0,1,0,1,1,1,1,0]) (y := C10 [1,1,1,1,0,1,0,0,1,0,0,1,1,1,0,1,0,1,1,1,1,1]) (by kernel_rfl) ?_
            refine at_region (id := 25) 4 (by kernel_rfl) (by kernel_rfl) ?_
            refine s_pure 94 (.pointer (some ⟨b24_6, 3, none⟩)) (by kernel_rfl) (by kernel_rfl) (fun _ => by kernel_rfl) ?_
            refine s_load 95 (.int .i64 y24_2.1.used) (by kernel_rfl) (by kernel_rfl) (load1 (off := 3) (fun _ => by kernel_rfl) (holds_own .here) (by kernel_rfl)) ?_
            refine s_pure 96 (.int .i64 e2_9) (by kernel_rfl) (by kernel_rfl) (fun _ => by kernel_rfl) ?_
            refine s_pure 97 (.bool (!(decide (y24_2.1.used = e2_9)))) (by kernel_rfl) (by kernel_rfl) (fun _ => by kernel_rfl) ?_
            refine ops_end ?_
            refine At.env [(0, .slice actsa (List.length acts) actscap), (3, .pointer (some ⟨b1_0, 0, none⟩)), (4, .int .i64 e2_4), (5, .int .i64 v0_5), (97, .bool (!(decide (y24_2.1.used = e2_9))))] ⟨by kernel_rfl, by kernel_rfl, by kernel_rfl, by kernel_rfl, by kernel_rfl, trivial⟩ ?_
            refine at_then_normal ?_
            rcases Bool.eq_false_or_eq_true (!(decide (y24_2.1.used = e2_9))) with h4 | h4
            · replace H := bifT H h4
              refine at_true (t := !(decide (y24_2.1.used = e2_9))) (x := C10 [1,1,1,1,0,1,0,0,1,0,0,1,1,1,0,1,0,1,1,1,1,1,0]) (y := C10 [1,1,1,1,0,1,0,0,1,0,0,1,1,1,0,1,0,1,1,1,1,1,1]) (o := .tmp 97) (by kernel_rfl) (by kernel_rfl) (by kernel_rfl) h4 ?_
              refine at_seq (x := C10 [1,1,1,1,0,1,0,0,1,0,0,1,1,1,0,1,0,1,1,1,1,1,0,0]) (y := C10 [1,1,1,1,0,1,0,0,1,0,0,1,1,1,0,1,0,1,1,1,1,1,0,1]) (by kernel_rfl) ?_
              refine at_region (id := 26) 1 (by kernel_rfl) (by kernel_rfl) ?_
              refine s_pure 2 (.bool false) (by kernel_rfl) (by kernel_rfl) (fun _ => by kernel_rfl) ?_
              refine ops_end ?_
              refine At.env [(2, .bool false)] ⟨by kernel_rfl, trivial⟩ ?_
              refine at_then_normal ?_
              refine at_ret (by kernel_rfl) ?_
              refine at_in_ret ?_
              refine at_in_ret ?_
              refine at_then_ret ?_
              refine at_then_ret ?_
              refine at_in_ret ?_
              refine at_then_ret ?_
              obtain rfl := someE H
              refine at_backR [.bool false] (Γ) (rs := [.tmp 2]) (by kernel_rfl) (.cons (.tmp (by kernel_rfl)) .nil) (fun w hw => (Sat.less (.drop .here (.drop .here (.drop .here .refl))) hw)) ?_
              exact ⟨rfl, rfl⟩
            · replace H := bifF H h4
              refine at_false (t := !(decide (y24_2.1.used = e2_9))) (x := C10 [1,1,1,1,0,1,0,0,1,0,0,1,1,1,0,1,0,1,1,1,1,1,0]) (y := C10 [1,1,1,1,0,1,0,0,1,0,0,1,1,1,0,1,0,1,1,1,1,1,1]) (o := .tmp 97) (by kernel_rfl) (by kernel_rfl) (by kernel_rfl) h4 ?_
              refine at_skip (by kernel_rfl) ?_
              refine at_in_normal ?_
              refine at_in_normal ?_
              refine at_then_normal ?_
              refine at_region (id := 7) 3 (by kernel_rfl) (by kernel_rfl) ?_
              refine s_pure 29 (.int .i64 v0_5) (by kernel_rfl) (by kernel_rfl) (fun _ => by kernel_rfl) ?_
              obtain ⟨hc7_1_0, H⟩ := chkE H
              refine s_pure 30 (.int .i64 (v0_5 + (1 : Int))) (by kernel_rfl) (by kernel_rfl) (run_eq (v := .int .i64 (IntKind.i64.wrap (v0_5 + (1 : Int)))) (fun _ => by kernel_rfl) (by rw [inR.wrap hc7_1_0])) ?_
              refine s_pure 5 (.int .i64 (v0_5 + (1 : Int))) (by kernel_rfl) (by kernel_rfl) (fun _ => by kernel_rfl) ?_
              refine ops_end ?_
              refine At.env [(0, .slice actsa (List.length acts) actscap), (3, .pointer (some ⟨b1_0, 0, none⟩)), (4, .int .i64 e2_4), (5, .int .i64 (v0_5 + (1 : Int)))] ⟨by kernel_rfl, by kernel_rfl, by kernel_rfl, by kernel_rfl, trivial⟩ ?_
              refine at_round_normal ?_
              exact at_roundR fuel1 [(0, .slice actsa (List.length acts) actscap), (3, .pointer (some ⟨b1_0, 0, none⟩)), (4, .int .i64 e2_4), (5, .int .i64 (v0_5 + (1 : Int)))] ((CacheA b1_0 y18_5.2) :: Γ) (Nat.lt_succ_self _) ⟨by kernel_rfl, by kernel_rfl, by kernel_rfl, by kernel_rfl, trivial⟩ (fun w hw => (Sat.less (.take (.there (.there .here)) (.drop .here (.drop .here .refl))) hw)) ⟨fuel1, e2_4, v0_5 + (1 : Int), y18_5.2, H, rfl, rfl, rfl⟩
          · refine at_seq (x := C10 [1,1,1,1,0,1,0,0,1,0,0,1,1,1,0,1,0,1,1,0,0]) (y := C10 [1,1,1,1,0,1,0,0,1,0,0,1,1,1,0,1,0,1,1,0,1]) (by kernel_rfl) ?_
            refine at_region (id := 21) 2 (by kernel_rfl) (by kernel_rfl) ?_
            refine s_pure 83 (.bool y9_2.2) (by kernel_rfl) (by kernel_rfl) (fun _ => by kernel_rfl) ?_
            refine s_pure 84 (.bool !y9_2.2) (by kernel_rfl) (by kernel_rfl) (fun _ => by kernel_rfl) ?_
            refine ops_end ?_
            refine At.env [(0, .slice actsa (List.length acts) actscap), (3, .pointer (some ⟨b1_0, 0, none⟩)), (4, .int .i64 v0_4), (5, .int .i64 v0_5), (6, .int .i64 y8_5), (9, .int .i64 y9_2.1.used), (84, .bool !y9_2.2)] ⟨by kernel_rfl, by kernel_rfl, by kernel_rfl, by kernel_rfl, by kernel_rfl, by kernel_rfl, by kernel_rfl, trivial⟩ ?_
            refine at_then_normal ?_
            rcases Bool.eq_false_or_eq_true (!y9_2.2) with h5 | h5
            · replace H := bifT H h5
              refine at_true (t := !y9_2.2) (x := C10 [1,1,1,1,0,1,0,0,1,0,0,1,1,1,0,1,0,1,1,0,1,0]) (y := C10 [1,1,1,1,0,1,0,0,1,0,0,1,1,1,0,1,0,1,1,0,1,1]) (o := .tmp 84) (by kernel_rfl) (by kernel_rfl) (by kernel_rfl) h5 ?_
              refine at_seq (x := C10 [1,1,1,1,0,1,0,0,1,0,0,1,1,1,0,1,0,1,1,0,1,0,0]) (y := C10 [1,1,1,1,0,1,0,0,1,0,0,1,1,1,0,1,0,1,1,0,1,0,1]) (by kernel_rfl) ?_
              refine at_region (id := 22) 3 (by kernel_rfl) (by kernel_rfl) ?_
              refine s_pure 85 (.int .i64 v0_4) (by kernel_rfl) (by kernel_rfl) (fun _ => by kernel_rfl) ?_
              obtain ⟨hc22_1_0, H⟩ := chkE H
              refine s_pure 86 (.int .i64 (v0_4 + (1 : Int))) (by kernel_rfl) (by kernel_rfl) (run_eq (v := .int .i64 (IntKind.i64.wrap (v0_4 + (1 : Int)))) (fun _ => by kernel_rfl) (by rw [inR.wrap hc22_1_0])) ?_
              refine s_pure 4 (.int .i64 (v0_4 + (1 : Int))) (by kernel_rfl) (by kernel_rfl) (fun _ => by kernel_rfl) ?_
              refine ops_end ?_
              refine At.env [(0, .slice actsa (List.length acts) actscap), (3, .pointer (some ⟨b1_0, 0, none⟩)), (4, .int .i64 (v0_4 + (1 : Int))), (5, .int .i64 v0_5), (6, .int .i64 y8_5)] ⟨by kernel_rfl, by kernel_rfl, by kernel_rfl, by kernel_rfl, by kernel_rfl, trivial⟩ ?_
              refine at_then_normal ?_
              refine at_region (id := 23) 2 (by kernel_rfl) (by kernel_rfl) ?_
              refine s_pure 87 (.int .i64 (v0_4 + (1 : Int))) (by kernel_rfl) (by kernel_rfl) (fun _ => by kernel_rfl) ?_
              refine s_pure 9 (.int .i64 (v0_4 + (1 : Int))) (by kernel_rfl) (by kernel_rfl) (fun _ => by kernel_rfl) ?_
              refine ops_end ?_
              refine At.env [(0, .slice actsa (List.length acts) actscap), (3, .pointer (some ⟨b1_0, 0, none⟩)), (4, .int .i64 (v0_4 + (1 : Int))), (5, .int .i64 v0_5), (6, .int .i64 y8_5), (9, .int .i64 (v0_4 + (1 : Int)))] ⟨by kernel_rfl, by kernel_rfl, by kernel_rfl, by kernel_rfl, by kernel_rfl, by kernel_rfl, trivial⟩ ?_
              refine at_round_normal ?_
              exact at_join_mk [(0, .slice actsa (List.length acts) actscap), (3, .pointer (some ⟨b1_0, 0, none⟩)), (4, .int .i64 (v0_4 + (1 : Int))), (5, .int .i64 v0_5), (6, .int .i64 y8_5), (9, .int .i64 (v0_4 + (1 : Int)))] ((CacheA b1_0 y18_5.2) :: Γ) ⟨by kernel_rfl, by kernel_rfl, by kernel_rfl, by kernel_rfl, by kernel_rfl, by kernel_rfl, trivial⟩ (fun w hw => (Sat.less (.take .here (.drop .here (.drop .here (.drop .here .refl)))) hw)) ⟨v0_4 + (1 : Int), v0_4 + (1 : Int), H, rfl, rfl⟩
            · replace H := bifF H h5
              refine at_false (t := !y9_2.2) (x := C10 [1,1,1,1,0,1,0,0,1,0,0,1,1,1,0,1,0,1,1,0,1,0]) (y := C10 [1,1,1,1,0,1,0,0,1,0,0,1,1,1,0,1,0,1,1,0,1,1]) (o := .tmp 84) (by kernel_rfl) (by kernel_rfl) (by kernel_rfl) h5 ?_
              refine at_skip (by kernel_rfl) ?_
              refine at_round_normal ?_
              exact at_join_mk [(0, .slice actsa (List.length acts) actscap), (3, .pointer (some ⟨b1_0, 0, none⟩)), (4, .int .i64 v0_4), (5, .int .i64 v0_5), (6, .int .i64 y8_5), (9, .int .i64 y9_2.1.used)] ((CacheA b1_0 y18_5.2) :: Γ) ⟨by kernel_rfl, by kernel_rfl, by kernel_rfl, by kernel_rfl, by kernel_rfl, by kernel_rfl, trivial⟩ (fun w hw => (Sat.less (.take .here (.drop .here (.drop .here (.drop .here .refl)))) hw)) ⟨v0_4, y9_2.1.used, H, rfl, rfl⟩
      · replace H := bifF H h2
        refine at_false (t := decide (y10_4 = (0 : Int))) (x := C10 [1,1,1,1,0,1,0,0,1,0,0,1,1,1,0,1,0]) (y := C10 [1,1,1,1,0,1,0,0,1,0,0,1,1,1,0,1,1]) (o := .tmp 72) (by kernel_rfl) (by kernel_rfl) (by kernel_rfl) h2 ?_
        refine at_seq (x := C10 [1,1,1,1,0,1,0,0,1,0,0,1,1,1,0,1,1,0]) (y := C10 [1,1,1,1,0,1,0,0,1,0,0,1,1,1,0,1,1,1]) (by kernel_rfl) ?_
        refine at_region (id := 27) 2 (by kernel_rfl) (by kernel_rfl) ?_
        refine s_pure 99 (.bool (decide (y10_4 = (1 : Int)))) (by kernel_rfl) (by kernel_rfl) (fun _ => by kernel_rfl) ?_
        refine s_pure 98 (.bool (decide (y10_4 = (1 : Int)))) (by kernel_rfl) (by kernel_rfl) (fun _ => by kernel_rfl) ?_
        refine ops_end ?_
        refine At.env [(0, .slice actsa (List.length acts) actscap), (3, .pointer (some ⟨b1_0, 0, none⟩)), (4, .int .i64 v0_4), (5, .int .i64 v0_5), (6, .int .i64 y8_5), (7, .pointer (some ⟨b9_6, 0, none⟩)), (8, .bool y9_2.2), (47, .int .i64 y10_4), (98, .bool (decide (y10_4 = (1 : Int))))] ⟨by kernel_rfl, by kernel_rfl, by kernel_rfl, by kernel_rfl, by kernel_rfl, by kernel_rfl, by kernel_rfl, by kernel_rfl, by kernel_rfl, trivial⟩ ?_
        refine at_then_normal ?_
        rcases Bool.eq_false_or_eq_true (decide (y10_4 = (1 : Int))) with h6 | h6
        · replace H := bifT H h6
          refine at_true (t := decide (y10_4 = (1 : Int))) (x := C10 [1,1,1,1,0,1,0,0,1,0,0,1,1,1,0,1,1,1,0]) (y := C10 [1,1,1,1,0,1,0,0,1,0,0,1,1,1,0,1,1,1,1]) (o := .tmp 98) (by kernel_rfl) (by kernel_rfl) (by kernel_rfl) h6 ?_
          refine at_seq (x := C10 [1,1,1,1,0,1,0,0,1,0,0,1,1,1,0,1,1,1,0,0]) (y := C10 [1,1,1,1,0,1,0,0,1,0,0,1,1,1,0,1,1,1,0,1]) (by kernel_rfl) ?_
          refine at_seq (x := C10 [1,1,1,1,0,1,0,0,1,0,0,1,1,1,0,1,1,1,0,0,0]) (y := C10 [1,1,1,1,0,1,0,0,1,0,0,1,1,1,0,1,1,1,0,0,1]) (by kernel_rfl) ?_
          refine at_region (id := 28) 5 (by kernel_rfl) (by kernel_rfl) ?_
          refine s_pure 100 (.pointer (some ⟨b1_0, 0, none⟩)) (by kernel_rfl) (by kernel_rfl) (fun _ => by kernel_rfl) ?_
          refine s_pure 101 (.int .i64 y8_5) (by kernel_rfl) (by kernel_rfl) (fun _ => by kernel_rfl) ?_
          obtain ⟨y28_2, hy28_2, H⟩ := bindE H
          refine s_call 102 31 #[.pointer (some ⟨b1_0, 0, none⟩), .int .i64 y8_5] (by kernel_rfl) (by kernel_rfl) (fun _ => by kernel_rfl) (Tr.conv (Γ' := (CacheA b1_0 v0_b1_0) :: (Asn.own b9_6 (.cells #[.int .i64 y9_2.1.fwd, .int .i64 y9_2.1.back, .int .i64 y9_2.1.line, .int .i64 y9_2.1.used, .bool y9_2.1.dirty, .slice a9_2_00 (List.length y9_2.1.data) c9_2_00] 31 (0, 0))) :: (IntsA a9_2_00 c9_2_00 y9_2.1.data) :: Γ) (fun w hw => (Sat.less (.take (.there (.there .here)) (.take .here (.take .here .refl))) hw)) (TouchF_tr b1_0 v0_b1_0 y8_5 y28_2 hy28_2)) ?_
          rintro _ _ ⟨rfl, rfl⟩
          refine s_pure 103 (.bool y9_2.2) (by kernel_rfl) (by kernel_rfl) (fun _ => by kernel_rfl) ?_
          refine s_pure 104 (.bool (!(y28_2.1 == y9_2.2))) (by kernel_rfl) (by kernel_rfl) (fun _ => by kernel_rfl) ?_
          refine ops_end ?_
          refine At.env [(0, .slice actsa (List.length acts) actscap), (3, .pointer (some ⟨b1_0, 0, none⟩)), (4, .int .i64 v0_4), (5, .int .i64 v0_5), (6, .int .i64 y8_5), (8, .bool y9_2.2), (104, .bool (!(y28_2.1 == y9_2.2)))] ⟨by kernel_rfl, by kernel_rfl, by kernel_rfl, by kernel_rfl, by kernel_rfl, by kernel_rfl, by kernel_rfl, trivial⟩ ?_
          refine at_then_normal ?_
          rcases Bool.eq_false_or_eq_true (!(y28_2.1 == y9_2.2)) with h7 | h7
          · replace H := bifT H h7
            refine at_true (t := !(y28_2.1 == y9_2.2)) (x := C10 [1,1,1,1,0,1,0,0,1,0,0,1,1,1,0,1,1,1,0,0,1,0]) (y := C10 [1,1,1,1,0,1,0,0,1,0,0,1,1,1,0,1,1,1,0,0,1,1]) (o := .tmp 104) (by kernel_rfl) (by kernel_rfl) (by kernel_rfl) h7 ?_
            refine at_seq (x := C10 [1,1,1,1,0,1,0,0,1,0,0,1,1,1,0,1,1,1,0,0,1,0,0]) (y := C10 [1,1,1,1,0,1,0,0,1,0,0,1,1,1,0,1,1,1,0,0,1,0,1]) (by kernel_rfl) ?_
            refine at_region (id := 29) 1 (by kernel_rfl) (by kernel_rfl) ?_
            refine s_pure 2 (.bool false) (by kernel_rfl) (by kernel_rfl) (fun _ => by kernel_rfl) ?_
            refine ops_end ?_
            refine At.env [(2, .bool false)] ⟨by kernel_rfl, trivial⟩ ?_
            refine at_then_normal ?_
            refine at_ret (by kernel_rfl) ?_
            refine at_then_ret ?_
            refine at_in_ret ?_
            refine at_in_ret ?_
            refine at_then_ret ?_
            refine at_then_ret ?_
            refine at_in_ret ?_
            refine at_then_ret ?_
            obtain rfl := someE H
            refine at_backR [.bool false] (Γ) (rs := [.tmp 2]) (by kernel_rfl) (.cons (.tmp (by kernel_rfl)) .nil) (fun w hw => (Sat.less (.drop .here (.drop .here (.drop .here .refl))) hw)) ?_
            exact ⟨rfl, rfl⟩
          · replace H := bifF H h7
            refine at_false (t := !(y28_2.1 == y9_2.2)) (x := C10 [1,1,1,1,0,1,0,0,1,0,0,1,1,1,0,1,1,1,0,0,1,0]) (y := C10 [1,1,1,1,0,1,0,0,1,0,0,1,1,1,0,1,1,1,0,0,1,1]) (o := .tmp 104) (by kernel_rfl) (by kernel_rfl) (by kernel_rfl) h7 ?_
            refine at_skip (by kernel_rfl) ?_
            refine at_then_normal ?_
            refine at_seq (x := C10 [1,1,1,1,0,1,0,0,1,0,0,1,1,1,0,1,1,1,0,1,0]) (y := C10 [1,1,1,1,0,1,0,0,1,0,0,1,1,1,0,1,1,1,0,1,1]) (by kernel_rfl) ?_
            refine at_region (id := 30) 1 (by kernel_rfl) (by kernel_rfl) ?_
            refine s_pure 105 (.bool y9_2.2) (by kernel_rfl) (by kernel_rfl) (fun _ => by kernel_rfl) ?_
            refine ops_end ?_
            refine At.env [(0, .slice actsa (List.length acts) actscap), (3, .pointer (some ⟨b1_0, 0, none⟩)), (4, .int .i64 v0_4), (5, .int .i64 v0_5), (6, .int .i64 y8_5), (105, .bool y9_2.2)] ⟨by kernel_rfl, by kernel_rfl, by kernel_rfl, by kernel_rfl, by kernel_rfl, by kernel_rfl, trivial⟩ ?_
            refine at_then_normal ?_
            rcases Bool.eq_false_or_eq_true (y9_2.2) with h8 | h8
            · replace H := bifT H h8
              refine at_true (t := y9_2.2) (x := C10 [1,1,1,1,0,1,0,0,1,0,0,1,1,1,0,1,1,1,0,1,1,0]) (y := C10 [1,1,1,1,0,1,0,0,1,0,0,1,1,1,0,1,1,1,0,1,1,1]) (o := .tmp 105) (by kernel_rfl) (by kernel_rfl) (by kernel_rfl) h8 ?_
              refine at_seq (x := C10 [1,1,1,1,0,1,0,0,1,0,0,1,1,1,0,1,1,1,0,1,1,0,0]) (y := C10 [1,1,1,1,0,1,0,0,1,0,0,1,1,1,0,1,1,1,0,1,1,0,1]) (by kernel_rfl) ?_
              refine at_region (id := 31) 3 (by kernel_rfl) (by kernel_rfl) ?_
              refine s_pure 106 (.int .i64 v0_4) (by kernel_rfl) (by kernel_rfl) (fun _ => by kernel_rfl) ?_
              obtain ⟨hc31_1_0, H⟩ := chkE H
              refine s_pure 107 (.int .i64 (v0_4 + (1 : Int))) (by kernel_rfl) (by kernel_rfl) (run_eq (v := .int .i64 (IntKind.i64.wrap (v0_4 + (1 : Int)))) (fun _ => by kernel_rfl) (by rw [inR.wrap hc31_1_0])) ?_
              refine s_pure 4 (.int .i64 (v0_4 + (1 : Int))) (by kernel_rfl) (by kernel_rfl) (fun _ => by kernel_rfl) ?_
              refine ops_end ?_
              refine At.env [(0, .slice actsa (List.length acts) actscap), (3, .pointer (some ⟨b1_0, 0, none⟩)), (4, .int .i64 (v0_4 + (1 : Int))), (5, .int .i64 v0_5), (6, .int .i64 y8_5)] ⟨by kernel_rfl, by kernel_rfl, by kernel_rfl, by kernel_rfl, by kernel_rfl, trivial⟩ ?_
              refine at_then_normal ?_
              refine at_seq (x := C10 [1,1,1,1,0,1,0,0,1,0,0,1,1,1,0,1,1,1,0,1,1,0,1,0]) (y := C10 [1,1,1,1,0,1,0,0,1,0,0,1,1,1,0,1,1,1,0,1,1,0,1,1]) (by kernel_rfl) ?_
              refine at_region (id := 32) 9 (by kernel_rfl) (by kernel_rfl) ?_
              refine s_pure 109 (.pointer (some ⟨b1_0, 0, none⟩)) (by kernel_rfl) (by kernel_rfl) (fun _ => by kernel_rfl) ?_
              refine s_pure 110 (.int .i64 y8_5) (by kernel_rfl) (by kernel_rfl) (fun _ => by kernel_rfl) ?_
              obtain ⟨y32_2, hy32_2, H⟩ := bindE H
              refine s_call 111 20 #[.pointer (some ⟨b1_0, 0, none⟩), .int .i64 y8_5] (by kernel_rfl) (by kernel_rfl) (fun _ => by kernel_rfl) (FindF_tr b1_0 y28_2.2 y8_5 y32_2 hy32_2) ?_
              rintro _ _ ⟨a32_2_00, c32_2_00, rfl, rfl⟩
              refine s_pure 108 (.tuple #[.agg #[.int .i64 y32_2.1.fwd, .int .i64 y32_2.1.back, .int .i64 y32_2.1.line, .int .i64 y32_2.1.used, .bool y32_2.1.dirty, .slice a32_2_00 (List.length y32_2.1.data) c32_2_00], .bool y32_2.2]) (by kernel_rfl) (by kernel_rfl) (fun _ => by kernel_rfl) ?_
              refine s_pure 112 (.agg #[.int .i64 y32_2.1.fwd, .int .i64 y32_2.1.back, .int .i64 y32_2.1.line, .int .i64 y32_2.1.used, .bool y32_2.1.dirty, .slice a32_2_00 (List.length y32_2.1.data) c32_2_00]) (by kernel_rfl) (by kernel_rfl) (fun _ => by kernel_rfl) ?_
              refine s_pure 113 (.bool y32_2.2) (by kernel_rfl) (by kernel_rfl) (fun _ => by kernel_rfl) ?_
              refine s_step 12 (by kernel_rfl) (by kernel_rfl) (st_new (T := 31) (cells := #[.int .i64 (0), .int .i64 (0), .int .i64 (0), .int .i64 (0), .bool false, .slice none 0 0]) (fun a => .pointer (some a)) (fun _ => by kernel_rfl)) ?_
              rintro _ _ ⟨b32_6, rfl, rfl⟩
              refine s_do (by kernel_rfl) (by kernel_rfl) (st_store (off := 0) (vs := [.int .i64 y32_2.1.fwd, .int .i64 y32_2.1.back, .int .i64 y32_2.1.line, .int .i64 y32_2.1.used, .bool y32_2.1.dirty, .slice a32_2_00 (List.length y32_2.1.data) c32_2_00]) (c' := #[.int .i64 y32_2.1.fwd, .int .i64 y32_2.1.back, .int .i64 y32_2.1.line, .int .i64 y32_2.1.used, .bool y32_2.1.dirty, .slice a32_2_00 (List.length y32_2.1.data) c32_2_00]) (fun _ => by kernel_rfl) .here (by kernel_rfl) (by kernel_rfl) (by kernel_rfl)) ?_
              rintro _ _ ⟨rfl, rfl⟩
              refine s_pure 13 (.bool y32_2.2) (by kernel_rfl) (by kernel_rfl) (fun _ => by kernel_rfl) ?_
              refine ops_end ?_
              refine At.env [(0, .slice actsa (List.length acts) actscap), (3, .pointer (some ⟨b1_0, 0, none⟩)), (4, .int .i64 (v0_4 + (1 : Int))), (5, .int .i64 v0_5), (12, .pointer (some ⟨b32_6, 0, none⟩))] ⟨by kernel_rfl, by kernel_rfl, by kernel_rfl, by kernel_rfl, by kernel_rfl, trivial⟩ ?_
              refine at_then_normal ?_
              refine at_seq (x := C10 [1,1,1,1,0,1,0,0,1,0,0,1,1,1,0,1,1,1,0,1,1,0,1,1,0]) (y := C10 [1,1,1,1,0,1,0,0,1,0,0,1,1,1,0,1,1,1,0,1,1,0,1,1,1]) (by kernel_rfl) ?_
              refine at_region (id := 33) 4 (by kernel_rfl) (by kernel_rfl) ?_
              refine s_pure 114 (.pointer (some ⟨b32_6, 3, none⟩)) (by kernel_rfl) (by kernel_rfl) (fun _ => by kernel_rfl) ?_
              refine s_load 115 (.int .i64 y32_2.1.used) (by kernel_rfl) (by kernel_rfl) (load1 (off := 3) (fun _ => by kernel_rfl) (holds_own .here) (by kernel_rfl)) ?_
              refine s_pure 116 (.int .i64 (v0_4 + (1 : Int))) (by kernel_rfl) (by kernel_rfl) (fun _ => by kernel_rfl) ?_
              refine s_pure 117 (.bool (!(decide (y32_2.1.used = (v0_4 + (1 : Int)))))) (by kernel_rfl) (by kernel_rfl) (fun _ => by kernel_rfl) ?_
              refine ops_end ?_
              refine At.env [(0, .slice actsa (List.length acts) actscap), (3, .pointer (some ⟨b1_0, 0, none⟩)), (4, .int .i64 (v0_4 + (1 : Int))), (5, .int .i64 v0_5), (117, .bool (!(decide (y32_2.1.used = (v0_4 + (1 : Int))))))] ⟨by kernel_rfl, by kernel_rfl, by kernel_rfl, by kernel_rfl, by kernel_rfl, trivial⟩ ?_
              refine at_then_normal ?_
              rcases Bool.eq_false_or_eq_true (!(decide (y32_2.1.used = (v0_4 + (1 : Int))))) with h9 | h9
              · replace H := bifT H h9
                refine at_true (t := !(decide (y32_2.1.used = (v0_4 + (1 : Int))))) (x := C10 [1,1,1,1,0,1,0,0,1,0,0,1,1,1,0,1,1,1,0,1,1,0,1,1,1,0]) (y := C10 [1,1,1,1,0,1,0,0,1,0,0,1,1,1,0,1,1,1,0,1,1,0,1,1,1,1]) (o := .tmp 117) (by kernel_rfl) (by kernel_rfl) (by kernel_rfl) h9 ?_
                refine at_seq (x := C10 [1,1,1,1,0,1,0,0,1,0,0,1,1,1,0,1,1,1,0,1,1,0,1,1,1,0,0]) (y := C10 [1,1,1,1,0,1,0,0,1,0,0,1,1,1,0,1,1,1,0,1,1,0,1,1,1,0,1]) (by kernel_rfl) ?_
                refine at_region (id := 34) 1 (by kernel_rfl) (by kernel_rfl) ?_
                refine s_pure 2 (.bool false) (by kernel_rfl) (by kernel_rfl) (fun _ => by kernel_rfl) ?_
                refine ops_end ?_
                refine At.env [(2, .bool false)] ⟨by kernel_rfl, trivial⟩ ?_
                refine at_then_normal ?_
                refine at_ret (by kernel_rfl) ?_
                refine at_in_ret ?_
                refine at_in_ret ?_
                refine at_then_ret ?_
                refine at_then_ret ?_
                refine at_in_ret ?_
                refine at_then_ret ?_
                obtain rfl := someE H
                refine at_backR [.bool false] (Γ) (rs := [.tmp 2]) (by kernel_rfl) (.cons (.tmp (by kernel_rfl)) .nil) (fun w hw => (Sat.less (.drop .here (.drop .here (.drop .here (.drop .here (.drop .here .refl))))) hw)) ?_
                exact ⟨rfl, rfl⟩
              · replace H := bifF H h9
                refine at_false (t := !(decide (y32_2.1.used = (v0_4 + (1 : Int))))) (x := C10 [1,1,1,1,0,1,0,0,1,0,0,1,1,1,0,1,1,1,0,1,1,0,1,1,1,0]) (y := C10 [1,1,1,1,0,1,0,0,1,0,0,1,1,1,0,1,1,1,0,1,1,0,1,1,1,1]) (o := .tmp 117) (by kernel_rfl) (by kernel_rfl) (by kernel_rfl) h9 ?_
                refine at_skip (by kernel_rfl) ?_
                refine at_in_normal ?_
                refine at_in_normal ?_
                refine at_then_normal ?_
                refine at_region (id := 7) 3 (by kernel_rfl) (by kernel_rfl) ?_
                refine s_pure 29 (.int .i64 v0_5) (by kernel_rfl) (by kernel_rfl) (fun _ => by kernel_rfl) ?_
                obtain ⟨hc7_1_0, H⟩ := chkE H
                refine s_pure 30 (.int .i64 (v0_5 + (1 : Int))) (by kernel_rfl) (by kernel_rfl) (run_eq (v := .int .i64 (IntKind.i64.wrap (v0_5 + (1 : Int)))) (fun _ => by kernel_rfl) (by rw [inR.wrap hc7_1_0])) ?_
                refine s_pure 5 (.int .i64 (v0_5 + (1 : Int))) (by kernel_rfl) (by kernel_rfl) (fun _ => by kernel_rfl) ?_
                refine ops_end ?_
                refine At.env [(0, .slice actsa (List.length acts) actscap), (3, .pointer (some ⟨b1_0, 0, none⟩)), (4, .int .i64 (v0_4 + (1 : Int))), (5, .int .i64 (v0_5 + (1 : Int)))] ⟨by kernel_rfl, by kernel_rfl, by kernel_rfl, by kernel_rfl, trivial⟩ ?_
                refine at_round_normal ?_
                exact at_roundR fuel1 [(0, .slice actsa (List.length acts) actscap), (3, .pointer (some ⟨b1_0, 0, none⟩)), (4, .int .i64 (v0_4 + (1 : Int))), (5, .int .i64 (v0_5 + (1 : Int)))] ((CacheA b1_0 y28_2.2) :: Γ) (Nat.lt_succ_self _) ⟨by kernel_rfl, by kernel_rfl, by kernel_rfl, by kernel_rfl, trivial⟩ (fun w hw => (Sat.less (.take (.there (.there .here)) (.drop .here (.drop .here (.drop .here (.drop .here .refl))))) hw)) ⟨fuel1, v0_4 + (1 : Int), v0_5 + (1 : Int), y28_2.2, H, rfl, rfl, rfl⟩
            · replace H := bifF H h8
              refine at_false (t := y9_2.2) (x := C10 [1,1,1,1,0,1,0,0,1,0,0,1,1,1,0,1,1,1,0,1,1,0]) (y := C10 [1,1,1,1,0,1,0,0,1,0,0,1,1,1,0,1,1,1,0,1,1,1]) (o := .tmp 105) (by kernel_rfl) (by kernel_rfl) (by kernel_rfl) h8 ?_
              refine at_skip (by kernel_rfl) ?_
              refine at_in_normal ?_
              refine at_in_normal ?_
              refine at_then_normal ?_
              refine at_region (id := 7) 3 (by kernel_rfl) (by kernel_rfl) ?_
              refine s_pure 29 (.int .i64 v0_5) (by kernel_rfl) (by kernel_rfl) (fun _ => by kernel_rfl) ?_
              obtain ⟨hc7_1_0, H⟩ := chkE H
              refine s_pure 30 (.int .i64 (v0_5 + (1 : Int))) (by kernel_rfl) (by kernel_rfl) (run_eq (v := .int .i64 (IntKind.i64.wrap (v0_5 + (1 : Int)))) (fun _ => by kernel_rfl) (by rw [inR.wrap hc7_1_0])) ?_
              refine s_pure 5 (.int .i64 (v0_5 + (1 : Int))) (by kernel_rfl) (by kernel_rfl) (fun _ => by kernel_rfl) ?_
              refine ops_end ?_
              refine At.env [(0, .slice actsa (List.length acts) actscap), (3, .pointer (some ⟨b1_0, 0, none⟩)), (4, .int .i64 v0_4), (5, .int .i64 (v0_5 + (1 : Int)))] ⟨by kernel_rfl, by kernel_rfl, by kernel_rfl, by kernel_rfl, trivial⟩ ?_
              refine at_round_normal ?_
              exact at_roundR fuel1 [(0, .slice actsa (List.length acts) actscap), (3, .pointer (some ⟨b1_0, 0, none⟩)), (4, .int .i64 v0_4), (5, .int .i64 (v0_5 + (1 : Int)))] ((CacheA b1_0 y28_2.2) :: Γ) (Nat.lt_succ_self _) ⟨by kernel_rfl, by kernel_rfl, by kernel_rfl, by kernel_rfl, trivial⟩ (fun w hw => (Sat.less (.take .here (.drop .here (.drop .here .refl))) hw)) ⟨fuel1, v0_4, v0_5 + (1 : Int), y28_2.2, H, rfl, rfl, rfl⟩
        · replace H := bifF H h6
          refine at_false (t := decide (y10_4 = (1 : Int))) (x := C10 [1,1,1,1,0,1,0,0,1,0,0,1,1,1,0,1,1,1,0]) (y := C10 [1,1,1,1,0,1,0,0,1,0,0,1,1,1,0,1,1,1,1]) (o := .tmp 98) (by kernel_rfl) (by kernel_rfl) (by kernel_rfl) h6 ?_
          refine at_seq (x := C10 [1,1,1,1,0,1,0,0,1,0,0,1,1,1,0,1,1,1,1,0]) (y := C10 [1,1,1,1,0,1,0,0,1,0,0,1,1,1,0,1,1,1,1,1]) (by kernel_rfl) ?_
          refine at_region (id := 35) 2 (by kernel_rfl) (by kernel_rfl) ?_
          refine s_pure 119 (.bool (decide (y10_4 = (2 : Int)))) (by kernel_rfl) (by kernel_rfl) (fun _ => by kernel_rfl) ?_
          refine s_pure 118 (.bool (decide (y10_4 = (2 : Int)))) (by kernel_rfl) (by kernel_rfl) (fun _ => by kernel_rfl) ?_
          refine ops_end ?_
          refine At.env [(0, .slice actsa (List.length acts) actscap), (3, .pointer (some ⟨b1_0, 0, none⟩)), (4, .int .i64 v0_4), (5, .int .i64 v0_5), (6, .int .i64 y8_5), (7, .pointer (some ⟨b9_6, 0, none⟩)), (8, .bool y9_2.2), (118, .bool (decide (y10_4 = (2 : Int))))] ⟨by kernel_rfl, by kernel_rfl, by kernel_rfl, by kernel_rfl, by kernel_rfl, by kernel_rfl, by kernel_rfl, by kernel_rfl, trivial⟩ ?_
          refine at_then_normal ?_
          rcases Bool.eq_false_or_eq_true (decide (y10_4 = (2 : Int))) with h10 | h10
          · replace H := bifT H h10
            refine at_true (t := decide (y10_4 = (2 : Int))) (x := C10 [1,1,1,1,0,1,0,0,1,0,0,1,1,1,0,1,1,1,1,1,0]) (y := C10 [1,1,1,1,0,1,0,0,1,0,0,1,1,1,0,1,1,1,1,1,1]) (o := .tmp 118) (by kernel_rfl) (by kernel_rfl) (by kernel_rfl) h10 ?_
            refine at_seq (x := C10 [1,1,1,1,0,1,0,0,1,0,0,1,1,1,0,1,1,1,1,1,0,0]) (y := C10 [1,1,1,1,0,1,0,0,1,0,0,1,1,1,0,1,1,1,1,1,0,1]) (by kernel_rfl) ?_
            refine at_region (id := 36) 9 (by kernel_rfl) (by kernel_rfl) ?_
            refine s_pure 121 (.pointer (some ⟨b1_0, 0, none⟩)) (by kernel_rfl) (by kernel_rfl) (fun _ => by kernel_rfl) ?_
            refine s_pure 122 (.int .i64 y8_5) (by kernel_rfl) (by kernel_rfl) (fun _ => by kernel_rfl) ?_
            obtain ⟨y36_2, hy36_2, H⟩ := bindE H
            refine s_call 123 24 #[.pointer (some ⟨b1_0, 0, none⟩), .int .i64 y8_5] (by kernel_rfl) (by kernel_rfl) (fun _ => by kernel_rfl) (Tr.conv (Γ' := (CacheA b1_0 v0_b1_0) :: (Asn.own b9_6 (.cells #[.int .i64 y9_2.1.fwd, .int .i64 y9_2.1.back, .int .i64 y9_2.1.line, .int .i64 y9_2.1.used, .bool y9_2.1.dirty, .slice a9_2_00 (List.length y9_2.1.data) c9_2_00] 31 (0, 0))) :: (IntsA a9_2_00 c9_2_00 y9_2.1.data) :: Γ) (fun w hw => (Sat.less (.take (.there (.there .here)) (.take .here (.take .here .refl))) hw)) (DropF_tr b1_0 v0_b1_0 y8_5 y36_2 hy36_2)) ?_
            rintro _ _ ⟨a36_2_00, c36_2_00, rfl, rfl⟩
            refine s_pure 120 (.tuple #[.agg #[.int .i64 y36_2.1.fwd, .int .i64 y36_2.1.back, .int .i64 y36_2.1.line, .int .i64 y36_2.1.used, .bool y36_2.1.dirty, .slice a36_2_00 (List.length y36_2.1.data) c36_2_00], .bool y36_2.2.1]) (by kernel_rfl) (by kernel_rfl) (fun _ => by kernel_rfl) ?_
            refine s_pure 124 (.agg #[.int .i64 y36_2.1.fwd, .int .i64 y36_2.1.back, .int .i64 y36_2.1.line, .int .i64 y36_2.1.used, .bool y36_2.1.dirty, .slice a36_2_00 (List.length y36_2.1.data) c36_2_00]) (by kernel_rfl) (by kernel_rfl) (fun _ => by kernel_rfl) ?_
            refine s_pure 125 (.bool y36_2.2.1) (by kernel_rfl) (by kernel_rfl) (fun _ => by kernel_rfl) ?_
            refine s_step 14 (by kernel_rfl) (by kernel_rfl) (st_new (T := 31) (cells := #[.int .i64 (0), .int .i64 (0), .int .i64 (0), .int .i64 (0), .bool false, .slice none 0 0]) (fun a => .pointer (some a)) (fun _ => by kernel_rfl)) ?_
            rintro _ _ ⟨b36_6, rfl, rfl⟩
            refine s_do (by kernel_rfl) (by kernel_rfl) (st_store (off := 0) (vs := [.int .i64 y36_2.1.fwd, .int .i64 y36_2.1.back, .int .i64 y36_2.1.line, .int .i64 y36_2.1.used, .bool y36_2.1.dirty, .slice a36_2_00 (List.length y36_2.1.data) c36_2_00]) (c' := #[.int .i64 y36_2.1.fwd, .int .i64 y36_2.1.back, .int .i64 y36_2.1.line, .int .i64 y36_2.1.used, .bool y36_2.1.dirty, .slice a36_2_00 (List.length y36_2.1.data) c36_2_00]) (fun _ => by kernel_rfl) .here (by kernel_rfl) (by kernel_rfl) (by kernel_rfl)) ?_
            rintro _ _ ⟨rfl, rfl⟩
            refine s_pure 15 (.bool y36_2.2.1) (by kernel_rfl) (by kernel_rfl) (fun _ => by kernel_rfl) ?_
            refine ops_end ?_
            refine At.env [(0, .slice actsa (List.length acts) actscap), (3, .pointer (some ⟨b1_0, 0, none⟩)), (4, .int .i64 v0_4), (5, .int .i64 v0_5), (7, .pointer (some ⟨b9_6, 0, none⟩)), (8, .bool y9_2.2), (14, .pointer (some ⟨b36_6, 0, none⟩)), (15, .bool y36_2.2.1)] ⟨by kernel_rfl, by kernel_rfl, by kernel_rfl, by kernel_rfl, by kernel_rfl, by kernel_rfl, by kernel_rfl, by kernel_rfl, trivial⟩ ?_
            refine at_then_normal ?_
            refine at_seq (x := C10 [1,1,1,1,0,1,0,0,1,0,0,1,1,1,0,1,1,1,1,1,0,1,0]) (y := C10 [1,1,1,1,0,1,0,0,1,0,0,1,1,1,0,1,1,1,1,1,0,1,1]) (by kernel_rfl) ?_
            refine at_region (id := 37) 13 (by kernel_rfl) (by kernel_rfl) ?_
            refine s_pure 126 (.bool y36_2.2.1) (by kernel_rfl) (by kernel_rfl) (fun _ => by kernel_rfl) ?_
            refine s_pure 127 (.bool y9_2.2) (by kernel_rfl) (by kernel_rfl) (fun _ => by kernel_rfl) ?_
            refine s_pure 128 (.bool (!(y36_2.2.1 == y9_2.2))) (by kernel_rfl) (by kernel_rfl) (fun _ => by kernel_rfl) ?_
            rcases Bool.eq_false_or_eq_true (!(y36_2.2.1 == y9_2.2)) with h11 | h11
            · replace H := bifT H h11
              refine s_pure 129 (.bool true) (by kernel_rfl) (by kernel_rfl) (run_eq (v := .bool (!(y36_2.2.1 == y9_2.2))) (fun _ => by kernel_rfl) (congrArg Value.bool h11)) ?_
              refine s_pass 130 (by kernel_rfl) (by kernel_rfl) ?_
              refine s_pass 131 (by kernel_rfl) (by kernel_rfl) ?_
              refine s_pass 132 (by kernel_rfl) (by kernel_rfl) ?_
              refine s_pass 133 (by kernel_rfl) (by kernel_rfl) ?_
              refine s_pass 134 (by kernel_rfl) (by kernel_rfl) ?_
              refine s_pass 135 (by kernel_rfl) (by kernel_rfl) ?_
              refine s_pass 136 (by kernel_rfl) (by kernel_rfl) ?_
              refine s_pass 137 (by kernel_rfl) (by kernel_rfl) ?_
              refine s_pure 138 (.bool true) (by kernel_rfl) (by kernel_rfl) (fun _ => by kernel_rfl) ?_
              refine ops_end ?_
              refine At.env [(0, .slice actsa (List.length acts) actscap), (3, .pointer (some ⟨b1_0, 0, none⟩)), (4, .int .i64 v0_4), (5, .int .i64 v0_5), (138, .bool true)] ⟨by kernel_rfl, by kernel_rfl, by kernel_rfl, by kernel_rfl, by kernel_rfl, trivial⟩ ?_
              refine at_then_normal ?_
              refine at_true (t := true) (x := C10 [1,1,1,1,0,1,0,0,1,0,0,1,1,1,0,1,1,1,1,1,0,1,1,0]) (y := C10 [1,1,1,1,0,1,0,0,1,0,0,1,1,1,0,1,1,1,1,1,0,1,1,1]) (o := .tmp 138) (by kernel_rfl) (by kernel_rfl) (by kernel_rfl) rfl ?_
              refine at_seq (x := C10 [1,1,1,1,0,1,0,0,1,0,0,1,1,1,0,1,1,1,1,1,0,1,1,0,0]) (y := C10 [1,1,1,1,0,1,0,0,1,0,0,1,1,1,0,1,1,1,1,1,0,1,1,0,1]) (by kernel_rfl) ?_
              refine at_region (id := 38) 1 (by kernel_rfl) (by kernel_rfl) ?_
              refine s_pure 2 (.bool false) (by kernel_rfl) (by kernel_rfl) (fun _ => by kernel_rfl) ?_
              refine ops_end ?_
              refine At.env [(2, .bool false)] ⟨by kernel_rfl, trivial⟩ ?_
              refine at_then_normal ?_
              refine at_ret (by kernel_rfl) ?_
              refine at_in_ret ?_
              refine at_in_ret ?_
              refine at_then_ret ?_
              refine at_then_ret ?_
              refine at_in_ret ?_
              refine at_then_ret ?_
              obtain rfl := someE H
              refine at_backR [.bool false] (Γ) (rs := [.tmp 2]) (by kernel_rfl) (.cons (.tmp (by kernel_rfl)) .nil) (fun w hw => (Sat.less (.drop .here (.drop .here (.drop .here (.drop .here (.drop .here .refl))))) hw)) ?_
              exact ⟨rfl, rfl⟩
            · replace H := bifF H h11
              refine s_pure 129 (.bool false) (by kernel_rfl) (by kernel_rfl) (run_eq (v := .bool (!(y36_2.2.1 == y9_2.2))) (fun _ => by kernel_rfl) (congrArg Value.bool h11)) ?_
              refine s_pure 130 (.bool y36_2.2.1) (by kernel_rfl) (by kernel_rfl) (fun _ => by kernel_rfl) ?_
              rcases Bool.eq_false_or_eq_true (y36_2.2.1) with h12 | h12
              · replace H := bifT H h12
                refine s_pure 131 (.bool true) (by kernel_rfl) (by kernel_rfl) (run_eq (v := .bool (y36_2.2.1)) (fun _ => by kernel_rfl) (congrArg Value.bool h12)) ?_
                refine s_pure 132 (.pointer (some ⟨b36_6, 3, none⟩)) (by kernel_rfl) (by kernel_rfl) (fun _ => by kernel_rfl) ?_
                refine s_load 133 (.int .i64 y36_2.1.used) (by kernel_rfl) (by kernel_rfl) (load1 (off := 3) (fun _ => by kernel_rfl) (holds_own .here) (by kernel_rfl)) ?_
                refine s_pure 134 (.pointer (some ⟨b9_6, 3, none⟩)) (by kernel_rfl) (by kernel_rfl) (fun _ => by kernel_rfl) ?_
                refine s_load 135 (.int .i64 y9_2.1.used) (by kernel_rfl) (by kernel_rfl) (load1 (off := 3) (fun _ => by kernel_rfl) (holds_own (.there (.there (.there .here)))) (by kernel_rfl)) ?_
                refine s_pure 136 (.bool (!(decide (y36_2.1.used = y9_2.1.used)))) (by kernel_rfl) (by kernel_rfl) (fun _ => by kernel_rfl) ?_
                refine s_pure 137 (.bool (!(decide (y36_2.1.used = y9_2.1.used)))) (by kernel_rfl) (by kernel_rfl) (fun _ => by kernel_rfl) ?_
                refine s_pure 138 (.bool (!(decide (y36_2.1.used = y9_2.1.used)))) (by kernel_rfl) (by kernel_rfl) (fun _ => by kernel_rfl) ?_
                refine ops_end ?_
                refine At.env [(0, .slice actsa (List.length acts) actscap), (3, .pointer (some ⟨b1_0, 0, none⟩)), (4, .int .i64 v0_4), (5, .int .i64 v0_5), (138, .bool (!(decide (y36_2.1.used = y9_2.1.used))))] ⟨by kernel_rfl, by kernel_rfl, by kernel_rfl, by kernel_rfl, by kernel_rfl, trivial⟩ ?_
                refine at_then_normal ?_
                rcases Bool.eq_false_or_eq_true (!(decide (y36_2.1.used = y9_2.1.used))) with h13 | h13
                · replace H := bifT H h13
                  refine at_true (t := !(decide (y36_2.1.used = y9_2.1.used))) (x := C10 [1,1,1,1,0,1,0,0,1,0,0,1,1,1,0,1,1,1,1,1,0,1,1,0]) (y := C10 [1,1,1,1,0,1,0,0,1,0,0,1,1,1,0,1,1,1,1,1,0,1,1,1]) (o := .tmp 138) (by kernel_rfl) (by kernel_rfl) (by kernel_rfl) h13 ?_
                  refine at_seq (x := C10 [1,1,1,1,0,1,0,0,1,0,0,1,1,1,0,1,1,1,1,1,0,1,1,0,0]) (y := C10 [1,1,1,1,0,1,0,0,1,0,0,1,1,1,0,1,1,1,1,1,0,1,1,0,1]) (by kernel_rfl) ?_
                  refine at_region (id := 38) 1 (by kernel_rfl) (by kernel_rfl) ?_
                  refine s_pure 2 (.bool false) (by kernel_rfl) (by kernel_rfl) (fun _ => by kernel_rfl) ?_
                  refine ops_end ?_
                  refine At.env [(2, .bool false)] ⟨by kernel_rfl, trivial⟩ ?_
                  refine at_then_normal ?_
                  refine at_ret (by kernel_rfl) ?_
                  refine at_in_ret ?_
                  refine at_in_ret ?_
                  refine at_then_ret ?_
                  refine at_then_ret ?_
                  refine at_in_ret ?_
                  refine at_then_ret ?_
                  obtain rfl := someE H
                  refine at_backR [.bool false] (Γ) (rs := [.tmp 2]) (by kernel_rfl) (.cons (.tmp (by kernel_rfl)) .nil) (fun w hw => (Sat.less (.drop .here (.drop .here (.drop .here (.drop .here (.drop .here .refl))))) hw)) ?_
                  exact ⟨rfl, rfl⟩
                · replace H := bifF H h13
                  refine at_false (t := !(decide (y36_2.1.used = y9_2.1.used))) (x := C10 [1,1,1,1,0,1,0,0,1,0,0,1,1,1,0,1,1,1,1,1,0,1,1,0]) (y := C10 [1,1,1,1,0,1,0,0,1,0,0,1,1,1,0,1,1,1,1,1,0,1,1,1]) (o := .tmp 138) (by kernel_rfl) (by kernel_rfl) (by kernel_rfl) h13 ?_
                  refine at_skip (by kernel_rfl) ?_
                  refine at_in_normal ?_
                  refine at_in_normal ?_
                  refine at_then_normal ?_
                  refine at_region (id := 7) 3 (by kernel_rfl) (by kernel_rfl) ?_
                  refine s_pure 29 (.int .i64 v0_5) (by kernel_rfl) (by kernel_rfl) (fun _ => by kernel_rfl) ?_
                  obtain ⟨hc7_1_0, H⟩ := chkE H
                  refine s_pure 30 (.int .i64 (v0_5 + (1 : Int))) (by kernel_rfl) (by kernel_rfl) (run_eq (v := .int .i64 (IntKind.i64.wrap (v0_5 + (1 : Int)))) (fun _ => by kernel_rfl) (by rw [inR.wrap hc7_1_0])) ?_
                  refine s_pure 5 (.int .i64 (v0_5 + (1 : Int))) (by kernel_rfl) (by kernel_rfl) (fun _ => by kernel_rfl) ?_
                  refine ops_end ?_
                  refine At.env [(0, .slice actsa (List.length acts) actscap), (3, .pointer (some ⟨b1_0, 0, none⟩)), (4, .int .i64 v0_4), (5, .int .i64 (v0_5 + (1 : Int)))] ⟨by kernel_rfl, by kernel_rfl, by kernel_rfl, by kernel_rfl, trivial⟩ ?_
                  refine at_round_normal ?_
                  exact at_roundR fuel1 [(0, .slice actsa (List.length acts) actscap), (3, .pointer (some ⟨b1_0, 0, none⟩)), (4, .int .i64 v0_4), (5, .int .i64 (v0_5 + (1 : Int)))] ((CacheA b1_0 y36_2.2.2) :: Γ) (Nat.lt_succ_self _) ⟨by kernel_rfl, by kernel_rfl, by kernel_rfl, by kernel_rfl, trivial⟩ (fun w hw => (Sat.less (.take (.there (.there .here)) (.drop .here (.drop .here (.drop .here (.drop .here .refl))))) hw)) ⟨fuel1, v0_4, v0_5 + (1 : Int), y36_2.2.2, H, rfl, rfl, rfl⟩
              · replace H := bifF H h12
                refine s_pure 131 (.bool false) (by kernel_rfl) (by kernel_rfl) (run_eq (v := .bool (y36_2.2.1)) (fun _ => by kernel_rfl) (congrArg Value.bool h12)) ?_
                refine s_pass 132 (by kernel_rfl) (by kernel_rfl) ?_
                refine s_pass 133 (by kernel_rfl) (by kernel_rfl) ?_
                refine s_pass 134 (by kernel_rfl) (by kernel_rfl) ?_
                refine s_pass 135 (by kernel_rfl) (by kernel_rfl) ?_
                refine s_pass 136 (by kernel_rfl) (by kernel_rfl) ?_
                refine s_pure 137 (.bool false) (by kernel_rfl) (by kernel_rfl) (fun _ => by kernel_rfl) ?_
                refine s_pure 138 (.bool false) (by kernel_rfl) (by kernel_rfl) (fun _ => by kernel_rfl) ?_
                refine ops_end ?_
                refine At.env [(0, .slice actsa (List.length acts) actscap), (3, .pointer (some ⟨b1_0, 0, none⟩)), (4, .int .i64 v0_4), (5, .int .i64 v0_5), (138, .bool false)] ⟨by kernel_rfl, by kernel_rfl, by kernel_rfl, by kernel_rfl, by kernel_rfl, trivial⟩ ?_
                refine at_then_normal ?_
                refine at_false (t := false) (x := C10 [1,1,1,1,0,1,0,0,1,0,0,1,1,1,0,1,1,1,1,1,0,1,1,0]) (y := C10 [1,1,1,1,0,1,0,0,1,0,0,1,1,1,0,1,1,1,1,1,0,1,1,1]) (o := .tmp 138) (by kernel_rfl) (by kernel_rfl) (by kernel_rfl) rfl ?_
                refine at_skip (by kernel_rfl) ?_
                refine at_in_normal ?_
                refine at_in_normal ?_
                refine at_then_normal ?_
                refine at_region (id := 7) 3 (by kernel_rfl) (by kernel_rfl) ?_
                refine s_pure 29 (.int .i64 v0_5) (by kernel_rfl) (by kernel_rfl) (fun _ => by kernel_rfl) ?_
                obtain ⟨hc7_1_0, H⟩ := chkE H
                refine s_pure 30 (.int .i64 (v0_5 + (1 : Int))) (by kernel_rfl) (by kernel_rfl) (run_eq (v := .int .i64 (IntKind.i64.wrap (v0_5 + (1 : Int)))) (fun _ => by kernel_rfl) (by rw [inR.wrap hc7_1_0])) ?_
                refine s_pure 5 (.int .i64 (v0_5 + (1 : Int))) (by kernel_rfl) (by kernel_rfl) (fun _ => by kernel_rfl) ?_
                refine ops_end ?_
                refine At.env [(0, .slice actsa (List.length acts) actscap), (3, .pointer (some ⟨b1_0, 0, none⟩)), (4, .int .i64 v0_4), (5, .int .i64 (v0_5 + (1 : Int)))] ⟨by kernel_rfl, by kernel_rfl, by kernel_rfl, by kernel_rfl, trivial⟩ ?_
                refine at_round_normal ?_
                exact at_roundR fuel1 [(0, .slice actsa (List.length acts) actscap), (3, .pointer (some ⟨b1_0, 0, none⟩)), (4, .int .i64 v0_4), (5, .int .i64 (v0_5 + (1 : Int)))] ((CacheA b1_0 y36_2.2.2) :: Γ) (Nat.lt_succ_self _) ⟨by kernel_rfl, by kernel_rfl, by kernel_rfl, by kernel_rfl, trivial⟩ (fun w hw => (Sat.less (.take (.there (.there .here)) (.drop .here (.drop .here (.drop .here (.drop .here .refl))))) hw)) ⟨fuel1, v0_4, v0_5 + (1 : Int), y36_2.2.2, H, rfl, rfl, rfl⟩
          · replace H := bifF H h10
            refine at_false (t := decide (y10_4 = (2 : Int))) (x := C10 [1,1,1,1,0,1,0,0,1,0,0,1,1,1,0,1,1,1,1,1,0]) (y := C10 [1,1,1,1,0,1,0,0,1,0,0,1,1,1,0,1,1,1,1,1,1]) (o := .tmp 118) (by kernel_rfl) (by kernel_rfl) (by kernel_rfl) h10 ?_
            refine at_seq (x := C10 [1,1,1,1,0,1,0,0,1,0,0,1,1,1,0,1,1,1,1,1,1,0]) (y := C10 [1,1,1,1,0,1,0,0,1,0,0,1,1,1,0,1,1,1,1,1,1,1]) (by kernel_rfl) ?_
            refine at_region (id := 11) 3 (by kernel_rfl) (by kernel_rfl) ?_
            refine s_pure 48 (.pointer (some ⟨b1_0, 0, none⟩)) (by kernel_rfl) (by kernel_rfl) (fun _ => by kernel_rfl) ?_
            refine s_pure 49 (.int .i64 y8_5) (by kernel_rfl) (by kernel_rfl) (fun _ => by kernel_rfl) ?_
            refine CacheA.tox (.there (.there .here)) ?_
            intro x11_2_b1_0
            obtain ⟨y11_2, hy11_2, H⟩ := bindE H
            refine s_call 50 39 #[.pointer (some ⟨b1_0, 0, none⟩), .int .i64 y8_5] (by kernel_rfl) (by kernel_rfl) (fun _ => by kernel_rfl) (VictimF_tr b1_0 x11_2_b1_0 v0_b1_0 y8_5 y11_2 hy11_2) ?_
            rintro _ _ ⟨rfl, rfl⟩
            refine ops_end ?_
            refine At.env [(0, .slice actsa (List.length acts) actscap), (3, .pointer (some ⟨b1_0, 0, none⟩)), (4, .int .i64 v0_4), (5, .int .i64 v0_5), (6, .int .i64 y8_5), (7, .pointer (some ⟨b9_6, 0, none⟩)), (8, .bool y9_2.2)] ⟨by kernel_rfl, by kernel_rfl, by kernel_rfl, by kernel_rfl, by kernel_rfl, by kernel_rfl, by kernel_rfl, trivial⟩ ?_
            refine at_then_normal ?_
            refine At.conv (Γ' := (CacheA b1_0 v0_b1_0) :: (Asn.own b9_6 (.cells #[.int .i64 y9_2.1.fwd, .int .i64 y9_2.1.back, .int .i64 y9_2.1.line, .int .i64 y9_2.1.used, .bool y9_2.1.dirty, .slice a9_2_00 (List.length y9_2.1.data) c9_2_00] 31 (0, 0))) :: (IntsA a9_2_00 c9_2_00 y9_2.1.data) :: Γ) (fun w hw => CacheXA.shut (hw.pull .here)) ?_
            refine at_seq (x := C10 [1,1,1,1,0,1,0,0,1,0,0,1,1,1,0,1,1,1,1,1,1,1,0]) (y := C10 [1,1,1,1,0,1,0,0,1,0,0,1,1,1,0,1,1,1,1,1,1,1,1]) (by kernel_rfl) ?_
            refine at_region (id := 12) 3 (by kernel_rfl) (by kernel_rfl) ?_
            refine s_pure 51 (.pointer (some ⟨b1_0, 0, none⟩)) (by kernel_rfl) (by kernel_rfl) (fun _ => by kernel_rfl) ?_
            refine s_pure 52 (.int .i64 y8_5) (by kernel_rfl) (by kernel_rfl) (fun _ => by kernel_rfl) ?_
            obtain ⟨y12_2, hy12_2, H⟩ := bindE H
            refine s_call 53 27 #[.pointer (some ⟨b1_0, 0, none⟩), .int .i64 y8_5] (by kernel_rfl) (by kernel_rfl) (fun _ => by kernel_rfl) (FullF_tr b1_0 v0_b1_0 y8_5 y12_2 hy12_2) ?_
            rintro _ _ ⟨rfl, rfl⟩
            refine ops_end ?_
            refine At.env [(0, .slice actsa (List.length acts) actscap), (3, .pointer (some ⟨b1_0, 0, none⟩)), (4, .int .i64 v0_4), (5, .int .i64 v0_5), (6, .int .i64 y8_5), (7, .pointer (some ⟨b9_6, 0, none⟩)), (8, .bool y9_2.2)] ⟨by kernel_rfl, by kernel_rfl, by kernel_rfl, by kernel_rfl, by kernel_rfl, by kernel_rfl, by kernel_rfl, trivial⟩ ?_
            refine at_then_normal ?_
            refine at_seq (x := C10 [1,1,1,1,0,1,0,0,1,0,0,1,1,1,0,1,1,1,1,1,1,1,1,0]) (y := C10 [1,1,1,1,0,1,0,0,1,0,0,1,1,1,0,1,1,1,1,1,1,1,1,1]) (by kernel_rfl) ?_
            refine at_region (id := 13) 2 (by kernel_rfl) (by kernel_rfl) ?_
            refine s_pure 54 (.pointer (some ⟨b1_0, 0, none⟩)) (by kernel_rfl) (by kernel_rfl) (fun _ => by kernel_rfl) ?_
            refine CacheA.tox .here ?_
            intro x13_1_b1_0
            obtain ⟨y13_1, hy13_1, H⟩ := bindE H
            refine s_call 55 28 #[.pointer (some ⟨b1_0, 0, none⟩)] (by kernel_rfl) (by kernel_rfl) (fun _ => by kernel_rfl) (LinesF_tr b1_0 x13_1_b1_0 v0_b1_0 y13_1 hy13_1) ?_
            rintro _ _ ⟨a13_1_00, c13_1_00, rfl, rfl⟩
            refine ops_end ?_
            refine At.env [(0, .slice actsa (List.length acts) actscap), (3, .pointer (some ⟨b1_0, 0, none⟩)), (4, .int .i64 v0_4), (5, .int .i64 v0_5), (6, .int .i64 y8_5), (7, .pointer (some ⟨b9_6, 0, none⟩)), (8, .bool y9_2.2)] ⟨by kernel_rfl, by kernel_rfl, by kernel_rfl, by kernel_rfl, by kernel_rfl, by kernel_rfl, by kernel_rfl, trivial⟩ ?_
            refine at_then_normal ?_
            refine At.conv (Γ' := (CacheA b1_0 v0_b1_0) :: (IntsA a13_1_00 c13_1_00 y13_1) :: (Asn.own b9_6 (.cells #[.int .i64 y9_2.1.fwd, .int .i64 y9_2.1.back, .int .i64 y9_2.1.line, .int .i64 y9_2.1.used, .bool y9_2.1.dirty, .slice a9_2_00 (List.length y9_2.1.data) c9_2_00] 31 (0, 0))) :: (IntsA a9_2_00 c9_2_00 y9_2.1.data) :: Γ) (fun w hw => CacheXA.shut (hw.pull (.there .here))) ?_
            refine at_seq (x := C10 [1,1,1,1,0,1,0,0,1,0,0,1,1,1,0,1,1,1,1,1,1,1,1,1,0]) (y := C10 [1,1,1,1,0,1,0,0,1,0,0,1,1,1,0,1,1,1,1,1,1,1,1,1,1]) (by kernel_rfl) ?_
            refine at_region (id := 14) 9 (by kernel_rfl) (by kernel_rfl) ?_
            refine s_pure 57 (.pointer (some ⟨b1_0, 0, none⟩)) (by kernel_rfl) (by kernel_rfl) (fun _ => by kernel_rfl) ?_
            refine s_pure 58 (.int .i64 y8_5) (by kernel_rfl) (by kernel_rfl) (fun _ => by kernel_rfl) ?_
            obtain ⟨y14_2, hy14_2, H⟩ := bindE H
            refine s_call 59 20 #[.pointer (some ⟨b1_0, 0, none⟩), .int .i64 y8_5] (by kernel_rfl) (by kernel_rfl) (fun _ => by kernel_rfl) (FindF_tr b1_0 v0_b1_0 y8_5 y14_2 hy14_2) ?_
            rintro _ _ ⟨a14_2_00, c14_2_00, rfl, rfl⟩
            refine s_pure 56 (.tuple #[.agg #[.int .i64 y14_2.1.fwd, .int .i64 y14_2.1.back, .int .i64 y14_2.1.line, .int .i64 y14_2.1.used, .bool y14_2.1.dirty, .slice a14_2_00 (List.length y14_2.1.data) c14_2_00], .bool y14_2.2]) (by kernel_rfl) (by kernel_rfl) (fun _ => by kernel_rfl) ?_
            refine s_pure 60 (.agg #[.int .i64 y14_2.1.fwd, .int .i64 y14_2.1.back, .int .i64 y14_2.1.line, .int .i64 y14_2.1.used, .bool y14_2.1.dirty, .slice a14_2_00 (List.length y14_2.1.data) c14_2_00]) (by kernel_rfl) (by kernel_rfl) (fun _ => by kernel_rfl) ?_
            refine s_pure 61 (.bool y14_2.2) (by kernel_rfl) (by kernel_rfl) (fun _ => by kernel_rfl) ?_
            refine s_step 16 (by kernel_rfl) (by kernel_rfl) (st_new (T := 31) (cells := #[.int .i64 (0), .int .i64 (0), .int .i64 (0), .int .i64 (0), .bool false, .slice none 0 0]) (fun a => .pointer (some a)) (fun _ => by kernel_rfl)) ?_
            rintro _ _ ⟨b14_6, rfl, rfl⟩
            refine s_do (by kernel_rfl) (by kernel_rfl) (st_store (off := 0) (vs := [.int .i64 y14_2.1.fwd, .int .i64 y14_2.1.back, .int .i64 y14_2.1.line, .int .i64 y14_2.1.used, .bool y14_2.1.dirty, .slice a14_2_00 (List.length y14_2.1.data) c14_2_00]) (c' := #[.int .i64 y14_2.1.fwd, .int .i64 y14_2.1.back, .int .i64 y14_2.1.line, .int .i64 y14_2.1.used, .bool y14_2.1.dirty, .slice a14_2_00 (List.length y14_2.1.data) c14_2_00]) (fun _ => by kernel_rfl) .here (by kernel_rfl) (by kernel_rfl) (by kernel_rfl)) ?_
            rintro _ _ ⟨rfl, rfl⟩
            refine s_pure 17 (.bool y14_2.2) (by kernel_rfl) (by kernel_rfl) (fun _ => by kernel_rfl) ?_
            refine ops_end ?_
            refine At.env [(0, .slice actsa (List.length acts) actscap), (3, .pointer (some ⟨b1_0, 0, none⟩)), (4, .int .i64 v0_4), (5, .int .i64 v0_5), (7, .pointer (some ⟨b9_6, 0, none⟩)), (8, .bool y9_2.2), (16, .pointer (some ⟨b14_6, 0, none⟩)), (17, .bool y14_2.2)] ⟨by kernel_rfl, by kernel_rfl, by kernel_rfl, by kernel_rfl, by kernel_rfl, by kernel_rfl, by kernel_rfl, by kernel_rfl, trivial⟩ ?_
            refine at_then_normal ?_
            refine at_seq (x := C10 [1,1,1,1,0,1,0,0,1,0,0,1,1,1,0,1,1,1,1,1,1,1,1,1,1,0]) (y := C10 [1,1,1,1,0,1,0,0,1,0,0,1,1,1,0,1,1,1,1,1,1,1,1,1,1,1]) (by kernel_rfl) ?_
            refine at_region (id := 15) 10 (by kernel_rfl) (by kernel_rfl) ?_
            refine s_pure 62 (.bool y14_2.2) (by kernel_rfl) (by kernel_rfl) (fun _ => by kernel_rfl) ?_
            refine s_pure 63 (.bool y9_2.2) (by kernel_rfl) (by kernel_rfl) (fun _ => by kernel_rfl) ?_
            refine s_pure 64 (.bool (!(y14_2.2 == y9_2.2))) (by kernel_rfl) (by kernel_rfl) (fun _ => by kernel_rfl) ?_
            rcases Bool.eq_false_or_eq_true (!(y14_2.2 == y9_2.2)) with h14 | h14
            · replace H := bifT H h14
              refine s_pure 65 (.bool true) (by kernel_rfl) (by kernel_rfl) (run_eq (v := .bool (!(y14_2.2 == y9_2.2))) (fun _ => by kernel_rfl) (congrArg Value.bool h14)) ?_
              refine s_pass 66 (by kernel_rfl) (by kernel_rfl) ?_
              refine s_pass 67 (by kernel_rfl) (by kernel_rfl) ?_
              refine s_pass 68 (by kernel_rfl) (by kernel_rfl) ?_
              refine s_pass 69 (by kernel_rfl) (by kernel_rfl) ?_
              refine s_pass 70 (by kernel_rfl) (by kernel_rfl) ?_
              refine s_pure 71 (.bool true) (by kernel_rfl) (by kernel_rfl) (fun _ => by kernel_rfl) ?_
              refine ops_end ?_
              refine At.env [(0, .slice actsa (List.length acts) actscap), (3, .pointer (some ⟨b1_0, 0, none⟩)), (4, .int .i64 v0_4), (5, .int .i64 v0_5), (71, .bool true)] ⟨by kernel_rfl, by kernel_rfl, by kernel_rfl, by kernel_rfl, by kernel_rfl, trivial⟩ ?_
              refine at_then_normal ?_
              refine at_true (t := true) (x := C10 [1,1,1,1,0,1,0,0,1,0,0,1,1,1,0,1,1,1,1,1,1,1,1,1,1,1,0]) (y := C10 [1,1,1,1,0,1,0,0,1,0,0,1,1,1,0,1,1,1,1,1,1,1,1,1,1,1,1]) (o := .tmp 71) (by kernel_rfl) (by kernel_rfl) (by kernel_rfl) rfl ?_
              refine at_seq (x := C10 [1,1,1,1,0,1,0,0,1,0,0,1,1,1,0,1,1,1,1,1,1,1,1,1,1,1,0,0]) (y := C10 [1,1,1,1,0,1,0,0,1,0,0,1,1,1,0,1,1,1,1,1,1,1,1,1,1,1,0,1]) (by kernel_rfl) ?_
              refine at_region (id := 16) 1 (by kernel_rfl) (by kernel_rfl) ?_
              refine s_pure 2 (.bool false) (by kernel_rfl) (by kernel_rfl) (fun _ => by kernel_rfl) ?_
              refine ops_end ?_
              refine At.env [(2, .bool false)] ⟨by kernel_rfl, trivial⟩ ?_
              refine at_then_normal ?_
              refine at_ret (by kernel_rfl) ?_
              refine at_in_ret ?_
              refine at_in_ret ?_
              refine at_then_ret ?_
              refine at_then_ret ?_
              refine at_in_ret ?_
              refine at_then_ret ?_
              obtain rfl := someE H
              refine at_backR [.bool false] (Γ) (rs := [.tmp 2]) (by kernel_rfl) (.cons (.tmp (by kernel_rfl)) .nil) (fun w hw => (Sat.less (.drop .here (.drop .here (.drop .here (.drop .here (.drop .here (.drop .here .refl)))))) hw)) ?_
              exact ⟨rfl, rfl⟩
            · replace H := bifF H h14
              refine s_pure 65 (.bool false) (by kernel_rfl) (by kernel_rfl) (run_eq (v := .bool (!(y14_2.2 == y9_2.2))) (fun _ => by kernel_rfl) (congrArg Value.bool h14)) ?_
              refine s_pure 66 (.pointer (some ⟨b14_6, 3, none⟩)) (by kernel_rfl) (by kernel_rfl) (fun _ => by kernel_rfl) ?_
              refine s_load 67 (.int .i64 y14_2.1.used) (by kernel_rfl) (by kernel_rfl) (load1 (off := 3) (fun _ => by kernel_rfl) (holds_own .here) (by kernel_rfl)) ?_
              refine s_pure 68 (.pointer (some ⟨b9_6, 3, none⟩)) (by kernel_rfl) (by kernel_rfl) (fun _ => by kernel_rfl) ?_
              refine s_load 69 (.int .i64 y9_2.1.used) (by kernel_rfl) (by kernel_rfl) (load1 (off := 3) (fun _ => by kernel_rfl) (holds_own (.there (.there (.there (.there .here))))) (by kernel_rfl)) ?_
              refine s_pure 70 (.bool (!(decide (y14_2.1.used = y9_2.1.used)))) (by kernel_rfl) (by kernel_rfl) (fun _ => by kernel_rfl) ?_
              refine s_pure 71 (.bool (!(decide (y14_2.1.used = y9_2.1.used)))) (by kernel_rfl) (by kernel_rfl) (fun _ => by kernel_rfl) ?_
              refine ops_end ?_
              refine At.env [(0, .slice actsa (List.length acts) actscap), (3, .pointer (some ⟨b1_0, 0, none⟩)), (4, .int .i64 v0_4), (5, .int .i64 v0_5), (71, .bool (!(decide (y14_2.1.used = y9_2.1.used))))] ⟨by kernel_rfl, by kernel_rfl, by kernel_rfl, by kernel_rfl, by kernel_rfl, trivial⟩ ?_
              refine at_then_normal ?_
              rcases Bool.eq_false_or_eq_true (!(decide (y14_2.1.used = y9_2.1.used))) with h15 | h15
              · replace H := bifT H h15
                refine at_true (t := !(decide (y14_2.1.used = y9_2.1.used))) (x := C10 [1,1,1,1,0,1,0,0,1,0,0,1,1,1,0,1,1,1,1,1,1,1,1,1,1,1,0]) (y := C10 [1,1,1,1,0,1,0,0,1,0,0,1,1,1,0,1,1,1,1,1,1,1,1,1,1,1,1]) (o := .tmp 71) (by kernel_rfl) (by kernel_rfl) (by kernel_rfl) h15 ?_
                refine at_seq (x := C10 [1,1,1,1,0,1,0,0,1,0,0,1,1,1,0,1,1,1,1,1,1,1,1,1,1,1,0,0]) (y := C10 [1,1,1,1,0,1,0,0,1,0,0,1,1,1,0,1,1,1,1,1,1,1,1,1,1,1,0,1]) (by kernel_rfl) ?_
                refine at_region (id := 16) 1 (by kernel_rfl) (by kernel_rfl) ?_
                refine s_pure 2 (.bool false) (by kernel_rfl) (by kernel_rfl) (fun _ => by kernel_rfl) ?_
                refine ops_end ?_
                refine At.env [(2, .bool false)] ⟨by kernel_rfl, trivial⟩ ?_
                refine at_then_normal ?_
                refine at_ret (by kernel_rfl) ?_
                refine at_in_ret ?_
                refine at_in_ret ?_
                refine at_then_ret ?_
                refine at_then_ret ?_
                refine at_in_ret ?_
                refine at_then_ret ?_
                obtain rfl := someE H
                refine at_backR [.bool false] (Γ) (rs := [.tmp 2]) (by kernel_rfl) (.cons (.tmp (by kernel_rfl)) .nil) (fun w hw => (Sat.less (.drop .here (.drop .here (.drop .here (.drop .here (.drop .here (.drop .here .refl)))))) hw)) ?_
                exact ⟨rfl, rfl⟩
              · replace H := bifF H h15
                refine at_false (t := !(decide (y14_2.1.used = y9_2.1.used))) (x := C10 [1,1,1,1,0,1,0,0,1,0,0,1,1,1,0,1,1,1,1,1,1,1,1,1,1,1,0]) (y := C10 [1,1,1,1,0,1,0,0,1,0,0,1,1,1,0,1,1,1,1,1,1,1,1,1,1,1,1]) (o := .tmp 71) (by kernel_rfl) (by kernel_rfl) (by kernel_rfl) h15 ?_
                refine at_skip (by kernel_rfl) ?_
                refine at_in_normal ?_
                refine at_in_normal ?_
                refine at_then_normal ?_
                refine at_region (id := 7) 3 (by kernel_rfl) (by kernel_rfl) ?_
                refine s_pure 29 (.int .i64 v0_5) (by kernel_rfl) (by kernel_rfl) (fun _ => by kernel_rfl) ?_
                obtain ⟨hc7_1_0, H⟩ := chkE H
                refine s_pure 30 (.int .i64 (v0_5 + (1 : Int))) (by kernel_rfl) (by kernel_rfl) (run_eq (v := .int .i64 (IntKind.i64.wrap (v0_5 + (1 : Int)))) (fun _ => by kernel_rfl) (by rw [inR.wrap hc7_1_0])) ?_
                refine s_pure 5 (.int .i64 (v0_5 + (1 : Int))) (by kernel_rfl) (by kernel_rfl) (fun _ => by kernel_rfl) ?_
                refine ops_end ?_
                refine At.env [(0, .slice actsa (List.length acts) actscap), (3, .pointer (some ⟨b1_0, 0, none⟩)), (4, .int .i64 v0_4), (5, .int .i64 (v0_5 + (1 : Int)))] ⟨by kernel_rfl, by kernel_rfl, by kernel_rfl, by kernel_rfl, trivial⟩ ?_
                refine at_round_normal ?_
                exact at_roundR fuel1 [(0, .slice actsa (List.length acts) actscap), (3, .pointer (some ⟨b1_0, 0, none⟩)), (4, .int .i64 v0_4), (5, .int .i64 (v0_5 + (1 : Int)))] ((CacheA b1_0 v0_b1_0) :: Γ) (Nat.lt_succ_self _) ⟨by kernel_rfl, by kernel_rfl, by kernel_rfl, by kernel_rfl, trivial⟩ (fun w hw => (Sat.less (.take (.there (.there .here)) (.drop .here (.drop .here (.drop .here (.drop .here (.drop .here .refl)))))) hw)) ⟨fuel1, v0_4, v0_5 + (1 : Int), v0_b1_0, H, rfl, rfl, rfl⟩
    · replace H := bifF H h1
      refine at_false (t := e1_28) (x := C10 [1,1,1,1,0,1,0,0,0,1,0]) (y := C10 [1,1,1,1,0,1,0,0,0,1,1]) (o := .tmp 28) (by kernel_rfl) (by kernel_rfl) (by kernel_rfl) h1 ?_
      refine at_exit (i := 0) (by kernel_rfl) ?_
      refine at_then_exit ?_
      refine at_then_exit ?_
      rw [cacheClockS_k0] at H
      refine At.env [(0, .slice actsa (List.length acts) actscap), (3, .pointer (some ⟨b1_0, 0, none⟩)), (4, .int .i64 v0_4), (5, .int .i64 v0_5)] ⟨by kernel_rfl, by kernel_rfl, by kernel_rfl, by kernel_rfl, trivial⟩ ?_
      refine At.conv (Γ' := (CacheA b1_0 v0_b1_0) :: Γ) (fun w hw => (Sat.less (.take .here .refl) hw)) ?_
      refine at_in_here ?_
      refine at_then_normal ?_
      refine at_seq (x := C10 [1,1,1,1,1,0]) (y := C10 [1,1,1,1,1,1]) (by kernel_rfl) ?_
      refine at_region (id := 39) 2 (by kernel_rfl) (by kernel_rfl) ?_
      obtain ⟨y39_0, hy39_0, H⟩ := bindE H
      refine s_call 139 29 #[] (by kernel_rfl) (by kernel_rfl) (fun _ => by kernel_rfl) (W8F_tr  y39_0 hy39_0) ?_
      rintro _ _ ⟨rfl, rfl⟩
      refine s_pure 2 (.bool y39_0) (by kernel_rfl) (by kernel_rfl) (fun _ => by kernel_rfl) ?_
      refine ops_end ?_
      refine At.env [(2, .bool y39_0)] ⟨by kernel_rfl, trivial⟩ ?_
      refine at_then_normal ?_
      refine at_ret (by kernel_rfl) ?_
      obtain rfl := someE H
      refine at_backR [.bool y39_0] (Γ) (rs := [.tmp 2]) (by kernel_rfl) (.cons (.tmp (by kernel_rfl)) .nil) (fun w hw => (Sat.less (.drop .here .refl) hw)) ?_
      exact ⟨rfl, rfl⟩
  · refine at_region (id := 6) 8 (by kernel_rfl) (by kernel_rfl) ?_
    refine s_pure 21 (.int .i64 v0_5) (by kernel_rfl) (by kernel_rfl) (fun _ => by kernel_rfl) ?_
    refine s_pure 22 (.slice actsa (List.length acts) actscap) (by kernel_rfl) (by kernel_rfl) (fun _ => by kernel_rfl) ?_
    refine s_pure 23 (.int .i64 (((List.length acts) : Nat) : Int)) (by kernel_rfl) (by kernel_rfl) (fun _ => by kernel_rfl) ?_
    refine s_pure 24 (.bool (decide (v0_5 < (((List.length acts) : Nat) : Int)))) (by kernel_rfl) (by kernel_rfl) (fun _ => by kernel_rfl) ?_
    rcases Bool.eq_false_or_eq_true (decide (v0_5 < (((List.length acts) : Nat) : Int))) with h16 | h16
    · replace H := bifT H h16
      refine s_pure 25 (.bool true) (by kernel_rfl) (by kernel_rfl) (run_eq (v := .bool (decide (v0_5 < (((List.length acts) : Nat) : Int)))) (fun _ => by kernel_rfl) (congrArg Value.bool h16)) ?_
      refine s_pure 26 (.int .i64 v0_5) (by kernel_rfl) (by kernel_rfl) (fun _ => by kernel_rfl) ?_
      refine s_pure 27 (.bool (decide (v0_5 < (30 : Int)))) (by kernel_rfl) (by kernel_rfl) (fun _ => by kernel_rfl) ?_
      refine s_pure 28 (.bool (decide (v0_5 < (30 : Int)))) (by kernel_rfl) (by kernel_rfl) (fun _ => by kernel_rfl) ?_
      refine ops_end ?_
      refine At.env [(0, .slice actsa (List.length acts) actscap), (3, .pointer (some ⟨b1_0, 0, none⟩)), (4, .int .i64 v0_4), (5, .int .i64 v0_5), (28, .bool (decide (v0_5 < (30 : Int))))] ⟨by kernel_rfl, by kernel_rfl, by kernel_rfl, by kernel_rfl, by kernel_rfl, trivial⟩ ?_
      refine at_round_normal ?_
      exact at_join_mk [(0, .slice actsa (List.length acts) actscap), (3, .pointer (some ⟨b1_0, 0, none⟩)), (4, .int .i64 v0_4), (5, .int .i64 v0_5), (28, .bool (decide (v0_5 < (30 : Int))))] ((CacheA b1_0 v0_b1_0) :: Γ) ⟨by kernel_rfl, by kernel_rfl, by kernel_rfl, by kernel_rfl, by kernel_rfl, trivial⟩ (fun w hw => (Sat.less (.take .here .refl) hw)) ⟨decide (v0_5 < (30 : Int)), H, rfl, rfl⟩
    · replace H := bifF H h16
      refine s_pure 25 (.bool false) (by kernel_rfl) (by kernel_rfl) (run_eq (v := .bool (decide (v0_5 < (((List.length acts) : Nat) : Int)))) (fun _ => by kernel_rfl) (congrArg Value.bool h16)) ?_
      refine s_pass 26 (by kernel_rfl) (by kernel_rfl) ?_
      refine s_pass 27 (by kernel_rfl) (by kernel_rfl) ?_
      refine s_pure 28 (.bool false) (by kernel_rfl) (by kernel_rfl) (fun _ => by kernel_rfl) ?_
      refine ops_end ?_
      refine At.env [(0, .slice actsa (List.length acts) actscap), (3, .pointer (some ⟨b1_0, 0, none⟩)), (4, .int .i64 v0_4), (5, .int .i64 v0_5), (28, .bool false)] ⟨by kernel_rfl, by kernel_rfl, by kernel_rfl, by kernel_rfl, by kernel_rfl, trivial⟩ ?_
      refine at_round_normal ?_
      exact at_join_mk [(0, .slice actsa (List.length acts) actscap), (3, .pointer (some ⟨b1_0, 0, none⟩)), (4, .int .i64 v0_4), (5, .int .i64 v0_5), (28, .bool false)] ((CacheA b1_0 v0_b1_0) :: Γ) ⟨by kernel_rfl, by kernel_rfl, by kernel_rfl, by kernel_rfl, by kernel_rfl, trivial⟩ (fun w hw => (Sat.less (.take .here .refl) hw)) ⟨false, H, rfl, rfl⟩
end Go.Proofs.Ytfpiolnbnfngkaa
