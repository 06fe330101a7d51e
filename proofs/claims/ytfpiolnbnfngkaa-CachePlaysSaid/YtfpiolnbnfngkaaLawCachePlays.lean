/- The law CachePlays: its walk. -/
import Derived.Test.YtfpiolnbnfngkaaSmA
import Derived.Test.YtfpiolnbnfngkaaSlMapV
namespace Go.Proofs.Ytfpiolnbnfngkaa
open Go Go.RowKit
set_option linter.unusedVariables false
set_option linter.unusedSimpArgs false
structure ActC where
  act : Int
  line : Int
  fwd : Int
  back : Int
  dirty : Bool
  data : List Int
def actCRow (p : ActC) (a : Option Addr) (c : Nat) : List Value := [.int .i64 p.act, .int .i64 p.line, .int .i64 p.fwd, .int .i64 p.back, .bool p.dirty, .slice a p.data.length c]
instance recActC : Rec ActC := ⟨6, actCRow, fun p => p.data, ⟨0, 0, 0, 0, false, []⟩, by decide, fun _ _ _ => rfl, fun _ _ _ => rfl, fun x a c a' c' h => by simp [actCRow] at h; exact .inl h.1, fun x a c a' c' h => by simp [actCRow] at h; exact .inl h.2⟩
def wakes8S : Option (Bool) :=
  letP (newC (1 : Int) (1 : Int)) fun y1_0 => (linesS y1_0).bind fun y2_4 => (bif decide ((((List.length y2_4) : Nat) : Int) = (0 : Int)) then letP ([7] : List Int) fun l2_10 => (enewS (4 : Int) ((-1) : Int) ((-1) : Int) false l2_10).bind fun y2_11 => (putS y1_0 y2_11).bind fun y2_12 => (bif decide (y2_12.1 = (0 : Int)) then (enewS (5 : Int) ((-1) : Int) ((-1) : Int) false ([] : List Int)).bind fun y2_17 => (putS y2_12.2 y2_17).bind fun y2_18 => (bif decide (y2_18.1 = (5 : Int)) then letP (lenC y2_18.2) fun y2_23 => some (decide (y2_23 = (1 : Int))) else some false) else some false) else some false)
noncomputable def C29 (p : List Nat) : Code := codeAt (bodyOf Try.f29) p
set_option maxRecDepth 100000 in
set_option maxHeartbeats 8000000 in
theorem W8F_tr {W0 : World} {Γ : List Asn}   (y : Bool) (H : wakes8S = some y) : Tr Try.prog 29 #[] W0 (Γ) (fun r Δ => r = .bool y ∧ Δ = Γ) := by
  unfold wakes8S at H
  refine Tr.enter (fn := Try.f29) (c := C29 []) (args := []) 29 Try.func29 (by kernel_rfl) (by kernel_rfl) ?_
  refine At.env [] trivial ?_
  refine at_seq (x := C29 [0]) (y := C29 [1]) (by kernel_rfl) ?_
  refine at_region (id := 0) 1 (by kernel_rfl) (by kernel_rfl) ?_
  refine s_pure 0 (.bool false) (by kernel_rfl) (by kernel_rfl) (fun _ => by kernel_rfl) ?_
  refine ops_end ?_
  refine At.env [] trivial ?_
  refine at_then_normal ?_
  refine at_seq (x := C29 [1,0]) (y := C29 [1,1]) (by kernel_rfl) ?_
  refine at_region (id := 1) 2 (by kernel_rfl) (by kernel_rfl) ?_
  obtain ⟨y1_0, hy1_0, H⟩ := letE H
  refine s_call 2 13 #[.int .i64 (1), .int .i64 (1)] (by kernel_rfl) (by kernel_rfl) (fun _ => by kernel_rfl) (NewF_tr (1 : Int) (1 : Int) y1_0 hy1_0) ?_
  rintro _ _ ⟨b1_0, rfl, rfl⟩
  refine s_pure 1 (.pointer (some ⟨b1_0, 0, none⟩)) (by kernel_rfl) (by kernel_rfl) (fun _ => by kernel_rfl) ?_
  refine ops_end ?_
  refine At.env [(1, .pointer (some ⟨b1_0, 0, none⟩))] ⟨by kernel_rfl, trivial⟩ ?_
  refine at_then_normal ?_
  refine at_seq (x := C29 [1,1,0]) (y := C29 [1,1,1]) (by kernel_rfl) ?_
  refine at_region (id := 2) 27 (by kernel_rfl) (by kernel_rfl) ?_
  refine s_pure 3 (.pointer (some ⟨b1_0, 0, none⟩)) (by kernel_rfl) (by kernel_rfl) (fun _ => by kernel_rfl) ?_
  refine s_pure 4 (.bool true) (by kernel_rfl) (by kernel_rfl) (fun _ => by kernel_rfl) ?_
  refine s_pure 5 (.bool true) (by kernel_rfl) (by kernel_rfl) (fun _ => by kernel_rfl) ?_
  refine s_pure 6 (.pointer (some ⟨b1_0, 0, none⟩)) (by kernel_rfl) (by kernel_rfl) (fun _ => by kernel_rfl) ?_
  refine CacheA.tox .here ?_
  intro x2_4_b1_0
  obtain ⟨y2_4, hy2_4, H⟩ := bindE H
  refine s_call 7 28 #[.pointer (some ⟨b1_0, 0, none⟩)] (by kernel_rfl) (by kernel_rfl) (fun _ => by kernel_rfl) (LinesF_tr b1_0 x2_4_b1_0 y1_0 y2_4 hy2_4) ?_
  rintro _ _ ⟨a2_4_00, c2_4_00, rfl, rfl⟩
  refine s_pure 8 (.int .i64 (((List.length y2_4) : Nat) : Int)) (by kernel_rfl) (by kernel_rfl) (fun _ => by kernel_rfl) ?_
  refine s_pure 9 (.bool (decide ((((List.length y2_4) : Nat) : Int) = (0 : Int)))) (by kernel_rfl) (by kernel_rfl) (fun _ => by kernel_rfl) ?_
  refine s_pure 10 (.bool (decide ((((List.length y2_4) : Nat) : Int) = (0 : Int)))) (by kernel_rfl) (by kernel_rfl) (fun _ => by kernel_rfl) ?_
  rcases Bool.eq_false_or_eq_true (decide ((((List.length y2_4) : Nat) : Int) = (0 : Int))) with h1 | h1
  · replace H := bifT H h1
    refine s_pure 11 (.bool true) (by kernel_rfl) (by kernel_rfl) (run_eq (v := .bool (decide ((((List.length y2_4) : Nat) : Int) = (0 : Int)))) (fun _ => by kernel_rfl) (congrArg Value.bool h1)) ?_
    refine s_pure 12 (.pointer (some ⟨b1_0, 0, none⟩)) (by kernel_rfl) (by kernel_rfl) (fun _ => by kernel_rfl) ?_
    obtain ⟨l2_10, hl2_10, H⟩ := letE H
    refine s_step 13 (by kernel_rfl) (by kernel_rfl) (st_new_ints (T := 3) (xs := l2_10) 1 hl2_10 (fun _ => by kernel_rfl) (by kernel_rfl)) ?_
    rintro _ _ ⟨b2_10, rfl, rfl⟩
    obtain ⟨y2_11, hy2_11, H⟩ := bindE H
    refine s_call 14 16 #[.int .i64 (4), .int .i64 (-1), .int .i64 (-1), .bool false, .slice (some ⟨b2_10, 0, none⟩) (List.length l2_10) 1] (by kernel_rfl) (by kernel_rfl) (fun _ => by kernel_rfl) (ENewF_tr (4 : Int) ((-1) : Int) ((-1) : Int) false (some ⟨b2_10, 0, none⟩) 1 l2_10 (RowsA.reads (k := 1) .here) y2_11 hy2_11) ?_
    rintro _ _ ⟨a2_11_00, c2_11_00, rfl, rfl⟩
    refine At.conv (Γ' := (CacheA b1_0 y1_0) :: (IntsA a2_11_00 c2_11_00 y2_11.data) :: (IntsA (some ⟨b2_10, 0, none⟩) 1 l2_10) :: (IntsA a2_4_00 c2_4_00 y2_4) :: Γ) (fun w hw => CacheXA.shut (hw.pull (.there (.there (.there .here))))) ?_
    obtain ⟨y2_12, hy2_12, H⟩ := bindE H
    refine s_call 15 15 #[.pointer (some ⟨b1_0, 0, none⟩), .agg #[.int .i64 y2_11.fwd, .int .i64 y2_11.back, .int .i64 y2_11.line, .int .i64 y2_11.used, .bool y2_11.dirty, .slice a2_11_00 (List.length y2_11.data) c2_11_00]] (by kernel_rfl) (by kernel_rfl) (fun _ => by kernel_rfl) (PutF_tr b1_0 y1_0 a2_11_00 c2_11_00 y2_11 (RowsA.reads (k := 1) .here) y2_12 hy2_12) ?_
    rintro _ _ ⟨rfl, rfl⟩
    refine s_pure 16 (.bool (decide (y2_12.1 = (0 : Int)))) (by kernel_rfl) (by kernel_rfl) (fun _ => by kernel_rfl) ?_
    refine s_pure 17 (.bool (decide (y2_12.1 = (0 : Int)))) (by kernel_rfl) (by kernel_rfl) (fun _ => by kernel_rfl) ?_
    rcases Bool.eq_false_or_eq_true (decide (y2_12.1 = (0 : Int))) with h2 | h2
    · replace H := bifT H h2
      refine s_pure 18 (.bool true) (by kernel_rfl) (by kernel_rfl) (run_eq (v := .bool (decide (y2_12.1 = (0 : Int)))) (fun _ => by kernel_rfl) (congrArg Value.bool h2)) ?_
      refine s_pure 19 (.pointer (some ⟨b1_0, 0, none⟩)) (by kernel_rfl) (by kernel_rfl) (fun _ => by kernel_rfl) ?_
      obtain ⟨y2_17, hy2_17, H⟩ := bindE H
      refine s_call 20 16 #[.int .i64 (5), .int .i64 (-1), .int .i64 (-1), .bool false, .slice none 0 0] (by kernel_rfl) (by kernel_rfl) (fun _ => by kernel_rfl) (ENewF_tr (5 : Int) ((-1) : Int) ((-1) : Int) false none 0 ([] : List Int) Reads.nil y2_17 hy2_17) ?_
      rintro _ _ ⟨a2_17_00, c2_17_00, rfl, rfl⟩
      obtain ⟨y2_18, hy2_18, H⟩ := bindE H
      refine s_call 21 15 #[.pointer (some ⟨b1_0, 0, none⟩), .agg #[.int .i64 y2_17.fwd, .int .i64 y2_17.back, .int .i64 y2_17.line, .int .i64 y2_17.used, .bool y2_17.dirty, .slice a2_17_00 (List.length y2_17.data) c2_17_00]] (by kernel_rfl) (by kernel_rfl) (fun _ => by kernel_rfl) (Tr.conv (Γ' := (CacheA b1_0 y2_12.2) :: (IntsA a2_17_00 c2_17_00 y2_17.data) :: (IntsA a2_11_00 c2_11_00 y2_11.data) :: (IntsA (some ⟨b2_10, 0, none⟩) 1 l2_10) :: (IntsA a2_4_00 c2_4_00 y2_4) :: Γ) (fun w hw => (Sat.less (.take (.there .here) (.take .here (.take .here (.take .here (.take .here .refl))))) hw)) (PutF_tr b1_0 y2_12.2 a2_17_00 c2_17_00 y2_17 (RowsA.reads (k := 1) .here) y2_18 hy2_18)) ?_
      rintro _ _ ⟨rfl, rfl⟩
      refine s_pure 22 (.bool (decide (y2_18.1 = (5 : Int)))) (by kernel_rfl) (by kernel_rfl) (fun _ => by kernel_rfl) ?_
      refine s_pure 23 (.bool (decide (y2_18.1 = (5 : Int)))) (by kernel_rfl) (by kernel_rfl) (fun _ => by kernel_rfl) ?_
      rcases Bool.eq_false_or_eq_true (decide (y2_18.1 = (5 : Int))) with h3 | h3
      · replace H := bifT H h3
        refine s_pure 24 (.bool true) (by kernel_rfl) (by kernel_rfl) (run_eq (v := .bool (decide (y2_18.1 = (5 : Int)))) (fun _ => by kernel_rfl) (congrArg Value.bool h3)) ?_
        refine s_pure 25 (.pointer (some ⟨b1_0, 0, none⟩)) (by kernel_rfl) (by kernel_rfl) (fun _ => by kernel_rfl) ?_
        obtain ⟨y2_23, hy2_23, H⟩ := letE H
        refine s_call 26 23 #[.pointer (some ⟨b1_0, 0, none⟩)] (by kernel_rfl) (by kernel_rfl) (fun _ => by kernel_rfl) (LenF_tr b1_0 y2_18.2 y2_23 hy2_23) ?_
        rintro _ _ ⟨rfl, rfl⟩
        refine s_pure 27 (.bool (decide (y2_23 = (1 : Int)))) (by kernel_rfl) (by kernel_rfl) (fun _ => by kernel_rfl) ?_
        refine s_pure 28 (.bool (decide (y2_23 = (1 : Int)))) (by kernel_rfl) (by kernel_rfl) (fun _ => by kernel_rfl) ?_
        refine s_pure 0 (.bool (decide (y2_23 = (1 : Int)))) (by kernel_rfl) (by kernel_rfl) (fun _ => by kernel_rfl) ?_
        refine ops_end ?_
        refine At.env [(0, .bool (decide (y2_23 = (1 : Int))))] ⟨by kernel_rfl, trivial⟩ ?_
        refine at_then_normal ?_
        refine at_ret (by kernel_rfl) ?_
        obtain rfl := someE H
        refine at_backR [.bool (decide (y2_23 = (1 : Int)))] (Γ) (rs := [.tmp 0]) (by kernel_rfl) (.cons (.tmp (by kernel_rfl)) .nil) (fun w hw => (Sat.less (.drop .here (.drop .here (.drop .here (.drop .here (.drop .here .refl))))) hw)) ?_
        exact ⟨rfl, rfl⟩
      · replace H := bifF H h3
        refine s_pure 24 (.bool false) (by kernel_rfl) (by kernel_rfl) (run_eq (v := .bool (decide (y2_18.1 = (5 : Int)))) (fun _ => by kernel_rfl) (congrArg Value.bool h3)) ?_
        refine s_pass 25 (by kernel_rfl) (by kernel_rfl) ?_
        refine s_pass 26 (by kernel_rfl) (by kernel_rfl) ?_
        refine s_pass 27 (by kernel_rfl) (by kernel_rfl) ?_
        refine s_pure 28 (.bool false) (by kernel_rfl) (by kernel_rfl) (fun _ => by kernel_rfl) ?_
        refine s_pure 0 (.bool false) (by kernel_rfl) (by kernel_rfl) (fun _ => by kernel_rfl) ?_
        refine ops_end ?_
        refine At.env [(0, .bool false)] ⟨by kernel_rfl, trivial⟩ ?_
        refine at_then_normal ?_
        refine at_ret (by kernel_rfl) ?_
        obtain rfl := someE H
        refine at_backR [.bool false] (Γ) (rs := [.tmp 0]) (by kernel_rfl) (.cons (.tmp (by kernel_rfl)) .nil) (fun w hw => (Sat.less (.drop .here (.drop .here (.drop .here (.drop .here (.drop .here .refl))))) hw)) ?_
        exact ⟨rfl, rfl⟩
    · replace H := bifF H h2
      refine s_pure 18 (.bool false) (by kernel_rfl) (by kernel_rfl) (run_eq (v := .bool (decide (y2_12.1 = (0 : Int)))) (fun _ => by kernel_rfl) (congrArg Value.bool h2)) ?_
      refine s_pass 19 (by kernel_rfl) (by kernel_rfl) ?_
      refine s_pass 20 (by kernel_rfl) (by kernel_rfl) ?_
      refine s_pass 21 (by kernel_rfl) (by kernel_rfl) ?_
      refine s_pass 22 (by kernel_rfl) (by kernel_rfl) ?_
      refine s_pure 23 (.bool false) (by kernel_rfl) (by kernel_rfl) (fun _ => by kernel_rfl) ?_
      refine s_pure 24 (.bool false) (by kernel_rfl) (by kernel_rfl) (fun _ => by kernel_rfl) ?_
      refine s_pass 25 (by kernel_rfl) (by kernel_rfl) ?_
      refine s_pass 26 (by kernel_rfl) (by kernel_rfl) ?_
      refine s_pass 27 (by kernel_rfl) (by kernel_rfl) ?_
      refine s_pure 28 (.bool false) (by kernel_rfl) (by kernel_rfl) (fun _ => by kernel_rfl) ?_
      refine s_pure 0 (.bool false) (by kernel_rfl) (by kernel_rfl) (fun _ => by kernel_rfl) ?_
      refine ops_end ?_
      refine At.env [(0, .bool false)] ⟨by kernel_rfl, trivial⟩ ?_
      refine at_then_normal ?_
      refine at_ret (by kernel_rfl) ?_
      obtain rfl := someE H
      refine at_backR [.bool false] (Γ) (rs := [.tmp 0]) (by kernel_rfl) (.cons (.tmp (by kernel_rfl)) .nil) (fun w hw => (Sat.less (.drop .here (.drop .here (.drop .here (.drop .here .refl)))) hw)) ?_
      exact ⟨rfl, rfl⟩
  · replace H := bifF H h1
    refine s_pure 11 (.bool false) (by kernel_rfl) (by kernel_rfl) (run_eq (v := .bool (decide ((((List.length y2_4) : Nat) : Int) = (0 : Int)))) (fun _ => by kernel_rfl) (congrArg Value.bool h1)) ?_
    refine s_pass 12 (by kernel_rfl) (by kernel_rfl) ?_
    refine s_pass 13 (by kernel_rfl) (by kernel_rfl) ?_
    refine s_pass 14 (by kernel_rfl) (by kernel_rfl) ?_
    refine s_pass 15 (by kernel_rfl) (by kernel_rfl) ?_
    refine s_pass 16 (by kernel_rfl) (by kernel_rfl) ?_
    refine s_pure 17 (.bool false) (by kernel_rfl) (by kernel_rfl) (fun _ => by kernel_rfl) ?_
    refine s_pure 18 (.bool false) (by kernel_rfl) (by kernel_rfl) (fun _ => by kernel_rfl) ?_
    refine s_pass 19 (by kernel_rfl) (by kernel_rfl) ?_
    refine s_pass 20 (by kernel_rfl) (by kernel_rfl) ?_
    refine s_pass 21 (by kernel_rfl) (by kernel_rfl) ?_
    refine s_pass 22 (by kernel_rfl) (by kernel_rfl) ?_
    refine s_pure 23 (.bool false) (by kernel_rfl) (by kernel_rfl) (fun _ => by kernel_rfl) ?_
    refine s_pure 24 (.bool false) (by kernel_rfl) (by kernel_rfl) (fun _ => by kernel_rfl) ?_
    refine s_pass 25 (by kernel_rfl) (by kernel_rfl) ?_
    refine s_pass 26 (by kernel_rfl) (by kernel_rfl) ?_
    refine s_pass 27 (by kernel_rfl) (by kernel_rfl) ?_
    refine s_pure 28 (.bool false) (by kernel_rfl) (by kernel_rfl) (fun _ => by kernel_rfl) ?_
    refine s_pure 0 (.bool false) (by kernel_rfl) (by kernel_rfl) (fun _ => by kernel_rfl) ?_
    refine ops_end ?_
    refine At.env [(0, .bool false)] ⟨by kernel_rfl, trivial⟩ ?_
    refine at_then_normal ?_
    refine at_ret (by kernel_rfl) ?_
    refine At.conv (Γ' := (CacheA b1_0 y1_0) :: (IntsA a2_4_00 c2_4_00 y2_4) :: Γ) (fun w hw => CacheXA.shut (hw.pull (.there .here))) ?_
    obtain rfl := someE H
    refine at_backR [.bool false] (Γ) (rs := [.tmp 0]) (by kernel_rfl) (.cons (.tmp (by kernel_rfl)) .nil) (fun w hw => (Sat.less (.drop .here (.drop .here .refl)) hw)) ?_
    exact ⟨rfl, rfl⟩
def cachePlaysS_j105 (e84_11 : Int) (v2_9 : Int) (r2 : Int → CacheS → CacheS → Option (Bool)) (e105_b6_5 : CacheS) (e105_b6_2 : CacheS) : Option (Bool) :=
  (victimS e105_b6_2 e84_11).bind fun y49_2 => (rvictimS e105_b6_5 e84_11).bind fun y50_2 => (fullS e105_b6_2 e84_11).bind fun y51_2 => (rfullS e105_b6_5 e84_11).bind fun y51_5 => (bif !(y51_2 == y51_5) then some false else (bif !(y49_2.2 == (decide ((0 : Int) ≤ y50_2))) then some false else (bif y49_2.2 then (bif !(decide (y49_2.1 = y50_2)) then some false else (bif !y49_2.2 then (bif !(decide (y49_2.1 = (0 : Int))) then some false else (sameCS e105_b6_2 e105_b6_5).bind fun y51_32 => (bif !y51_32 then some false else chk (inR (v2_9 + (1 : Int))) (r2 (v2_9 + (1 : Int)) e105_b6_5 e105_b6_2))) else (sameCS e105_b6_2 e105_b6_5).bind fun y51_32 => (bif !y51_32 then some false else chk (inR (v2_9 + (1 : Int))) (r2 (v2_9 + (1 : Int)) e105_b6_5 e105_b6_2)))) else (bif !y49_2.2 then (bif !(decide (y49_2.1 = (0 : Int))) then some false else (sameCS e105_b6_2 e105_b6_5).bind fun y51_32 => (bif !y51_32 then some false else chk (inR (v2_9 + (1 : Int))) (r2 (v2_9 + (1 : Int)) e105_b6_5 e105_b6_2))) else (sameCS e105_b6_2 e105_b6_5).bind fun y51_32 => (bif !y51_32 then some false else chk (inR (v2_9 + (1 : Int))) (r2 (v2_9 + (1 : Int)) e105_b6_5 e105_b6_2))))))
def cachePlaysS_k107 (e84_11 : Int) (v2_9 : Int) (r2 : Int → CacheS → CacheS → Option (Bool)) (y33_6 : Int × CacheS) (y33_2 : Int × CacheS) (e107_147 : Int) (e107_148 : Int) (e107_b31_9_5x : List Int) : Option (Bool) :=
  cachePlaysS_j105 e84_11 v2_9 r2 y33_6.2 y33_2.2
def cachePlaysS_l107 (k107 : Int → Int → (List Int) → Option (Bool)) : Nat → Int → Int → (List Int) → Option (Bool)
  | 0 => fun _ _ _ => none
  | m + 1 => fun v107_147 v107_148 v107_b31_9_5x => (bif decide (v107_148 < v107_147) then chk (0 ≤ v107_148 ∧ v107_148 < ((v107_b31_9_5x.length : Nat) : Int)) (chk (0 ≤ v107_148 ∧ v107_148 < ((v107_b31_9_5x.length : Nat) : Int)) (letP (setI v107_b31_9_5x v107_148 (xorI (nth v107_b31_9_5x v107_148) (1 : Int))) fun w38_7 => chk (inR (v107_148 + (1 : Int))) ((cachePlaysS_l107  k107 m) v107_147 (v107_148 + (1 : Int)) w38_7))) else k107 v107_147 v107_148 v107_b31_9_5x)
def cachePlaysS_k110 (e84_11 : Int) (v2_9 : Int) (r2 : Int → CacheS → CacheS → Option (Bool)) (v2_b6_5 : CacheS) (v2_b6_2 : CacheS) (e110_105 : Int) (e110_106 : Int) (e110_b17_6_5x : List Int) : Option (Bool) :=
  cachePlaysS_j105 e84_11 v2_9 r2 v2_b6_5 v2_b6_2
def cachePlaysS_l110 (k110 : Int → Int → (List Int) → Option (Bool)) : Nat → Int → Int → (List Int) → Option (Bool)
  | 0 => fun _ _ _ => none
  | m + 1 => fun v110_105 v110_106 v110_b17_6_5x => (bif decide (v110_106 < v110_105) then chk (0 ≤ v110_106 ∧ v110_106 < ((v110_b17_6_5x.length : Nat) : Int)) (chk (0 ≤ v110_106 ∧ v110_106 < ((v110_b17_6_5x.length : Nat) : Int)) (letP (setI v110_b17_6_5x v110_106 (xorI (nth v110_b17_6_5x v110_106) (1 : Int))) fun w24_7 => chk (inR (v110_106 + (1 : Int))) ((cachePlaysS_l110  k110 m) v110_105 (v110_106 + (1 : Int)) w24_7))) else k110 v110_105 v110_106 v110_b17_6_5x)
def cachePlaysS_j109 (e84_11 : Int) (v2_9 : Int) (r2 : Int → CacheS → CacheS → Option (Bool)) (v2_b6_5 : CacheS) (v2_b6_2 : CacheS) (y17_2 : Ent × Bool) : Option (Bool) :=
  cachePlaysS_l110 (cachePlaysS_k110 e84_11 v2_9 r2 v2_b6_5 v2_b6_2) 64 (((List.length y17_2.1.data) : Nat) : Int) 0 y17_2.1.data
def cachePlaysS_j108 (v2_b6_2 : CacheS) (e84_11 : Int) (v2_b6_5 : CacheS) (v2_9 : Int) (r2 : Int → CacheS → CacheS → Option (Bool)) (e108_200 : Bool) : Option (Bool) :=
  (bif e108_200 then (touchS v2_b6_2 e84_11).bind fun y47_2 => (rtouchS v2_b6_5 e84_11).bind fun y47_5 => (bif !(y47_2.1 == y47_5.1) then some false else cachePlaysS_j105 e84_11 v2_9 r2 y47_5.2 y47_2.2) else (findS v2_b6_2 e84_11).bind fun y17_2 => (ratS v2_b6_5 e84_11).bind fun y18_2 => (bif !(y17_2.2 == (decide ((0 : Int) ≤ y18_2))) then some false else (bif !y17_2.2 then (bif !(decide (y17_2.1.line = (0 : Int))) then some false else (bif !(decide ((((List.length y17_2.1.data) : Nat) : Int) = (0 : Int))) then some false else cachePlaysS_j109 e84_11 v2_9 r2 v2_b6_5 v2_b6_2 y17_2)) else cachePlaysS_j109 e84_11 v2_9 r2 v2_b6_5 v2_b6_2 y17_2)))
def cachePlaysS_j106 (x12_3 : ActC) (e84_11 : Int) (v2_b6_2 : CacheS) (v2_b6_5 : CacheS) (v2_9 : Int) (r2 : Int → CacheS → CacheS → Option (Bool)) (y16_2 : Int) (e106_117 : Bool) : Option (Bool) :=
  (bif e106_117 then (cutS x12_3.data (4 : Int)).bind fun y30_2 => (enewS e84_11 x12_3.fwd x12_3.back x12_3.dirty y30_2).bind fun y31_8 => (putS v2_b6_2 (⟨y31_8.fwd, y31_8.back, y31_8.line, x12_3.fwd, y31_8.dirty, y31_8.data⟩ : Ent)).bind fun y33_2 => (rputS v2_b6_5 (⟨y31_8.fwd, y31_8.back, y31_8.line, x12_3.fwd, y31_8.dirty, y31_8.data⟩ : Ent)).bind fun y33_6 => (bif !(decide (y33_2.1 = y33_6.1)) then some false else cachePlaysS_l107 (cachePlaysS_k107 e84_11 v2_9 r2 y33_6 y33_2) 64 (((List.length y31_8.data) : Nat) : Int) 0 y31_8.data) else (bif decide (y16_2 = (4 : Int)) then (dropS v2_b6_2 e84_11).bind fun y41_2 => (rdropS v2_b6_5 e84_11).bind fun y42_2 => (bif !(y41_2.2.1 == y42_2.2.1) then some false else (bif y41_2.2.1 then (sameEntS y41_2.1 y42_2.1).bind fun y43_8 => (bif !y43_8 then some false else (bif !y41_2.2.1 then (bif !(decide (y41_2.1.line = (0 : Int))) then some false else (bif !(decide ((((List.length y41_2.1.data) : Nat) : Int) = (0 : Int))) then some false else cachePlaysS_j105 e84_11 v2_9 r2 y42_2.2.2 y41_2.2.2)) else cachePlaysS_j105 e84_11 v2_9 r2 y42_2.2.2 y41_2.2.2)) else (bif !y41_2.2.1 then (bif !(decide (y41_2.1.line = (0 : Int))) then some false else (bif !(decide ((((List.length y41_2.1.data) : Nat) : Int) = (0 : Int))) then some false else cachePlaysS_j105 e84_11 v2_9 r2 y42_2.2.2 y41_2.2.2)) else cachePlaysS_j105 e84_11 v2_9 r2 y42_2.2.2 y41_2.2.2))) else (bif decide (y16_2 = (5 : Int)) then cachePlaysS_j108 v2_b6_2 e84_11 v2_b6_5 v2_9 r2 (decide (y16_2 = (5 : Int))) else cachePlaysS_j108 v2_b6_2 e84_11 v2_b6_5 v2_9 r2 (decide (y16_2 = (6 : Int))))))
def cachePlaysS_j84 (x12_3 : ActC) (v2_b6_2 : CacheS) (v2_b6_5 : CacheS) (v2_9 : Int) (r2 : Int → CacheS → CacheS → Option (Bool)) (e84_11 : Int) : Option (Bool) :=
  (withinS x12_3.act (8 : Int)).bind fun y16_2 => (bif decide (y16_2 = (0 : Int)) then cachePlaysS_j106 x12_3 e84_11 v2_b6_2 v2_b6_5 v2_9 r2 y16_2 (decide (y16_2 = (0 : Int))) else (bif decide (y16_2 = (1 : Int)) then cachePlaysS_j106 x12_3 e84_11 v2_b6_2 v2_b6_5 v2_9 r2 y16_2 (decide (y16_2 = (1 : Int))) else (bif decide (y16_2 = (2 : Int)) then cachePlaysS_j106 x12_3 e84_11 v2_b6_2 v2_b6_5 v2_9 r2 y16_2 (decide (y16_2 = (2 : Int))) else cachePlaysS_j106 x12_3 e84_11 v2_b6_2 v2_b6_5 v2_9 r2 y16_2 (decide (y16_2 = (3 : Int))))))
def cachePlaysS_j83 (v2_9 : Int) (l : List ActC) (v2_b6_2 : CacheS) (v2_b6_5 : CacheS) (r2 : Int → CacheS → CacheS → Option (Bool)) (k2 : Int → CacheS → CacheS → Option (Bool)) (e83_55 : Bool) : Option (Bool) :=
  (bif e83_55 then chk (0 ≤ v2_9 ∧ v2_9 < ((List.length l : Nat) : Int)) (letP (nthT l v2_9) fun x12_3 => (withinS x12_3.line (9 : Int)).bind fun y13_2 => (bif decide ((x12_3.line.tmod (17 : Int)) = (16 : Int)) then cachePlaysS_j84 x12_3 v2_b6_2 v2_b6_5 v2_9 r2 x12_3.line else cachePlaysS_j84 x12_3 v2_b6_2 v2_b6_5 v2_9 r2 (wr (y13_2 - (1 : Int))))) else k2 v2_9 v2_b6_5 v2_b6_2)
def cachePlaysS_k2 (e2_9 : Int) (e2_b6_5 : CacheS) (e2_b6_2 : CacheS) : Option (Bool) :=
  (wakes8S).bind fun y53_0 => some y53_0
def cachePlaysS_l2 (l : List ActC) (k2 : Int → CacheS → CacheS → Option (Bool)) : Nat → Int → CacheS → CacheS → Option (Bool)
  | 0 => fun _ _ _ => none
  | m + 1 => fun v2_9 v2_b6_5 v2_b6_2 => (bif decide (v2_9 < (((List.length l) : Nat) : Int)) then cachePlaysS_j83 v2_9 l v2_b6_2 v2_b6_5 (cachePlaysS_l2 l k2 m) k2 (decide (v2_9 < (24 : Int))) else cachePlaysS_j83 v2_9 l v2_b6_2 v2_b6_5 (cachePlaysS_l2 l k2 m) k2 false)
def cachePlaysS_j1 (e0_0 : Int) (l : List ActC) (e1_1 : Int) : Option (Bool) :=
  letP (if (20 : Int) < e0_0 then (20 : Int) else e0_0) fun u5_1 => letP (if (20 : Int) < e1_1 then (20 : Int) else e1_1) fun u5_3 => letP (newC u5_1 u5_3) fun y6_2 => (rnewcS u5_1 u5_3).bind fun y6_5 => cachePlaysS_l2 l (cachePlaysS_k2 ) 64 0 y6_5 y6_2
def cachePlaysS_j0 (ways : Int) (l : List ActC) (e0_0 : Int) : Option (Bool) :=
  (bif !(decide ((ways.tmod (9 : Int)) = (8 : Int))) then (withinS ways (4 : Int)).bind fun y4_1 => cachePlaysS_j1 e0_0 l y4_1 else cachePlaysS_j1 e0_0 l ways)
def cachePlaysS (sets : Int) (ways : Int) (l : List ActC) : Option (Bool) :=
  (bif !(decide ((sets.tmod (9 : Int)) = (8 : Int))) then (withinS sets (4 : Int)).bind fun y2_1 => cachePlaysS_j0 ways l y2_1 else cachePlaysS_j0 ways l sets)
noncomputable def C8 (p : List Nat) : Code := codeAt (bodyOf Try.f8) p
set_option maxRecDepth 100000 in
set_option maxHeartbeats 8000000 in
theorem CachePlaysF_tr {W0 : World} {Γ : List Asn} (sets : Int) (ways : Int) (la : Option Addr) (lcap : Nat) (lrows : List (List Value)) (l : List ActC) (hrl : RecRd W0 Γ la lrows l) (hcl : CapR lrows l) (y : Bool) (H : cachePlaysS sets ways l = some y) : Tr Try.prog 8 #[.int .i64 sets, .int .i64 ways, .slice la (List.length l) lcap] W0 (Γ) (fun r Δ => r = .bool y ∧ Δ = Γ) := by
  unfold cachePlaysS at H
  refine Tr.enter (fn := Try.f8) (c := C8 []) (args := [.int .i64 sets, .int .i64 ways, .slice la (List.length l) lcap]) 255 Try.func8 (by kernel_rfl) (by kernel_rfl) ?_
  refine At.env [(0, .int .i64 sets), (1, .int .i64 ways), (2, .slice la (List.length l) lcap)] ⟨by kernel_rfl, by kernel_rfl, by kernel_rfl, trivial⟩ ?_
  refine at_seq (x := C8 [0]) (y := C8 [1]) (by kernel_rfl) ?_
  refine at_region (id := 0) 1 (by kernel_rfl) (by kernel_rfl) ?_
  refine s_pure 6 (.bool false) (by kernel_rfl) (by kernel_rfl) (fun _ => by kernel_rfl) ?_
  refine ops_end ?_
  refine At.env [(0, .int .i64 sets), (1, .int .i64 ways), (2, .slice la (List.length l) lcap)] ⟨by kernel_rfl, by kernel_rfl, by kernel_rfl, trivial⟩ ?_
  refine at_then_normal ?_
  refine at_seq_join (x := C8 [1,0]) (y := C8 [1,1]) (fun ff ΔΔ => ∃ (e0_0 : Int), cachePlaysS_j0 ways l e0_0 = some y ∧ ff = [(0, .int .i64 e0_0), (1, .int .i64 ways), (2, .slice la (List.length l) lcap)] ∧ Γ = ΔΔ) (by kernel_rfl) ?_ ?_
  · rintro _ _ ⟨e0_0, H, rfl, rfl⟩
    rw [cachePlaysS_j0] at H
    refine at_seq_join (x := C8 [1,1,0]) (y := C8 [1,1,1]) (fun ff ΔΔ => ∃ (e1_1 : Int), cachePlaysS_j1 e0_0 l e1_1 = some y ∧ ff = [(0, .int .i64 e0_0), (1, .int .i64 e1_1), (2, .slice la (List.length l) lcap)] ∧ Γ = ΔΔ) (by kernel_rfl) ?_ ?_
    · rintro _ _ ⟨e1_1, H, rfl, rfl⟩
      rw [cachePlaysS_j1] at H
      refine at_seq (x := C8 [1,1,1,0]) (y := C8 [1,1,1,1]) (by kernel_rfl) ?_
      refine at_region (id := 5) 6 (by kernel_rfl) (by kernel_rfl) ?_
      refine s_pure 36 (.int .i64 e0_0) (by kernel_rfl) (by kernel_rfl) (fun _ => by kernel_rfl) ?_
      obtain ⟨u5_1, hu5_1, H⟩ := letE H
      refine s_pure 37 (.int .i64 u5_1) (by kernel_rfl) (by kernel_rfl) (run_eq (v := .int .i64 (if (20 : Int) < e0_0 then (20 : Int) else e0_0)) (run_eq (v := .int .i64 (if (20 : Int) < e0_0 then (20 : Int) else e0_0)) (fun _ => by kernel_rfl) rfl) (by rw [hu5_1])) ?_
      refine s_pure 38 (.int .i64 e1_1) (by kernel_rfl) (by kernel_rfl) (fun _ => by kernel_rfl) ?_
      obtain ⟨u5_3, hu5_3, H⟩ := letE H
      refine s_pure 39 (.int .i64 u5_3) (by kernel_rfl) (by kernel_rfl) (run_eq (v := .int .i64 (if (20 : Int) < e1_1 then (20 : Int) else e1_1)) (run_eq (v := .int .i64 (if (20 : Int) < e1_1 then (20 : Int) else e1_1)) (fun _ => by kernel_rfl) rfl) (by rw [hu5_3])) ?_
      refine s_pure 0 (.int .i64 u5_1) (by kernel_rfl) (by kernel_rfl) (fun _ => by kernel_rfl) ?_
      refine s_pure 1 (.int .i64 u5_3) (by kernel_rfl) (by kernel_rfl) (fun _ => by kernel_rfl) ?_
      refine ops_end ?_
      refine At.env [(0, .int .i64 u5_1), (1, .int .i64 u5_3), (2, .slice la (List.length l) lcap)] ⟨by kernel_rfl, by kernel_rfl, by kernel_rfl, trivial⟩ ?_
      refine at_then_normal ?_
      refine at_seq (x := C8 [1,1,1,1,0]) (y := C8 [1,1,1,1,1]) (by kernel_rfl) ?_
      refine at_region (id := 6) 8 (by kernel_rfl) (by kernel_rfl) ?_
      refine s_pure 40 (.int .i64 u5_1) (by kernel_rfl) (by kernel_rfl) (fun _ => by kernel_rfl) ?_
      refine s_pure 41 (.int .i64 u5_3) (by kernel_rfl) (by kernel_rfl) (fun _ => by kernel_rfl) ?_
      obtain ⟨y6_2, hy6_2, H⟩ := letE H
      refine s_call 42 13 #[.int .i64 u5_1, .int .i64 u5_3] (by kernel_rfl) (by kernel_rfl) (fun _ => by kernel_rfl) (NewF_tr u5_1 u5_3 y6_2 hy6_2) ?_
      rintro _ _ ⟨b6_2, rfl, rfl⟩
      refine s_pure 43 (.int .i64 u5_1) (by kernel_rfl) (by kernel_rfl) (fun _ => by kernel_rfl) ?_
      refine s_pure 44 (.int .i64 u5_3) (by kernel_rfl) (by kernel_rfl) (fun _ => by kernel_rfl) ?_
      obtain ⟨y6_5, hy6_5, H⟩ := bindE H
      refine s_call 45 32 #[.int .i64 u5_1, .int .i64 u5_3] (by kernel_rfl) (by kernel_rfl) (fun _ => by kernel_rfl) (RNewCF_tr u5_1 u5_3 y6_5 hy6_5) ?_
      rintro _ _ ⟨b6_5, rfl, rfl⟩
      refine s_pure 7 (.pointer (some ⟨b6_2, 0, none⟩)) (by kernel_rfl) (by kernel_rfl) (fun _ => by kernel_rfl) ?_
      refine s_pure 8 (.pointer (some ⟨b6_5, 0, none⟩)) (by kernel_rfl) (by kernel_rfl) (fun _ => by kernel_rfl) ?_
      refine ops_end ?_
      refine At.env [(2, .slice la (List.length l) lcap), (7, .pointer (some ⟨b6_2, 0, none⟩)), (8, .pointer (some ⟨b6_5, 0, none⟩))] ⟨by kernel_rfl, by kernel_rfl, by kernel_rfl, trivial⟩ ?_
      refine at_then_normal ?_
      refine at_seq (x := C8 [1,1,1,1,1,0]) (y := C8 [1,1,1,1,1,1]) (by kernel_rfl) ?_
      refine at_seq (x := C8 [1,1,1,1,1,0,0]) (y := C8 [1,1,1,1,1,0,1]) (by kernel_rfl) ?_
      refine at_region (id := 7) 2 (by kernel_rfl) (by kernel_rfl) ?_
      refine s_pure 46 (.pointer (some ⟨b6_2, 0, none⟩)) (by kernel_rfl) (by kernel_rfl) (fun _ => by kernel_rfl) ?_
      refine s_pure 47 (.bool false) (by kernel_rfl) (by kernel_rfl) (fun _ => by kernel_rfl) ?_
      refine ops_end ?_
      refine At.env [(2, .slice la (List.length l) lcap), (7, .pointer (some ⟨b6_2, 0, none⟩)), (8, .pointer (some ⟨b6_5, 0, none⟩)), (47, .bool false)] ⟨by kernel_rfl, by kernel_rfl, by kernel_rfl, by kernel_rfl, trivial⟩ ?_
      refine at_then_normal ?_
      refine at_false (t := false) (x := C8 [1,1,1,1,1,0,1,0]) (y := C8 [1,1,1,1,1,0,1,1]) (o := .tmp 47) (by kernel_rfl) (by kernel_rfl) (by kernel_rfl) rfl ?_
      refine at_skip (by kernel_rfl) ?_
      refine at_then_normal ?_
      refine at_seq (x := C8 [1,1,1,1,1,1,0]) (y := C8 [1,1,1,1,1,1,1]) (by kernel_rfl) ?_
      refine at_seq (x := C8 [1,1,1,1,1,1,0,0]) (y := C8 [1,1,1,1,1,1,0,1]) (by kernel_rfl) ?_
      refine at_region (id := 9) 1 (by kernel_rfl) (by kernel_rfl) ?_
      refine s_pure 9 (.int .i64 (0)) (by kernel_rfl) (by kernel_rfl) (fun _ => by kernel_rfl) ?_
      refine ops_end ?_
      refine At.env [(2, .slice la (List.length l) lcap), (7, .pointer (some ⟨b6_2, 0, none⟩)), (8, .pointer (some ⟨b6_5, 0, none⟩)), (9, .int .i64 (0))] ⟨by kernel_rfl, by kernel_rfl, by kernel_rfl, by kernel_rfl, trivial⟩ ?_
      refine at_then_normal ?_
      refine at_block (i := 0) (x := C8 [1,1,1,1,1,1,0,1,0]) (by kernel_rfl) ?_
      refine At.conv (Γ' := (RChA b6_5 y6_5) :: (CacheA b6_2 y6_2) :: Γ) (fun w hw => (Sat.less (.take .here (.take .here .refl)) hw)) ?_
      refine at_loopR (x := C8 [1,1,1,1,1,1,0,1,0,0]) (fun mm ff ΔΔ => ∃ (fuel : Nat) (v2_9 : Int) (v2_b6_5 : CacheS) (v2_b6_2 : CacheS), cachePlaysS_l2 l (cachePlaysS_k2 ) fuel v2_9 v2_b6_5 v2_b6_2 = some y ∧ fuel = mm ∧ ff = [(2, .slice la (List.length l) lcap), (7, .pointer (some ⟨b6_2, 0, none⟩)), (8, .pointer (some ⟨b6_5, 0, none⟩)), (9, .int .i64 v2_9)] ∧ (RChA b6_5 v2_b6_5) :: (CacheA b6_2 v2_b6_2) :: Γ = ΔΔ) (64) (by kernel_rfl) [(2, .slice la (List.length l) lcap), (7, .pointer (some ⟨b6_2, 0, none⟩)), (8, .pointer (some ⟨b6_5, 0, none⟩)), (9, .int .i64 0)] ⟨by kernel_rfl, by kernel_rfl, by kernel_rfl, by kernel_rfl, trivial⟩ ⟨64, 0, y6_5, y6_2, H, rfl, rfl, rfl⟩ ?_
      rintro _ _ _ ⟨fuel1, v2_9, v2_b6_5, v2_b6_2, H, rfl, rfl, rfl⟩
      rcases fuel1 with _ | fuel1
      · exact (noneE H).elim
      rw [cachePlaysS_l2] at H
      refine at_seq (x := C8 [1,1,1,1,1,1,0,1,0,0,0]) (y := C8 [1,1,1,1,1,1,0,1,0,0,1]) (by kernel_rfl) ?_
      refine at_seq_join (x := C8 [1,1,1,1,1,1,0,1,0,0,0,0]) (y := C8 [1,1,1,1,1,1,0,1,0,0,0,1]) (fun ff ΔΔ => ∃ (e83_55 : Bool), cachePlaysS_j83 v2_9 l v2_b6_2 v2_b6_5 (cachePlaysS_l2 l (cachePlaysS_k2 ) fuel1) (cachePlaysS_k2 ) e83_55 = some y ∧ ff = [(2, .slice la (List.length l) lcap), (7, .pointer (some ⟨b6_2, 0, none⟩)), (8, .pointer (some ⟨b6_5, 0, none⟩)), (9, .int .i64 v2_9), (55, .bool e83_55)] ∧ (RChA b6_5 v2_b6_5) :: (CacheA b6_2 v2_b6_2) :: Γ = ΔΔ) (by kernel_rfl) ?_ ?_
      · rintro _ _ ⟨e83_55, H, rfl, rfl⟩
        rw [cachePlaysS_j83] at H
        rcases Bool.eq_false_or_eq_true (e83_55) with h1 | h1
        · replace H := bifT H h1
          refine at_true (t := e83_55) (x := C8 [1,1,1,1,1,1,0,1,0,0,0,1,0]) (y := C8 [1,1,1,1,1,1,0,1,0,0,0,1,1]) (o := .tmp 55) (by kernel_rfl) (by kernel_rfl) (by kernel_rfl) h1 ?_
          refine at_skip (by kernel_rfl) ?_
          refine at_then_normal ?_
          refine at_seq (x := C8 [1,1,1,1,1,1,0,1,0,0,1,0]) (y := C8 [1,1,1,1,1,1,0,1,0,0,1,1]) (by kernel_rfl) ?_
          refine at_block (i := 1) (x := C8 [1,1,1,1,1,1,0,1,0,0,1,0,0]) (by kernel_rfl) ?_
          refine at_seq (x := C8 [1,1,1,1,1,1,0,1,0,0,1,0,0,0]) (y := C8 [1,1,1,1,1,1,0,1,0,0,1,0,0,1]) (by kernel_rfl) ?_
          refine at_region (id := 12) 6 (by kernel_rfl) (by kernel_rfl) ?_
          refine s_pure 58 (.slice la (List.length l) lcap) (by kernel_rfl) (by kernel_rfl) (fun _ => by kernel_rfl) ?_
          refine s_pure 59 (.int .i64 v2_9) (by kernel_rfl) (by kernel_rfl) (fun _ => by kernel_rfl) ?_
          obtain ⟨hc12_2_0, H⟩ := chkE H
          refine rd_at (RecRd.less (.drop .here (.drop .here .refl)) hrl) (by have := hc12_2_0; omega) ?_
          intro bb1 oo1 ha1
          refine s_pure 60 (.pointer (some ⟨bb1, oo1 + (((v2_9).toNat) * 6 + 0), none⟩)) (by kernel_rfl) (by kernel_rfl) (index_at (t := 53) (sz := 6) (E := 57) (a := la) (m := (List.length l)) (c := lcap) (b := bb1) (off := oo1) (i := (v2_9).toNat) (tinfo 57) (fun _ => by kernel_rfl) (by kernel_rfl) (by kernel_rfl) (by kernel_rfl) ha1 (idx_cast hc12_2_0) (idx_nat hc12_2_0) rfl) ?_
          obtain ⟨x12_3, hx12_3, H⟩ := letE H
          refine rd_get (RecRd.less (.drop .here (.drop .here .refl)) hrl) hc12_2_0 ?_
          intro a12_3 c12_3 hrx12_3
          rw [hx12_3] at hrx12_3 ⊢
          have hcpx12_3 : (x12_3.data).length ≤ c12_3 := CapR.at hcl hc12_2_0 hx12_3 hrx12_3
          refine s_load 61 (.agg #[.int .i64 x12_3.act, .int .i64 x12_3.line, .int .i64 x12_3.fwd, .int .i64 x12_3.back, .bool x12_3.dirty, .slice a12_3 (List.length x12_3.data) c12_3]) (by kernel_rfl) (by kernel_rfl) (loadP_at (m := 6) (k := 6) (vs := [.int .i64 x12_3.act, .int .i64 x12_3.line, .int .i64 x12_3.fwd, .int .i64 x12_3.back, .bool x12_3.dirty, .slice a12_3 (List.length x12_3.data) c12_3]) (off := oo1) (i := (v2_9).toNat) (j := 0) (fun _ => by kernel_rfl) rfl rfl (fun q v hq => rd_row (j := 0 + q) (RecRd.less (.drop .here (.drop .here (.drop .here .refl))) hrl) ha1 hrx12_3 (rowP (j := 0) (m := 6) (by kernel_rfl) hq))) ?_
          refine s_step 10 (by kernel_rfl) (by kernel_rfl) (st_new (T := 57) (cells := #[.int .i64 (0), .int .i64 (0), .int .i64 (0), .int .i64 (0), .bool false, .slice none 0 0]) (fun a => .pointer (some a)) (fun _ => by kernel_rfl)) ?_
          rintro _ _ ⟨b12_4, rfl, rfl⟩
          refine s_do (by kernel_rfl) (by kernel_rfl) (st_store (off := 0) (vs := [.int .i64 x12_3.act, .int .i64 x12_3.line, .int .i64 x12_3.fwd, .int .i64 x12_3.back, .bool x12_3.dirty, .slice a12_3 (List.length x12_3.data) c12_3]) (c' := #[.int .i64 x12_3.act, .int .i64 x12_3.line, .int .i64 x12_3.fwd, .int .i64 x12_3.back, .bool x12_3.dirty, .slice a12_3 (List.length x12_3.data) c12_3]) (fun _ => by kernel_rfl) .here (by kernel_rfl) (by kernel_rfl) (by kernel_rfl)) ?_
          rintro _ _ ⟨rfl, rfl⟩
          refine ops_end ?_
          refine At.env [(2, .slice la (List.length l) lcap), (7, .pointer (some ⟨b6_2, 0, none⟩)), (8, .pointer (some ⟨b6_5, 0, none⟩)), (9, .int .i64 v2_9), (10, .pointer (some ⟨b12_4, 0, none⟩))] ⟨by kernel_rfl, by kernel_rfl, by kernel_rfl, by kernel_rfl, by kernel_rfl, trivial⟩ ?_
          refine at_then_normal ?_
          refine at_seq (x := C8 [1,1,1,1,1,1,0,1,0,0,1,0,0,1,0]) (y := C8 [1,1,1,1,1,1,0,1,0,0,1,0,0,1,1]) (by kernel_rfl) ?_
          refine at_region (id := 13) 5 (by kernel_rfl) (by kernel_rfl) ?_
          refine s_pure 62 (.pointer (some ⟨b12_4, 1, none⟩)) (by kernel_rfl) (by kernel_rfl) (fun _ => by kernel_rfl) ?_
          refine s_load 63 (.int .i64 x12_3.line) (by kernel_rfl) (by kernel_rfl) (load1 (off := 1) (fun _ => by kernel_rfl) (holds_own .here) (by kernel_rfl)) ?_
          obtain ⟨y13_2, hy13_2, H⟩ := bindE H
          refine s_quiet 64 (.int .i64 y13_2) 17 #[.int .i64 x12_3.line, .int .i64 (9)] (by kernel_rfl) (by kernel_rfl) (fun _ => by kernel_rfl) (WithinF_tr x12_3.line (9 : Int) y13_2 hy13_2) ?_
          refine s_pure 65 (.int .i64 (wr (y13_2 - (1 : Int)))) (by kernel_rfl) (by kernel_rfl) (fun _ => by kernel_rfl) ?_
          refine s_pure 11 (.int .i64 (wr (y13_2 - (1 : Int)))) (by kernel_rfl) (by kernel_rfl) (fun _ => by kernel_rfl) ?_
          refine ops_end ?_
          refine At.env [(2, .slice la (List.length l) lcap), (7, .pointer (some ⟨b6_2, 0, none⟩)), (8, .pointer (some ⟨b6_5, 0, none⟩)), (9, .int .i64 v2_9), (10, .pointer (some ⟨b12_4, 0, none⟩)), (11, .int .i64 (wr (y13_2 - (1 : Int))))] ⟨by kernel_rfl, by kernel_rfl, by kernel_rfl, by kernel_rfl, by kernel_rfl, by kernel_rfl, trivial⟩ ?_
          refine at_then_normal ?_
          refine at_seq_join (x := C8 [1,1,1,1,1,1,0,1,0,0,1,0,0,1,1,0]) (y := C8 [1,1,1,1,1,1,0,1,0,0,1,0,0,1,1,1]) (fun ff ΔΔ => ∃ (e84_11 : Int), cachePlaysS_j84 x12_3 v2_b6_2 v2_b6_5 v2_9 (cachePlaysS_l2 l (cachePlaysS_k2 ) fuel1) e84_11 = some y ∧ ff = [(2, .slice la (List.length l) lcap), (7, .pointer (some ⟨b6_2, 0, none⟩)), (8, .pointer (some ⟨b6_5, 0, none⟩)), (9, .int .i64 v2_9), (10, .pointer (some ⟨b12_4, 0, none⟩)), (11, .int .i64 e84_11)] ∧ (Asn.own b12_4 (.cells #[.int .i64 x12_3.act, .int .i64 x12_3.line, .int .i64 x12_3.fwd, .int .i64 x12_3.back, .bool x12_3.dirty, .slice a12_3 (List.length x12_3.data) c12_3] 57 (0, 0))) :: (ImmI a12_3 x12_3.data) :: (RChA b6_5 v2_b6_5) :: (CacheA b6_2 v2_b6_2) :: Γ = ΔΔ) (by kernel_rfl) ?_ ?_
          · rintro _ _ ⟨e84_11, H, rfl, rfl⟩
            rw [cachePlaysS_j84] at H
            refine at_seq_join (x := C8 [1,1,1,1,1,1,0,1,0,0,1,0,0,1,1,1,0]) (y := C8 [1,1,1,1,1,1,0,1,0,0,1,0,0,1,1,1,1]) (fun ff ΔΔ => ∃ (e105_b6_5 : CacheS) (e105_b6_2 : CacheS), cachePlaysS_j105 e84_11 v2_9 (cachePlaysS_l2 l (cachePlaysS_k2 ) fuel1) e105_b6_5 e105_b6_2 = some y ∧ ff = [(2, .slice la (List.length l) lcap), (7, .pointer (some ⟨b6_2, 0, none⟩)), (8, .pointer (some ⟨b6_5, 0, none⟩)), (9, .int .i64 v2_9), (11, .int .i64 e84_11)] ∧ (RChA b6_5 e105_b6_5) :: (CacheA b6_2 e105_b6_2) :: Γ = ΔΔ) (by kernel_rfl) ?_ ?_
            · rintro _ _ ⟨e105_b6_5, e105_b6_2, H, rfl, rfl⟩
              rw [cachePlaysS_j105] at H
              refine at_seq (x := C8 [1,1,1,1,1,1,0,1,0,0,1,0,0,1,1,1,1,0]) (y := C8 [1,1,1,1,1,1,0,1,0,0,1,0,0,1,1,1,1,1]) (by kernel_rfl) ?_
              refine at_region (id := 49) 8 (by kernel_rfl) (by kernel_rfl) ?_
              refine s_pure 211 (.pointer (some ⟨b6_2, 0, none⟩)) (by kernel_rfl) (by kernel_rfl) (fun _ => by kernel_rfl) ?_
              refine s_pure 212 (.int .i64 e84_11) (by kernel_rfl) (by kernel_rfl) (fun _ => by kernel_rfl) ?_
              refine CacheA.tox (.there .here) ?_
              intro x49_2_b6_2
              obtain ⟨y49_2, hy49_2, H⟩ := bindE H
              refine s_call 213 39 #[.pointer (some ⟨b6_2, 0, none⟩), .int .i64 e84_11] (by kernel_rfl) (by kernel_rfl) (fun _ => by kernel_rfl) (VictimF_tr b6_2 x49_2_b6_2 e105_b6_2 e84_11 y49_2 hy49_2) ?_
              rintro _ _ ⟨rfl, rfl⟩
              refine s_pure 210 (.tuple #[.int .i64 y49_2.1, .bool y49_2.2]) (by kernel_rfl) (by kernel_rfl) (fun _ => by kernel_rfl) ?_
              refine s_pure 214 (.int .i64 y49_2.1) (by kernel_rfl) (by kernel_rfl) (fun _ => by kernel_rfl) ?_
              refine s_pure 215 (.bool y49_2.2) (by kernel_rfl) (by kernel_rfl) (fun _ => by kernel_rfl) ?_
              refine s_pure 23 (.int .i64 y49_2.1) (by kernel_rfl) (by kernel_rfl) (fun _ => by kernel_rfl) ?_
              refine s_pure 24 (.bool y49_2.2) (by kernel_rfl) (by kernel_rfl) (fun _ => by kernel_rfl) ?_
              refine ops_end ?_
              refine At.env [(2, .slice la (List.length l) lcap), (7, .pointer (some ⟨b6_2, 0, none⟩)), (8, .pointer (some ⟨b6_5, 0, none⟩)), (9, .int .i64 v2_9), (11, .int .i64 e84_11), (23, .int .i64 y49_2.1), (24, .bool y49_2.2)] ⟨by kernel_rfl, by kernel_rfl, by kernel_rfl, by kernel_rfl, by kernel_rfl, by kernel_rfl, by kernel_rfl, trivial⟩ ?_
              refine at_then_normal ?_
              refine At.conv (Γ' := (CacheA b6_2 e105_b6_2) :: (RChA b6_5 e105_b6_5) :: Γ) (fun w hw => CacheXA.shut (hw.pull .here)) ?_
              refine at_seq (x := C8 [1,1,1,1,1,1,0,1,0,0,1,0,0,1,1,1,1,1,0]) (y := C8 [1,1,1,1,1,1,0,1,0,0,1,0,0,1,1,1,1,1,1]) (by kernel_rfl) ?_
              refine at_region (id := 50) 4 (by kernel_rfl) (by kernel_rfl) ?_
              refine s_pure 216 (.pointer (some ⟨b6_5, 0, none⟩)) (by kernel_rfl) (by kernel_rfl) (fun _ => by kernel_rfl) ?_
              refine s_pure 217 (.int .i64 e84_11) (by kernel_rfl) (by kernel_rfl) (fun _ => by kernel_rfl) ?_
              refine RChA.tox (.there .here) ?_
              intro x50_2_b6_5
              obtain ⟨y50_2, hy50_2, H⟩ := bindE H
              refine s_call 218 40 #[.pointer (some ⟨b6_5, 0, none⟩), .int .i64 e84_11] (by kernel_rfl) (by kernel_rfl) (fun _ => by kernel_rfl) (RVictimF_tr b6_5 x50_2_b6_5 e105_b6_5 e84_11 y50_2 hy50_2) ?_
              rintro _ _ ⟨rfl, rfl⟩
              refine s_pure 25 (.int .i64 y50_2) (by kernel_rfl) (by kernel_rfl) (fun _ => by kernel_rfl) ?_
              refine ops_end ?_
              refine At.env [(2, .slice la (List.length l) lcap), (7, .pointer (some ⟨b6_2, 0, none⟩)), (8, .pointer (some ⟨b6_5, 0, none⟩)), (9, .int .i64 v2_9), (11, .int .i64 e84_11), (23, .int .i64 y49_2.1), (24, .bool y49_2.2), (25, .int .i64 y50_2)] ⟨by kernel_rfl, by kernel_rfl, by kernel_rfl, by kernel_rfl, by kernel_rfl, by kernel_rfl, by kernel_rfl, by kernel_rfl, trivial⟩ ?_
              refine at_then_normal ?_
              refine At.conv (Γ' := (RChA b6_5 e105_b6_5) :: (CacheA b6_2 e105_b6_2) :: Γ) (fun w hw => RChXA.shut (hw.pull .here)) ?_
              refine at_seq (x := C8 [1,1,1,1,1,1,0,1,0,0,1,0,0,1,1,1,1,1,1,0]) (y := C8 [1,1,1,1,1,1,0,1,0,0,1,0,0,1,1,1,1,1,1,1]) (by kernel_rfl) ?_
              refine at_region (id := 51) 35 (by kernel_rfl) (by kernel_rfl) ?_
              refine s_pure 219 (.pointer (some ⟨b6_2, 0, none⟩)) (by kernel_rfl) (by kernel_rfl) (fun _ => by kernel_rfl) ?_
              refine s_pure 220 (.int .i64 e84_11) (by kernel_rfl) (by kernel_rfl) (fun _ => by kernel_rfl) ?_
              obtain ⟨y51_2, hy51_2, H⟩ := bindE H
              refine s_call 221 27 #[.pointer (some ⟨b6_2, 0, none⟩), .int .i64 e84_11] (by kernel_rfl) (by kernel_rfl) (fun _ => by kernel_rfl) (Tr.conv (Γ' := (CacheA b6_2 e105_b6_2) :: (RChA b6_5 e105_b6_5) :: Γ) (fun w hw => (Sat.less (.take (.there .here) (.take .here .refl)) hw)) (FullF_tr b6_2 e105_b6_2 e84_11 y51_2 hy51_2)) ?_
              rintro _ _ ⟨rfl, rfl⟩
              refine s_pure 222 (.pointer (some ⟨b6_5, 0, none⟩)) (by kernel_rfl) (by kernel_rfl) (fun _ => by kernel_rfl) ?_
              refine s_pure 223 (.int .i64 e84_11) (by kernel_rfl) (by kernel_rfl) (fun _ => by kernel_rfl) ?_
              refine RChA.tox (.there .here) ?_
              intro x51_5_b6_5
              obtain ⟨y51_5, hy51_5, H⟩ := bindE H
              refine s_call 224 41 #[.pointer (some ⟨b6_5, 0, none⟩), .int .i64 e84_11] (by kernel_rfl) (by kernel_rfl) (fun _ => by kernel_rfl) (RFullF_tr b6_5 x51_5_b6_5 e105_b6_5 e84_11 y51_5 hy51_5) ?_
              rintro _ _ ⟨rfl, rfl⟩
              refine s_pure 225 (.bool (!(y51_2 == y51_5))) (by kernel_rfl) (by kernel_rfl) (fun _ => by kernel_rfl) ?_
              rcases Bool.eq_false_or_eq_true (!(y51_2 == y51_5)) with h2 | h2
              · replace H := bifT H h2
                refine s_pure 226 (.bool true) (by kernel_rfl) (by kernel_rfl) (run_eq (v := .bool (!(y51_2 == y51_5))) (fun _ => by kernel_rfl) (congrArg Value.bool h2)) ?_
                refine s_pass 227 (by kernel_rfl) (by kernel_rfl) ?_
                refine s_pass 228 (by kernel_rfl) (by kernel_rfl) ?_
                refine s_pass 229 (by kernel_rfl) (by kernel_rfl) ?_
                refine s_pass 230 (by kernel_rfl) (by kernel_rfl) ?_
                refine s_pure 231 (.bool true) (by kernel_rfl) (by kernel_rfl) (fun _ => by kernel_rfl) ?_
                refine s_pure 232 (.bool true) (by kernel_rfl) (by kernel_rfl) (fun _ => by kernel_rfl) ?_
                refine s_pass 233 (by kernel_rfl) (by kernel_rfl) ?_
                refine s_pass 234 (by kernel_rfl) (by kernel_rfl) ?_
                refine s_pass 235 (by kernel_rfl) (by kernel_rfl) ?_
                refine s_pass 236 (by kernel_rfl) (by kernel_rfl) ?_
                refine s_pass 237 (by kernel_rfl) (by kernel_rfl) ?_
                refine s_pass 238 (by kernel_rfl) (by kernel_rfl) ?_
                refine s_pure 239 (.bool true) (by kernel_rfl) (by kernel_rfl) (fun _ => by kernel_rfl) ?_
                refine s_pure 240 (.bool true) (by kernel_rfl) (by kernel_rfl) (fun _ => by kernel_rfl) ?_
                refine s_pass 241 (by kernel_rfl) (by kernel_rfl) ?_
                refine s_pass 242 (by kernel_rfl) (by kernel_rfl) ?_
                refine s_pass 243 (by kernel_rfl) (by kernel_rfl) ?_
                refine s_pass 244 (by kernel_rfl) (by kernel_rfl) ?_
                refine s_pass 245 (by kernel_rfl) (by kernel_rfl) ?_
                refine s_pass 246 (by kernel_rfl) (by kernel_rfl) ?_
                refine s_pure 247 (.bool true) (by kernel_rfl) (by kernel_rfl) (fun _ => by kernel_rfl) ?_
                refine s_pure 248 (.bool true) (by kernel_rfl) (by kernel_rfl) (fun _ => by kernel_rfl) ?_
                refine s_pass 249 (by kernel_rfl) (by kernel_rfl) ?_
                refine s_pass 250 (by kernel_rfl) (by kernel_rfl) ?_
                refine s_pass 251 (by kernel_rfl) (by kernel_rfl) ?_
                refine s_pass 252 (by kernel_rfl) (by kernel_rfl) ?_
                refine s_pure 253 (.bool true) (by kernel_rfl) (by kernel_rfl) (fun _ => by kernel_rfl) ?_
                refine ops_end ?_
                refine At.env [(2, .slice la (List.length l) lcap), (7, .pointer (some ⟨b6_2, 0, none⟩)), (8, .pointer (some ⟨b6_5, 0, none⟩)), (9, .int .i64 v2_9), (253, .bool true)] ⟨by kernel_rfl, by kernel_rfl, by kernel_rfl, by kernel_rfl, by kernel_rfl, trivial⟩ ?_
                refine at_then_normal ?_
                refine at_true (t := true) (x := C8 [1,1,1,1,1,1,0,1,0,0,1,0,0,1,1,1,1,1,1,1,0]) (y := C8 [1,1,1,1,1,1,0,1,0,0,1,0,0,1,1,1,1,1,1,1,1]) (o := .tmp 253) (by kernel_rfl) (by kernel_rfl) (by kernel_rfl) rfl ?_
                refine At.conv (Γ' := (RChA b6_5 e105_b6_5) :: (CacheA b6_2 e105_b6_2) :: Γ) (fun w hw => RChXA.shut (hw.pull .here)) ?_
                refine at_seq (x := C8 [1,1,1,1,1,1,0,1,0,0,1,0,0,1,1,1,1,1,1,1,0,0]) (y := C8 [1,1,1,1,1,1,0,1,0,0,1,0,0,1,1,1,1,1,1,1,0,1]) (by kernel_rfl) ?_
                refine at_region (id := 52) 1 (by kernel_rfl) (by kernel_rfl) ?_
                refine s_pure 6 (.bool false) (by kernel_rfl) (by kernel_rfl) (fun _ => by kernel_rfl) ?_
                refine ops_end ?_
                refine At.env [(6, .bool false)] ⟨by kernel_rfl, trivial⟩ ?_
                refine at_then_normal ?_
                refine at_ret (by kernel_rfl) ?_
                refine at_in_ret ?_
                refine at_then_ret ?_
                refine at_then_ret ?_
                refine at_in_ret ?_
                refine at_then_ret ?_
                obtain rfl := someE H
                refine at_backR [.bool false] (Γ) (rs := [.tmp 6]) (by kernel_rfl) (.cons (.tmp (by kernel_rfl)) .nil) (fun w hw => (Sat.less (.drop .here (.drop .here .refl)) hw)) ?_
                exact ⟨rfl, rfl⟩
              · replace H := bifF H h2
                refine s_pure 226 (.bool false) (by kernel_rfl) (by kernel_rfl) (run_eq (v := .bool (!(y51_2 == y51_5))) (fun _ => by kernel_rfl) (congrArg Value.bool h2)) ?_
                refine s_pure 227 (.bool y49_2.2) (by kernel_rfl) (by kernel_rfl) (fun _ => by kernel_rfl) ?_
                refine s_pure 228 (.int .i64 y50_2) (by kernel_rfl) (by kernel_rfl) (fun _ => by kernel_rfl) ?_
                refine s_pure 229 (.bool (decide ((0 : Int) ≤ y50_2))) (by kernel_rfl) (by kernel_rfl) (fun _ => by kernel_rfl) ?_
                refine s_pure 230 (.bool (!(y49_2.2 == (decide ((0 : Int) ≤ y50_2))))) (by kernel_rfl) (by kernel_rfl) (fun _ => by kernel_rfl) ?_
                refine s_pure 231 (.bool (!(y49_2.2 == (decide ((0 : Int) ≤ y50_2))))) (by kernel_rfl) (by kernel_rfl) (fun _ => by kernel_rfl) ?_
                rcases Bool.eq_false_or_eq_true (!(y49_2.2 == (decide ((0 : Int) ≤ y50_2)))) with h3 | h3
                · replace H := bifT H h3
                  refine s_pure 232 (.bool true) (by kernel_rfl) (by kernel_rfl) (run_eq (v := .bool (!(y49_2.2 == (decide ((0 : Int) ≤ y50_2))))) (fun _ => by kernel_rfl) (congrArg Value.bool h3)) ?_
                  refine s_pass 233 (by kernel_rfl) (by kernel_rfl) ?_
                  refine s_pass 234 (by kernel_rfl) (by kernel_rfl) ?_
                  refine s_pass 235 (by kernel_rfl) (by kernel_rfl) ?_
                  refine s_pass 236 (by kernel_rfl) (by kernel_rfl) ?_
                  refine s_pass 237 (by kernel_rfl) (by kernel_rfl) ?_
                  refine s_pass 238 (by kernel_rfl) (by kernel_rfl) ?_
                  refine s_pure 239 (.bool true) (by kernel_rfl) (by kernel_rfl) (fun _ => by kernel_rfl) ?_
                  refine s_pure 240 (.bool true) (by kernel_rfl) (by kernel_rfl) (fun _ => by kernel_rfl) ?_
                  refine s_pass 241 (by kernel_rfl) (by kernel_rfl) ?_
                  refine s_pass 242 (by kernel_rfl) (by kernel_rfl) ?_
                  refine s_pass 243 (by kernel_rfl) (by kernel_rfl) ?_
                  refine s_pass 244 (by kernel_rfl) (by kernel_rfl) ?_
                  refine s_pass 245 (by kernel_rfl) (by kernel_rfl) ?_
                  refine s_pass 246 (by kernel_rfl) (by kernel_rfl) ?_
                  refine s_pure 247 (.bool true) (by kernel_rfl) (by kernel_rfl) (fun _ => by kernel_rfl) ?_
                  refine s_pure 248 (.bool true) (by kernel_rfl) (by kernel_rfl) (fun _ => by kernel_rfl) ?_
                  refine s_pass 249 (by kernel_rfl) (by kernel_rfl) ?_
                  refine s_pass 250 (by kernel_rfl) (by kernel_rfl) ?_
                  refine s_pass 251 (by kernel_rfl) (by kernel_rfl) ?_
                  refine s_pass 252 (by kernel_rfl) (by kernel_rfl) ?_
                  refine s_pure 253 (.bool true) (by kernel_rfl) (by kernel_rfl) (fun _ => by kernel_rfl) ?_
                  refine ops_end ?_
                  refine At.env [(2, .slice la (List.length l) lcap), (7, .pointer (some ⟨b6_2, 0, none⟩)), (8, .pointer (some ⟨b6_5, 0, none⟩)), (9, .int .i64 v2_9), (253, .bool true)] ⟨by kernel_rfl, by kernel_rfl, by kernel_rfl, by kernel_rfl, by kernel_rfl, trivial⟩ ?_
                  refine at_then_normal ?_
                  refine at_true (t := true) (x := C8 [1,1,1,1,1,1,0,1,0,0,1,0,0,1,1,1,1,1,1,1,0]) (y := C8 [1,1,1,1,1,1,0,1,0,0,1,0,0,1,1,1,1,1,1,1,1]) (o := .tmp 253) (by kernel_rfl) (by kernel_rfl) (by kernel_rfl) rfl ?_
                  refine At.conv (Γ' := (RChA b6_5 e105_b6_5) :: (CacheA b6_2 e105_b6_2) :: Γ) (fun w hw => RChXA.shut (hw.pull .here)) ?_
                  refine at_seq (x := C8 [1,1,1,1,1,1,0,1,0,0,1,0,0,1,1,1,1,1,1,1,0,0]) (y := C8 [1,1,1,1,1,1,0,1,0,0,1,0,0,1,1,1,1,1,1,1,0,1]) (by kernel_rfl) ?_
                  refine at_region (id := 52) 1 (by kernel_rfl) (by kernel_rfl) ?_
                  refine s_pure 6 (.bool false) (by kernel_rfl) (by kernel_rfl) (fun _ => by kernel_rfl) ?_
                  refine ops_end ?_
                  refine At.env [(6, .bool false)] ⟨by kernel_rfl, trivial⟩ ?_
                  refine at_then_normal ?_
                  refine at_ret (by kernel_rfl) ?_
                  refine at_in_ret ?_
                  refine at_then_ret ?_
                  refine at_then_ret ?_
                  refine at_in_ret ?_
                  refine at_then_ret ?_
                  obtain rfl := someE H
                  refine at_backR [.bool false] (Γ) (rs := [.tmp 6]) (by kernel_rfl) (.cons (.tmp (by kernel_rfl)) .nil) (fun w hw => (Sat.less (.drop .here (.drop .here .refl)) hw)) ?_
                  exact ⟨rfl, rfl⟩
                · replace H := bifF H h3
                  refine s_pure 232 (.bool false) (by kernel_rfl) (by kernel_rfl) (run_eq (v := .bool (!(y49_2.2 == (decide ((0 : Int) ≤ y50_2))))) (fun _ => by kernel_rfl) (congrArg Value.bool h3)) ?_
                  refine s_pure 233 (.bool y49_2.2) (by kernel_rfl) (by kernel_rfl) (fun _ => by kernel_rfl) ?_
                  rcases Bool.eq_false_or_eq_true (y49_2.2) with h4 | h4
                  · replace H := bifT H h4
                    refine s_pure 234 (.bool true) (by kernel_rfl) (by kernel_rfl) (run_eq (v := .bool (y49_2.2)) (fun _ => by kernel_rfl) (congrArg Value.bool h4)) ?_
                    refine s_pure 235 (.int .i64 y49_2.1) (by kernel_rfl) (by kernel_rfl) (fun _ => by kernel_rfl) ?_
                    refine s_pure 236 (.int .i64 y50_2) (by kernel_rfl) (by kernel_rfl) (fun _ => by kernel_rfl) ?_
                    refine s_pure 237 (.bool (!(decide (y49_2.1 = y50_2)))) (by kernel_rfl) (by kernel_rfl) (fun _ => by kernel_rfl) ?_
                    refine s_pure 238 (.bool (!(decide (y49_2.1 = y50_2)))) (by kernel_rfl) (by kernel_rfl) (fun _ => by kernel_rfl) ?_
                    refine s_pure 239 (.bool (!(decide (y49_2.1 = y50_2)))) (by kernel_rfl) (by kernel_rfl) (fun _ => by kernel_rfl) ?_
                    rcases Bool.eq_false_or_eq_true (!(decide (y49_2.1 = y50_2))) with h5 | h5
                    · replace H := bifT H h5
                      refine s_pure 240 (.bool true) (by kernel_rfl) (by kernel_rfl) (run_eq (v := .bool (!(decide (y49_2.1 = y50_2)))) (fun _ => by kernel_rfl) (congrArg Value.bool h5)) ?_
                      refine s_pass 241 (by kernel_rfl) (by kernel_rfl) ?_
                      refine s_pass 242 (by kernel_rfl) (by kernel_rfl) ?_
                      refine s_pass 243 (by kernel_rfl) (by kernel_rfl) ?_
                      refine s_pass 244 (by kernel_rfl) (by kernel_rfl) ?_
                      refine s_pass 245 (by kernel_rfl) (by kernel_rfl) ?_
                      refine s_pass 246 (by kernel_rfl) (by kernel_rfl) ?_
                      refine s_pure 247 (.bool true) (by kernel_rfl) (by kernel_rfl) (fun _ => by kernel_rfl) ?_
                      refine s_pure 248 (.bool true) (by kernel_rfl) (by kernel_rfl) (fun _ => by kernel_rfl) ?_
                      refine s_pass 249 (by kernel_rfl) (by kernel_rfl) ?_
                      refine s_pass 250 (by kernel_rfl) (by kernel_rfl) ?_
                      refine s_pass 251 (by kernel_rfl) (by kernel_rfl) ?_
                      refine s_pass 252 (by kernel_rfl) (by kernel_rfl) ?_
                      refine s_pure 253 (.bool true) (by kernel_rfl) (by kernel_rfl) (fun _ => by kernel_rfl) ?_
                      refine ops_end ?_
                      refine At.env [(2, .slice la (List.length l) lcap), (7, .pointer (some ⟨b6_2, 0, none⟩)), (8, .pointer (some ⟨b6_5, 0, none⟩)), (9, .int .i64 v2_9), (253, .bool true)] ⟨by kernel_rfl, by kernel_rfl, by kernel_rfl, by kernel_rfl, by kernel_rfl, trivial⟩ ?_
                      refine at_then_normal ?_
                      refine at_true (t := true) (x := C8 [1,1,1,1,1,1,0,1,0,0,1,0,0,1,1,1,1,1,1,1,0]) (y := C8 [1,1,1,1,1,1,0,1,0,0,1,0,0,1,1,1,1,1,1,1,1]) (o := .tmp 253) (by kernel_rfl) (by kernel_rfl) (by kernel_rfl) rfl ?_
                      refine At.conv (Γ' := (RChA b6_5 e105_b6_5) :: (CacheA b6_2 e105_b6_2) :: Γ) (fun w hw => RChXA.shut (hw.pull .here)) ?_
                      refine at_seq (x := C8 [1,1,1,1,1,1,0,1,0,0,1,0,0,1,1,1,1,1,1,1,0,0]) (y := C8 [1,1,1,1,1,1,0,1,0,0,1,0,0,1,1,1,1,1,1,1,0,1]) (by kernel_rfl) ?_
                      refine at_region (id := 52) 1 (by kernel_rfl) (by kernel_rfl) ?_
                      refine s_pure 6 (.bool false) (by kernel_rfl) (by kernel_rfl) (fun _ => by kernel_rfl) ?_
                      refine ops_end ?_
                      refine At.env [(6, .bool false)] ⟨by kernel_rfl, trivial⟩ ?_
                      refine at_then_normal ?_
                      refine at_ret (by kernel_rfl) ?_
                      refine at_in_ret ?_
                      refine at_then_ret ?_
                      refine at_then_ret ?_
                      refine at_in_ret ?_
                      refine at_then_ret ?_
                      obtain rfl := someE H
                      refine at_backR [.bool false] (Γ) (rs := [.tmp 6]) (by kernel_rfl) (.cons (.tmp (by kernel_rfl)) .nil) (fun w hw => (Sat.less (.drop .here (.drop .here .refl)) hw)) ?_
                      exact ⟨rfl, rfl⟩
                    · replace H := bifF H h5
                      refine s_pure 240 (.bool false) (by kernel_rfl) (by kernel_rfl) (run_eq (v := .bool (!(decide (y49_2.1 = y50_2)))) (fun _ => by kernel_rfl) (congrArg Value.bool h5)) ?_
                      refine s_pure 241 (.bool y49_2.2) (by kernel_rfl) (by kernel_rfl) (fun _ => by kernel_rfl) ?_
                      refine s_pure 242 (.bool !y49_2.2) (by kernel_rfl) (by kernel_rfl) (fun _ => by kernel_rfl) ?_
                      rcases Bool.eq_false_or_eq_true (!y49_2.2) with h6 | h6
                      · replace H := bifT H h6
                        refine s_pure 243 (.bool true) (by kernel_rfl) (by kernel_rfl) (run_eq (v := .bool (!y49_2.2)) (fun _ => by kernel_rfl) (congrArg Value.bool h6)) ?_
                        refine s_pure 244 (.int .i64 y49_2.1) (by kernel_rfl) (by kernel_rfl) (fun _ => by kernel_rfl) ?_
                        refine s_pure 245 (.bool (!(decide (y49_2.1 = (0 : Int))))) (by kernel_rfl) (by kernel_rfl) (fun _ => by kernel_rfl) ?_
                        refine s_pure 246 (.bool (!(decide (y49_2.1 = (0 : Int))))) (by kernel_rfl) (by kernel_rfl) (fun _ => by kernel_rfl) ?_
                        refine s_pure 247 (.bool (!(decide (y49_2.1 = (0 : Int))))) (by kernel_rfl) (by kernel_rfl) (fun _ => by kernel_rfl) ?_
                        rcases Bool.eq_false_or_eq_true (!(decide (y49_2.1 = (0 : Int)))) with h7 | h7
                        · replace H := bifT H h7
                          refine s_pure 248 (.bool true) (by kernel_rfl) (by kernel_rfl) (run_eq (v := .bool (!(decide (y49_2.1 = (0 : Int))))) (fun _ => by kernel_rfl) (congrArg Value.bool h7)) ?_
                          refine s_pass 249 (by kernel_rfl) (by kernel_rfl) ?_
                          refine s_pass 250 (by kernel_rfl) (by kernel_rfl) ?_
                          refine s_pass 251 (by kernel_rfl) (by kernel_rfl) ?_
                          refine s_pass 252 (by kernel_rfl) (by kernel_rfl) ?_
                          refine s_pure 253 (.bool true) (by kernel_rfl) (by kernel_rfl) (fun _ => by kernel_rfl) ?_
                          refine ops_end ?_
                          refine At.env [(2, .slice la (List.length l) lcap), (7, .pointer (some ⟨b6_2, 0, none⟩)), (8, .pointer (some ⟨b6_5, 0, none⟩)), (9, .int .i64 v2_9), (253, .bool true)] ⟨by kernel_rfl, by kernel_rfl, by kernel_rfl, by kernel_rfl, by kernel_rfl, trivial⟩ ?_
                          refine at_then_normal ?_
                          refine at_true (t := true) (x := C8 [1,1,1,1,1,1,0,1,0,0,1,0,0,1,1,1,1,1,1,1,0]) (y := C8 [1,1,1,1,1,1,0,1,0,0,1,0,0,1,1,1,1,1,1,1,1]) (o := .tmp 253) (by kernel_rfl) (by kernel_rfl) (by kernel_rfl) rfl ?_
                          refine At.conv (Γ' := (RChA b6_5 e105_b6_5) :: (CacheA b6_2 e105_b6_2) :: Γ) (fun w hw => RChXA.shut (hw.pull .here)) ?_
                          refine at_seq (x := C8 [1,1,1,1,1,1,0,1,0,0,1,0,0,1,1,1,1,1,1,1,0,0]) (y := C8 [1,1,1,1,1,1,0,1,0,0,1,0,0,1,1,1,1,1,1,1,0,1]) (by kernel_rfl) ?_
                          refine at_region (id := 52) 1 (by kernel_rfl) (by kernel_rfl) ?_
                          refine s_pure 6 (.bool false) (by kernel_rfl) (by kernel_rfl) (fun _ => by kernel_rfl) ?_
                          refine ops_end ?_
                          refine At.env [(6, .bool false)] ⟨by kernel_rfl, trivial⟩ ?_
                          refine at_then_normal ?_
                          refine at_ret (by kernel_rfl) ?_
                          refine at_in_ret ?_
                          refine at_then_ret ?_
                          refine at_then_ret ?_
                          refine at_in_ret ?_
                          refine at_then_ret ?_
                          obtain rfl := someE H
                          refine at_backR [.bool false] (Γ) (rs := [.tmp 6]) (by kernel_rfl) (.cons (.tmp (by kernel_rfl)) .nil) (fun w hw => (Sat.less (.drop .here (.drop .here .refl)) hw)) ?_
                          exact ⟨rfl, rfl⟩
                        · replace H := bifF H h7
                          refine s_pure 248 (.bool false) (by kernel_rfl) (by kernel_rfl) (run_eq (v := .bool (!(decide (y49_2.1 = (0 : Int))))) (fun _ => by kernel_rfl) (congrArg Value.bool h7)) ?_
                          refine s_pure 249 (.pointer (some ⟨b6_2, 0, none⟩)) (by kernel_rfl) (by kernel_rfl) (fun _ => by kernel_rfl) ?_
                          refine s_pure 250 (.pointer (some ⟨b6_5, 0, none⟩)) (by kernel_rfl) (by kernel_rfl) (fun _ => by kernel_rfl) ?_
                          obtain ⟨y51_32, hy51_32, H⟩ := bindE H
                          refine s_call 251 42 #[.pointer (some ⟨b6_2, 0, none⟩), .pointer (some ⟨b6_5, 0, none⟩)] (by kernel_rfl) (by kernel_rfl) (fun _ => by kernel_rfl) (Tr.conv (Γ' := (CacheA b6_2 e105_b6_2) :: (RChXA b6_5 x51_5_b6_5 e105_b6_5) :: Γ) (fun w hw => (Sat.less (.take (.there .here) (.take .here .refl)) hw)) (SameCF_tr b6_2 e105_b6_2 b6_5 x51_5_b6_5 e105_b6_5 y51_32 hy51_32)) ?_
                          rintro _ _ ⟨rfl, rfl⟩
                          refine s_pure 252 (.bool !y51_32) (by kernel_rfl) (by kernel_rfl) (fun _ => by kernel_rfl) ?_
                          refine s_pure 253 (.bool !y51_32) (by kernel_rfl) (by kernel_rfl) (fun _ => by kernel_rfl) ?_
                          refine ops_end ?_
                          refine At.env [(2, .slice la (List.length l) lcap), (7, .pointer (some ⟨b6_2, 0, none⟩)), (8, .pointer (some ⟨b6_5, 0, none⟩)), (9, .int .i64 v2_9), (253, .bool !y51_32)] ⟨by kernel_rfl, by kernel_rfl, by kernel_rfl, by kernel_rfl, by kernel_rfl, trivial⟩ ?_
                          refine at_then_normal ?_
                          rcases Bool.eq_false_or_eq_true (!y51_32) with h8 | h8
                          · replace H := bifT H h8
                            refine at_true (t := !y51_32) (x := C8 [1,1,1,1,1,1,0,1,0,0,1,0,0,1,1,1,1,1,1,1,0]) (y := C8 [1,1,1,1,1,1,0,1,0,0,1,0,0,1,1,1,1,1,1,1,1]) (o := .tmp 253) (by kernel_rfl) (by kernel_rfl) (by kernel_rfl) h8 ?_
                            refine At.conv (Γ' := (RChA b6_5 e105_b6_5) :: (CacheA b6_2 e105_b6_2) :: Γ) (fun w hw => RChXA.shut (hw.pull (.there .here))) ?_
                            refine at_seq (x := C8 [1,1,1,1,1,1,0,1,0,0,1,0,0,1,1,1,1,1,1,1,0,0]) (y := C8 [1,1,1,1,1,1,0,1,0,0,1,0,0,1,1,1,1,1,1,1,0,1]) (by kernel_rfl) ?_
                            refine at_region (id := 52) 1 (by kernel_rfl) (by kernel_rfl) ?_
                            refine s_pure 6 (.bool false) (by kernel_rfl) (by kernel_rfl) (fun _ => by kernel_rfl) ?_
                            refine ops_end ?_
                            refine At.env [(6, .bool false)] ⟨by kernel_rfl, trivial⟩ ?_
                            refine at_then_normal ?_
                            refine at_ret (by kernel_rfl) ?_
                            refine at_in_ret ?_
                            refine at_then_ret ?_
                            refine at_then_ret ?_
                            refine at_in_ret ?_
                            refine at_then_ret ?_
                            obtain rfl := someE H
                            refine at_backR [.bool false] (Γ) (rs := [.tmp 6]) (by kernel_rfl) (.cons (.tmp (by kernel_rfl)) .nil) (fun w hw => (Sat.less (.drop .here (.drop .here .refl)) hw)) ?_
                            exact ⟨rfl, rfl⟩
                          · replace H := bifF H h8
                            refine at_false (t := !y51_32) (x := C8 [1,1,1,1,1,1,0,1,0,0,1,0,0,1,1,1,1,1,1,1,0]) (y := C8 [1,1,1,1,1,1,0,1,0,0,1,0,0,1,1,1,1,1,1,1,1]) (o := .tmp 253) (by kernel_rfl) (by kernel_rfl) (by kernel_rfl) h8 ?_
                            refine at_skip (by kernel_rfl) ?_
                            refine at_in_normal ?_
                            refine at_then_normal ?_
                            refine at_region (id := 11) 3 (by kernel_rfl) (by kernel_rfl) ?_
                            refine s_pure 56 (.int .i64 v2_9) (by kernel_rfl) (by kernel_rfl) (fun _ => by kernel_rfl) ?_
                            obtain ⟨hc11_1_0, H⟩ := chkE H
                            refine s_pure 57 (.int .i64 (v2_9 + (1 : Int))) (by kernel_rfl) (by kernel_rfl) (run_eq (v := .int .i64 (IntKind.i64.wrap (v2_9 + (1 : Int)))) (fun _ => by kernel_rfl) (by rw [inR.wrap hc11_1_0])) ?_
                            refine s_pure 9 (.int .i64 (v2_9 + (1 : Int))) (by kernel_rfl) (by kernel_rfl) (fun _ => by kernel_rfl) ?_
                            refine ops_end ?_
                            refine At.env [(2, .slice la (List.length l) lcap), (7, .pointer (some ⟨b6_2, 0, none⟩)), (8, .pointer (some ⟨b6_5, 0, none⟩)), (9, .int .i64 (v2_9 + (1 : Int)))] ⟨by kernel_rfl, by kernel_rfl, by kernel_rfl, by kernel_rfl, trivial⟩ ?_
                            refine at_round_normal ?_
                            refine At.conv (Γ' := (RChA b6_5 e105_b6_5) :: (CacheA b6_2 e105_b6_2) :: Γ) (fun w hw => RChXA.shut (hw.pull (.there .here))) ?_
                            exact at_roundR fuel1 [(2, .slice la (List.length l) lcap), (7, .pointer (some ⟨b6_2, 0, none⟩)), (8, .pointer (some ⟨b6_5, 0, none⟩)), (9, .int .i64 (v2_9 + (1 : Int)))] ((RChA b6_5 e105_b6_5) :: (CacheA b6_2 e105_b6_2) :: Γ) (Nat.lt_succ_self _) ⟨by kernel_rfl, by kernel_rfl, by kernel_rfl, by kernel_rfl, trivial⟩ (fun w hw => (Sat.less (.take .here (.take .here .refl)) hw)) ⟨fuel1, v2_9 + (1 : Int), e105_b6_5, e105_b6_2, H, rfl, rfl, rfl⟩
                      · replace H := bifF H h6
                        refine s_pure 243 (.bool false) (by kernel_rfl) (by kernel_rfl) (run_eq (v := .bool (!y49_2.2)) (fun _ => by kernel_rfl) (congrArg Value.bool h6)) ?_
                        refine s_pass 244 (by kernel_rfl) (by kernel_rfl) ?_
                        refine s_pass 245 (by kernel_rfl) (by kernel_rfl) ?_
                        refine s_pure 246 (.bool false) (by kernel_rfl) (by kernel_rfl) (fun _ => by kernel_rfl) ?_
                        refine s_pure 247 (.bool false) (by kernel_rfl) (by kernel_rfl) (fun _ => by kernel_rfl) ?_
                        refine s_pure 248 (.bool false) (by kernel_rfl) (by kernel_rfl) (fun _ => by kernel_rfl) ?_
                        refine s_pure 249 (.pointer (some ⟨b6_2, 0, none⟩)) (by kernel_rfl) (by kernel_rfl) (fun _ => by kernel_rfl) ?_
                        refine s_pure 250 (.pointer (some ⟨b6_5, 0, none⟩)) (by kernel_rfl) (by kernel_rfl) (fun _ => by kernel_rfl) ?_
                        obtain ⟨y51_32, hy51_32, H⟩ := bindE H
                        refine s_call 251 42 #[.pointer (some ⟨b6_2, 0, none⟩), .pointer (some ⟨b6_5, 0, none⟩)] (by kernel_rfl) (by kernel_rfl) (fun _ => by kernel_rfl) (Tr.conv (Γ' := (CacheA b6_2 e105_b6_2) :: (RChXA b6_5 x51_5_b6_5 e105_b6_5) :: Γ) (fun w hw => (Sat.less (.take (.there .here) (.take .here .refl)) hw)) (SameCF_tr b6_2 e105_b6_2 b6_5 x51_5_b6_5 e105_b6_5 y51_32 hy51_32)) ?_
                        rintro _ _ ⟨rfl, rfl⟩
                        refine s_pure 252 (.bool !y51_32) (by kernel_rfl) (by kernel_rfl) (fun _ => by kernel_rfl) ?_
                        refine s_pure 253 (.bool !y51_32) (by kernel_rfl) (by kernel_rfl) (fun _ => by kernel_rfl) ?_
                        refine ops_end ?_
                        refine At.env [(2, .slice la (List.length l) lcap), (7, .pointer (some ⟨b6_2, 0, none⟩)), (8, .pointer (some ⟨b6_5, 0, none⟩)), (9, .int .i64 v2_9), (253, .bool !y51_32)] ⟨by kernel_rfl, by kernel_rfl, by kernel_rfl, by kernel_rfl, by kernel_rfl, trivial⟩ ?_
                        refine at_then_normal ?_
                        rcases Bool.eq_false_or_eq_true (!y51_32) with h9 | h9
                        · replace H := bifT H h9
                          refine at_true (t := !y51_32) (x := C8 [1,1,1,1,1,1,0,1,0,0,1,0,0,1,1,1,1,1,1,1,0]) (y := C8 [1,1,1,1,1,1,0,1,0,0,1,0,0,1,1,1,1,1,1,1,1]) (o := .tmp 253) (by kernel_rfl) (by kernel_rfl) (by kernel_rfl) h9 ?_
                          refine At.conv (Γ' := (RChA b6_5 e105_b6_5) :: (CacheA b6_2 e105_b6_2) :: Γ) (fun w hw => RChXA.shut (hw.pull (.there .here))) ?_
                          refine at_seq (x := C8 [1,1,1,1,1,1,0,1,0,0,1,0,0,1,1,1,1,1,1,1,0,0]) (y := C8 [1,1,1,1,1,1,0,1,0,0,1,0,0,1,1,1,1,1,1,1,0,1]) (by kernel_rfl) ?_
                          refine at_region (id := 52) 1 (by kernel_rfl) (by kernel_rfl) ?_
                          refine s_pure 6 (.bool false) (by kernel_rfl) (by kernel_rfl) (fun _ => by kernel_rfl) ?_
                          refine ops_end ?_
                          refine At.env [(6, .bool false)] ⟨by kernel_rfl, trivial⟩ ?_
                          refine at_then_normal ?_
                          refine at_ret (by kernel_rfl) ?_
                          refine at_in_ret ?_
                          refine at_then_ret ?_
                          refine at_then_ret ?_
                          refine at_in_ret ?_
                          refine at_then_ret ?_
                          obtain rfl := someE H
                          refine at_backR [.bool false] (Γ) (rs := [.tmp 6]) (by kernel_rfl) (.cons (.tmp (by kernel_rfl)) .nil) (fun w hw => (Sat.less (.drop .here (.drop .here .refl)) hw)) ?_
                          exact ⟨rfl, rfl⟩
                        · replace H := bifF H h9
                          refine at_false (t := !y51_32) (x := C8 [1,1,1,1,1,1,0,1,0,0,1,0,0,1,1,1,1,1,1,1,0]) (y := C8 [1,1,1,1,1,1,0,1,0,0,1,0,0,1,1,1,1,1,1,1,1]) (o := .tmp 253) (by kernel_rfl) (by kernel_rfl) (by kernel_rfl) h9 ?_
                          refine at_skip (by kernel_rfl) ?_
                          refine at_in_normal ?_
                          refine at_then_normal ?_
                          refine at_region (id := 11) 3 (by kernel_rfl) (by kernel_rfl) ?_
                          refine s_pure 56 (.int .i64 v2_9) (by kernel_rfl) (by kernel_rfl) (fun _ => by kernel_rfl) ?_
                          obtain ⟨hc11_1_0, H⟩ := chkE H
                          refine s_pure 57 (.int .i64 (v2_9 + (1 : Int))) (by kernel_rfl) (by kernel_rfl) (run_eq (v := .int .i64 (IntKind.i64.wrap (v2_9 + (1 : Int)))) (fun _ => by kernel_rfl) (by rw [inR.wrap hc11_1_0])) ?_
                          refine s_pure 9 (.int .i64 (v2_9 + (1 : Int))) (by kernel_rfl) (by kernel_rfl) (fun _ => by kernel_rfl) ?_
                          refine ops_end ?_
                          refine At.env [(2, .slice la (List.length l) lcap), (7, .pointer (some ⟨b6_2, 0, none⟩)), (8, .pointer (some ⟨b6_5, 0, none⟩)), (9, .int .i64 (v2_9 + (1 : Int)))] ⟨by kernel_rfl, by kernel_rfl, by kernel_rfl, by kernel_rfl, trivial⟩ ?_
                          refine at_round_normal ?_
                          refine At.conv (Γ' := (RChA b6_5 e105_b6_5) :: (CacheA b6_2 e105_b6_2) :: Γ) (fun w hw => RChXA.shut (hw.pull (.there .here))) ?_
                          exact at_roundR fuel1 [(2, .slice la (List.length l) lcap), (7, .pointer (some ⟨b6_2, 0, none⟩)), (8, .pointer (some ⟨b6_5, 0, none⟩)), (9, .int .i64 (v2_9 + (1 : Int)))] ((RChA b6_5 e105_b6_5) :: (CacheA b6_2 e105_b6_2) :: Γ) (Nat.lt_succ_self _) ⟨by kernel_rfl, by kernel_rfl, by kernel_rfl, by kernel_rfl, trivial⟩ (fun w hw => (Sat.less (.take .here (.take .here .refl)) hw)) ⟨fuel1, v2_9 + (1 : Int), e105_b6_5, e105_b6_2, H, rfl, rfl, rfl⟩
                  · replace H := bifF H h4
                    refine s_pure 234 (.bool false) (by kernel_rfl) (by kernel_rfl) (run_eq (v := .bool (y49_2.2)) (fun _ => by kernel_rfl) (congrArg Value.bool h4)) ?_
                    refine s_pass 235 (by kernel_rfl) (by kernel_rfl) ?_
                    refine s_pass 236 (by kernel_rfl) (by kernel_rfl) ?_
                    refine s_pass 237 (by kernel_rfl) (by kernel_rfl) ?_
                    refine s_pure 238 (.bool false) (by kernel_rfl) (by kernel_rfl) (fun _ => by kernel_rfl) ?_
                    refine s_pure 239 (.bool false) (by kernel_rfl) (by kernel_rfl) (fun _ => by kernel_rfl) ?_
                    refine s_pure 240 (.bool false) (by kernel_rfl) (by kernel_rfl) (fun _ => by kernel_rfl) ?_
                    refine s_pure 241 (.bool y49_2.2) (by kernel_rfl) (by kernel_rfl) (fun _ => by kernel_rfl) ?_
                    refine s_pure 242 (.bool !y49_2.2) (by kernel_rfl) (by kernel_rfl) (fun _ => by kernel_rfl) ?_
                    rcases Bool.eq_false_or_eq_true (!y49_2.2) with h10 | h10
                    · replace H := bifT H h10
                      refine s_pure 243 (.bool true) (by kernel_rfl) (by kernel_rfl) (run_eq (v := .bool (!y49_2.2)) (fun _ => by kernel_rfl) (congrArg Value.bool h10)) ?_
                      refine s_pure 244 (.int .i64 y49_2.1) (by kernel_rfl) (by kernel_rfl) (fun _ => by kernel_rfl) ?_
                      refine s_pure 245 (.bool (!(decide (y49_2.1 = (0 : Int))))) (by kernel_rfl) (by kernel_rfl) (fun _ => by kernel_rfl) ?_
                      refine s_pure 246 (.bool (!(decide (y49_2.1 = (0 : Int))))) (by kernel_rfl) (by kernel_rfl) (fun _ => by kernel_rfl) ?_
                      refine s_pure 247 (.bool (!(decide (y49_2.1 = (0 : Int))))) (by kernel_rfl) (by kernel_rfl) (fun _ => by kernel_rfl) ?_
                      rcases Bool.eq_false_or_eq_true (!(decide (y49_2.1 = (0 : Int)))) with h11 | h11
                      · replace H := bifT H h11
                        refine s_pure 248 (.bool true) (by kernel_rfl) (by kernel_rfl) (run_eq (v := .bool (!(decide (y49_2.1 = (0 : Int))))) (fun _ => by kernel_rfl) (congrArg Value.bool h11)) ?_
                        refine s_pass 249 (by kernel_rfl) (by kernel_rfl) ?_
                        refine s_pass 250 (by kernel_rfl) (by kernel_rfl) ?_
                        refine s_pass 251 (by kernel_rfl) (by kernel_rfl) ?_
                        refine s_pass 252 (by kernel_rfl) (by kernel_rfl) ?_
                        refine s_pure 253 (.bool true) (by kernel_rfl) (by kernel_rfl) (fun _ => by kernel_rfl) ?_
                        refine ops_end ?_
                        refine At.env [(2, .slice la (List.length l) lcap), (7, .pointer (some ⟨b6_2, 0, none⟩)), (8, .pointer (some ⟨b6_5, 0, none⟩)), (9, .int .i64 v2_9), (253, .bool true)] ⟨by kernel_rfl, by kernel_rfl, by kernel_rfl, by kernel_rfl, by kernel_rfl, trivial⟩ ?_
                        refine at_then_normal ?_
                        refine at_true (t := true) (x := C8 [1,1,1,1,1,1,0,1,0,0,1,0,0,1,1,1,1,1,1,1,0]) (y := C8 [1,1,1,1,1,1,0,1,0,0,1,0,0,1,1,1,1,1,1,1,1]) (o := .tmp 253) (by kernel_rfl) (by kernel_rfl) (by kernel_rfl) rfl ?_
                        refine At.conv (Γ' := (RChA b6_5 e105_b6_5) :: (CacheA b6_2 e105_b6_2) :: Γ) (fun w hw => RChXA.shut (hw.pull .here)) ?_
                        refine at_seq (x := C8 [1,1,1,1,1,1,0,1,0,0,1,0,0,1,1,1,1,1,1,1,0,0]) (y := C8 [1,1,1,1,1,1,0,1,0,0,1,0,0,1,1,1,1,1,1,1,0,1]) (by kernel_rfl) ?_
                        refine at_region (id := 52) 1 (by kernel_rfl) (by kernel_rfl) ?_
                        refine s_pure 6 (.bool false) (by kernel_rfl) (by kernel_rfl) (fun _ => by kernel_rfl) ?_
                        refine ops_end ?_
                        refine At.env [(6, .bool false)] ⟨by kernel_rfl, trivial⟩ ?_
                        refine at_then_normal ?_
                        refine at_ret (by kernel_rfl) ?_
                        refine at_in_ret ?_
                        refine at_then_ret ?_
                        refine at_then_ret ?_
                        refine at_in_ret ?_
                        refine at_then_ret ?_
                        obtain rfl := someE H
                        refine at_backR [.bool false] (Γ) (rs := [.tmp 6]) (by kernel_rfl) (.cons (.tmp (by kernel_rfl)) .nil) (fun w hw => (Sat.less (.drop .here (.drop .here .refl)) hw)) ?_
                        exact ⟨rfl, rfl⟩
                      · replace H := bifF H h11
                        refine s_pure 248 (.bool false) (by kernel_rfl) (by kernel_rfl) (run_eq (v := .bool (!(decide (y49_2.1 = (0 : Int))))) (fun _ => by kernel_rfl) (congrArg Value.bool h11)) ?_
                        refine s_pure 249 (.pointer (some ⟨b6_2, 0, none⟩)) (by kernel_rfl) (by kernel_rfl) (fun _ => by kernel_rfl) ?_
                        refine s_pure 250 (.pointer (some ⟨b6_5, 0, none⟩)) (by kernel_rfl) (by kernel_rfl) (fun _ => by kernel_rfl) ?_
                        obtain ⟨y51_32, hy51_32, H⟩ := bindE H
                        refine s_call 251 42 #[.pointer (some ⟨b6_2, 0, none⟩), .pointer (some ⟨b6_5, 0, none⟩)] (by kernel_rfl) (by kernel_rfl) (fun _ => by kernel_rfl) (Tr.conv (Γ' := (CacheA b6_2 e105_b6_2) :: (RChXA b6_5 x51_5_b6_5 e105_b6_5) :: Γ) (fun w hw => (Sat.less (.take (.there .here) (.take .here .refl)) hw)) (SameCF_tr b6_2 e105_b6_2 b6_5 x51_5_b6_5 e105_b6_5 y51_32 hy51_32)) ?_
                        rintro _ _ ⟨rfl, rfl⟩
                        refine s_pure 252 (.bool !y51_32) (by kernel_rfl) (by kernel_rfl) (fun _ => by kernel_rfl) ?_
                        refine s_pure 253 (.bool !y51_32) (by kernel_rfl) (by kernel_rfl) (fun _ => by kernel_rfl) ?_
                        refine ops_end ?_
                        refine At.env [(2, .slice la (List.length l) lcap), (7, .pointer (some ⟨b6_2, 0, none⟩)), (8, .pointer (some ⟨b6_5, 0, none⟩)), (9, .int .i64 v2_9), (253, .bool !y51_32)] ⟨by kernel_rfl, by kernel_rfl, by kernel_rfl, by kernel_rfl, by kernel_rfl, trivial⟩ ?_
                        refine at_then_normal ?_
                        rcases Bool.eq_false_or_eq_true (!y51_32) with h12 | h12
                        · replace H := bifT H h12
                          refine at_true (t := !y51_32) (x := C8 [1,1,1,1,1,1,0,1,0,0,1,0,0,1,1,1,1,1,1,1,0]) (y := C8 [1,1,1,1,1,1,0,1,0,0,1,0,0,1,1,1,1,1,1,1,1]) (o := .tmp 253) (by kernel_rfl) (by kernel_rfl) (by kernel_rfl) h12 ?_
                          refine At.conv (Γ' := (RChA b6_5 e105_b6_5) :: (CacheA b6_2 e105_b6_2) :: Γ) (fun w hw => RChXA.shut (hw.pull (.there .here))) ?_
                          refine at_seq (x := C8 [1,1,1,1,1,1,0,1,0,0,1,0,0,1,1,1,1,1,1,1,0,0]) (y := C8 [1,1,1,1,1,1,0,1,0,0,1,0,0,1,1,1,1,1,1,1,0,1]) (by kernel_rfl) ?_
                          refine at_region (id := 52) 1 (by kernel_rfl) (by kernel_rfl) ?_
                          refine s_pure 6 (.bool false) (by kernel_rfl) (by kernel_rfl) (fun _ => by kernel_rfl) ?_
                          refine ops_end ?_
                          refine At.env [(6, .bool false)] ⟨by kernel_rfl, trivial⟩ ?_
                          refine at_then_normal ?_
                          refine at_ret (by kernel_rfl) ?_
                          refine at_in_ret ?_
                          refine at_then_ret ?_
                          refine at_then_ret ?_
                          refine at_in_ret ?_
                          refine at_then_ret ?_
                          obtain rfl := someE H
                          refine at_backR [.bool false] (Γ) (rs := [.tmp 6]) (by kernel_rfl) (.cons (.tmp (by kernel_rfl)) .nil) (fun w hw => (Sat.less (.drop .here (.drop .here .refl)) hw)) ?_
                          exact ⟨rfl, rfl⟩
                        · replace H := bifF H h12
                          refine at_false (t := !y51_32) (x := C8 [1,1,1,1,1,1,0,1,0,0,1,0,0,1,1,1,1,1,1,1,0]) (y := C8 [1,1,1,1,1,1,0,1,0,0,1,0,0,1,1,1,1,1,1,1,1]) (o := .tmp 253) (by kernel_rfl) (by kernel_rfl) (by kernel_rfl) h12 ?_
                          refine at_skip (by kernel_rfl) ?_
                          refine at_in_normal ?_
                          refine at_then_normal ?_
                          refine at_region (id := 11) 3 (by kernel_rfl) (by kernel_rfl) ?_
                          refine s_pure 56 (.int .i64 v2_9) (by kernel_rfl) (by kernel_rfl) (fun _ => by kernel_rfl) ?_
                          obtain ⟨hc11_1_0, H⟩ := chkE H
                          refine s_pure 57 (.int .i64 (v2_9 + (1 : Int))) (by kernel_rfl) (by kernel_rfl) (run_eq (v := .int .i64 (IntKind.i64.wrap (v2_9 + (1 : Int)))) (fun _ => by kernel_rfl) (by rw [inR.wrap hc11_1_0])) ?_
                          refine s_pure 9 (.int .i64 (v2_9 + (1 : Int))) (by kernel_rfl) (by kernel_rfl) (fun _ => by kernel_rfl) ?_
                          refine ops_end ?_
                          refine At.env [(2, .slice la (List.length l) lcap), (7, .pointer (some ⟨b6_2, 0, none⟩)), (8, .pointer (some ⟨b6_5, 0, none⟩)), (9, .int .i64 (v2_9 + (1 : Int)))] ⟨by kernel_rfl, by kernel_rfl, by kernel_rfl, by kernel_rfl, trivial⟩ ?_
                          refine at_round_normal ?_
                          refine At.conv (Γ' := (RChA b6_5 e105_b6_5) :: (CacheA b6_2 e105_b6_2) :: Γ) (fun w hw => RChXA.shut (hw.pull (.there .here))) ?_
                          exact at_roundR fuel1 [(2, .slice la (List.length l) lcap), (7, .pointer (some ⟨b6_2, 0, none⟩)), (8, .pointer (some ⟨b6_5, 0, none⟩)), (9, .int .i64 (v2_9 + (1 : Int)))] ((RChA b6_5 e105_b6_5) :: (CacheA b6_2 e105_b6_2) :: Γ) (Nat.lt_succ_self _) ⟨by kernel_rfl, by kernel_rfl, by kernel_rfl, by kernel_rfl, trivial⟩ (fun w hw => (Sat.less (.take .here (.take .here .refl)) hw)) ⟨fuel1, v2_9 + (1 : Int), e105_b6_5, e105_b6_2, H, rfl, rfl, rfl⟩
                    · replace H := bifF H h10
                      refine s_pure 243 (.bool false) (by kernel_rfl) (by kernel_rfl) (run_eq (v := .bool (!y49_2.2)) (fun _ => by kernel_rfl) (congrArg Value.bool h10)) ?_
                      refine s_pass 244 (by kernel_rfl) (by kernel_rfl) ?_
                      refine s_pass 245 (by kernel_rfl) (by kernel_rfl) ?_
                      refine s_pure 246 (.bool false) (by kernel_rfl) (by kernel_rfl) (fun _ => by kernel_rfl) ?_
                      refine s_pure 247 (.bool false) (by kernel_rfl) (by kernel_rfl) (fun _ => by kernel_rfl) ?_
                      refine s_pure 248 (.bool false) (by kernel_rfl) (by kernel_rfl) (fun _ => by kernel_rfl) ?_
                      refine s_pure 249 (.pointer (some ⟨b6_2, 0, none⟩)) (by kernel_rfl) (by kernel_rfl) (fun _ => by kernel_rfl) ?_
                      refine s_pure 250 (.pointer (some ⟨b6_5, 0, none⟩)) (by kernel_rfl) (by kernel_rfl) (fun _ => by kernel_rfl) ?_
                      obtain ⟨y51_32, hy51_32, H⟩ := bindE H
                      refine s_call 251 42 #[.pointer (some ⟨b6_2, 0, none⟩), .pointer (some ⟨b6_5, 0, none⟩)] (by kernel_rfl) (by kernel_rfl) (fun _ => by kernel_rfl) (Tr.conv (Γ' := (CacheA b6_2 e105_b6_2) :: (RChXA b6_5 x51_5_b6_5 e105_b6_5) :: Γ) (fun w hw => (Sat.less (.take (.there .here) (.take .here .refl)) hw)) (SameCF_tr b6_2 e105_b6_2 b6_5 x51_5_b6_5 e105_b6_5 y51_32 hy51_32)) ?_
                      rintro _ _ ⟨rfl, rfl⟩
                      refine s_pure 252 (.bool !y51_32) (by kernel_rfl) (by kernel_rfl) (fun _ => by kernel_rfl) ?_
                      refine s_pure 253 (.bool !y51_32) (by kernel_rfl) (by kernel_rfl) (fun _ => by kernel_rfl) ?_
                      refine ops_end ?_
                      refine At.env [(2, .slice la (List.length l) lcap), (7, .pointer (some ⟨b6_2, 0, none⟩)), (8, .pointer (some ⟨b6_5, 0, none⟩)), (9, .int .i64 v2_9), (253, .bool !y51_32)] ⟨by kernel_rfl, by kernel_rfl, by kernel_rfl, by kernel_rfl, by kernel_rfl, trivial⟩ ?_
                      refine at_then_normal ?_
                      rcases Bool.eq_false_or_eq_true (!y51_32) with h13 | h13
                      · replace H := bifT H h13
                        refine at_true (t := !y51_32) (x := C8 [1,1,1,1,1,1,0,1,0,0,1,0,0,1,1,1,1,1,1,1,0]) (y := C8 [1,1,1,1,1,1,0,1,0,0,1,0,0,1,1,1,1,1,1,1,1]) (o := .tmp 253) (by kernel_rfl) (by kernel_rfl) (by kernel_rfl) h13 ?_
                        refine At.conv (Γ' := (RChA b6_5 e105_b6_5) :: (CacheA b6_2 e105_b6_2) :: Γ) (fun w hw => RChXA.shut (hw.pull (.there .here))) ?_
                        refine at_seq (x := C8 [1,1,1,1,1,1,0,1,0,0,1,0,0,1,1,1,1,1,1,1,0,0]) (y := C8 [1,1,1,1,1,1,0,1,0,0,1,0,0,1,1,1,1,1,1,1,0,1]) (by kernel_rfl) ?_
                        refine at_region (id := 52) 1 (by kernel_rfl) (by kernel_rfl) ?_
                        refine s_pure 6 (.bool false) (by kernel_rfl) (by kernel_rfl) (fun _ => by kernel_rfl) ?_
                        refine ops_end ?_
                        refine At.env [(6, .bool false)] ⟨by kernel_rfl, trivial⟩ ?_
                        refine at_then_normal ?_
                        refine at_ret (by kernel_rfl) ?_
                        refine at_in_ret ?_
                        refine at_then_ret ?_
                        refine at_then_ret ?_
                        refine at_in_ret ?_
                        refine at_then_ret ?_
                        obtain rfl := someE H
                        refine at_backR [.bool false] (Γ) (rs := [.tmp 6]) (by kernel_rfl) (.cons (.tmp (by kernel_rfl)) .nil) (fun w hw => (Sat.less (.drop .here (.drop .here .refl)) hw)) ?_
                        exact ⟨rfl, rfl⟩
                      · replace H := bifF H h13
                        refine at_false (t := !y51_32) (x := C8 [1,1,1,1,1,1,0,1,0,0,1,0,0,1,1,1,1,1,1,1,0]) (y := C8 [1,1,1,1,1,1,0,1,0,0,1,0,0,1,1,1,1,1,1,1,1]) (o := .tmp 253) (by kernel_rfl) (by kernel_rfl) (by kernel_rfl) h13 ?_
                        refine at_skip (by kernel_rfl) ?_
                        refine at_in_normal ?_
                        refine at_then_normal ?_
                        refine at_region (id := 11) 3 (by kernel_rfl) (by kernel_rfl) ?_
                        refine s_pure 56 (.int .i64 v2_9) (by kernel_rfl) (by kernel_rfl) (fun _ => by kernel_rfl) ?_
                        obtain ⟨hc11_1_0, H⟩ := chkE H
                        refine s_pure 57 (.int .i64 (v2_9 + (1 : Int))) (by kernel_rfl) (by kernel_rfl) (run_eq (v := .int .i64 (IntKind.i64.wrap (v2_9 + (1 : Int)))) (fun _ => by kernel_rfl) (by rw [inR.wrap hc11_1_0])) ?_
                        refine s_pure 9 (.int .i64 (v2_9 + (1 : Int))) (by kernel_rfl) (by kernel_rfl) (fun _ => by kernel_rfl) ?_
                        refine ops_end ?_
                        refine At.env [(2, .slice la (List.length l) lcap), (7, .pointer (some ⟨b6_2, 0, none⟩)), (8, .pointer (some ⟨b6_5, 0, none⟩)), (9, .int .i64 (v2_9 + (1 : Int)))] ⟨by kernel_rfl, by kernel_rfl, by kernel_rfl, by kernel_rfl, trivial⟩ ?_
                        refine at_round_normal ?_
                        refine At.conv (Γ' := (RChA b6_5 e105_b6_5) :: (CacheA b6_2 e105_b6_2) :: Γ) (fun w hw => RChXA.shut (hw.pull (.there .here))) ?_
                        exact at_roundR fuel1 [(2, .slice la (List.length l) lcap), (7, .pointer (some ⟨b6_2, 0, none⟩)), (8, .pointer (some ⟨b6_5, 0, none⟩)), (9, .int .i64 (v2_9 + (1 : Int)))] ((RChA b6_5 e105_b6_5) :: (CacheA b6_2 e105_b6_2) :: Γ) (Nat.lt_succ_self _) ⟨by kernel_rfl, by kernel_rfl, by kernel_rfl, by kernel_rfl, trivial⟩ (fun w hw => (Sat.less (.take .here (.take .here .refl)) hw)) ⟨fuel1, v2_9 + (1 : Int), e105_b6_5, e105_b6_2, H, rfl, rfl, rfl⟩
            · refine at_seq (x := C8 [1,1,1,1,1,1,0,1,0,0,1,0,0,1,1,1,0,0]) (y := C8 [1,1,1,1,1,1,0,1,0,0,1,0,0,1,1,1,0,1]) (by kernel_rfl) ?_
              refine at_region (id := 16) 3 (by kernel_rfl) (by kernel_rfl) ?_
              refine s_pure 72 (.pointer (some ⟨b12_4, 0, none⟩)) (by kernel_rfl) (by kernel_rfl) (fun _ => by kernel_rfl) ?_
              refine s_load 73 (.int .i64 x12_3.act) (by kernel_rfl) (by kernel_rfl) (load1 (off := 0) (fun _ => by kernel_rfl) (holds_own .here) (by kernel_rfl)) ?_
              obtain ⟨y16_2, hy16_2, H⟩ := bindE H
              refine s_quiet 74 (.int .i64 y16_2) 17 #[.int .i64 x12_3.act, .int .i64 (8)] (by kernel_rfl) (by kernel_rfl) (fun _ => by kernel_rfl) (WithinF_tr x12_3.act (8 : Int) y16_2 hy16_2) ?_
              refine ops_end ?_
              refine At.env [(2, .slice la (List.length l) lcap), (7, .pointer (some ⟨b6_2, 0, none⟩)), (8, .pointer (some ⟨b6_5, 0, none⟩)), (9, .int .i64 v2_9), (10, .pointer (some ⟨b12_4, 0, none⟩)), (11, .int .i64 e84_11), (74, .int .i64 y16_2)] ⟨by kernel_rfl, by kernel_rfl, by kernel_rfl, by kernel_rfl, by kernel_rfl, by kernel_rfl, by kernel_rfl, trivial⟩ ?_
              refine at_then_normal ?_
              refine at_block (i := 2) (x := C8 [1,1,1,1,1,1,0,1,0,0,1,0,0,1,1,1,0,1,0]) (by kernel_rfl) ?_
              refine at_seq_join (x := C8 [1,1,1,1,1,1,0,1,0,0,1,0,0,1,1,1,0,1,0,0]) (y := C8 [1,1,1,1,1,1,0,1,0,0,1,0,0,1,1,1,0,1,0,1]) (fun ff ΔΔ => ∃ (e106_117 : Bool), cachePlaysS_j106 x12_3 e84_11 v2_b6_2 v2_b6_5 v2_9 (cachePlaysS_l2 l (cachePlaysS_k2 ) fuel1) y16_2 e106_117 = some y ∧ ff = [(2, .slice la (List.length l) lcap), (7, .pointer (some ⟨b6_2, 0, none⟩)), (8, .pointer (some ⟨b6_5, 0, none⟩)), (9, .int .i64 v2_9), (10, .pointer (some ⟨b12_4, 0, none⟩)), (11, .int .i64 e84_11), (74, .int .i64 y16_2), (117, .bool e106_117)] ∧ (Asn.own b12_4 (.cells #[.int .i64 x12_3.act, .int .i64 x12_3.line, .int .i64 x12_3.fwd, .int .i64 x12_3.back, .bool x12_3.dirty, .slice a12_3 (List.length x12_3.data) c12_3] 57 (0, 0))) :: (ImmI a12_3 x12_3.data) :: (RChA b6_5 v2_b6_5) :: (CacheA b6_2 v2_b6_2) :: Γ = ΔΔ) (by kernel_rfl) ?_ ?_
              · rintro _ _ ⟨e106_117, H, rfl, rfl⟩
                rw [cachePlaysS_j106] at H
                rcases Bool.eq_false_or_eq_true (e106_117) with h14 | h14
                · replace H := bifT H h14
                  refine at_true (t := e106_117) (x := C8 [1,1,1,1,1,1,0,1,0,0,1,0,0,1,1,1,0,1,0,1,0]) (y := C8 [1,1,1,1,1,1,0,1,0,0,1,0,0,1,1,1,0,1,0,1,1]) (o := .tmp 117) (by kernel_rfl) (by kernel_rfl) (by kernel_rfl) h14 ?_
                  refine at_seq (x := C8 [1,1,1,1,1,1,0,1,0,0,1,0,0,1,1,1,0,1,0,1,0,0]) (y := C8 [1,1,1,1,1,1,0,1,0,0,1,0,0,1,1,1,0,1,0,1,0,1]) (by kernel_rfl) ?_
                  refine at_region (id := 30) 4 (by kernel_rfl) (by kernel_rfl) ?_
                  refine s_pure 122 (.pointer (some ⟨b12_4, 5, none⟩)) (by kernel_rfl) (by kernel_rfl) (fun _ => by kernel_rfl) ?_
                  refine s_load 123 (.slice a12_3 (List.length x12_3.data) c12_3) (by kernel_rfl) (by kernel_rfl) (load1 (off := 5) (fun _ => by kernel_rfl) (holds_own .here) (by kernel_rfl)) ?_
                  obtain ⟨y30_2, hy30_2, H⟩ := bindE H
                  refine s_call 124 14 #[.slice a12_3 (List.length x12_3.data) c12_3, .int .i64 (4)] (by kernel_rfl) (by kernel_rfl) (fun _ => by kernel_rfl) (CutF_tr a12_3 c12_3 x12_3.data (4 : Int) (ImmR.reads (k := 1) (.there .here)) hcpx12_3 y30_2 hy30_2) ?_
                  rintro _ _ ⟨a30_2_00, c30_2_00, rfl, rfl⟩
                  refine s_pure 12 (.slice a30_2_00 (List.length y30_2) c30_2_00) (by kernel_rfl) (by kernel_rfl) (fun _ => by kernel_rfl) ?_
                  refine ops_end ?_
                  refine At.env [(2, .slice la (List.length l) lcap), (7, .pointer (some ⟨b6_2, 0, none⟩)), (8, .pointer (some ⟨b6_5, 0, none⟩)), (9, .int .i64 v2_9), (10, .pointer (some ⟨b12_4, 0, none⟩)), (11, .int .i64 e84_11), (12, .slice a30_2_00 (List.length y30_2) c30_2_00)] ⟨by kernel_rfl, by kernel_rfl, by kernel_rfl, by kernel_rfl, by kernel_rfl, by kernel_rfl, by kernel_rfl, trivial⟩ ?_
                  refine at_then_normal ?_
                  refine at_seq (x := C8 [1,1,1,1,1,1,0,1,0,0,1,0,0,1,1,1,0,1,0,1,0,1,0]) (y := C8 [1,1,1,1,1,1,0,1,0,0,1,0,0,1,1,1,0,1,0,1,0,1,1]) (by kernel_rfl) ?_
                  refine at_region (id := 31) 11 (by kernel_rfl) (by kernel_rfl) ?_
                  refine s_pure 125 (.int .i64 e84_11) (by kernel_rfl) (by kernel_rfl) (fun _ => by kernel_rfl) ?_
                  refine s_pure 126 (.pointer (some ⟨b12_4, 2, none⟩)) (by kernel_rfl) (by kernel_rfl) (fun _ => by kernel_rfl) ?_
                  refine s_load 127 (.int .i64 x12_3.fwd) (by kernel_rfl) (by kernel_rfl) (load1 (off := 2) (fun _ => by kernel_rfl) (holds_own (.there .here)) (by kernel_rfl)) ?_
                  refine s_pure 128 (.pointer (some ⟨b12_4, 3, none⟩)) (by kernel_rfl) (by kernel_rfl) (fun _ => by kernel_rfl) ?_
                  refine s_load 129 (.int .i64 x12_3.back) (by kernel_rfl) (by kernel_rfl) (load1 (off := 3) (fun _ => by kernel_rfl) (holds_own (.there .here)) (by kernel_rfl)) ?_
                  refine s_pure 130 (.pointer (some ⟨b12_4, 4, none⟩)) (by kernel_rfl) (by kernel_rfl) (fun _ => by kernel_rfl) ?_
                  refine s_load 131 (.bool x12_3.dirty) (by kernel_rfl) (by kernel_rfl) (load1 (off := 4) (fun _ => by kernel_rfl) (holds_own (.there .here)) (by kernel_rfl)) ?_
                  refine s_pure 132 (.slice a30_2_00 (List.length y30_2) c30_2_00) (by kernel_rfl) (by kernel_rfl) (fun _ => by kernel_rfl) ?_
                  obtain ⟨y31_8, hy31_8, H⟩ := bindE H
                  refine s_call 133 16 #[.int .i64 e84_11, .int .i64 x12_3.fwd, .int .i64 x12_3.back, .bool x12_3.dirty, .slice a30_2_00 (List.length y30_2) c30_2_00] (by kernel_rfl) (by kernel_rfl) (fun _ => by kernel_rfl) (ENewF_tr e84_11 x12_3.fwd x12_3.back x12_3.dirty a30_2_00 c30_2_00 y30_2 (RowsA.reads (k := 1) .here) y31_8 hy31_8) ?_
                  rintro _ _ ⟨a31_8_00, c31_8_00, rfl, rfl⟩
                  refine s_step 13 (by kernel_rfl) (by kernel_rfl) (st_new (T := 31) (cells := #[.int .i64 (0), .int .i64 (0), .int .i64 (0), .int .i64 (0), .bool false, .slice none 0 0]) (fun a => .pointer (some a)) (fun _ => by kernel_rfl)) ?_
                  rintro _ _ ⟨b31_9, rfl, rfl⟩
                  refine s_do (by kernel_rfl) (by kernel_rfl) (st_store (off := 0) (vs := [.int .i64 y31_8.fwd, .int .i64 y31_8.back, .int .i64 y31_8.line, .int .i64 y31_8.used, .bool y31_8.dirty, .slice a31_8_00 (List.length y31_8.data) c31_8_00]) (c' := #[.int .i64 y31_8.fwd, .int .i64 y31_8.back, .int .i64 y31_8.line, .int .i64 y31_8.used, .bool y31_8.dirty, .slice a31_8_00 (List.length y31_8.data) c31_8_00]) (fun _ => by kernel_rfl) .here (by kernel_rfl) (by kernel_rfl) (by kernel_rfl)) ?_
                  rintro _ _ ⟨rfl, rfl⟩
                  refine ops_end ?_
                  refine At.env [(2, .slice la (List.length l) lcap), (7, .pointer (some ⟨b6_2, 0, none⟩)), (8, .pointer (some ⟨b6_5, 0, none⟩)), (9, .int .i64 v2_9), (10, .pointer (some ⟨b12_4, 0, none⟩)), (11, .int .i64 e84_11), (13, .pointer (some ⟨b31_9, 0, none⟩))] ⟨by kernel_rfl, by kernel_rfl, by kernel_rfl, by kernel_rfl, by kernel_rfl, by kernel_rfl, by kernel_rfl, trivial⟩ ?_
                  refine at_then_normal ?_
                  refine at_seq (x := C8 [1,1,1,1,1,1,0,1,0,0,1,0,0,1,1,1,0,1,0,1,0,1,1,0]) (y := C8 [1,1,1,1,1,1,0,1,0,0,1,0,0,1,1,1,0,1,0,1,0,1,1,1]) (by kernel_rfl) ?_
                  refine at_region (id := 32) 4 (by kernel_rfl) (by kernel_rfl) ?_
                  refine s_pure 134 (.pointer (some ⟨b12_4, 2, none⟩)) (by kernel_rfl) (by kernel_rfl) (fun _ => by kernel_rfl) ?_
                  refine s_load 135 (.int .i64 x12_3.fwd) (by kernel_rfl) (by kernel_rfl) (load1 (off := 2) (fun _ => by kernel_rfl) (holds_own (.there (.there (.there .here)))) (by kernel_rfl)) ?_
                  refine s_pure 136 (.pointer (some ⟨b31_9, 3, none⟩)) (by kernel_rfl) (by kernel_rfl) (fun _ => by kernel_rfl) ?_
                  refine s_do (by kernel_rfl) (by kernel_rfl) (st_store (off := 3) (vs := [.int .i64 x12_3.fwd]) (c' := #[.int .i64 y31_8.fwd, .int .i64 y31_8.back, .int .i64 y31_8.line, .int .i64 x12_3.fwd, .bool y31_8.dirty, .slice a31_8_00 (List.length y31_8.data) c31_8_00]) (fun _ => by kernel_rfl) .here (by kernel_rfl) (by kernel_rfl) (by kernel_rfl)) ?_
                  rintro _ _ ⟨rfl, rfl⟩
                  refine ops_end ?_
                  refine At.env [(2, .slice la (List.length l) lcap), (7, .pointer (some ⟨b6_2, 0, none⟩)), (8, .pointer (some ⟨b6_5, 0, none⟩)), (9, .int .i64 v2_9), (11, .int .i64 e84_11), (13, .pointer (some ⟨b31_9, 0, none⟩))] ⟨by kernel_rfl, by kernel_rfl, by kernel_rfl, by kernel_rfl, by kernel_rfl, by kernel_rfl, trivial⟩ ?_
                  refine at_then_normal ?_
                  refine at_seq (x := C8 [1,1,1,1,1,1,0,1,0,0,1,0,0,1,1,1,0,1,0,1,0,1,1,1,0]) (y := C8 [1,1,1,1,1,1,0,1,0,0,1,0,0,1,1,1,0,1,0,1,0,1,1,1,1]) (by kernel_rfl) ?_
                  refine at_seq (x := C8 [1,1,1,1,1,1,0,1,0,0,1,0,0,1,1,1,0,1,0,1,0,1,1,1,0,0]) (y := C8 [1,1,1,1,1,1,0,1,0,0,1,0,0,1,1,1,0,1,0,1,0,1,1,1,0,1]) (by kernel_rfl) ?_
                  refine at_region_draw (id := 33) (by kernel_rfl) (by kernel_rfl) ?_
                  refine d_pure 0 137 (.pointer (some ⟨b6_2, 0, none⟩)) (by kernel_rfl) (by kernel_rfl) (by kernel_rfl) (fun _ => by kernel_rfl) ?_
                  refine d_load 1 138 (.agg #[.int .i64 y31_8.fwd, .int .i64 y31_8.back, .int .i64 y31_8.line, .int .i64 x12_3.fwd, .bool y31_8.dirty, .slice a31_8_00 (List.length y31_8.data) c31_8_00]) (by kernel_rfl) (by kernel_rfl) (by kernel_rfl) (loadN (off := 0) (vs := [.int .i64 y31_8.fwd, .int .i64 y31_8.back, .int .i64 y31_8.line, .int .i64 x12_3.fwd, .bool y31_8.dirty, .slice a31_8_00 (List.length y31_8.data) c31_8_00]) 6 (fun _ => by kernel_rfl) (holds_own .here) rfl (by exact ⟨rfl, rfl, rfl, rfl, rfl, rfl, trivial⟩)) ?_
                  refine d_pure 3 140 (.pointer (some ⟨b6_5, 0, none⟩)) (by kernel_rfl) (by kernel_rfl) (by kernel_rfl) (fun _ => by kernel_rfl) ?_
                  refine d_load 4 141 (.agg #[.int .i64 y31_8.fwd, .int .i64 y31_8.back, .int .i64 y31_8.line, .int .i64 x12_3.fwd, .bool y31_8.dirty, .slice a31_8_00 (List.length y31_8.data) c31_8_00]) (by kernel_rfl) (by kernel_rfl) (by kernel_rfl) (loadN (off := 0) (vs := [.int .i64 y31_8.fwd, .int .i64 y31_8.back, .int .i64 y31_8.line, .int .i64 x12_3.fwd, .bool y31_8.dirty, .slice a31_8_00 (List.length y31_8.data) c31_8_00]) 6 (fun _ => by kernel_rfl) (holds_own .here) rfl (by exact ⟨rfl, rfl, rfl, rfl, rfl, rfl, trivial⟩)) ?_
                  obtain ⟨y33_2, hy33_2, H⟩ := bindE H
                  refine d_call 2 139 [0, 1] [3] [4] 15 #[.pointer (some ⟨b6_2, 0, none⟩), .agg #[.int .i64 y31_8.fwd, .int .i64 y31_8.back, .int .i64 y31_8.line, .int .i64 x12_3.fwd, .bool y31_8.dirty, .slice a31_8_00 (List.length y31_8.data) c31_8_00]] (by kernel_rfl) (by kernel_rfl) (by kernel_rfl) (fun _ => by kernel_rfl) (Tr.conv (Γ' := (CacheA b6_2 v2_b6_2) :: (Asn.own b31_9 (.cells #[.int .i64 y31_8.fwd, .int .i64 y31_8.back, .int .i64 y31_8.line, .int .i64 x12_3.fwd, .bool y31_8.dirty, .slice a31_8_00 (List.length y31_8.data) c31_8_00] 31 (0, 0))) :: (IntsA a31_8_00 c31_8_00 y31_8.data) :: (IntsA a30_2_00 c30_2_00 y30_2) :: (Asn.own b12_4 (.cells #[.int .i64 x12_3.act, .int .i64 x12_3.line, .int .i64 x12_3.fwd, .int .i64 x12_3.back, .bool x12_3.dirty, .slice a12_3 (List.length x12_3.data) c12_3] 57 (0, 0))) :: (ImmI a12_3 x12_3.data) :: (RChA b6_5 v2_b6_5) :: Γ) (fun w hw => (Sat.less (.take (.there (.there (.there (.there (.there (.there .here)))))) (.take .here (.take .here (.take .here (.take .here (.take .here (.take .here .refl))))))) hw)) (PutF_tr b6_2 v2_b6_2 a31_8_00 c31_8_00 (⟨y31_8.fwd, y31_8.back, y31_8.line, x12_3.fwd, y31_8.dirty, y31_8.data⟩ : Ent) (RowsA.reads (k := 1) (.there .here)) y33_2 hy33_2)) ?_
                  rintro _ _ ⟨rfl, rfl⟩
                  refine ⟨(stable_cons 4 141 (.agg #[.int .i64 y31_8.fwd, .int .i64 y31_8.back, .int .i64 y31_8.line, .int .i64 x12_3.fwd, .bool y31_8.dirty, .slice a31_8_00 (List.length y31_8.data) c31_8_00]) (by kernel_rfl) (by kernel_rfl) (by kernel_rfl) (loadN (off := 0) (vs := [.int .i64 y31_8.fwd, .int .i64 y31_8.back, .int .i64 y31_8.line, .int .i64 x12_3.fwd, .bool y31_8.dirty, .slice a31_8_00 (List.length y31_8.data) c31_8_00]) 6 (fun _ => by kernel_rfl) (holds_own (.there .here)) rfl (by exact ⟨rfl, rfl, rfl, rfl, rfl, rfl, trivial⟩)) stable_nil), ?_⟩
                  refine d_call 5 142 [4, 2, 0, 1] [3] [] 34 #[.agg #[.int .i64 y31_8.fwd, .int .i64 y31_8.back, .int .i64 y31_8.line, .int .i64 x12_3.fwd, .bool y31_8.dirty, .slice a31_8_00 (List.length y31_8.data) c31_8_00]] (by kernel_rfl) (by kernel_rfl) (by kernel_rfl) (fun _ => by kernel_rfl) (Ref_tr y31_8.fwd y31_8.back y31_8.line x12_3.fwd y31_8.dirty a31_8_00 (List.length y31_8.data) c31_8_00 ) ?_
                  rintro _ _ ⟨rfl, rfl⟩
                  refine ⟨stable_nil, ?_⟩
                  obtain ⟨y33_6, hy33_6, H⟩ := bindE H
                  refine d_call 6 143 [3, 5, 4, 2, 0, 1] [] [] 33 #[.pointer (some ⟨b6_5, 0, none⟩), .agg #[.int .i64 y31_8.fwd, .int .i64 y31_8.back, .int .i64 y31_8.line, .int .i64 x12_3.fwd, .bool y31_8.dirty, .slice a31_8_00 (List.length y31_8.data) c31_8_00]] (by kernel_rfl) (by kernel_rfl) (by kernel_rfl) (fun _ => by kernel_rfl) (Tr.conv (Γ' := (RChA b6_5 v2_b6_5) :: (CacheA b6_2 y33_2.2) :: (Asn.own b31_9 (.cells #[.int .i64 y31_8.fwd, .int .i64 y31_8.back, .int .i64 y31_8.line, .int .i64 x12_3.fwd, .bool y31_8.dirty, .slice a31_8_00 (List.length y31_8.data) c31_8_00] 31 (0, 0))) :: (IntsA a31_8_00 c31_8_00 y31_8.data) :: (IntsA a30_2_00 c30_2_00 y30_2) :: (Asn.own b12_4 (.cells #[.int .i64 x12_3.act, .int .i64 x12_3.line, .int .i64 x12_3.fwd, .int .i64 x12_3.back, .bool x12_3.dirty, .slice a12_3 (List.length x12_3.data) c12_3] 57 (0, 0))) :: (ImmI a12_3 x12_3.data) :: Γ) (fun w hw => (Sat.less (.take (.there (.there (.there (.there (.there (.there .here)))))) (.take .here (.take .here (.take .here (.take .here (.take .here (.take .here .refl))))))) hw)) (RPutF_tr b6_5 v2_b6_5 a31_8_00 c31_8_00 (⟨y31_8.fwd, y31_8.back, y31_8.line, x12_3.fwd, y31_8.dirty, y31_8.data⟩ : Ent) (RowsA.reads (k := 1) (.there (.there .here))) y33_6 hy33_6)) ?_
                  rintro _ _ ⟨rfl, rfl⟩
                  refine ⟨stable_nil, ?_⟩
                  refine d_pure 7 144 (.bool (!(decide (y33_2.1 = y33_6.1)))) (by kernel_rfl) (by kernel_rfl) (by kernel_rfl) (fun _ => by kernel_rfl) ?_
                  refine draw_end (by kernel_rfl) ?_
                  refine At.env [(2, .slice la (List.length l) lcap), (7, .pointer (some ⟨b6_2, 0, none⟩)), (8, .pointer (some ⟨b6_5, 0, none⟩)), (9, .int .i64 v2_9), (11, .int .i64 e84_11), (13, .pointer (some ⟨b31_9, 0, none⟩)), (144, .bool (!(decide (y33_2.1 = y33_6.1))))] ⟨by kernel_rfl, by kernel_rfl, by kernel_rfl, by kernel_rfl, by kernel_rfl, by kernel_rfl, by kernel_rfl, trivial⟩ ?_
                  refine at_then_normal ?_
                  rcases Bool.eq_false_or_eq_true (!(decide (y33_2.1 = y33_6.1))) with h15 | h15
                  · replace H := bifT H h15
                    refine at_true (t := !(decide (y33_2.1 = y33_6.1))) (x := C8 [1,1,1,1,1,1,0,1,0,0,1,0,0,1,1,1,0,1,0,1,0,1,1,1,0,1,0]) (y := C8 [1,1,1,1,1,1,0,1,0,0,1,0,0,1,1,1,0,1,0,1,0,1,1,1,0,1,1]) (o := .tmp 144) (by kernel_rfl) (by kernel_rfl) (by kernel_rfl) h15 ?_
                    refine at_seq (x := C8 [1,1,1,1,1,1,0,1,0,0,1,0,0,1,1,1,0,1,0,1,0,1,1,1,0,1,0,0]) (y := C8 [1,1,1,1,1,1,0,1,0,0,1,0,0,1,1,1,0,1,0,1,0,1,1,1,0,1,0,1]) (by kernel_rfl) ?_
                    refine at_region (id := 34) 1 (by kernel_rfl) (by kernel_rfl) ?_
                    refine s_pure 6 (.bool false) (by kernel_rfl) (by kernel_rfl) (fun _ => by kernel_rfl) ?_
                    refine ops_end ?_
                    refine At.env [(6, .bool false)] ⟨by kernel_rfl, trivial⟩ ?_
                    refine at_then_normal ?_
                    refine at_ret (by kernel_rfl) ?_
                    refine at_then_ret ?_
                    refine at_in_ret ?_
                    refine at_then_ret ?_
                    refine at_in_ret ?_
                    refine at_then_ret ?_
                    refine at_then_ret ?_
                    refine at_in_ret ?_
                    refine at_then_ret ?_
                    obtain rfl := someE H
                    refine at_backR [.bool false] (Γ) (rs := [.tmp 6]) (by kernel_rfl) (.cons (.tmp (by kernel_rfl)) .nil) (fun w hw => (Sat.less (.drop .here (.drop .here (.drop .here (.drop .here (.drop .here (.drop .here (.drop .here .refl))))))) hw)) ?_
                    exact ⟨rfl, rfl⟩
                  · replace H := bifF H h15
                    refine at_false (t := !(decide (y33_2.1 = y33_6.1))) (x := C8 [1,1,1,1,1,1,0,1,0,0,1,0,0,1,1,1,0,1,0,1,0,1,1,1,0,1,0]) (y := C8 [1,1,1,1,1,1,0,1,0,0,1,0,0,1,1,1,0,1,0,1,0,1,1,1,0,1,1]) (o := .tmp 144) (by kernel_rfl) (by kernel_rfl) (by kernel_rfl) h15 ?_
                    refine at_skip (by kernel_rfl) ?_
                    refine at_then_normal ?_
                    refine at_seq (x := C8 [1,1,1,1,1,1,0,1,0,0,1,0,0,1,1,1,0,1,0,1,0,1,1,1,1,0]) (y := C8 [1,1,1,1,1,1,0,1,0,0,1,0,0,1,1,1,0,1,0,1,0,1,1,1,1,1]) (by kernel_rfl) ?_
                    refine at_region (id := 35) 4 (by kernel_rfl) (by kernel_rfl) ?_
                    refine s_pure 145 (.pointer (some ⟨b31_9, 5, none⟩)) (by kernel_rfl) (by kernel_rfl) (fun _ => by kernel_rfl) ?_
                    refine s_load 146 (.slice a31_8_00 (List.length y31_8.data) c31_8_00) (by kernel_rfl) (by kernel_rfl) (load1 (off := 5) (fun _ => by kernel_rfl) (holds_own (.there (.there .here))) (by kernel_rfl)) ?_
                    refine s_pure 147 (.int .i64 (((List.length y31_8.data) : Nat) : Int)) (by kernel_rfl) (by kernel_rfl) (fun _ => by kernel_rfl) ?_
                    refine s_pure 148 (.int .i64 (0)) (by kernel_rfl) (by kernel_rfl) (fun _ => by kernel_rfl) ?_
                    refine ops_end ?_
                    refine At.env [(2, .slice la (List.length l) lcap), (7, .pointer (some ⟨b6_2, 0, none⟩)), (8, .pointer (some ⟨b6_5, 0, none⟩)), (9, .int .i64 v2_9), (11, .int .i64 e84_11), (13, .pointer (some ⟨b31_9, 0, none⟩)), (147, .int .i64 (((List.length y31_8.data) : Nat) : Int)), (148, .int .i64 (0))] ⟨by kernel_rfl, by kernel_rfl, by kernel_rfl, by kernel_rfl, by kernel_rfl, by kernel_rfl, by kernel_rfl, by kernel_rfl, trivial⟩ ?_
                    refine at_then_normal ?_
                    refine at_block (i := 5) (x := C8 [1,1,1,1,1,1,0,1,0,0,1,0,0,1,1,1,0,1,0,1,0,1,1,1,1,1,0]) (by kernel_rfl) ?_
                    refine At.conv (Γ' := (IntsA a31_8_00 c31_8_00 y31_8.data) :: (RChA b6_5 y33_6.2) :: (CacheA b6_2 y33_2.2) :: (Asn.own b31_9 (.cells #[.int .i64 y31_8.fwd, .int .i64 y31_8.back, .int .i64 y31_8.line, .int .i64 x12_3.fwd, .bool y31_8.dirty, .slice a31_8_00 (List.length y31_8.data) c31_8_00] 31 (0, 0))) :: Γ) (fun w hw => (Sat.less (.take (.there (.there (.there .here))) (.take .here (.take .here (.take .here (.drop .here (.drop .here (.drop .here .refl))))))) hw)) ?_
                    refine at_loopR (x := C8 [1,1,1,1,1,1,0,1,0,0,1,0,0,1,1,1,0,1,0,1,0,1,1,1,1,1,0,0]) (fun mm ff ΔΔ => ∃ (fuel : Nat) (v107_147 : Int) (v107_148 : Int) (v107_b31_9_5x : List Int) (v107_b31_9_5a : Option Addr) (v107_b31_9_5c : Nat), cachePlaysS_l107 (cachePlaysS_k107 e84_11 v2_9 (cachePlaysS_l2 l (cachePlaysS_k2 ) fuel1) y33_6 y33_2) fuel v107_147 v107_148 v107_b31_9_5x = some y ∧ fuel = mm ∧ ff = [(2, .slice la (List.length l) lcap), (7, .pointer (some ⟨b6_2, 0, none⟩)), (8, .pointer (some ⟨b6_5, 0, none⟩)), (9, .int .i64 v2_9), (11, .int .i64 e84_11), (13, .pointer (some ⟨b31_9, 0, none⟩)), (147, .int .i64 v107_147), (148, .int .i64 v107_148)] ∧ (IntsA v107_b31_9_5a v107_b31_9_5c v107_b31_9_5x) :: (RChA b6_5 y33_6.2) :: (CacheA b6_2 y33_2.2) :: (Asn.own b31_9 (.cells #[.int .i64 y31_8.fwd, .int .i64 y31_8.back, .int .i64 y31_8.line, .int .i64 x12_3.fwd, .bool y31_8.dirty, .slice v107_b31_9_5a (List.length v107_b31_9_5x) v107_b31_9_5c] 31 (0, 0))) :: Γ = ΔΔ) (64) (by kernel_rfl) [(2, .slice la (List.length l) lcap), (7, .pointer (some ⟨b6_2, 0, none⟩)), (8, .pointer (some ⟨b6_5, 0, none⟩)), (9, .int .i64 v2_9), (11, .int .i64 e84_11), (13, .pointer (some ⟨b31_9, 0, none⟩)), (147, .int .i64 (((List.length y31_8.data) : Nat) : Int)), (148, .int .i64 0)] ⟨by kernel_rfl, by kernel_rfl, by kernel_rfl, by kernel_rfl, by kernel_rfl, by kernel_rfl, by kernel_rfl, by kernel_rfl, trivial⟩ ⟨64, (((List.length y31_8.data) : Nat) : Int), 0, y31_8.data, a31_8_00, c31_8_00, H, rfl, rfl, rfl⟩ ?_
                    rintro _ _ _ ⟨fuel2, v107_147, v107_148, v107_b31_9_5x, v107_b31_9_5a, v107_b31_9_5c, H, rfl, rfl, rfl⟩
                    rcases fuel2 with _ | fuel2
                    · exact (noneE H).elim
                    rw [cachePlaysS_l107] at H
                    refine at_seq (x := C8 [1,1,1,1,1,1,0,1,0,0,1,0,0,1,1,1,0,1,0,1,0,1,1,1,1,1,0,0,0]) (y := C8 [1,1,1,1,1,1,0,1,0,0,1,0,0,1,1,1,0,1,0,1,0,1,1,1,1,1,0,0,1]) (by kernel_rfl) ?_
                    refine at_region (id := 36) 1 (by kernel_rfl) (by kernel_rfl) ?_
                    refine s_pure 149 (.bool (decide (v107_148 < v107_147))) (by kernel_rfl) (by kernel_rfl) (fun _ => by kernel_rfl) ?_
                    refine ops_end ?_
                    refine At.env [(2, .slice la (List.length l) lcap), (7, .pointer (some ⟨b6_2, 0, none⟩)), (8, .pointer (some ⟨b6_5, 0, none⟩)), (9, .int .i64 v2_9), (11, .int .i64 e84_11), (13, .pointer (some ⟨b31_9, 0, none⟩)), (147, .int .i64 v107_147), (148, .int .i64 v107_148), (149, .bool (decide (v107_148 < v107_147)))] ⟨by kernel_rfl, by kernel_rfl, by kernel_rfl, by kernel_rfl, by kernel_rfl, by kernel_rfl, by kernel_rfl, by kernel_rfl, by kernel_rfl, trivial⟩ ?_
                    refine at_then_normal ?_
                    refine at_seq (x := C8 [1,1,1,1,1,1,0,1,0,0,1,0,0,1,1,1,0,1,0,1,0,1,1,1,1,1,0,0,1,0]) (y := C8 [1,1,1,1,1,1,0,1,0,0,1,0,0,1,1,1,0,1,0,1,0,1,1,1,1,1,0,0,1,1]) (by kernel_rfl) ?_
                    rcases Bool.eq_false_or_eq_true (decide (v107_148 < v107_147)) with h16 | h16
                    · replace H := bifT H h16
                      refine at_true (t := decide (v107_148 < v107_147)) (x := C8 [1,1,1,1,1,1,0,1,0,0,1,0,0,1,1,1,0,1,0,1,0,1,1,1,1,1,0,0,1,0,0]) (y := C8 [1,1,1,1,1,1,0,1,0,0,1,0,0,1,1,1,0,1,0,1,0,1,1,1,1,1,0,0,1,0,1]) (o := .tmp 149) (by kernel_rfl) (by kernel_rfl) (by kernel_rfl) h16 ?_
                      refine at_skip (by kernel_rfl) ?_
                      refine at_then_normal ?_
                      refine at_seq (x := C8 [1,1,1,1,1,1,0,1,0,0,1,0,0,1,1,1,0,1,0,1,0,1,1,1,1,1,0,0,1,1,0]) (y := C8 [1,1,1,1,1,1,0,1,0,0,1,0,0,1,1,1,0,1,0,1,0,1,1,1,1,1,0,0,1,1,1]) (by kernel_rfl) ?_
                      refine at_block (i := 6) (x := C8 [1,1,1,1,1,1,0,1,0,0,1,0,0,1,1,1,0,1,0,1,0,1,1,1,1,1,0,0,1,1,0,0]) (by kernel_rfl) ?_
                      refine at_seq (x := C8 [1,1,1,1,1,1,0,1,0,0,1,0,0,1,1,1,0,1,0,1,0,1,1,1,1,1,0,0,1,1,0,0,0]) (y := C8 [1,1,1,1,1,1,0,1,0,0,1,0,0,1,1,1,0,1,0,1,0,1,1,1,1,1,0,0,1,1,0,0,1]) (by kernel_rfl) ?_
                      refine at_region (id := 37) 2 (by kernel_rfl) (by kernel_rfl) ?_
                      refine s_pure 150 (.int .i64 v107_148) (by kernel_rfl) (by kernel_rfl) (fun _ => by kernel_rfl) ?_
                      refine s_pure 14 (.int .i64 v107_148) (by kernel_rfl) (by kernel_rfl) (fun _ => by kernel_rfl) ?_
                      refine ops_end ?_
                      refine At.env [(2, .slice la (List.length l) lcap), (7, .pointer (some ⟨b6_2, 0, none⟩)), (8, .pointer (some ⟨b6_5, 0, none⟩)), (9, .int .i64 v2_9), (11, .int .i64 e84_11), (13, .pointer (some ⟨b31_9, 0, none⟩)), (14, .int .i64 v107_148), (147, .int .i64 v107_147), (148, .int .i64 v107_148)] ⟨by kernel_rfl, by kernel_rfl, by kernel_rfl, by kernel_rfl, by kernel_rfl, by kernel_rfl, by kernel_rfl, by kernel_rfl, by kernel_rfl, trivial⟩ ?_
                      refine at_then_normal ?_
                      refine at_region (id := 38) 8 (by kernel_rfl) (by kernel_rfl) ?_
                      refine s_pure 151 (.pointer (some ⟨b31_9, 5, none⟩)) (by kernel_rfl) (by kernel_rfl) (fun _ => by kernel_rfl) ?_
                      refine s_load 152 (.slice v107_b31_9_5a (List.length v107_b31_9_5x) v107_b31_9_5c) (by kernel_rfl) (by kernel_rfl) (load1 (off := 5) (fun _ => by kernel_rfl) (holds_own (.there (.there (.there .here)))) (by kernel_rfl)) ?_
                      refine s_pure 153 (.int .i64 v107_148) (by kernel_rfl) (by kernel_rfl) (fun _ => by kernel_rfl) ?_
                      obtain ⟨hc38_3_0, H⟩ := chkE H
                      refine rows_at .here (by have := hc38_3_0; simp only [ints_length]; omega) ?_
                      intro bb2 oo2 ha2
                      refine s_pure 154 (.pointer (some ⟨bb2, oo2 + ((v107_148).toNat * 1 + 0), none⟩)) (by kernel_rfl) (by kernel_rfl) (index_at (t := 22) (sz := 1) (E := 3) (a := v107_b31_9_5a) (m := (List.length v107_b31_9_5x)) (c := v107_b31_9_5c) (b := bb2) (off := oo2) (i := (v107_148).toNat) (tinfo 3) (fun _ => by kernel_rfl) (by kernel_rfl) (by kernel_rfl) (by kernel_rfl) ha2 (idx_cast hc38_3_0) (idx_nat hc38_3_0) rfl) ?_
                      refine s_load 155 (.int .i64 (nth v107_b31_9_5x v107_148)) (by kernel_rfl) (by kernel_rfl) (load1_at (off := oo2 + ((v107_148).toNat * 1 + 0)) (v := .int .i64 (nth v107_b31_9_5x v107_148)) (fun _ => by kernel_rfl) rfl (reads_cell (k := 1) (RowsA.reads (k := 1) .here) (ints_rows _) ha2 (nth_row hc38_3_0) (show [(.int .i64 (nth v107_b31_9_5x v107_148) : Value)][0]? = some _ from rfl))) ?_
                      refine s_pure 156 (.int .i64 (xorI (nth v107_b31_9_5x v107_148) (1 : Int))) (by kernel_rfl) (by kernel_rfl) (fun _ => by kernel_rfl) ?_
                      obtain ⟨hc38_6_0, H⟩ := chkE H
                      refine s_pure 157 (.pointer (some ⟨bb2, oo2 + ((v107_148).toNat * 1 + 0), none⟩)) (by kernel_rfl) (by kernel_rfl) (index_at (t := 22) (sz := 1) (E := 3) (a := v107_b31_9_5a) (m := (List.length v107_b31_9_5x)) (c := v107_b31_9_5c) (b := bb2) (off := oo2) (i := (v107_148).toNat) (tinfo 3) (fun _ => by kernel_rfl) (by kernel_rfl) (by kernel_rfl) (by kernel_rfl) ha2 (idx_cast hc38_6_0) (idx_nat hc38_6_0) rfl) ?_
                      obtain ⟨w38_7, hw38_7, H⟩ := letE H
                      refine s_do (by kernel_rfl) (by kernel_rfl) (st_to_int (st_row (k := 1) (off := oo2) (i := (v107_148).toNat) (j := 0) (row := [.int .i64 (nth v107_b31_9_5x v107_148)]) (row' := [.int .i64 (xorI (nth v107_b31_9_5x v107_148) (1 : Int))]) (vs := [.int .i64 (xorI (nth v107_b31_9_5x v107_148) (1 : Int))]) (fun _ => by kernel_rfl) .here ha2 (nth_row hc38_6_0) rfl (by kernel_rfl) (by kernel_rfl) rfl)) ?_
                      rintro _ _ ⟨rfl, rfl⟩
                      have hsw38_7 : w38_7 = List.set v107_b31_9_5x (v107_148).toNat (xorI (nth v107_b31_9_5x v107_148) (1 : Int)) := hw38_7.symm
                      rw [← hsw38_7]
                      have hnw38_7 : List.length v107_b31_9_5x = List.length w38_7 := by rw [hsw38_7]; simp
                      rw [hnw38_7]
                      refine ops_end ?_
                      refine At.env [(2, .slice la (List.length l) lcap), (7, .pointer (some ⟨b6_2, 0, none⟩)), (8, .pointer (some ⟨b6_5, 0, none⟩)), (9, .int .i64 v2_9), (11, .int .i64 e84_11), (13, .pointer (some ⟨b31_9, 0, none⟩)), (147, .int .i64 v107_147), (148, .int .i64 v107_148)] ⟨by kernel_rfl, by kernel_rfl, by kernel_rfl, by kernel_rfl, by kernel_rfl, by kernel_rfl, by kernel_rfl, by kernel_rfl, trivial⟩ ?_
                      refine at_in_normal ?_
                      refine at_then_normal ?_
                      refine at_region (id := 39) 2 (by kernel_rfl) (by kernel_rfl) ?_
                      obtain ⟨hc39_0_0, H⟩ := chkE H
                      refine s_pure 158 (.int .i64 (v107_148 + (1 : Int))) (by kernel_rfl) (by kernel_rfl) (run_eq (v := .int .i64 (IntKind.i64.wrap (v107_148 + (1 : Int)))) (fun _ => by kernel_rfl) (by rw [inR.wrap hc39_0_0])) ?_
                      refine s_pure 148 (.int .i64 (v107_148 + (1 : Int))) (by kernel_rfl) (by kernel_rfl) (fun _ => by kernel_rfl) ?_
                      refine ops_end ?_
                      refine At.env [(2, .slice la (List.length l) lcap), (7, .pointer (some ⟨b6_2, 0, none⟩)), (8, .pointer (some ⟨b6_5, 0, none⟩)), (9, .int .i64 v2_9), (11, .int .i64 e84_11), (13, .pointer (some ⟨b31_9, 0, none⟩)), (147, .int .i64 v107_147), (148, .int .i64 (v107_148 + (1 : Int)))] ⟨by kernel_rfl, by kernel_rfl, by kernel_rfl, by kernel_rfl, by kernel_rfl, by kernel_rfl, by kernel_rfl, by kernel_rfl, trivial⟩ ?_
                      refine at_round_normal ?_
                      exact at_roundR fuel2 [(2, .slice la (List.length l) lcap), (7, .pointer (some ⟨b6_2, 0, none⟩)), (8, .pointer (some ⟨b6_5, 0, none⟩)), (9, .int .i64 v2_9), (11, .int .i64 e84_11), (13, .pointer (some ⟨b31_9, 0, none⟩)), (147, .int .i64 v107_147), (148, .int .i64 (v107_148 + (1 : Int)))] ((IntsA v107_b31_9_5a v107_b31_9_5c w38_7) :: (RChA b6_5 y33_6.2) :: (CacheA b6_2 y33_2.2) :: (Asn.own b31_9 (.cells #[.int .i64 y31_8.fwd, .int .i64 y31_8.back, .int .i64 y31_8.line, .int .i64 x12_3.fwd, .bool y31_8.dirty, .slice v107_b31_9_5a (List.length w38_7) v107_b31_9_5c] 31 (0, 0))) :: Γ) (Nat.lt_succ_self _) ⟨by kernel_rfl, by kernel_rfl, by kernel_rfl, by kernel_rfl, by kernel_rfl, by kernel_rfl, by kernel_rfl, by kernel_rfl, trivial⟩ (fun w hw => (Sat.less (.take .here (.take .here (.take .here (.take .here .refl)))) hw)) ⟨fuel2, v107_147, v107_148 + (1 : Int), w38_7, v107_b31_9_5a, v107_b31_9_5c, H, rfl, rfl, rfl⟩
                    · replace H := bifF H h16
                      refine at_false (t := decide (v107_148 < v107_147)) (x := C8 [1,1,1,1,1,1,0,1,0,0,1,0,0,1,1,1,0,1,0,1,0,1,1,1,1,1,0,0,1,0,0]) (y := C8 [1,1,1,1,1,1,0,1,0,0,1,0,0,1,1,1,0,1,0,1,0,1,1,1,1,1,0,0,1,0,1]) (o := .tmp 149) (by kernel_rfl) (by kernel_rfl) (by kernel_rfl) h16 ?_
                      refine at_exit (i := 5) (by kernel_rfl) ?_
                      refine at_then_exit ?_
                      refine at_then_exit ?_
                      rw [cachePlaysS_k107] at H
                      refine At.env [(2, .slice la (List.length l) lcap), (7, .pointer (some ⟨b6_2, 0, none⟩)), (8, .pointer (some ⟨b6_5, 0, none⟩)), (9, .int .i64 v2_9), (11, .int .i64 e84_11), (13, .pointer (some ⟨b31_9, 0, none⟩)), (147, .int .i64 v107_147), (148, .int .i64 v107_148)] ⟨by kernel_rfl, by kernel_rfl, by kernel_rfl, by kernel_rfl, by kernel_rfl, by kernel_rfl, by kernel_rfl, by kernel_rfl, trivial⟩ ?_
                      refine At.conv (Γ' := (IntsA v107_b31_9_5a v107_b31_9_5c v107_b31_9_5x) :: (RChA b6_5 y33_6.2) :: (CacheA b6_2 y33_2.2) :: (Asn.own b31_9 (.cells #[.int .i64 y31_8.fwd, .int .i64 y31_8.back, .int .i64 y31_8.line, .int .i64 x12_3.fwd, .bool y31_8.dirty, .slice v107_b31_9_5a (List.length v107_b31_9_5x) v107_b31_9_5c] 31 (0, 0))) :: Γ) (fun w hw => (Sat.less (.take .here (.take .here (.take .here (.take .here .refl)))) hw)) ?_
                      refine at_in_here ?_
                      refine at_in_normal ?_
                      refine at_round_normal ?_
                      exact at_join_mk [(2, .slice la (List.length l) lcap), (7, .pointer (some ⟨b6_2, 0, none⟩)), (8, .pointer (some ⟨b6_5, 0, none⟩)), (9, .int .i64 v2_9), (11, .int .i64 e84_11)] ((RChA b6_5 y33_6.2) :: (CacheA b6_2 y33_2.2) :: Γ) ⟨by kernel_rfl, by kernel_rfl, by kernel_rfl, by kernel_rfl, by kernel_rfl, trivial⟩ (fun w hw => (Sat.less (.take (.there .here) (.take (.there .here) (.drop .here (.drop .here .refl)))) hw)) ⟨y33_6.2, y33_2.2, H, rfl, rfl⟩
                · replace H := bifF H h14
                  refine at_false (t := e106_117) (x := C8 [1,1,1,1,1,1,0,1,0,0,1,0,0,1,1,1,0,1,0,1,0]) (y := C8 [1,1,1,1,1,1,0,1,0,0,1,0,0,1,1,1,0,1,0,1,1]) (o := .tmp 117) (by kernel_rfl) (by kernel_rfl) (by kernel_rfl) h14 ?_
                  refine at_seq (x := C8 [1,1,1,1,1,1,0,1,0,0,1,0,0,1,1,1,0,1,0,1,1,0]) (y := C8 [1,1,1,1,1,1,0,1,0,0,1,0,0,1,1,1,0,1,0,1,1,1]) (by kernel_rfl) ?_
                  refine at_region (id := 40) 2 (by kernel_rfl) (by kernel_rfl) ?_
                  refine s_pure 160 (.bool (decide (y16_2 = (4 : Int)))) (by kernel_rfl) (by kernel_rfl) (fun _ => by kernel_rfl) ?_
                  refine s_pure 159 (.bool (decide (y16_2 = (4 : Int)))) (by kernel_rfl) (by kernel_rfl) (fun _ => by kernel_rfl) ?_
                  refine ops_end ?_
                  refine At.env [(2, .slice la (List.length l) lcap), (7, .pointer (some ⟨b6_2, 0, none⟩)), (8, .pointer (some ⟨b6_5, 0, none⟩)), (9, .int .i64 v2_9), (11, .int .i64 e84_11), (74, .int .i64 y16_2), (159, .bool (decide (y16_2 = (4 : Int))))] ⟨by kernel_rfl, by kernel_rfl, by kernel_rfl, by kernel_rfl, by kernel_rfl, by kernel_rfl, by kernel_rfl, trivial⟩ ?_
                  refine at_then_normal ?_
                  rcases Bool.eq_false_or_eq_true (decide (y16_2 = (4 : Int))) with h17 | h17
                  · replace H := bifT H h17
                    refine at_true (t := decide (y16_2 = (4 : Int))) (x := C8 [1,1,1,1,1,1,0,1,0,0,1,0,0,1,1,1,0,1,0,1,1,1,0]) (y := C8 [1,1,1,1,1,1,0,1,0,0,1,0,0,1,1,1,0,1,0,1,1,1,1]) (o := .tmp 159) (by kernel_rfl) (by kernel_rfl) (by kernel_rfl) h17 ?_
                    refine at_seq (x := C8 [1,1,1,1,1,1,0,1,0,0,1,0,0,1,1,1,0,1,0,1,1,1,0,0]) (y := C8 [1,1,1,1,1,1,0,1,0,0,1,0,0,1,1,1,0,1,0,1,1,1,0,1]) (by kernel_rfl) ?_
                    refine at_region (id := 41) 9 (by kernel_rfl) (by kernel_rfl) ?_
                    refine s_pure 162 (.pointer (some ⟨b6_2, 0, none⟩)) (by kernel_rfl) (by kernel_rfl) (fun _ => by kernel_rfl) ?_
                    refine s_pure 163 (.int .i64 e84_11) (by kernel_rfl) (by kernel_rfl) (fun _ => by kernel_rfl) ?_
                    obtain ⟨y41_2, hy41_2, H⟩ := bindE H
                    refine s_call 164 24 #[.pointer (some ⟨b6_2, 0, none⟩), .int .i64 e84_11] (by kernel_rfl) (by kernel_rfl) (fun _ => by kernel_rfl) (Tr.conv (Γ' := (CacheA b6_2 v2_b6_2) :: (Asn.own b12_4 (.cells #[.int .i64 x12_3.act, .int .i64 x12_3.line, .int .i64 x12_3.fwd, .int .i64 x12_3.back, .bool x12_3.dirty, .slice a12_3 (List.length x12_3.data) c12_3] 57 (0, 0))) :: (ImmI a12_3 x12_3.data) :: (RChA b6_5 v2_b6_5) :: Γ) (fun w hw => (Sat.less (.take (.there (.there (.there .here))) (.take .here (.take .here (.take .here .refl)))) hw)) (DropF_tr b6_2 v2_b6_2 e84_11 y41_2 hy41_2)) ?_
                    rintro _ _ ⟨a41_2_00, c41_2_00, rfl, rfl⟩
                    refine s_pure 161 (.tuple #[.agg #[.int .i64 y41_2.1.fwd, .int .i64 y41_2.1.back, .int .i64 y41_2.1.line, .int .i64 y41_2.1.used, .bool y41_2.1.dirty, .slice a41_2_00 (List.length y41_2.1.data) c41_2_00], .bool y41_2.2.1]) (by kernel_rfl) (by kernel_rfl) (fun _ => by kernel_rfl) ?_
                    refine s_pure 165 (.agg #[.int .i64 y41_2.1.fwd, .int .i64 y41_2.1.back, .int .i64 y41_2.1.line, .int .i64 y41_2.1.used, .bool y41_2.1.dirty, .slice a41_2_00 (List.length y41_2.1.data) c41_2_00]) (by kernel_rfl) (by kernel_rfl) (fun _ => by kernel_rfl) ?_
                    refine s_pure 166 (.bool y41_2.2.1) (by kernel_rfl) (by kernel_rfl) (fun _ => by kernel_rfl) ?_
                    refine s_step 15 (by kernel_rfl) (by kernel_rfl) (st_new (T := 31) (cells := #[.int .i64 (0), .int .i64 (0), .int .i64 (0), .int .i64 (0), .bool false, .slice none 0 0]) (fun a => .pointer (some a)) (fun _ => by kernel_rfl)) ?_
                    rintro _ _ ⟨b41_6, rfl, rfl⟩
                    refine s_do (by kernel_rfl) (by kernel_rfl) (st_store (off := 0) (vs := [.int .i64 y41_2.1.fwd, .int .i64 y41_2.1.back, .int .i64 y41_2.1.line, .int .i64 y41_2.1.used, .bool y41_2.1.dirty, .slice a41_2_00 (List.length y41_2.1.data) c41_2_00]) (c' := #[.int .i64 y41_2.1.fwd, .int .i64 y41_2.1.back, .int .i64 y41_2.1.line, .int .i64 y41_2.1.used, .bool y41_2.1.dirty, .slice a41_2_00 (List.length y41_2.1.data) c41_2_00]) (fun _ => by kernel_rfl) .here (by kernel_rfl) (by kernel_rfl) (by kernel_rfl)) ?_
                    rintro _ _ ⟨rfl, rfl⟩
                    refine s_pure 16 (.bool y41_2.2.1) (by kernel_rfl) (by kernel_rfl) (fun _ => by kernel_rfl) ?_
                    refine ops_end ?_
                    refine At.env [(2, .slice la (List.length l) lcap), (7, .pointer (some ⟨b6_2, 0, none⟩)), (8, .pointer (some ⟨b6_5, 0, none⟩)), (9, .int .i64 v2_9), (11, .int .i64 e84_11), (15, .pointer (some ⟨b41_6, 0, none⟩)), (16, .bool y41_2.2.1)] ⟨by kernel_rfl, by kernel_rfl, by kernel_rfl, by kernel_rfl, by kernel_rfl, by kernel_rfl, by kernel_rfl, trivial⟩ ?_
                    refine at_then_normal ?_
                    refine at_seq (x := C8 [1,1,1,1,1,1,0,1,0,0,1,0,0,1,1,1,0,1,0,1,1,1,0,1,0]) (y := C8 [1,1,1,1,1,1,0,1,0,0,1,0,0,1,1,1,0,1,0,1,1,1,0,1,1]) (by kernel_rfl) ?_
                    refine at_region (id := 42) 9 (by kernel_rfl) (by kernel_rfl) ?_
                    refine s_pure 168 (.pointer (some ⟨b6_5, 0, none⟩)) (by kernel_rfl) (by kernel_rfl) (fun _ => by kernel_rfl) ?_
                    refine s_pure 169 (.int .i64 e84_11) (by kernel_rfl) (by kernel_rfl) (fun _ => by kernel_rfl) ?_
                    obtain ⟨y42_2, hy42_2, H⟩ := bindE H
                    refine s_call 170 35 #[.pointer (some ⟨b6_5, 0, none⟩), .int .i64 e84_11] (by kernel_rfl) (by kernel_rfl) (fun _ => by kernel_rfl) (Tr.conv (Γ' := (RChA b6_5 v2_b6_5) :: (Asn.own b41_6 (.cells #[.int .i64 y41_2.1.fwd, .int .i64 y41_2.1.back, .int .i64 y41_2.1.line, .int .i64 y41_2.1.used, .bool y41_2.1.dirty, .slice a41_2_00 (List.length y41_2.1.data) c41_2_00] 31 (0, 0))) :: (IntsA a41_2_00 c41_2_00 y41_2.1.data) :: (CacheA b6_2 y41_2.2.2) :: (Asn.own b12_4 (.cells #[.int .i64 x12_3.act, .int .i64 x12_3.line, .int .i64 x12_3.fwd, .int .i64 x12_3.back, .bool x12_3.dirty, .slice a12_3 (List.length x12_3.data) c12_3] 57 (0, 0))) :: (ImmI a12_3 x12_3.data) :: Γ) (fun w hw => (Sat.less (.take (.there (.there (.there (.there (.there .here))))) (.take .here (.take .here (.take .here (.take .here (.take .here .refl)))))) hw)) (RDropF_tr b6_5 v2_b6_5 e84_11 y42_2 hy42_2)) ?_
                    rintro _ _ ⟨a42_2_00, c42_2_00, rfl, rfl⟩
                    refine s_pure 167 (.tuple #[.agg #[.int .i64 y42_2.1.fwd, .int .i64 y42_2.1.back, .int .i64 y42_2.1.line, .int .i64 y42_2.1.used, .bool y42_2.1.dirty, .slice a42_2_00 (List.length y42_2.1.data) c42_2_00], .bool y42_2.2.1]) (by kernel_rfl) (by kernel_rfl) (fun _ => by kernel_rfl) ?_
                    refine s_pure 171 (.agg #[.int .i64 y42_2.1.fwd, .int .i64 y42_2.1.back, .int .i64 y42_2.1.line, .int .i64 y42_2.1.used, .bool y42_2.1.dirty, .slice a42_2_00 (List.length y42_2.1.data) c42_2_00]) (by kernel_rfl) (by kernel_rfl) (fun _ => by kernel_rfl) ?_
                    refine s_pure 172 (.bool y42_2.2.1) (by kernel_rfl) (by kernel_rfl) (fun _ => by kernel_rfl) ?_
                    refine s_step 17 (by kernel_rfl) (by kernel_rfl) (st_new (T := 60) (cells := #[.int .i64 (0), .int .i64 (0), .int .i64 (0), .int .i64 (0), .bool false, .slice none 0 0]) (fun a => .pointer (some a)) (fun _ => by kernel_rfl)) ?_
                    rintro _ _ ⟨b42_6, rfl, rfl⟩
                    refine s_do (by kernel_rfl) (by kernel_rfl) (st_store (off := 0) (vs := [.int .i64 y42_2.1.fwd, .int .i64 y42_2.1.back, .int .i64 y42_2.1.line, .int .i64 y42_2.1.used, .bool y42_2.1.dirty, .slice a42_2_00 (List.length y42_2.1.data) c42_2_00]) (c' := #[.int .i64 y42_2.1.fwd, .int .i64 y42_2.1.back, .int .i64 y42_2.1.line, .int .i64 y42_2.1.used, .bool y42_2.1.dirty, .slice a42_2_00 (List.length y42_2.1.data) c42_2_00]) (fun _ => by kernel_rfl) .here (by kernel_rfl) (by kernel_rfl) (by kernel_rfl)) ?_
                    rintro _ _ ⟨rfl, rfl⟩
                    refine s_pure 18 (.bool y42_2.2.1) (by kernel_rfl) (by kernel_rfl) (fun _ => by kernel_rfl) ?_
                    refine ops_end ?_
                    refine At.env [(2, .slice la (List.length l) lcap), (7, .pointer (some ⟨b6_2, 0, none⟩)), (8, .pointer (some ⟨b6_5, 0, none⟩)), (9, .int .i64 v2_9), (11, .int .i64 e84_11), (15, .pointer (some ⟨b41_6, 0, none⟩)), (16, .bool y41_2.2.1), (17, .pointer (some ⟨b42_6, 0, none⟩)), (18, .bool y42_2.2.1)] ⟨by kernel_rfl, by kernel_rfl, by kernel_rfl, by kernel_rfl, by kernel_rfl, by kernel_rfl, by kernel_rfl, by kernel_rfl, by kernel_rfl, trivial⟩ ?_
                    refine at_then_normal ?_
                    refine at_seq (x := C8 [1,1,1,1,1,1,0,1,0,0,1,0,0,1,1,1,0,1,0,1,1,1,0,1,1,0]) (y := C8 [1,1,1,1,1,1,0,1,0,0,1,0,0,1,1,1,0,1,0,1,1,1,0,1,1,1]) (by kernel_rfl) ?_
                    refine at_region (id := 43) 27 (by kernel_rfl) (by kernel_rfl) ?_
                    refine s_pure 173 (.bool y41_2.2.1) (by kernel_rfl) (by kernel_rfl) (fun _ => by kernel_rfl) ?_
                    refine s_pure 174 (.bool y42_2.2.1) (by kernel_rfl) (by kernel_rfl) (fun _ => by kernel_rfl) ?_
                    refine s_pure 175 (.bool (!(y41_2.2.1 == y42_2.2.1))) (by kernel_rfl) (by kernel_rfl) (fun _ => by kernel_rfl) ?_
                    rcases Bool.eq_false_or_eq_true (!(y41_2.2.1 == y42_2.2.1)) with h18 | h18
                    · replace H := bifT H h18
                      refine s_pure 176 (.bool true) (by kernel_rfl) (by kernel_rfl) (run_eq (v := .bool (!(y41_2.2.1 == y42_2.2.1))) (fun _ => by kernel_rfl) (congrArg Value.bool h18)) ?_
                      refine s_pass 177 (by kernel_rfl) (by kernel_rfl) ?_
                      refine s_pass 178 (by kernel_rfl) (by kernel_rfl) ?_
                      refine s_pass 179 (by kernel_rfl) (by kernel_rfl) ?_
                      refine s_pass 180 (by kernel_rfl) (by kernel_rfl) ?_
                      refine s_pass 181 (by kernel_rfl) (by kernel_rfl) ?_
                      refine s_pass 182 (by kernel_rfl) (by kernel_rfl) ?_
                      refine s_pass 183 (by kernel_rfl) (by kernel_rfl) ?_
                      refine s_pure 184 (.bool true) (by kernel_rfl) (by kernel_rfl) (fun _ => by kernel_rfl) ?_
                      refine s_pure 185 (.bool true) (by kernel_rfl) (by kernel_rfl) (fun _ => by kernel_rfl) ?_
                      refine s_pass 186 (by kernel_rfl) (by kernel_rfl) ?_
                      refine s_pass 187 (by kernel_rfl) (by kernel_rfl) ?_
                      refine s_pass 188 (by kernel_rfl) (by kernel_rfl) ?_
                      refine s_pass 189 (by kernel_rfl) (by kernel_rfl) ?_
                      refine s_pass 190 (by kernel_rfl) (by kernel_rfl) ?_
                      refine s_pass 191 (by kernel_rfl) (by kernel_rfl) ?_
                      refine s_pass 192 (by kernel_rfl) (by kernel_rfl) ?_
                      refine s_pass 193 (by kernel_rfl) (by kernel_rfl) ?_
                      refine s_pass 194 (by kernel_rfl) (by kernel_rfl) ?_
                      refine s_pass 195 (by kernel_rfl) (by kernel_rfl) ?_
                      refine s_pass 196 (by kernel_rfl) (by kernel_rfl) ?_
                      refine s_pass 197 (by kernel_rfl) (by kernel_rfl) ?_
                      refine s_pass 198 (by kernel_rfl) (by kernel_rfl) ?_
                      refine s_pure 199 (.bool true) (by kernel_rfl) (by kernel_rfl) (fun _ => by kernel_rfl) ?_
                      refine ops_end ?_
                      refine At.env [(2, .slice la (List.length l) lcap), (7, .pointer (some ⟨b6_2, 0, none⟩)), (8, .pointer (some ⟨b6_5, 0, none⟩)), (9, .int .i64 v2_9), (11, .int .i64 e84_11), (199, .bool true)] ⟨by kernel_rfl, by kernel_rfl, by kernel_rfl, by kernel_rfl, by kernel_rfl, by kernel_rfl, trivial⟩ ?_
                      refine at_then_normal ?_
                      refine at_true (t := true) (x := C8 [1,1,1,1,1,1,0,1,0,0,1,0,0,1,1,1,0,1,0,1,1,1,0,1,1,1,0]) (y := C8 [1,1,1,1,1,1,0,1,0,0,1,0,0,1,1,1,0,1,0,1,1,1,0,1,1,1,1]) (o := .tmp 199) (by kernel_rfl) (by kernel_rfl) (by kernel_rfl) rfl ?_
                      refine at_seq (x := C8 [1,1,1,1,1,1,0,1,0,0,1,0,0,1,1,1,0,1,0,1,1,1,0,1,1,1,0,0]) (y := C8 [1,1,1,1,1,1,0,1,0,0,1,0,0,1,1,1,0,1,0,1,1,1,0,1,1,1,0,1]) (by kernel_rfl) ?_
                      refine at_region (id := 44) 1 (by kernel_rfl) (by kernel_rfl) ?_
                      refine s_pure 6 (.bool false) (by kernel_rfl) (by kernel_rfl) (fun _ => by kernel_rfl) ?_
                      refine ops_end ?_
                      refine At.env [(6, .bool false)] ⟨by kernel_rfl, trivial⟩ ?_
                      refine at_then_normal ?_
                      refine at_ret (by kernel_rfl) ?_
                      refine at_in_ret ?_
                      refine at_then_ret ?_
                      refine at_in_ret ?_
                      refine at_then_ret ?_
                      refine at_then_ret ?_
                      refine at_in_ret ?_
                      refine at_then_ret ?_
                      obtain rfl := someE H
                      refine at_backR [.bool false] (Γ) (rs := [.tmp 6]) (by kernel_rfl) (.cons (.tmp (by kernel_rfl)) .nil) (fun w hw => (Sat.less (.drop .here (.drop .here (.drop .here (.drop .here (.drop .here (.drop .here (.drop .here (.drop .here .refl)))))))) hw)) ?_
                      exact ⟨rfl, rfl⟩
                    · replace H := bifF H h18
                      refine s_pure 176 (.bool false) (by kernel_rfl) (by kernel_rfl) (run_eq (v := .bool (!(y41_2.2.1 == y42_2.2.1))) (fun _ => by kernel_rfl) (congrArg Value.bool h18)) ?_
                      refine s_pure 177 (.bool y41_2.2.1) (by kernel_rfl) (by kernel_rfl) (fun _ => by kernel_rfl) ?_
                      rcases Bool.eq_false_or_eq_true (y41_2.2.1) with h19 | h19
                      · replace H := bifT H h19
                        refine s_pure 178 (.bool true) (by kernel_rfl) (by kernel_rfl) (run_eq (v := .bool (y41_2.2.1)) (fun _ => by kernel_rfl) (congrArg Value.bool h19)) ?_
                        refine s_load 179 (.agg #[.int .i64 y41_2.1.fwd, .int .i64 y41_2.1.back, .int .i64 y41_2.1.line, .int .i64 y41_2.1.used, .bool y41_2.1.dirty, .slice a41_2_00 (List.length y41_2.1.data) c41_2_00]) (by kernel_rfl) (by kernel_rfl) (loadN (off := 0) (vs := [.int .i64 y41_2.1.fwd, .int .i64 y41_2.1.back, .int .i64 y41_2.1.line, .int .i64 y41_2.1.used, .bool y41_2.1.dirty, .slice a41_2_00 (List.length y41_2.1.data) c41_2_00]) 6 (fun _ => by kernel_rfl) (holds_own (.there (.there (.there .here)))) rfl (by exact ⟨rfl, rfl, rfl, rfl, rfl, rfl, trivial⟩)) ?_
                        refine s_load 180 (.agg #[.int .i64 y42_2.1.fwd, .int .i64 y42_2.1.back, .int .i64 y42_2.1.line, .int .i64 y42_2.1.used, .bool y42_2.1.dirty, .slice a42_2_00 (List.length y42_2.1.data) c42_2_00]) (by kernel_rfl) (by kernel_rfl) (loadN (off := 0) (vs := [.int .i64 y42_2.1.fwd, .int .i64 y42_2.1.back, .int .i64 y42_2.1.line, .int .i64 y42_2.1.used, .bool y42_2.1.dirty, .slice a42_2_00 (List.length y42_2.1.data) c42_2_00]) 6 (fun _ => by kernel_rfl) (holds_own .here) rfl (by exact ⟨rfl, rfl, rfl, rfl, rfl, rfl, trivial⟩)) ?_
                        obtain ⟨y43_8, hy43_8, H⟩ := bindE H
                        refine s_call 181 36 #[.agg #[.int .i64 y41_2.1.fwd, .int .i64 y41_2.1.back, .int .i64 y41_2.1.line, .int .i64 y41_2.1.used, .bool y41_2.1.dirty, .slice a41_2_00 (List.length y41_2.1.data) c41_2_00], .agg #[.int .i64 y42_2.1.fwd, .int .i64 y42_2.1.back, .int .i64 y42_2.1.line, .int .i64 y42_2.1.used, .bool y42_2.1.dirty, .slice a42_2_00 (List.length y42_2.1.data) c42_2_00]] (by kernel_rfl) (by kernel_rfl) (fun _ => by kernel_rfl) (SameEntF_tr a41_2_00 c41_2_00 y41_2.1 a42_2_00 c42_2_00 y42_2.1 (RowsA.reads (k := 1) (.there (.there (.there (.there .here))))) (ImmR.reads (k := 1) (.there .here)) y43_8 hy43_8) ?_
                        rintro _ _ ⟨rfl, rfl⟩
                        refine s_pure 182 (.bool !y43_8) (by kernel_rfl) (by kernel_rfl) (fun _ => by kernel_rfl) ?_
                        refine s_pure 183 (.bool !y43_8) (by kernel_rfl) (by kernel_rfl) (fun _ => by kernel_rfl) ?_
                        refine s_pure 184 (.bool !y43_8) (by kernel_rfl) (by kernel_rfl) (fun _ => by kernel_rfl) ?_
                        rcases Bool.eq_false_or_eq_true (!y43_8) with h20 | h20
                        · replace H := bifT H h20
                          refine s_pure 185 (.bool true) (by kernel_rfl) (by kernel_rfl) (run_eq (v := .bool (!y43_8)) (fun _ => by kernel_rfl) (congrArg Value.bool h20)) ?_
                          refine s_pass 186 (by kernel_rfl) (by kernel_rfl) ?_
                          refine s_pass 187 (by kernel_rfl) (by kernel_rfl) ?_
                          refine s_pass 188 (by kernel_rfl) (by kernel_rfl) ?_
                          refine s_pass 189 (by kernel_rfl) (by kernel_rfl) ?_
                          refine s_pass 190 (by kernel_rfl) (by kernel_rfl) ?_
                          refine s_pass 191 (by kernel_rfl) (by kernel_rfl) ?_
                          refine s_pass 192 (by kernel_rfl) (by kernel_rfl) ?_
                          refine s_pass 193 (by kernel_rfl) (by kernel_rfl) ?_
                          refine s_pass 194 (by kernel_rfl) (by kernel_rfl) ?_
                          refine s_pass 195 (by kernel_rfl) (by kernel_rfl) ?_
                          refine s_pass 196 (by kernel_rfl) (by kernel_rfl) ?_
                          refine s_pass 197 (by kernel_rfl) (by kernel_rfl) ?_
                          refine s_pass 198 (by kernel_rfl) (by kernel_rfl) ?_
                          refine s_pure 199 (.bool true) (by kernel_rfl) (by kernel_rfl) (fun _ => by kernel_rfl) ?_
                          refine ops_end ?_
                          refine At.env [(2, .slice la (List.length l) lcap), (7, .pointer (some ⟨b6_2, 0, none⟩)), (8, .pointer (some ⟨b6_5, 0, none⟩)), (9, .int .i64 v2_9), (11, .int .i64 e84_11), (199, .bool true)] ⟨by kernel_rfl, by kernel_rfl, by kernel_rfl, by kernel_rfl, by kernel_rfl, by kernel_rfl, trivial⟩ ?_
                          refine at_then_normal ?_
                          refine at_true (t := true) (x := C8 [1,1,1,1,1,1,0,1,0,0,1,0,0,1,1,1,0,1,0,1,1,1,0,1,1,1,0]) (y := C8 [1,1,1,1,1,1,0,1,0,0,1,0,0,1,1,1,0,1,0,1,1,1,0,1,1,1,1]) (o := .tmp 199) (by kernel_rfl) (by kernel_rfl) (by kernel_rfl) rfl ?_
                          refine at_seq (x := C8 [1,1,1,1,1,1,0,1,0,0,1,0,0,1,1,1,0,1,0,1,1,1,0,1,1,1,0,0]) (y := C8 [1,1,1,1,1,1,0,1,0,0,1,0,0,1,1,1,0,1,0,1,1,1,0,1,1,1,0,1]) (by kernel_rfl) ?_
                          refine at_region (id := 44) 1 (by kernel_rfl) (by kernel_rfl) ?_
                          refine s_pure 6 (.bool false) (by kernel_rfl) (by kernel_rfl) (fun _ => by kernel_rfl) ?_
                          refine ops_end ?_
                          refine At.env [(6, .bool false)] ⟨by kernel_rfl, trivial⟩ ?_
                          refine at_then_normal ?_
                          refine at_ret (by kernel_rfl) ?_
                          refine at_in_ret ?_
                          refine at_then_ret ?_
                          refine at_in_ret ?_
                          refine at_then_ret ?_
                          refine at_then_ret ?_
                          refine at_in_ret ?_
                          refine at_then_ret ?_
                          obtain rfl := someE H
                          refine at_backR [.bool false] (Γ) (rs := [.tmp 6]) (by kernel_rfl) (.cons (.tmp (by kernel_rfl)) .nil) (fun w hw => (Sat.less (.drop .here (.drop .here (.drop .here (.drop .here (.drop .here (.drop .here (.drop .here (.drop .here .refl)))))))) hw)) ?_
                          exact ⟨rfl, rfl⟩
                        · replace H := bifF H h20
                          refine s_pure 185 (.bool false) (by kernel_rfl) (by kernel_rfl) (run_eq (v := .bool (!y43_8)) (fun _ => by kernel_rfl) (congrArg Value.bool h20)) ?_
                          refine s_pure 186 (.bool y41_2.2.1) (by kernel_rfl) (by kernel_rfl) (fun _ => by kernel_rfl) ?_
                          refine s_pure 187 (.bool !y41_2.2.1) (by kernel_rfl) (by kernel_rfl) (fun _ => by kernel_rfl) ?_
                          rcases Bool.eq_false_or_eq_true (!y41_2.2.1) with h21 | h21
                          · replace H := bifT H h21
                            refine s_pure 188 (.bool true) (by kernel_rfl) (by kernel_rfl) (run_eq (v := .bool (!y41_2.2.1)) (fun _ => by kernel_rfl) (congrArg Value.bool h21)) ?_
                            refine s_pure 189 (.pointer (some ⟨b41_6, 2, none⟩)) (by kernel_rfl) (by kernel_rfl) (fun _ => by kernel_rfl) ?_
                            refine s_load 190 (.int .i64 y41_2.1.line) (by kernel_rfl) (by kernel_rfl) (load1 (off := 2) (fun _ => by kernel_rfl) (holds_own (.there (.there (.there .here)))) (by kernel_rfl)) ?_
                            refine s_pure 191 (.bool (!(decide (y41_2.1.line = (0 : Int))))) (by kernel_rfl) (by kernel_rfl) (fun _ => by kernel_rfl) ?_
                            rcases Bool.eq_false_or_eq_true (!(decide (y41_2.1.line = (0 : Int)))) with h22 | h22
                            · replace H := bifT H h22
                              refine s_pure 192 (.bool true) (by kernel_rfl) (by kernel_rfl) (run_eq (v := .bool (!(decide (y41_2.1.line = (0 : Int))))) (fun _ => by kernel_rfl) (congrArg Value.bool h22)) ?_
                              refine s_pass 193 (by kernel_rfl) (by kernel_rfl) ?_
                              refine s_pass 194 (by kernel_rfl) (by kernel_rfl) ?_
                              refine s_pass 195 (by kernel_rfl) (by kernel_rfl) ?_
                              refine s_pass 196 (by kernel_rfl) (by kernel_rfl) ?_
                              refine s_pure 197 (.bool true) (by kernel_rfl) (by kernel_rfl) (fun _ => by kernel_rfl) ?_
                              refine s_pure 198 (.bool true) (by kernel_rfl) (by kernel_rfl) (fun _ => by kernel_rfl) ?_
                              refine s_pure 199 (.bool true) (by kernel_rfl) (by kernel_rfl) (fun _ => by kernel_rfl) ?_
                              refine ops_end ?_
                              refine At.env [(2, .slice la (List.length l) lcap), (7, .pointer (some ⟨b6_2, 0, none⟩)), (8, .pointer (some ⟨b6_5, 0, none⟩)), (9, .int .i64 v2_9), (11, .int .i64 e84_11), (199, .bool true)] ⟨by kernel_rfl, by kernel_rfl, by kernel_rfl, by kernel_rfl, by kernel_rfl, by kernel_rfl, trivial⟩ ?_
                              refine at_then_normal ?_
                              refine at_true (t := true) (x := C8 [1,1,1,1,1,1,0,1,0,0,1,0,0,1,1,1,0,1,0,1,1,1,0,1,1,1,0]) (y := C8 [1,1,1,1,1,1,0,1,0,0,1,0,0,1,1,1,0,1,0,1,1,1,0,1,1,1,1]) (o := .tmp 199) (by kernel_rfl) (by kernel_rfl) (by kernel_rfl) rfl ?_
                              refine at_seq (x := C8 [1,1,1,1,1,1,0,1,0,0,1,0,0,1,1,1,0,1,0,1,1,1,0,1,1,1,0,0]) (y := C8 [1,1,1,1,1,1,0,1,0,0,1,0,0,1,1,1,0,1,0,1,1,1,0,1,1,1,0,1]) (by kernel_rfl) ?_
                              refine at_region (id := 44) 1 (by kernel_rfl) (by kernel_rfl) ?_
                              refine s_pure 6 (.bool false) (by kernel_rfl) (by kernel_rfl) (fun _ => by kernel_rfl) ?_
                              refine ops_end ?_
                              refine At.env [(6, .bool false)] ⟨by kernel_rfl, trivial⟩ ?_
                              refine at_then_normal ?_
                              refine at_ret (by kernel_rfl) ?_
                              refine at_in_ret ?_
                              refine at_then_ret ?_
                              refine at_in_ret ?_
                              refine at_then_ret ?_
                              refine at_then_ret ?_
                              refine at_in_ret ?_
                              refine at_then_ret ?_
                              obtain rfl := someE H
                              refine at_backR [.bool false] (Γ) (rs := [.tmp 6]) (by kernel_rfl) (.cons (.tmp (by kernel_rfl)) .nil) (fun w hw => (Sat.less (.drop .here (.drop .here (.drop .here (.drop .here (.drop .here (.drop .here (.drop .here (.drop .here .refl)))))))) hw)) ?_
                              exact ⟨rfl, rfl⟩
                            · replace H := bifF H h22
                              refine s_pure 192 (.bool false) (by kernel_rfl) (by kernel_rfl) (run_eq (v := .bool (!(decide (y41_2.1.line = (0 : Int))))) (fun _ => by kernel_rfl) (congrArg Value.bool h22)) ?_
                              refine s_pure 193 (.pointer (some ⟨b41_6, 5, none⟩)) (by kernel_rfl) (by kernel_rfl) (fun _ => by kernel_rfl) ?_
                              refine s_load 194 (.slice a41_2_00 (List.length y41_2.1.data) c41_2_00) (by kernel_rfl) (by kernel_rfl) (load1 (off := 5) (fun _ => by kernel_rfl) (holds_own (.there (.there (.there .here)))) (by kernel_rfl)) ?_
                              refine s_pure 195 (.int .i64 (((List.length y41_2.1.data) : Nat) : Int)) (by kernel_rfl) (by kernel_rfl) (fun _ => by kernel_rfl) ?_
                              refine s_pure 196 (.bool (!(decide ((((List.length y41_2.1.data) : Nat) : Int) = (0 : Int))))) (by kernel_rfl) (by kernel_rfl) (fun _ => by kernel_rfl) ?_
                              refine s_pure 197 (.bool (!(decide ((((List.length y41_2.1.data) : Nat) : Int) = (0 : Int))))) (by kernel_rfl) (by kernel_rfl) (fun _ => by kernel_rfl) ?_
                              refine s_pure 198 (.bool (!(decide ((((List.length y41_2.1.data) : Nat) : Int) = (0 : Int))))) (by kernel_rfl) (by kernel_rfl) (fun _ => by kernel_rfl) ?_
                              refine s_pure 199 (.bool (!(decide ((((List.length y41_2.1.data) : Nat) : Int) = (0 : Int))))) (by kernel_rfl) (by kernel_rfl) (fun _ => by kernel_rfl) ?_
                              refine ops_end ?_
                              refine At.env [(2, .slice la (List.length l) lcap), (7, .pointer (some ⟨b6_2, 0, none⟩)), (8, .pointer (some ⟨b6_5, 0, none⟩)), (9, .int .i64 v2_9), (11, .int .i64 e84_11), (199, .bool (!(decide ((((List.length y41_2.1.data) : Nat) : Int) = (0 : Int)))))] ⟨by kernel_rfl, by kernel_rfl, by kernel_rfl, by kernel_rfl, by kernel_rfl, by kernel_rfl, trivial⟩ ?_
                              refine at_then_normal ?_
                              rcases Bool.eq_false_or_eq_true (!(decide ((((List.length y41_2.1.data) : Nat) : Int) = (0 : Int)))) with h23 | h23
                              · replace H := bifT H h23
                                refine at_true (t := !(decide ((((List.length y41_2.1.data) : Nat) : Int) = (0 : Int)))) (x := C8 [1,1,1,1,1,1,0,1,0,0,1,0,0,1,1,1,0,1,0,1,1,1,0,1,1,1,0]) (y := C8 [1,1,1,1,1,1,0,1,0,0,1,0,0,1,1,1,0,1,0,1,1,1,0,1,1,1,1]) (o := .tmp 199) (by kernel_rfl) (by kernel_rfl) (by kernel_rfl) h23 ?_
                                refine at_seq (x := C8 [1,1,1,1,1,1,0,1,0,0,1,0,0,1,1,1,0,1,0,1,1,1,0,1,1,1,0,0]) (y := C8 [1,1,1,1,1,1,0,1,0,0,1,0,0,1,1,1,0,1,0,1,1,1,0,1,1,1,0,1]) (by kernel_rfl) ?_
                                refine at_region (id := 44) 1 (by kernel_rfl) (by kernel_rfl) ?_
                                refine s_pure 6 (.bool false) (by kernel_rfl) (by kernel_rfl) (fun _ => by kernel_rfl) ?_
                                refine ops_end ?_
                                refine At.env [(6, .bool false)] ⟨by kernel_rfl, trivial⟩ ?_
                                refine at_then_normal ?_
                                refine at_ret (by kernel_rfl) ?_
                                refine at_in_ret ?_
                                refine at_then_ret ?_
                                refine at_in_ret ?_
                                refine at_then_ret ?_
                                refine at_then_ret ?_
                                refine at_in_ret ?_
                                refine at_then_ret ?_
                                obtain rfl := someE H
                                refine at_backR [.bool false] (Γ) (rs := [.tmp 6]) (by kernel_rfl) (.cons (.tmp (by kernel_rfl)) .nil) (fun w hw => (Sat.less (.drop .here (.drop .here (.drop .here (.drop .here (.drop .here (.drop .here (.drop .here (.drop .here .refl)))))))) hw)) ?_
                                exact ⟨rfl, rfl⟩
                              · replace H := bifF H h23
                                refine at_false (t := !(decide ((((List.length y41_2.1.data) : Nat) : Int) = (0 : Int)))) (x := C8 [1,1,1,1,1,1,0,1,0,0,1,0,0,1,1,1,0,1,0,1,1,1,0,1,1,1,0]) (y := C8 [1,1,1,1,1,1,0,1,0,0,1,0,0,1,1,1,0,1,0,1,1,1,0,1,1,1,1]) (o := .tmp 199) (by kernel_rfl) (by kernel_rfl) (by kernel_rfl) h23 ?_
                                refine at_skip (by kernel_rfl) ?_
                                refine at_in_normal ?_
                                refine at_round_normal ?_
                                exact at_join_mk [(2, .slice la (List.length l) lcap), (7, .pointer (some ⟨b6_2, 0, none⟩)), (8, .pointer (some ⟨b6_5, 0, none⟩)), (9, .int .i64 v2_9), (11, .int .i64 e84_11)] ((RChA b6_5 y42_2.2.2) :: (CacheA b6_2 y41_2.2.2) :: Γ) ⟨by kernel_rfl, by kernel_rfl, by kernel_rfl, by kernel_rfl, by kernel_rfl, trivial⟩ (fun w hw => (Sat.less (.take (.there (.there .here)) (.take (.there (.there (.there (.there .here)))) (.drop .here (.drop .here (.drop .here (.drop .here (.drop .here (.drop .here .refl)))))))) hw)) ⟨y42_2.2.2, y41_2.2.2, H, rfl, rfl⟩
                          · replace H := bifF H h21
                            refine s_pure 188 (.bool false) (by kernel_rfl) (by kernel_rfl) (run_eq (v := .bool (!y41_2.2.1)) (fun _ => by kernel_rfl) (congrArg Value.bool h21)) ?_
                            refine s_pass 189 (by kernel_rfl) (by kernel_rfl) ?_
                            refine s_pass 190 (by kernel_rfl) (by kernel_rfl) ?_
                            refine s_pass 191 (by kernel_rfl) (by kernel_rfl) ?_
                            refine s_pass 192 (by kernel_rfl) (by kernel_rfl) ?_
                            refine s_pass 193 (by kernel_rfl) (by kernel_rfl) ?_
                            refine s_pass 194 (by kernel_rfl) (by kernel_rfl) ?_
                            refine s_pass 195 (by kernel_rfl) (by kernel_rfl) ?_
                            refine s_pass 196 (by kernel_rfl) (by kernel_rfl) ?_
                            refine s_pass 197 (by kernel_rfl) (by kernel_rfl) ?_
                            refine s_pure 198 (.bool false) (by kernel_rfl) (by kernel_rfl) (fun _ => by kernel_rfl) ?_
                            refine s_pure 199 (.bool false) (by kernel_rfl) (by kernel_rfl) (fun _ => by kernel_rfl) ?_
                            refine ops_end ?_
                            refine At.env [(2, .slice la (List.length l) lcap), (7, .pointer (some ⟨b6_2, 0, none⟩)), (8, .pointer (some ⟨b6_5, 0, none⟩)), (9, .int .i64 v2_9), (11, .int .i64 e84_11), (199, .bool false)] ⟨by kernel_rfl, by kernel_rfl, by kernel_rfl, by kernel_rfl, by kernel_rfl, by kernel_rfl, trivial⟩ ?_
                            refine at_then_normal ?_
                            refine at_false (t := false) (x := C8 [1,1,1,1,1,1,0,1,0,0,1,0,0,1,1,1,0,1,0,1,1,1,0,1,1,1,0]) (y := C8 [1,1,1,1,1,1,0,1,0,0,1,0,0,1,1,1,0,1,0,1,1,1,0,1,1,1,1]) (o := .tmp 199) (by kernel_rfl) (by kernel_rfl) (by kernel_rfl) rfl ?_
                            refine at_skip (by kernel_rfl) ?_
                            refine at_in_normal ?_
                            refine at_round_normal ?_
                            exact at_join_mk [(2, .slice la (List.length l) lcap), (7, .pointer (some ⟨b6_2, 0, none⟩)), (8, .pointer (some ⟨b6_5, 0, none⟩)), (9, .int .i64 v2_9), (11, .int .i64 e84_11)] ((RChA b6_5 y42_2.2.2) :: (CacheA b6_2 y41_2.2.2) :: Γ) ⟨by kernel_rfl, by kernel_rfl, by kernel_rfl, by kernel_rfl, by kernel_rfl, trivial⟩ (fun w hw => (Sat.less (.take (.there (.there .here)) (.take (.there (.there (.there (.there .here)))) (.drop .here (.drop .here (.drop .here (.drop .here (.drop .here (.drop .here .refl)))))))) hw)) ⟨y42_2.2.2, y41_2.2.2, H, rfl, rfl⟩
                      · replace H := bifF H h19
                        refine s_pure 178 (.bool false) (by kernel_rfl) (by kernel_rfl) (run_eq (v := .bool (y41_2.2.1)) (fun _ => by kernel_rfl) (congrArg Value.bool h19)) ?_
                        refine s_pass 179 (by kernel_rfl) (by kernel_rfl) ?_
                        refine s_pass 180 (by kernel_rfl) (by kernel_rfl) ?_
                        refine s_pass 181 (by kernel_rfl) (by kernel_rfl) ?_
                        refine s_pass 182 (by kernel_rfl) (by kernel_rfl) ?_
                        refine s_pure 183 (.bool false) (by kernel_rfl) (by kernel_rfl) (fun _ => by kernel_rfl) ?_
                        refine s_pure 184 (.bool false) (by kernel_rfl) (by kernel_rfl) (fun _ => by kernel_rfl) ?_
                        refine s_pure 185 (.bool false) (by kernel_rfl) (by kernel_rfl) (fun _ => by kernel_rfl) ?_
                        refine s_pure 186 (.bool y41_2.2.1) (by kernel_rfl) (by kernel_rfl) (fun _ => by kernel_rfl) ?_
                        refine s_pure 187 (.bool !y41_2.2.1) (by kernel_rfl) (by kernel_rfl) (fun _ => by kernel_rfl) ?_
                        rcases Bool.eq_false_or_eq_true (!y41_2.2.1) with h24 | h24
                        · replace H := bifT H h24
                          refine s_pure 188 (.bool true) (by kernel_rfl) (by kernel_rfl) (run_eq (v := .bool (!y41_2.2.1)) (fun _ => by kernel_rfl) (congrArg Value.bool h24)) ?_
                          refine s_pure 189 (.pointer (some ⟨b41_6, 2, none⟩)) (by kernel_rfl) (by kernel_rfl) (fun _ => by kernel_rfl) ?_
                          refine s_load 190 (.int .i64 y41_2.1.line) (by kernel_rfl) (by kernel_rfl) (load1 (off := 2) (fun _ => by kernel_rfl) (holds_own (.there (.there (.there .here)))) (by kernel_rfl)) ?_
                          refine s_pure 191 (.bool (!(decide (y41_2.1.line = (0 : Int))))) (by kernel_rfl) (by kernel_rfl) (fun _ => by kernel_rfl) ?_
                          rcases Bool.eq_false_or_eq_true (!(decide (y41_2.1.line = (0 : Int)))) with h25 | h25
                          · replace H := bifT H h25
                            refine s_pure 192 (.bool true) (by kernel_rfl) (by kernel_rfl) (run_eq (v := .bool (!(decide (y41_2.1.line = (0 : Int))))) (fun _ => by kernel_rfl) (congrArg Value.bool h25)) ?_
                            refine s_pass 193 (by kernel_rfl) (by kernel_rfl) ?_
                            refine s_pass 194 (by kernel_rfl) (by kernel_rfl) ?_
                            refine s_pass 195 (by kernel_rfl) (by kernel_rfl) ?_
                            refine s_pass 196 (by kernel_rfl) (by kernel_rfl) ?_
                            refine s_pure 197 (.bool true) (by kernel_rfl) (by kernel_rfl) (fun _ => by kernel_rfl) ?_
                            refine s_pure 198 (.bool true) (by kernel_rfl) (by kernel_rfl) (fun _ => by kernel_rfl) ?_
                            refine s_pure 199 (.bool true) (by kernel_rfl) (by kernel_rfl) (fun _ => by kernel_rfl) ?_
                            refine ops_end ?_
                            refine At.env [(2, .slice la (List.length l) lcap), (7, .pointer (some ⟨b6_2, 0, none⟩)), (8, .pointer (some ⟨b6_5, 0, none⟩)), (9, .int .i64 v2_9), (11, .int .i64 e84_11), (199, .bool true)] ⟨by kernel_rfl, by kernel_rfl, by kernel_rfl, by kernel_rfl, by kernel_rfl, by kernel_rfl, trivial⟩ ?_
                            refine at_then_normal ?_
                            refine at_true (t := true) (x := C8 [1,1,1,1,1,1,0,1,0,0,1,0,0,1,1,1,0,1,0,1,1,1,0,1,1,1,0]) (y := C8 [1,1,1,1,1,1,0,1,0,0,1,0,0,1,1,1,0,1,0,1,1,1,0,1,1,1,1]) (o := .tmp 199) (by kernel_rfl) (by kernel_rfl) (by kernel_rfl) rfl ?_
                            refine at_seq (x := C8 [1,1,1,1,1,1,0,1,0,0,1,0,0,1,1,1,0,1,0,1,1,1,0,1,1,1,0,0]) (y := C8 [1,1,1,1,1,1,0,1,0,0,1,0,0,1,1,1,0,1,0,1,1,1,0,1,1,1,0,1]) (by kernel_rfl) ?_
                            refine at_region (id := 44) 1 (by kernel_rfl) (by kernel_rfl) ?_
                            refine s_pure 6 (.bool false) (by kernel_rfl) (by kernel_rfl) (fun _ => by kernel_rfl) ?_
                            refine ops_end ?_
                            refine At.env [(6, .bool false)] ⟨by kernel_rfl, trivial⟩ ?_
                            refine at_then_normal ?_
                            refine at_ret (by kernel_rfl) ?_
                            refine at_in_ret ?_
                            refine at_then_ret ?_
                            refine at_in_ret ?_
                            refine at_then_ret ?_
                            refine at_then_ret ?_
                            refine at_in_ret ?_
                            refine at_then_ret ?_
                            obtain rfl := someE H
                            refine at_backR [.bool false] (Γ) (rs := [.tmp 6]) (by kernel_rfl) (.cons (.tmp (by kernel_rfl)) .nil) (fun w hw => (Sat.less (.drop .here (.drop .here (.drop .here (.drop .here (.drop .here (.drop .here (.drop .here (.drop .here .refl)))))))) hw)) ?_
                            exact ⟨rfl, rfl⟩
                          · replace H := bifF H h25
                            refine s_pure 192 (.bool false) (by kernel_rfl) (by kernel_rfl) (run_eq (v := .bool (!(decide (y41_2.1.line = (0 : Int))))) (fun _ => by kernel_rfl) (congrArg Value.bool h25)) ?_
                            refine s_pure 193 (.pointer (some ⟨b41_6, 5, none⟩)) (by kernel_rfl) (by kernel_rfl) (fun _ => by kernel_rfl) ?_
                            refine s_load 194 (.slice a41_2_00 (List.length y41_2.1.data) c41_2_00) (by kernel_rfl) (by kernel_rfl) (load1 (off := 5) (fun _ => by kernel_rfl) (holds_own (.there (.there (.there .here)))) (by kernel_rfl)) ?_
                            refine s_pure 195 (.int .i64 (((List.length y41_2.1.data) : Nat) : Int)) (by kernel_rfl) (by kernel_rfl) (fun _ => by kernel_rfl) ?_
                            refine s_pure 196 (.bool (!(decide ((((List.length y41_2.1.data) : Nat) : Int) = (0 : Int))))) (by kernel_rfl) (by kernel_rfl) (fun _ => by kernel_rfl) ?_
                            refine s_pure 197 (.bool (!(decide ((((List.length y41_2.1.data) : Nat) : Int) = (0 : Int))))) (by kernel_rfl) (by kernel_rfl) (fun _ => by kernel_rfl) ?_
                            refine s_pure 198 (.bool (!(decide ((((List.length y41_2.1.data) : Nat) : Int) = (0 : Int))))) (by kernel_rfl) (by kernel_rfl) (fun _ => by kernel_rfl) ?_
                            refine s_pure 199 (.bool (!(decide ((((List.length y41_2.1.data) : Nat) : Int) = (0 : Int))))) (by kernel_rfl) (by kernel_rfl) (fun _ => by kernel_rfl) ?_
                            refine ops_end ?_
                            refine At.env [(2, .slice la (List.length l) lcap), (7, .pointer (some ⟨b6_2, 0, none⟩)), (8, .pointer (some ⟨b6_5, 0, none⟩)), (9, .int .i64 v2_9), (11, .int .i64 e84_11), (199, .bool (!(decide ((((List.length y41_2.1.data) : Nat) : Int) = (0 : Int)))))] ⟨by kernel_rfl, by kernel_rfl, by kernel_rfl, by kernel_rfl, by kernel_rfl, by kernel_rfl, trivial⟩ ?_
                            refine at_then_normal ?_
                            rcases Bool.eq_false_or_eq_true (!(decide ((((List.length y41_2.1.data) : Nat) : Int) = (0 : Int)))) with h26 | h26
                            · replace H := bifT H h26
                              refine at_true (t := !(decide ((((List.length y41_2.1.data) : Nat) : Int) = (0 : Int)))) (x := C8 [1,1,1,1,1,1,0,1,0,0,1,0,0,1,1,1,0,1,0,1,1,1,0,1,1,1,0]) (y := C8 [1,1,1,1,1,1,0,1,0,0,1,0,0,1,1,1,0,1,0,1,1,1,0,1,1,1,1]) (o := .tmp 199) (by kernel_rfl) (by kernel_rfl) (by kernel_rfl) h26 ?_
                              refine at_seq (x := C8 [1,1,1,1,1,1,0,1,0,0,1,0,0,1,1,1,0,1,0,1,1,1,0,1,1,1,0,0]) (y := C8 [1,1,1,1,1,1,0,1,0,0,1,0,0,1,1,1,0,1,0,1,1,1,0,1,1,1,0,1]) (by kernel_rfl) ?_
                              refine at_region (id := 44) 1 (by kernel_rfl) (by kernel_rfl) ?_
                              refine s_pure 6 (.bool false) (by kernel_rfl) (by kernel_rfl) (fun _ => by kernel_rfl) ?_
                              refine ops_end ?_
                              refine At.env [(6, .bool false)] ⟨by kernel_rfl, trivial⟩ ?_
                              refine at_then_normal ?_
                              refine at_ret (by kernel_rfl) ?_
                              refine at_in_ret ?_
                              refine at_then_ret ?_
                              refine at_in_ret ?_
                              refine at_then_ret ?_
                              refine at_then_ret ?_
                              refine at_in_ret ?_
                              refine at_then_ret ?_
                              obtain rfl := someE H
                              refine at_backR [.bool false] (Γ) (rs := [.tmp 6]) (by kernel_rfl) (.cons (.tmp (by kernel_rfl)) .nil) (fun w hw => (Sat.less (.drop .here (.drop .here (.drop .here (.drop .here (.drop .here (.drop .here (.drop .here (.drop .here .refl)))))))) hw)) ?_
                              exact ⟨rfl, rfl⟩
                            · replace H := bifF H h26
                              refine at_false (t := !(decide ((((List.length y41_2.1.data) : Nat) : Int) = (0 : Int)))) (x := C8 [1,1,1,1,1,1,0,1,0,0,1,0,0,1,1,1,0,1,0,1,1,1,0,1,1,1,0]) (y := C8 [1,1,1,1,1,1,0,1,0,0,1,0,0,1,1,1,0,1,0,1,1,1,0,1,1,1,1]) (o := .tmp 199) (by kernel_rfl) (by kernel_rfl) (by kernel_rfl) h26 ?_
                              refine at_skip (by kernel_rfl) ?_
                              refine at_in_normal ?_
                              refine at_round_normal ?_
                              exact at_join_mk [(2, .slice la (List.length l) lcap), (7, .pointer (some ⟨b6_2, 0, none⟩)), (8, .pointer (some ⟨b6_5, 0, none⟩)), (9, .int .i64 v2_9), (11, .int .i64 e84_11)] ((RChA b6_5 y42_2.2.2) :: (CacheA b6_2 y41_2.2.2) :: Γ) ⟨by kernel_rfl, by kernel_rfl, by kernel_rfl, by kernel_rfl, by kernel_rfl, trivial⟩ (fun w hw => (Sat.less (.take (.there (.there .here)) (.take (.there (.there (.there (.there .here)))) (.drop .here (.drop .here (.drop .here (.drop .here (.drop .here (.drop .here .refl)))))))) hw)) ⟨y42_2.2.2, y41_2.2.2, H, rfl, rfl⟩
                        · replace H := bifF H h24
                          refine s_pure 188 (.bool false) (by kernel_rfl) (by kernel_rfl) (run_eq (v := .bool (!y41_2.2.1)) (fun _ => by kernel_rfl) (congrArg Value.bool h24)) ?_
                          refine s_pass 189 (by kernel_rfl) (by kernel_rfl) ?_
                          refine s_pass 190 (by kernel_rfl) (by kernel_rfl) ?_
                          refine s_pass 191 (by kernel_rfl) (by kernel_rfl) ?_
                          refine s_pass 192 (by kernel_rfl) (by kernel_rfl) ?_
                          refine s_pass 193 (by kernel_rfl) (by kernel_rfl) ?_
                          refine s_pass 194 (by kernel_rfl) (by kernel_rfl) ?_
                          refine s_pass 195 (by kernel_rfl) (by kernel_rfl) ?_
                          refine s_pass 196 (by kernel_rfl) (by kernel_rfl) ?_
                          refine s_pass 197 (by kernel_rfl) (by kernel_rfl) ?_
                          refine s_pure 198 (.bool false) (by kernel_rfl) (by kernel_rfl) (fun _ => by kernel_rfl) ?_
                          refine s_pure 199 (.bool false) (by kernel_rfl) (by kernel_rfl) (fun _ => by kernel_rfl) ?_
                          refine ops_end ?_
                          refine At.env [(2, .slice la (List.length l) lcap), (7, .pointer (some ⟨b6_2, 0, none⟩)), (8, .pointer (some ⟨b6_5, 0, none⟩)), (9, .int .i64 v2_9), (11, .int .i64 e84_11), (199, .bool false)] ⟨by kernel_rfl, by kernel_rfl, by kernel_rfl, by kernel_rfl, by kernel_rfl, by kernel_rfl, trivial⟩ ?_
                          refine at_then_normal ?_
                          refine at_false (t := false) (x := C8 [1,1,1,1,1,1,0,1,0,0,1,0,0,1,1,1,0,1,0,1,1,1,0,1,1,1,0]) (y := C8 [1,1,1,1,1,1,0,1,0,0,1,0,0,1,1,1,0,1,0,1,1,1,0,1,1,1,1]) (o := .tmp 199) (by kernel_rfl) (by kernel_rfl) (by kernel_rfl) rfl ?_
                          refine at_skip (by kernel_rfl) ?_
                          refine at_in_normal ?_
                          refine at_round_normal ?_
                          exact at_join_mk [(2, .slice la (List.length l) lcap), (7, .pointer (some ⟨b6_2, 0, none⟩)), (8, .pointer (some ⟨b6_5, 0, none⟩)), (9, .int .i64 v2_9), (11, .int .i64 e84_11)] ((RChA b6_5 y42_2.2.2) :: (CacheA b6_2 y41_2.2.2) :: Γ) ⟨by kernel_rfl, by kernel_rfl, by kernel_rfl, by kernel_rfl, by kernel_rfl, trivial⟩ (fun w hw => (Sat.less (.take (.there (.there .here)) (.take (.there (.there (.there (.there .here)))) (.drop .here (.drop .here (.drop .here (.drop .here (.drop .here (.drop .here .refl)))))))) hw)) ⟨y42_2.2.2, y41_2.2.2, H, rfl, rfl⟩
                  · replace H := bifF H h17
                    refine at_false (t := decide (y16_2 = (4 : Int))) (x := C8 [1,1,1,1,1,1,0,1,0,0,1,0,0,1,1,1,0,1,0,1,1,1,0]) (y := C8 [1,1,1,1,1,1,0,1,0,0,1,0,0,1,1,1,0,1,0,1,1,1,1]) (o := .tmp 159) (by kernel_rfl) (by kernel_rfl) (by kernel_rfl) h17 ?_
                    refine at_seq_join (x := C8 [1,1,1,1,1,1,0,1,0,0,1,0,0,1,1,1,0,1,0,1,1,1,1,0]) (y := C8 [1,1,1,1,1,1,0,1,0,0,1,0,0,1,1,1,0,1,0,1,1,1,1,1]) (fun ff ΔΔ => ∃ (e108_200 : Bool), cachePlaysS_j108 v2_b6_2 e84_11 v2_b6_5 v2_9 (cachePlaysS_l2 l (cachePlaysS_k2 ) fuel1) e108_200 = some y ∧ ff = [(2, .slice la (List.length l) lcap), (7, .pointer (some ⟨b6_2, 0, none⟩)), (8, .pointer (some ⟨b6_5, 0, none⟩)), (9, .int .i64 v2_9), (11, .int .i64 e84_11), (200, .bool e108_200)] ∧ (RChA b6_5 v2_b6_5) :: (CacheA b6_2 v2_b6_2) :: Γ = ΔΔ) (by kernel_rfl) ?_ ?_
                    · rintro _ _ ⟨e108_200, H, rfl, rfl⟩
                      rw [cachePlaysS_j108] at H
                      rcases Bool.eq_false_or_eq_true (e108_200) with h27 | h27
                      · replace H := bifT H h27
                        refine at_true (t := e108_200) (x := C8 [1,1,1,1,1,1,0,1,0,0,1,0,0,1,1,1,0,1,0,1,1,1,1,1,0]) (y := C8 [1,1,1,1,1,1,0,1,0,0,1,0,0,1,1,1,0,1,0,1,1,1,1,1,1]) (o := .tmp 200) (by kernel_rfl) (by kernel_rfl) (by kernel_rfl) h27 ?_
                        refine at_seq (x := C8 [1,1,1,1,1,1,0,1,0,0,1,0,0,1,1,1,0,1,0,1,1,1,1,1,0,0]) (y := C8 [1,1,1,1,1,1,0,1,0,0,1,0,0,1,1,1,0,1,0,1,1,1,1,1,0,1]) (by kernel_rfl) ?_
                        refine at_region (id := 47) 7 (by kernel_rfl) (by kernel_rfl) ?_
                        refine s_pure 203 (.pointer (some ⟨b6_2, 0, none⟩)) (by kernel_rfl) (by kernel_rfl) (fun _ => by kernel_rfl) ?_
                        refine s_pure 204 (.int .i64 e84_11) (by kernel_rfl) (by kernel_rfl) (fun _ => by kernel_rfl) ?_
                        obtain ⟨y47_2, hy47_2, H⟩ := bindE H
                        refine s_call 205 31 #[.pointer (some ⟨b6_2, 0, none⟩), .int .i64 e84_11] (by kernel_rfl) (by kernel_rfl) (fun _ => by kernel_rfl) (Tr.conv (Γ' := (CacheA b6_2 v2_b6_2) :: (RChA b6_5 v2_b6_5) :: Γ) (fun w hw => (Sat.less (.take (.there .here) (.take .here .refl)) hw)) (TouchF_tr b6_2 v2_b6_2 e84_11 y47_2 hy47_2)) ?_
                        rintro _ _ ⟨rfl, rfl⟩
                        refine s_pure 206 (.pointer (some ⟨b6_5, 0, none⟩)) (by kernel_rfl) (by kernel_rfl) (fun _ => by kernel_rfl) ?_
                        refine s_pure 207 (.int .i64 e84_11) (by kernel_rfl) (by kernel_rfl) (fun _ => by kernel_rfl) ?_
                        obtain ⟨y47_5, hy47_5, H⟩ := bindE H
                        refine s_call 208 37 #[.pointer (some ⟨b6_5, 0, none⟩), .int .i64 e84_11] (by kernel_rfl) (by kernel_rfl) (fun _ => by kernel_rfl) (Tr.conv (Γ' := (RChA b6_5 v2_b6_5) :: (CacheA b6_2 y47_2.2) :: Γ) (fun w hw => (Sat.less (.take (.there .here) (.take .here .refl)) hw)) (RTouchF_tr b6_5 v2_b6_5 e84_11 y47_5 hy47_5)) ?_
                        rintro _ _ ⟨rfl, rfl⟩
                        refine s_pure 209 (.bool (!(y47_2.1 == y47_5.1))) (by kernel_rfl) (by kernel_rfl) (fun _ => by kernel_rfl) ?_
                        refine ops_end ?_
                        refine At.env [(2, .slice la (List.length l) lcap), (7, .pointer (some ⟨b6_2, 0, none⟩)), (8, .pointer (some ⟨b6_5, 0, none⟩)), (9, .int .i64 v2_9), (11, .int .i64 e84_11), (209, .bool (!(y47_2.1 == y47_5.1)))] ⟨by kernel_rfl, by kernel_rfl, by kernel_rfl, by kernel_rfl, by kernel_rfl, by kernel_rfl, trivial⟩ ?_
                        refine at_then_normal ?_
                        rcases Bool.eq_false_or_eq_true (!(y47_2.1 == y47_5.1)) with h28 | h28
                        · replace H := bifT H h28
                          refine at_true (t := !(y47_2.1 == y47_5.1)) (x := C8 [1,1,1,1,1,1,0,1,0,0,1,0,0,1,1,1,0,1,0,1,1,1,1,1,0,1,0]) (y := C8 [1,1,1,1,1,1,0,1,0,0,1,0,0,1,1,1,0,1,0,1,1,1,1,1,0,1,1]) (o := .tmp 209) (by kernel_rfl) (by kernel_rfl) (by kernel_rfl) h28 ?_
                          refine at_seq (x := C8 [1,1,1,1,1,1,0,1,0,0,1,0,0,1,1,1,0,1,0,1,1,1,1,1,0,1,0,0]) (y := C8 [1,1,1,1,1,1,0,1,0,0,1,0,0,1,1,1,0,1,0,1,1,1,1,1,0,1,0,1]) (by kernel_rfl) ?_
                          refine at_region (id := 48) 1 (by kernel_rfl) (by kernel_rfl) ?_
                          refine s_pure 6 (.bool false) (by kernel_rfl) (by kernel_rfl) (fun _ => by kernel_rfl) ?_
                          refine ops_end ?_
                          refine At.env [(6, .bool false)] ⟨by kernel_rfl, trivial⟩ ?_
                          refine at_then_normal ?_
                          refine at_ret (by kernel_rfl) ?_
                          refine at_in_ret ?_
                          refine at_then_ret ?_
                          refine at_in_ret ?_
                          refine at_then_ret ?_
                          refine at_then_ret ?_
                          refine at_in_ret ?_
                          refine at_then_ret ?_
                          obtain rfl := someE H
                          refine at_backR [.bool false] (Γ) (rs := [.tmp 6]) (by kernel_rfl) (.cons (.tmp (by kernel_rfl)) .nil) (fun w hw => (Sat.less (.drop .here (.drop .here .refl)) hw)) ?_
                          exact ⟨rfl, rfl⟩
                        · replace H := bifF H h28
                          refine at_false (t := !(y47_2.1 == y47_5.1)) (x := C8 [1,1,1,1,1,1,0,1,0,0,1,0,0,1,1,1,0,1,0,1,1,1,1,1,0,1,0]) (y := C8 [1,1,1,1,1,1,0,1,0,0,1,0,0,1,1,1,0,1,0,1,1,1,1,1,0,1,1]) (o := .tmp 209) (by kernel_rfl) (by kernel_rfl) (by kernel_rfl) h28 ?_
                          refine at_skip (by kernel_rfl) ?_
                          refine at_in_normal ?_
                          refine at_round_normal ?_
                          exact at_join_mk [(2, .slice la (List.length l) lcap), (7, .pointer (some ⟨b6_2, 0, none⟩)), (8, .pointer (some ⟨b6_5, 0, none⟩)), (9, .int .i64 v2_9), (11, .int .i64 e84_11)] ((RChA b6_5 y47_5.2) :: (CacheA b6_2 y47_2.2) :: Γ) ⟨by kernel_rfl, by kernel_rfl, by kernel_rfl, by kernel_rfl, by kernel_rfl, trivial⟩ (fun w hw => (Sat.less (.take .here (.take .here .refl)) hw)) ⟨y47_5.2, y47_2.2, H, rfl, rfl⟩
                      · replace H := bifF H h27
                        refine at_false (t := e108_200) (x := C8 [1,1,1,1,1,1,0,1,0,0,1,0,0,1,1,1,0,1,0,1,1,1,1,1,0]) (y := C8 [1,1,1,1,1,1,0,1,0,0,1,0,0,1,1,1,0,1,0,1,1,1,1,1,1]) (o := .tmp 200) (by kernel_rfl) (by kernel_rfl) (by kernel_rfl) h27 ?_
                        refine at_seq (x := C8 [1,1,1,1,1,1,0,1,0,0,1,0,0,1,1,1,0,1,0,1,1,1,1,1,1,0]) (y := C8 [1,1,1,1,1,1,0,1,0,0,1,0,0,1,1,1,0,1,0,1,1,1,1,1,1,1]) (by kernel_rfl) ?_
                        refine at_region (id := 17) 9 (by kernel_rfl) (by kernel_rfl) ?_
                        refine s_pure 76 (.pointer (some ⟨b6_2, 0, none⟩)) (by kernel_rfl) (by kernel_rfl) (fun _ => by kernel_rfl) ?_
                        refine s_pure 77 (.int .i64 e84_11) (by kernel_rfl) (by kernel_rfl) (fun _ => by kernel_rfl) ?_
                        obtain ⟨y17_2, hy17_2, H⟩ := bindE H
                        refine s_call 78 20 #[.pointer (some ⟨b6_2, 0, none⟩), .int .i64 e84_11] (by kernel_rfl) (by kernel_rfl) (fun _ => by kernel_rfl) (Tr.conv (Γ' := (CacheA b6_2 v2_b6_2) :: (RChA b6_5 v2_b6_5) :: Γ) (fun w hw => (Sat.less (.take (.there .here) (.take .here .refl)) hw)) (FindF_tr b6_2 v2_b6_2 e84_11 y17_2 hy17_2)) ?_
                        rintro _ _ ⟨a17_2_00, c17_2_00, rfl, rfl⟩
                        refine s_pure 75 (.tuple #[.agg #[.int .i64 y17_2.1.fwd, .int .i64 y17_2.1.back, .int .i64 y17_2.1.line, .int .i64 y17_2.1.used, .bool y17_2.1.dirty, .slice a17_2_00 (List.length y17_2.1.data) c17_2_00], .bool y17_2.2]) (by kernel_rfl) (by kernel_rfl) (fun _ => by kernel_rfl) ?_
                        refine s_pure 79 (.agg #[.int .i64 y17_2.1.fwd, .int .i64 y17_2.1.back, .int .i64 y17_2.1.line, .int .i64 y17_2.1.used, .bool y17_2.1.dirty, .slice a17_2_00 (List.length y17_2.1.data) c17_2_00]) (by kernel_rfl) (by kernel_rfl) (fun _ => by kernel_rfl) ?_
                        refine s_pure 80 (.bool y17_2.2) (by kernel_rfl) (by kernel_rfl) (fun _ => by kernel_rfl) ?_
                        refine s_step 19 (by kernel_rfl) (by kernel_rfl) (st_new (T := 31) (cells := #[.int .i64 (0), .int .i64 (0), .int .i64 (0), .int .i64 (0), .bool false, .slice none 0 0]) (fun a => .pointer (some a)) (fun _ => by kernel_rfl)) ?_
                        rintro _ _ ⟨b17_6, rfl, rfl⟩
                        refine s_do (by kernel_rfl) (by kernel_rfl) (st_store (off := 0) (vs := [.int .i64 y17_2.1.fwd, .int .i64 y17_2.1.back, .int .i64 y17_2.1.line, .int .i64 y17_2.1.used, .bool y17_2.1.dirty, .slice a17_2_00 (List.length y17_2.1.data) c17_2_00]) (c' := #[.int .i64 y17_2.1.fwd, .int .i64 y17_2.1.back, .int .i64 y17_2.1.line, .int .i64 y17_2.1.used, .bool y17_2.1.dirty, .slice a17_2_00 (List.length y17_2.1.data) c17_2_00]) (fun _ => by kernel_rfl) .here (by kernel_rfl) (by kernel_rfl) (by kernel_rfl)) ?_
                        rintro _ _ ⟨rfl, rfl⟩
                        refine s_pure 20 (.bool y17_2.2) (by kernel_rfl) (by kernel_rfl) (fun _ => by kernel_rfl) ?_
                        refine ops_end ?_
                        refine At.env [(2, .slice la (List.length l) lcap), (7, .pointer (some ⟨b6_2, 0, none⟩)), (8, .pointer (some ⟨b6_5, 0, none⟩)), (9, .int .i64 v2_9), (11, .int .i64 e84_11), (19, .pointer (some ⟨b17_6, 0, none⟩)), (20, .bool y17_2.2)] ⟨by kernel_rfl, by kernel_rfl, by kernel_rfl, by kernel_rfl, by kernel_rfl, by kernel_rfl, by kernel_rfl, trivial⟩ ?_
                        refine at_then_normal ?_
                        refine at_seq (x := C8 [1,1,1,1,1,1,0,1,0,0,1,0,0,1,1,1,0,1,0,1,1,1,1,1,1,1,0]) (y := C8 [1,1,1,1,1,1,0,1,0,0,1,0,0,1,1,1,0,1,0,1,1,1,1,1,1,1,1]) (by kernel_rfl) ?_
                        refine at_region (id := 18) 4 (by kernel_rfl) (by kernel_rfl) ?_
                        refine s_pure 81 (.pointer (some ⟨b6_5, 0, none⟩)) (by kernel_rfl) (by kernel_rfl) (fun _ => by kernel_rfl) ?_
                        refine s_pure 82 (.int .i64 e84_11) (by kernel_rfl) (by kernel_rfl) (fun _ => by kernel_rfl) ?_
                        refine RChA.tox (.there (.there (.there .here))) ?_
                        intro x18_2_b6_5
                        obtain ⟨y18_2, hy18_2, H⟩ := bindE H
                        refine s_call 83 38 #[.pointer (some ⟨b6_5, 0, none⟩), .int .i64 e84_11] (by kernel_rfl) (by kernel_rfl) (fun _ => by kernel_rfl) (RAtF_tr b6_5 x18_2_b6_5 v2_b6_5 e84_11 y18_2 hy18_2) ?_
                        rintro _ _ ⟨rfl, rfl⟩
                        refine s_pure 21 (.int .i64 y18_2) (by kernel_rfl) (by kernel_rfl) (fun _ => by kernel_rfl) ?_
                        refine ops_end ?_
                        refine At.env [(2, .slice la (List.length l) lcap), (7, .pointer (some ⟨b6_2, 0, none⟩)), (8, .pointer (some ⟨b6_5, 0, none⟩)), (9, .int .i64 v2_9), (11, .int .i64 e84_11), (19, .pointer (some ⟨b17_6, 0, none⟩)), (20, .bool y17_2.2), (21, .int .i64 y18_2)] ⟨by kernel_rfl, by kernel_rfl, by kernel_rfl, by kernel_rfl, by kernel_rfl, by kernel_rfl, by kernel_rfl, by kernel_rfl, trivial⟩ ?_
                        refine at_then_normal ?_
                        refine At.conv (Γ' := (RChA b6_5 v2_b6_5) :: (Asn.own b17_6 (.cells #[.int .i64 y17_2.1.fwd, .int .i64 y17_2.1.back, .int .i64 y17_2.1.line, .int .i64 y17_2.1.used, .bool y17_2.1.dirty, .slice a17_2_00 (List.length y17_2.1.data) c17_2_00] 31 (0, 0))) :: (IntsA a17_2_00 c17_2_00 y17_2.1.data) :: (CacheA b6_2 v2_b6_2) :: Γ) (fun w hw => RChXA.shut (hw.pull .here)) ?_
                        refine at_seq_join (x := C8 [1,1,1,1,1,1,0,1,0,0,1,0,0,1,1,1,0,1,0,1,1,1,1,1,1,1,1,0]) (y := C8 [1,1,1,1,1,1,0,1,0,0,1,0,0,1,1,1,0,1,0,1,1,1,1,1,1,1,1,1]) (fun ff ΔΔ => cachePlaysS_j109 e84_11 v2_9 (cachePlaysS_l2 l (cachePlaysS_k2 ) fuel1) v2_b6_5 v2_b6_2 y17_2 = some y ∧ ff = [(2, .slice la (List.length l) lcap), (7, .pointer (some ⟨b6_2, 0, none⟩)), (8, .pointer (some ⟨b6_5, 0, none⟩)), (9, .int .i64 v2_9), (11, .int .i64 e84_11), (19, .pointer (some ⟨b17_6, 0, none⟩))] ∧ (RChA b6_5 v2_b6_5) :: (Asn.own b17_6 (.cells #[.int .i64 y17_2.1.fwd, .int .i64 y17_2.1.back, .int .i64 y17_2.1.line, .int .i64 y17_2.1.used, .bool y17_2.1.dirty, .slice a17_2_00 (List.length y17_2.1.data) c17_2_00] 31 (0, 0))) :: (IntsA a17_2_00 c17_2_00 y17_2.1.data) :: (CacheA b6_2 v2_b6_2) :: Γ = ΔΔ) (by kernel_rfl) ?_ ?_
                        · rintro _ _ ⟨H, rfl, rfl⟩
                          rw [cachePlaysS_j109] at H
                          refine at_seq (x := C8 [1,1,1,1,1,1,0,1,0,0,1,0,0,1,1,1,0,1,0,1,1,1,1,1,1,1,1,1,0]) (y := C8 [1,1,1,1,1,1,0,1,0,0,1,0,0,1,1,1,0,1,0,1,1,1,1,1,1,1,1,1,1]) (by kernel_rfl) ?_
                          refine at_region (id := 21) 4 (by kernel_rfl) (by kernel_rfl) ?_
                          refine s_pure 103 (.pointer (some ⟨b17_6, 5, none⟩)) (by kernel_rfl) (by kernel_rfl) (fun _ => by kernel_rfl) ?_
                          refine s_load 104 (.slice a17_2_00 (List.length y17_2.1.data) c17_2_00) (by kernel_rfl) (by kernel_rfl) (load1 (off := 5) (fun _ => by kernel_rfl) (holds_own (.there .here)) (by kernel_rfl)) ?_
                          refine s_pure 105 (.int .i64 (((List.length y17_2.1.data) : Nat) : Int)) (by kernel_rfl) (by kernel_rfl) (fun _ => by kernel_rfl) ?_
                          refine s_pure 106 (.int .i64 (0)) (by kernel_rfl) (by kernel_rfl) (fun _ => by kernel_rfl) ?_
                          refine ops_end ?_
                          refine At.env [(2, .slice la (List.length l) lcap), (7, .pointer (some ⟨b6_2, 0, none⟩)), (8, .pointer (some ⟨b6_5, 0, none⟩)), (9, .int .i64 v2_9), (11, .int .i64 e84_11), (19, .pointer (some ⟨b17_6, 0, none⟩)), (105, .int .i64 (((List.length y17_2.1.data) : Nat) : Int)), (106, .int .i64 (0))] ⟨by kernel_rfl, by kernel_rfl, by kernel_rfl, by kernel_rfl, by kernel_rfl, by kernel_rfl, by kernel_rfl, by kernel_rfl, trivial⟩ ?_
                          refine at_then_normal ?_
                          refine at_block (i := 3) (x := C8 [1,1,1,1,1,1,0,1,0,0,1,0,0,1,1,1,0,1,0,1,1,1,1,1,1,1,1,1,1,0]) (by kernel_rfl) ?_
                          refine At.conv (Γ' := (IntsA a17_2_00 c17_2_00 y17_2.1.data) :: (RChA b6_5 v2_b6_5) :: (Asn.own b17_6 (.cells #[.int .i64 y17_2.1.fwd, .int .i64 y17_2.1.back, .int .i64 y17_2.1.line, .int .i64 y17_2.1.used, .bool y17_2.1.dirty, .slice a17_2_00 (List.length y17_2.1.data) c17_2_00] 31 (0, 0))) :: (CacheA b6_2 v2_b6_2) :: Γ) (fun w hw => (Sat.less (.take (.there (.there .here)) (.take .here (.take .here (.take .here .refl)))) hw)) ?_
                          refine at_loopR (x := C8 [1,1,1,1,1,1,0,1,0,0,1,0,0,1,1,1,0,1,0,1,1,1,1,1,1,1,1,1,1,0,0]) (fun mm ff ΔΔ => ∃ (fuel : Nat) (v110_105 : Int) (v110_106 : Int) (v110_b17_6_5x : List Int) (v110_b17_6_5a : Option Addr) (v110_b17_6_5c : Nat), cachePlaysS_l110 (cachePlaysS_k110 e84_11 v2_9 (cachePlaysS_l2 l (cachePlaysS_k2 ) fuel1) v2_b6_5 v2_b6_2) fuel v110_105 v110_106 v110_b17_6_5x = some y ∧ fuel = mm ∧ ff = [(2, .slice la (List.length l) lcap), (7, .pointer (some ⟨b6_2, 0, none⟩)), (8, .pointer (some ⟨b6_5, 0, none⟩)), (9, .int .i64 v2_9), (11, .int .i64 e84_11), (19, .pointer (some ⟨b17_6, 0, none⟩)), (105, .int .i64 v110_105), (106, .int .i64 v110_106)] ∧ (IntsA v110_b17_6_5a v110_b17_6_5c v110_b17_6_5x) :: (RChA b6_5 v2_b6_5) :: (Asn.own b17_6 (.cells #[.int .i64 y17_2.1.fwd, .int .i64 y17_2.1.back, .int .i64 y17_2.1.line, .int .i64 y17_2.1.used, .bool y17_2.1.dirty, .slice v110_b17_6_5a (List.length v110_b17_6_5x) v110_b17_6_5c] 31 (0, 0))) :: (CacheA b6_2 v2_b6_2) :: Γ = ΔΔ) (64) (by kernel_rfl) [(2, .slice la (List.length l) lcap), (7, .pointer (some ⟨b6_2, 0, none⟩)), (8, .pointer (some ⟨b6_5, 0, none⟩)), (9, .int .i64 v2_9), (11, .int .i64 e84_11), (19, .pointer (some ⟨b17_6, 0, none⟩)), (105, .int .i64 (((List.length y17_2.1.data) : Nat) : Int)), (106, .int .i64 0)] ⟨by kernel_rfl, by kernel_rfl, by kernel_rfl, by kernel_rfl, by kernel_rfl, by kernel_rfl, by kernel_rfl, by kernel_rfl, trivial⟩ ⟨64, (((List.length y17_2.1.data) : Nat) : Int), 0, y17_2.1.data, a17_2_00, c17_2_00, H, rfl, rfl, rfl⟩ ?_
                          rintro _ _ _ ⟨fuel3, v110_105, v110_106, v110_b17_6_5x, v110_b17_6_5a, v110_b17_6_5c, H, rfl, rfl, rfl⟩
                          rcases fuel3 with _ | fuel3
                          · exact (noneE H).elim
                          rw [cachePlaysS_l110] at H
                          refine at_seq (x := C8 [1,1,1,1,1,1,0,1,0,0,1,0,0,1,1,1,0,1,0,1,1,1,1,1,1,1,1,1,1,0,0,0]) (y := C8 [1,1,1,1,1,1,0,1,0,0,1,0,0,1,1,1,0,1,0,1,1,1,1,1,1,1,1,1,1,0,0,1]) (by kernel_rfl) ?_
                          refine at_region (id := 22) 1 (by kernel_rfl) (by kernel_rfl) ?_
                          refine s_pure 107 (.bool (decide (v110_106 < v110_105))) (by kernel_rfl) (by kernel_rfl) (fun _ => by kernel_rfl) ?_
                          refine ops_end ?_
                          refine At.env [(2, .slice la (List.length l) lcap), (7, .pointer (some ⟨b6_2, 0, none⟩)), (8, .pointer (some ⟨b6_5, 0, none⟩)), (9, .int .i64 v2_9), (11, .int .i64 e84_11), (19, .pointer (some ⟨b17_6, 0, none⟩)), (105, .int .i64 v110_105), (106, .int .i64 v110_106), (107, .bool (decide (v110_106 < v110_105)))] ⟨by kernel_rfl, by kernel_rfl, by kernel_rfl, by kernel_rfl, by kernel_rfl, by kernel_rfl, by kernel_rfl, by kernel_rfl, by kernel_rfl, trivial⟩ ?_
                          refine at_then_normal ?_
                          refine at_seq (x := C8 [1,1,1,1,1,1,0,1,0,0,1,0,0,1,1,1,0,1,0,1,1,1,1,1,1,1,1,1,1,0,0,1,0]) (y := C8 [1,1,1,1,1,1,0,1,0,0,1,0,0,1,1,1,0,1,0,1,1,1,1,1,1,1,1,1,1,0,0,1,1]) (by kernel_rfl) ?_
                          rcases Bool.eq_false_or_eq_true (decide (v110_106 < v110_105)) with h29 | h29
                          · replace H := bifT H h29
                            refine at_true (t := decide (v110_106 < v110_105)) (x := C8 [1,1,1,1,1,1,0,1,0,0,1,0,0,1,1,1,0,1,0,1,1,1,1,1,1,1,1,1,1,0,0,1,0,0]) (y := C8 [1,1,1,1,1,1,0,1,0,0,1,0,0,1,1,1,0,1,0,1,1,1,1,1,1,1,1,1,1,0,0,1,0,1]) (o := .tmp 107) (by kernel_rfl) (by kernel_rfl) (by kernel_rfl) h29 ?_
                            refine at_skip (by kernel_rfl) ?_
                            refine at_then_normal ?_
                            refine at_seq (x := C8 [1,1,1,1,1,1,0,1,0,0,1,0,0,1,1,1,0,1,0,1,1,1,1,1,1,1,1,1,1,0,0,1,1,0]) (y := C8 [1,1,1,1,1,1,0,1,0,0,1,0,0,1,1,1,0,1,0,1,1,1,1,1,1,1,1,1,1,0,0,1,1,1]) (by kernel_rfl) ?_
                            refine at_block (i := 4) (x := C8 [1,1,1,1,1,1,0,1,0,0,1,0,0,1,1,1,0,1,0,1,1,1,1,1,1,1,1,1,1,0,0,1,1,0,0]) (by kernel_rfl) ?_
                            refine at_seq (x := C8 [1,1,1,1,1,1,0,1,0,0,1,0,0,1,1,1,0,1,0,1,1,1,1,1,1,1,1,1,1,0,0,1,1,0,0,0]) (y := C8 [1,1,1,1,1,1,0,1,0,0,1,0,0,1,1,1,0,1,0,1,1,1,1,1,1,1,1,1,1,0,0,1,1,0,0,1]) (by kernel_rfl) ?_
                            refine at_region (id := 23) 2 (by kernel_rfl) (by kernel_rfl) ?_
                            refine s_pure 108 (.int .i64 v110_106) (by kernel_rfl) (by kernel_rfl) (fun _ => by kernel_rfl) ?_
                            refine s_pure 22 (.int .i64 v110_106) (by kernel_rfl) (by kernel_rfl) (fun _ => by kernel_rfl) ?_
                            refine ops_end ?_
                            refine At.env [(2, .slice la (List.length l) lcap), (7, .pointer (some ⟨b6_2, 0, none⟩)), (8, .pointer (some ⟨b6_5, 0, none⟩)), (9, .int .i64 v2_9), (11, .int .i64 e84_11), (19, .pointer (some ⟨b17_6, 0, none⟩)), (22, .int .i64 v110_106), (105, .int .i64 v110_105), (106, .int .i64 v110_106)] ⟨by kernel_rfl, by kernel_rfl, by kernel_rfl, by kernel_rfl, by kernel_rfl, by kernel_rfl, by kernel_rfl, by kernel_rfl, by kernel_rfl, trivial⟩ ?_
                            refine at_then_normal ?_
                            refine at_region (id := 24) 8 (by kernel_rfl) (by kernel_rfl) ?_
                            refine s_pure 109 (.pointer (some ⟨b17_6, 5, none⟩)) (by kernel_rfl) (by kernel_rfl) (fun _ => by kernel_rfl) ?_
                            refine s_load 110 (.slice v110_b17_6_5a (List.length v110_b17_6_5x) v110_b17_6_5c) (by kernel_rfl) (by kernel_rfl) (load1 (off := 5) (fun _ => by kernel_rfl) (holds_own (.there (.there .here))) (by kernel_rfl)) ?_
                            refine s_pure 111 (.int .i64 v110_106) (by kernel_rfl) (by kernel_rfl) (fun _ => by kernel_rfl) ?_
                            obtain ⟨hc24_3_0, H⟩ := chkE H
                            refine rows_at .here (by have := hc24_3_0; simp only [ints_length]; omega) ?_
                            intro bb3 oo3 ha3
                            refine s_pure 112 (.pointer (some ⟨bb3, oo3 + ((v110_106).toNat * 1 + 0), none⟩)) (by kernel_rfl) (by kernel_rfl) (index_at (t := 22) (sz := 1) (E := 3) (a := v110_b17_6_5a) (m := (List.length v110_b17_6_5x)) (c := v110_b17_6_5c) (b := bb3) (off := oo3) (i := (v110_106).toNat) (tinfo 3) (fun _ => by kernel_rfl) (by kernel_rfl) (by kernel_rfl) (by kernel_rfl) ha3 (idx_cast hc24_3_0) (idx_nat hc24_3_0) rfl) ?_
                            refine s_load 113 (.int .i64 (nth v110_b17_6_5x v110_106)) (by kernel_rfl) (by kernel_rfl) (load1_at (off := oo3 + ((v110_106).toNat * 1 + 0)) (v := .int .i64 (nth v110_b17_6_5x v110_106)) (fun _ => by kernel_rfl) rfl (reads_cell (k := 1) (RowsA.reads (k := 1) .here) (ints_rows _) ha3 (nth_row hc24_3_0) (show [(.int .i64 (nth v110_b17_6_5x v110_106) : Value)][0]? = some _ from rfl))) ?_
                            refine s_pure 114 (.int .i64 (xorI (nth v110_b17_6_5x v110_106) (1 : Int))) (by kernel_rfl) (by kernel_rfl) (fun _ => by kernel_rfl) ?_
                            obtain ⟨hc24_6_0, H⟩ := chkE H
                            refine s_pure 115 (.pointer (some ⟨bb3, oo3 + ((v110_106).toNat * 1 + 0), none⟩)) (by kernel_rfl) (by kernel_rfl) (index_at (t := 22) (sz := 1) (E := 3) (a := v110_b17_6_5a) (m := (List.length v110_b17_6_5x)) (c := v110_b17_6_5c) (b := bb3) (off := oo3) (i := (v110_106).toNat) (tinfo 3) (fun _ => by kernel_rfl) (by kernel_rfl) (by kernel_rfl) (by kernel_rfl) ha3 (idx_cast hc24_6_0) (idx_nat hc24_6_0) rfl) ?_
                            obtain ⟨w24_7, hw24_7, H⟩ := letE H
                            refine s_do (by kernel_rfl) (by kernel_rfl) (st_to_int (st_row (k := 1) (off := oo3) (i := (v110_106).toNat) (j := 0) (row := [.int .i64 (nth v110_b17_6_5x v110_106)]) (row' := [.int .i64 (xorI (nth v110_b17_6_5x v110_106) (1 : Int))]) (vs := [.int .i64 (xorI (nth v110_b17_6_5x v110_106) (1 : Int))]) (fun _ => by kernel_rfl) .here ha3 (nth_row hc24_6_0) rfl (by kernel_rfl) (by kernel_rfl) rfl)) ?_
                            rintro _ _ ⟨rfl, rfl⟩
                            have hsw24_7 : w24_7 = List.set v110_b17_6_5x (v110_106).toNat (xorI (nth v110_b17_6_5x v110_106) (1 : Int)) := hw24_7.symm
                            rw [← hsw24_7]
                            have hnw24_7 : List.length v110_b17_6_5x = List.length w24_7 := by rw [hsw24_7]; simp
                            rw [hnw24_7]
                            refine ops_end ?_
                            refine At.env [(2, .slice la (List.length l) lcap), (7, .pointer (some ⟨b6_2, 0, none⟩)), (8, .pointer (some ⟨b6_5, 0, none⟩)), (9, .int .i64 v2_9), (11, .int .i64 e84_11), (19, .pointer (some ⟨b17_6, 0, none⟩)), (105, .int .i64 v110_105), (106, .int .i64 v110_106)] ⟨by kernel_rfl, by kernel_rfl, by kernel_rfl, by kernel_rfl, by kernel_rfl, by kernel_rfl, by kernel_rfl, by kernel_rfl, trivial⟩ ?_
                            refine at_in_normal ?_
                            refine at_then_normal ?_
                            refine at_region (id := 25) 2 (by kernel_rfl) (by kernel_rfl) ?_
                            obtain ⟨hc25_0_0, H⟩ := chkE H
                            refine s_pure 116 (.int .i64 (v110_106 + (1 : Int))) (by kernel_rfl) (by kernel_rfl) (run_eq (v := .int .i64 (IntKind.i64.wrap (v110_106 + (1 : Int)))) (fun _ => by kernel_rfl) (by rw [inR.wrap hc25_0_0])) ?_
                            refine s_pure 106 (.int .i64 (v110_106 + (1 : Int))) (by kernel_rfl) (by kernel_rfl) (fun _ => by kernel_rfl) ?_
                            refine ops_end ?_
                            refine At.env [(2, .slice la (List.length l) lcap), (7, .pointer (some ⟨b6_2, 0, none⟩)), (8, .pointer (some ⟨b6_5, 0, none⟩)), (9, .int .i64 v2_9), (11, .int .i64 e84_11), (19, .pointer (some ⟨b17_6, 0, none⟩)), (105, .int .i64 v110_105), (106, .int .i64 (v110_106 + (1 : Int)))] ⟨by kernel_rfl, by kernel_rfl, by kernel_rfl, by kernel_rfl, by kernel_rfl, by kernel_rfl, by kernel_rfl, by kernel_rfl, trivial⟩ ?_
                            refine at_round_normal ?_
                            exact at_roundR fuel3 [(2, .slice la (List.length l) lcap), (7, .pointer (some ⟨b6_2, 0, none⟩)), (8, .pointer (some ⟨b6_5, 0, none⟩)), (9, .int .i64 v2_9), (11, .int .i64 e84_11), (19, .pointer (some ⟨b17_6, 0, none⟩)), (105, .int .i64 v110_105), (106, .int .i64 (v110_106 + (1 : Int)))] ((IntsA v110_b17_6_5a v110_b17_6_5c w24_7) :: (RChA b6_5 v2_b6_5) :: (Asn.own b17_6 (.cells #[.int .i64 y17_2.1.fwd, .int .i64 y17_2.1.back, .int .i64 y17_2.1.line, .int .i64 y17_2.1.used, .bool y17_2.1.dirty, .slice v110_b17_6_5a (List.length w24_7) v110_b17_6_5c] 31 (0, 0))) :: (CacheA b6_2 v2_b6_2) :: Γ) (Nat.lt_succ_self _) ⟨by kernel_rfl, by kernel_rfl, by kernel_rfl, by kernel_rfl, by kernel_rfl, by kernel_rfl, by kernel_rfl, by kernel_rfl, trivial⟩ (fun w hw => (Sat.less (.take .here (.take .here (.take .here (.take .here .refl)))) hw)) ⟨fuel3, v110_105, v110_106 + (1 : Int), w24_7, v110_b17_6_5a, v110_b17_6_5c, H, rfl, rfl, rfl⟩
                          · replace H := bifF H h29
                            refine at_false (t := decide (v110_106 < v110_105)) (x := C8 [1,1,1,1,1,1,0,1,0,0,1,0,0,1,1,1,0,1,0,1,1,1,1,1,1,1,1,1,1,0,0,1,0,0]) (y := C8 [1,1,1,1,1,1,0,1,0,0,1,0,0,1,1,1,0,1,0,1,1,1,1,1,1,1,1,1,1,0,0,1,0,1]) (o := .tmp 107) (by kernel_rfl) (by kernel_rfl) (by kernel_rfl) h29 ?_
                            refine at_exit (i := 3) (by kernel_rfl) ?_
                            refine at_then_exit ?_
                            refine at_then_exit ?_
                            rw [cachePlaysS_k110] at H
                            refine At.env [(2, .slice la (List.length l) lcap), (7, .pointer (some ⟨b6_2, 0, none⟩)), (8, .pointer (some ⟨b6_5, 0, none⟩)), (9, .int .i64 v2_9), (11, .int .i64 e84_11), (19, .pointer (some ⟨b17_6, 0, none⟩)), (105, .int .i64 v110_105), (106, .int .i64 v110_106)] ⟨by kernel_rfl, by kernel_rfl, by kernel_rfl, by kernel_rfl, by kernel_rfl, by kernel_rfl, by kernel_rfl, by kernel_rfl, trivial⟩ ?_
                            refine At.conv (Γ' := (IntsA v110_b17_6_5a v110_b17_6_5c v110_b17_6_5x) :: (RChA b6_5 v2_b6_5) :: (Asn.own b17_6 (.cells #[.int .i64 y17_2.1.fwd, .int .i64 y17_2.1.back, .int .i64 y17_2.1.line, .int .i64 y17_2.1.used, .bool y17_2.1.dirty, .slice v110_b17_6_5a (List.length v110_b17_6_5x) v110_b17_6_5c] 31 (0, 0))) :: (CacheA b6_2 v2_b6_2) :: Γ) (fun w hw => (Sat.less (.take .here (.take .here (.take .here (.take .here .refl)))) hw)) ?_
                            refine at_in_here ?_
                            refine at_in_normal ?_
                            refine at_round_normal ?_
                            exact at_join_mk [(2, .slice la (List.length l) lcap), (7, .pointer (some ⟨b6_2, 0, none⟩)), (8, .pointer (some ⟨b6_5, 0, none⟩)), (9, .int .i64 v2_9), (11, .int .i64 e84_11)] ((RChA b6_5 v2_b6_5) :: (CacheA b6_2 v2_b6_2) :: Γ) ⟨by kernel_rfl, by kernel_rfl, by kernel_rfl, by kernel_rfl, by kernel_rfl, trivial⟩ (fun w hw => (Sat.less (.take (.there .here) (.take (.there (.there .here)) (.drop .here (.drop .here .refl)))) hw)) ⟨v2_b6_5, v2_b6_2, H, rfl, rfl⟩
                        · refine at_seq (x := C8 [1,1,1,1,1,1,0,1,0,0,1,0,0,1,1,1,0,1,0,1,1,1,1,1,1,1,1,0,0]) (y := C8 [1,1,1,1,1,1,0,1,0,0,1,0,0,1,1,1,0,1,0,1,1,1,1,1,1,1,1,0,1]) (by kernel_rfl) ?_
                          refine at_region (id := 19) 19 (by kernel_rfl) (by kernel_rfl) ?_
                          refine s_pure 84 (.bool y17_2.2) (by kernel_rfl) (by kernel_rfl) (fun _ => by kernel_rfl) ?_
                          refine s_pure 85 (.int .i64 y18_2) (by kernel_rfl) (by kernel_rfl) (fun _ => by kernel_rfl) ?_
                          refine s_pure 86 (.bool (decide ((0 : Int) ≤ y18_2))) (by kernel_rfl) (by kernel_rfl) (fun _ => by kernel_rfl) ?_
                          refine s_pure 87 (.bool (!(y17_2.2 == (decide ((0 : Int) ≤ y18_2))))) (by kernel_rfl) (by kernel_rfl) (fun _ => by kernel_rfl) ?_
                          rcases Bool.eq_false_or_eq_true (!(y17_2.2 == (decide ((0 : Int) ≤ y18_2)))) with h30 | h30
                          · replace H := bifT H h30
                            refine s_pure 88 (.bool true) (by kernel_rfl) (by kernel_rfl) (run_eq (v := .bool (!(y17_2.2 == (decide ((0 : Int) ≤ y18_2))))) (fun _ => by kernel_rfl) (congrArg Value.bool h30)) ?_
                            refine s_pass 89 (by kernel_rfl) (by kernel_rfl) ?_
                            refine s_pass 90 (by kernel_rfl) (by kernel_rfl) ?_
                            refine s_pass 91 (by kernel_rfl) (by kernel_rfl) ?_
                            refine s_pass 92 (by kernel_rfl) (by kernel_rfl) ?_
                            refine s_pass 93 (by kernel_rfl) (by kernel_rfl) ?_
                            refine s_pass 94 (by kernel_rfl) (by kernel_rfl) ?_
                            refine s_pass 95 (by kernel_rfl) (by kernel_rfl) ?_
                            refine s_pass 96 (by kernel_rfl) (by kernel_rfl) ?_
                            refine s_pass 97 (by kernel_rfl) (by kernel_rfl) ?_
                            refine s_pass 98 (by kernel_rfl) (by kernel_rfl) ?_
                            refine s_pass 99 (by kernel_rfl) (by kernel_rfl) ?_
                            refine s_pass 100 (by kernel_rfl) (by kernel_rfl) ?_
                            refine s_pass 101 (by kernel_rfl) (by kernel_rfl) ?_
                            refine s_pure 102 (.bool true) (by kernel_rfl) (by kernel_rfl) (fun _ => by kernel_rfl) ?_
                            refine ops_end ?_
                            refine At.env [(2, .slice la (List.length l) lcap), (7, .pointer (some ⟨b6_2, 0, none⟩)), (8, .pointer (some ⟨b6_5, 0, none⟩)), (9, .int .i64 v2_9), (11, .int .i64 e84_11), (19, .pointer (some ⟨b17_6, 0, none⟩)), (102, .bool true)] ⟨by kernel_rfl, by kernel_rfl, by kernel_rfl, by kernel_rfl, by kernel_rfl, by kernel_rfl, by kernel_rfl, trivial⟩ ?_
                            refine at_then_normal ?_
                            refine at_true (t := true) (x := C8 [1,1,1,1,1,1,0,1,0,0,1,0,0,1,1,1,0,1,0,1,1,1,1,1,1,1,1,0,1,0]) (y := C8 [1,1,1,1,1,1,0,1,0,0,1,0,0,1,1,1,0,1,0,1,1,1,1,1,1,1,1,0,1,1]) (o := .tmp 102) (by kernel_rfl) (by kernel_rfl) (by kernel_rfl) rfl ?_
                            refine at_seq (x := C8 [1,1,1,1,1,1,0,1,0,0,1,0,0,1,1,1,0,1,0,1,1,1,1,1,1,1,1,0,1,0,0]) (y := C8 [1,1,1,1,1,1,0,1,0,0,1,0,0,1,1,1,0,1,0,1,1,1,1,1,1,1,1,0,1,0,1]) (by kernel_rfl) ?_
                            refine at_region (id := 20) 1 (by kernel_rfl) (by kernel_rfl) ?_
                            refine s_pure 6 (.bool false) (by kernel_rfl) (by kernel_rfl) (fun _ => by kernel_rfl) ?_
                            refine ops_end ?_
                            refine At.env [(6, .bool false)] ⟨by kernel_rfl, trivial⟩ ?_
                            refine at_then_normal ?_
                            refine at_ret (by kernel_rfl) ?_
                            refine at_then_ret ?_
                            refine at_in_ret ?_
                            refine at_then_ret ?_
                            refine at_in_ret ?_
                            refine at_then_ret ?_
                            refine at_then_ret ?_
                            refine at_in_ret ?_
                            refine at_then_ret ?_
                            obtain rfl := someE H
                            refine at_backR [.bool false] (Γ) (rs := [.tmp 6]) (by kernel_rfl) (.cons (.tmp (by kernel_rfl)) .nil) (fun w hw => (Sat.less (.drop .here (.drop .here (.drop .here (.drop .here .refl)))) hw)) ?_
                            exact ⟨rfl, rfl⟩
                          · replace H := bifF H h30
                            refine s_pure 88 (.bool false) (by kernel_rfl) (by kernel_rfl) (run_eq (v := .bool (!(y17_2.2 == (decide ((0 : Int) ≤ y18_2))))) (fun _ => by kernel_rfl) (congrArg Value.bool h30)) ?_
                            refine s_pure 89 (.bool y17_2.2) (by kernel_rfl) (by kernel_rfl) (fun _ => by kernel_rfl) ?_
                            refine s_pure 90 (.bool !y17_2.2) (by kernel_rfl) (by kernel_rfl) (fun _ => by kernel_rfl) ?_
                            rcases Bool.eq_false_or_eq_true (!y17_2.2) with h31 | h31
                            · replace H := bifT H h31
                              refine s_pure 91 (.bool true) (by kernel_rfl) (by kernel_rfl) (run_eq (v := .bool (!y17_2.2)) (fun _ => by kernel_rfl) (congrArg Value.bool h31)) ?_
                              refine s_pure 92 (.pointer (some ⟨b17_6, 2, none⟩)) (by kernel_rfl) (by kernel_rfl) (fun _ => by kernel_rfl) ?_
                              refine s_load 93 (.int .i64 y17_2.1.line) (by kernel_rfl) (by kernel_rfl) (load1 (off := 2) (fun _ => by kernel_rfl) (holds_own (.there .here)) (by kernel_rfl)) ?_
                              refine s_pure 94 (.bool (!(decide (y17_2.1.line = (0 : Int))))) (by kernel_rfl) (by kernel_rfl) (fun _ => by kernel_rfl) ?_
                              rcases Bool.eq_false_or_eq_true (!(decide (y17_2.1.line = (0 : Int)))) with h32 | h32
                              · replace H := bifT H h32
                                refine s_pure 95 (.bool true) (by kernel_rfl) (by kernel_rfl) (run_eq (v := .bool (!(decide (y17_2.1.line = (0 : Int))))) (fun _ => by kernel_rfl) (congrArg Value.bool h32)) ?_
                                refine s_pass 96 (by kernel_rfl) (by kernel_rfl) ?_
                                refine s_pass 97 (by kernel_rfl) (by kernel_rfl) ?_
                                refine s_pass 98 (by kernel_rfl) (by kernel_rfl) ?_
                                refine s_pass 99 (by kernel_rfl) (by kernel_rfl) ?_
                                refine s_pure 100 (.bool true) (by kernel_rfl) (by kernel_rfl) (fun _ => by kernel_rfl) ?_
                                refine s_pure 101 (.bool true) (by kernel_rfl) (by kernel_rfl) (fun _ => by kernel_rfl) ?_
                                refine s_pure 102 (.bool true) (by kernel_rfl) (by kernel_rfl) (fun _ => by kernel_rfl) ?_
                                refine ops_end ?_
                                refine At.env [(2, .slice la (List.length l) lcap), (7, .pointer (some ⟨b6_2, 0, none⟩)), (8, .pointer (some ⟨b6_5, 0, none⟩)), (9, .int .i64 v2_9), (11, .int .i64 e84_11), (19, .pointer (some ⟨b17_6, 0, none⟩)), (102, .bool true)] ⟨by kernel_rfl, by kernel_rfl, by kernel_rfl, by kernel_rfl, by kernel_rfl, by kernel_rfl, by kernel_rfl, trivial⟩ ?_
                                refine at_then_normal ?_
                                refine at_true (t := true) (x := C8 [1,1,1,1,1,1,0,1,0,0,1,0,0,1,1,1,0,1,0,1,1,1,1,1,1,1,1,0,1,0]) (y := C8 [1,1,1,1,1,1,0,1,0,0,1,0,0,1,1,1,0,1,0,1,1,1,1,1,1,1,1,0,1,1]) (o := .tmp 102) (by kernel_rfl) (by kernel_rfl) (by kernel_rfl) rfl ?_
                                refine at_seq (x := C8 [1,1,1,1,1,1,0,1,0,0,1,0,0,1,1,1,0,1,0,1,1,1,1,1,1,1,1,0,1,0,0]) (y := C8 [1,1,1,1,1,1,0,1,0,0,1,0,0,1,1,1,0,1,0,1,1,1,1,1,1,1,1,0,1,0,1]) (by kernel_rfl) ?_
                                refine at_region (id := 20) 1 (by kernel_rfl) (by kernel_rfl) ?_
                                refine s_pure 6 (.bool false) (by kernel_rfl) (by kernel_rfl) (fun _ => by kernel_rfl) ?_
                                refine ops_end ?_
                                refine At.env [(6, .bool false)] ⟨by kernel_rfl, trivial⟩ ?_
                                refine at_then_normal ?_
                                refine at_ret (by kernel_rfl) ?_
                                refine at_then_ret ?_
                                refine at_in_ret ?_
                                refine at_then_ret ?_
                                refine at_in_ret ?_
                                refine at_then_ret ?_
                                refine at_then_ret ?_
                                refine at_in_ret ?_
                                refine at_then_ret ?_
                                obtain rfl := someE H
                                refine at_backR [.bool false] (Γ) (rs := [.tmp 6]) (by kernel_rfl) (.cons (.tmp (by kernel_rfl)) .nil) (fun w hw => (Sat.less (.drop .here (.drop .here (.drop .here (.drop .here .refl)))) hw)) ?_
                                exact ⟨rfl, rfl⟩
                              · replace H := bifF H h32
                                refine s_pure 95 (.bool false) (by kernel_rfl) (by kernel_rfl) (run_eq (v := .bool (!(decide (y17_2.1.line = (0 : Int))))) (fun _ => by kernel_rfl) (congrArg Value.bool h32)) ?_
                                refine s_pure 96 (.pointer (some ⟨b17_6, 5, none⟩)) (by kernel_rfl) (by kernel_rfl) (fun _ => by kernel_rfl) ?_
                                refine s_load 97 (.slice a17_2_00 (List.length y17_2.1.data) c17_2_00) (by kernel_rfl) (by kernel_rfl) (load1 (off := 5) (fun _ => by kernel_rfl) (holds_own (.there .here)) (by kernel_rfl)) ?_
                                refine s_pure 98 (.int .i64 (((List.length y17_2.1.data) : Nat) : Int)) (by kernel_rfl) (by kernel_rfl) (fun _ => by kernel_rfl) ?_
                                refine s_pure 99 (.bool (!(decide ((((List.length y17_2.1.data) : Nat) : Int) = (0 : Int))))) (by kernel_rfl) (by kernel_rfl) (fun _ => by kernel_rfl) ?_
                                refine s_pure 100 (.bool (!(decide ((((List.length y17_2.1.data) : Nat) : Int) = (0 : Int))))) (by kernel_rfl) (by kernel_rfl) (fun _ => by kernel_rfl) ?_
                                refine s_pure 101 (.bool (!(decide ((((List.length y17_2.1.data) : Nat) : Int) = (0 : Int))))) (by kernel_rfl) (by kernel_rfl) (fun _ => by kernel_rfl) ?_
                                refine s_pure 102 (.bool (!(decide ((((List.length y17_2.1.data) : Nat) : Int) = (0 : Int))))) (by kernel_rfl) (by kernel_rfl) (fun _ => by kernel_rfl) ?_
                                refine ops_end ?_
                                refine At.env [(2, .slice la (List.length l) lcap), (7, .pointer (some ⟨b6_2, 0, none⟩)), (8, .pointer (some ⟨b6_5, 0, none⟩)), (9, .int .i64 v2_9), (11, .int .i64 e84_11), (19, .pointer (some ⟨b17_6, 0, none⟩)), (102, .bool (!(decide ((((List.length y17_2.1.data) : Nat) : Int) = (0 : Int)))))] ⟨by kernel_rfl, by kernel_rfl, by kernel_rfl, by kernel_rfl, by kernel_rfl, by kernel_rfl, by kernel_rfl, trivial⟩ ?_
                                refine at_then_normal ?_
                                rcases Bool.eq_false_or_eq_true (!(decide ((((List.length y17_2.1.data) : Nat) : Int) = (0 : Int)))) with h33 | h33
                                · replace H := bifT H h33
                                  refine at_true (t := !(decide ((((List.length y17_2.1.data) : Nat) : Int) = (0 : Int)))) (x := C8 [1,1,1,1,1,1,0,1,0,0,1,0,0,1,1,1,0,1,0,1,1,1,1,1,1,1,1,0,1,0]) (y := C8 [1,1,1,1,1,1,0,1,0,0,1,0,0,1,1,1,0,1,0,1,1,1,1,1,1,1,1,0,1,1]) (o := .tmp 102) (by kernel_rfl) (by kernel_rfl) (by kernel_rfl) h33 ?_
                                  refine at_seq (x := C8 [1,1,1,1,1,1,0,1,0,0,1,0,0,1,1,1,0,1,0,1,1,1,1,1,1,1,1,0,1,0,0]) (y := C8 [1,1,1,1,1,1,0,1,0,0,1,0,0,1,1,1,0,1,0,1,1,1,1,1,1,1,1,0,1,0,1]) (by kernel_rfl) ?_
                                  refine at_region (id := 20) 1 (by kernel_rfl) (by kernel_rfl) ?_
                                  refine s_pure 6 (.bool false) (by kernel_rfl) (by kernel_rfl) (fun _ => by kernel_rfl) ?_
                                  refine ops_end ?_
                                  refine At.env [(6, .bool false)] ⟨by kernel_rfl, trivial⟩ ?_
                                  refine at_then_normal ?_
                                  refine at_ret (by kernel_rfl) ?_
                                  refine at_then_ret ?_
                                  refine at_in_ret ?_
                                  refine at_then_ret ?_
                                  refine at_in_ret ?_
                                  refine at_then_ret ?_
                                  refine at_then_ret ?_
                                  refine at_in_ret ?_
                                  refine at_then_ret ?_
                                  obtain rfl := someE H
                                  refine at_backR [.bool false] (Γ) (rs := [.tmp 6]) (by kernel_rfl) (.cons (.tmp (by kernel_rfl)) .nil) (fun w hw => (Sat.less (.drop .here (.drop .here (.drop .here (.drop .here .refl)))) hw)) ?_
                                  exact ⟨rfl, rfl⟩
                                · replace H := bifF H h33
                                  refine at_false (t := !(decide ((((List.length y17_2.1.data) : Nat) : Int) = (0 : Int)))) (x := C8 [1,1,1,1,1,1,0,1,0,0,1,0,0,1,1,1,0,1,0,1,1,1,1,1,1,1,1,0,1,0]) (y := C8 [1,1,1,1,1,1,0,1,0,0,1,0,0,1,1,1,0,1,0,1,1,1,1,1,1,1,1,0,1,1]) (o := .tmp 102) (by kernel_rfl) (by kernel_rfl) (by kernel_rfl) h33 ?_
                                  refine at_skip (by kernel_rfl) ?_
                                  refine at_round_normal ?_
                                  exact at_join_mk [(2, .slice la (List.length l) lcap), (7, .pointer (some ⟨b6_2, 0, none⟩)), (8, .pointer (some ⟨b6_5, 0, none⟩)), (9, .int .i64 v2_9), (11, .int .i64 e84_11), (19, .pointer (some ⟨b17_6, 0, none⟩))] ((RChA b6_5 v2_b6_5) :: (Asn.own b17_6 (.cells #[.int .i64 y17_2.1.fwd, .int .i64 y17_2.1.back, .int .i64 y17_2.1.line, .int .i64 y17_2.1.used, .bool y17_2.1.dirty, .slice a17_2_00 (List.length y17_2.1.data) c17_2_00] 31 (0, 0))) :: (IntsA a17_2_00 c17_2_00 y17_2.1.data) :: (CacheA b6_2 v2_b6_2) :: Γ) ⟨by kernel_rfl, by kernel_rfl, by kernel_rfl, by kernel_rfl, by kernel_rfl, by kernel_rfl, trivial⟩ (fun w hw => (Sat.less (.take .here (.take .here (.take .here (.take .here .refl)))) hw)) ⟨H, rfl, rfl⟩
                            · replace H := bifF H h31
                              refine s_pure 91 (.bool false) (by kernel_rfl) (by kernel_rfl) (run_eq (v := .bool (!y17_2.2)) (fun _ => by kernel_rfl) (congrArg Value.bool h31)) ?_
                              refine s_pass 92 (by kernel_rfl) (by kernel_rfl) ?_
                              refine s_pass 93 (by kernel_rfl) (by kernel_rfl) ?_
                              refine s_pass 94 (by kernel_rfl) (by kernel_rfl) ?_
                              refine s_pass 95 (by kernel_rfl) (by kernel_rfl) ?_
                              refine s_pass 96 (by kernel_rfl) (by kernel_rfl) ?_
                              refine s_pass 97 (by kernel_rfl) (by kernel_rfl) ?_
                              refine s_pass 98 (by kernel_rfl) (by kernel_rfl) ?_
                              refine s_pass 99 (by kernel_rfl) (by kernel_rfl) ?_
                              refine s_pass 100 (by kernel_rfl) (by kernel_rfl) ?_
                              refine s_pure 101 (.bool false) (by kernel_rfl) (by kernel_rfl) (fun _ => by kernel_rfl) ?_
                              refine s_pure 102 (.bool false) (by kernel_rfl) (by kernel_rfl) (fun _ => by kernel_rfl) ?_
                              refine ops_end ?_
                              refine At.env [(2, .slice la (List.length l) lcap), (7, .pointer (some ⟨b6_2, 0, none⟩)), (8, .pointer (some ⟨b6_5, 0, none⟩)), (9, .int .i64 v2_9), (11, .int .i64 e84_11), (19, .pointer (some ⟨b17_6, 0, none⟩)), (102, .bool false)] ⟨by kernel_rfl, by kernel_rfl, by kernel_rfl, by kernel_rfl, by kernel_rfl, by kernel_rfl, by kernel_rfl, trivial⟩ ?_
                              refine at_then_normal ?_
                              refine at_false (t := false) (x := C8 [1,1,1,1,1,1,0,1,0,0,1,0,0,1,1,1,0,1,0,1,1,1,1,1,1,1,1,0,1,0]) (y := C8 [1,1,1,1,1,1,0,1,0,0,1,0,0,1,1,1,0,1,0,1,1,1,1,1,1,1,1,0,1,1]) (o := .tmp 102) (by kernel_rfl) (by kernel_rfl) (by kernel_rfl) rfl ?_
                              refine at_skip (by kernel_rfl) ?_
                              refine at_round_normal ?_
                              exact at_join_mk [(2, .slice la (List.length l) lcap), (7, .pointer (some ⟨b6_2, 0, none⟩)), (8, .pointer (some ⟨b6_5, 0, none⟩)), (9, .int .i64 v2_9), (11, .int .i64 e84_11), (19, .pointer (some ⟨b17_6, 0, none⟩))] ((RChA b6_5 v2_b6_5) :: (Asn.own b17_6 (.cells #[.int .i64 y17_2.1.fwd, .int .i64 y17_2.1.back, .int .i64 y17_2.1.line, .int .i64 y17_2.1.used, .bool y17_2.1.dirty, .slice a17_2_00 (List.length y17_2.1.data) c17_2_00] 31 (0, 0))) :: (IntsA a17_2_00 c17_2_00 y17_2.1.data) :: (CacheA b6_2 v2_b6_2) :: Γ) ⟨by kernel_rfl, by kernel_rfl, by kernel_rfl, by kernel_rfl, by kernel_rfl, by kernel_rfl, trivial⟩ (fun w hw => (Sat.less (.take .here (.take .here (.take .here (.take .here .refl)))) hw)) ⟨H, rfl, rfl⟩
                    · refine at_seq (x := C8 [1,1,1,1,1,1,0,1,0,0,1,0,0,1,1,1,0,1,0,1,1,1,1,0,0]) (y := C8 [1,1,1,1,1,1,0,1,0,0,1,0,0,1,1,1,0,1,0,1,1,1,1,0,1]) (by kernel_rfl) ?_
                      refine at_region (id := 45) 2 (by kernel_rfl) (by kernel_rfl) ?_
                      refine s_pure 201 (.bool (decide (y16_2 = (5 : Int)))) (by kernel_rfl) (by kernel_rfl) (fun _ => by kernel_rfl) ?_
                      refine s_pure 200 (.bool (decide (y16_2 = (5 : Int)))) (by kernel_rfl) (by kernel_rfl) (fun _ => by kernel_rfl) ?_
                      refine ops_end ?_
                      refine At.env [(2, .slice la (List.length l) lcap), (7, .pointer (some ⟨b6_2, 0, none⟩)), (8, .pointer (some ⟨b6_5, 0, none⟩)), (9, .int .i64 v2_9), (11, .int .i64 e84_11), (74, .int .i64 y16_2), (200, .bool (decide (y16_2 = (5 : Int))))] ⟨by kernel_rfl, by kernel_rfl, by kernel_rfl, by kernel_rfl, by kernel_rfl, by kernel_rfl, by kernel_rfl, trivial⟩ ?_
                      refine at_then_normal ?_
                      rcases Bool.eq_false_or_eq_true (decide (y16_2 = (5 : Int))) with h34 | h34
                      · replace H := bifT H h34
                        refine at_true (t := decide (y16_2 = (5 : Int))) (x := C8 [1,1,1,1,1,1,0,1,0,0,1,0,0,1,1,1,0,1,0,1,1,1,1,0,1,0]) (y := C8 [1,1,1,1,1,1,0,1,0,0,1,0,0,1,1,1,0,1,0,1,1,1,1,0,1,1]) (o := .tmp 200) (by kernel_rfl) (by kernel_rfl) (by kernel_rfl) h34 ?_
                        refine at_skip (by kernel_rfl) ?_
                        refine at_round_normal ?_
                        exact at_join_mk [(2, .slice la (List.length l) lcap), (7, .pointer (some ⟨b6_2, 0, none⟩)), (8, .pointer (some ⟨b6_5, 0, none⟩)), (9, .int .i64 v2_9), (11, .int .i64 e84_11), (200, .bool (decide (y16_2 = (5 : Int))))] ((RChA b6_5 v2_b6_5) :: (CacheA b6_2 v2_b6_2) :: Γ) ⟨by kernel_rfl, by kernel_rfl, by kernel_rfl, by kernel_rfl, by kernel_rfl, by kernel_rfl, trivial⟩ (fun w hw => (Sat.less (.take (.there (.there .here)) (.take (.there (.there .here)) (.drop .here (.drop .here .refl)))) hw)) ⟨decide (y16_2 = (5 : Int)), H, rfl, rfl⟩
                      · replace H := bifF H h34
                        refine at_false (t := decide (y16_2 = (5 : Int))) (x := C8 [1,1,1,1,1,1,0,1,0,0,1,0,0,1,1,1,0,1,0,1,1,1,1,0,1,0]) (y := C8 [1,1,1,1,1,1,0,1,0,0,1,0,0,1,1,1,0,1,0,1,1,1,1,0,1,1]) (o := .tmp 200) (by kernel_rfl) (by kernel_rfl) (by kernel_rfl) h34 ?_
                        refine at_region (id := 46) 2 (by kernel_rfl) (by kernel_rfl) ?_
                        refine s_pure 202 (.bool (decide (y16_2 = (6 : Int)))) (by kernel_rfl) (by kernel_rfl) (fun _ => by kernel_rfl) ?_
                        refine s_pure 200 (.bool (decide (y16_2 = (6 : Int)))) (by kernel_rfl) (by kernel_rfl) (fun _ => by kernel_rfl) ?_
                        refine ops_end ?_
                        refine At.env [(2, .slice la (List.length l) lcap), (7, .pointer (some ⟨b6_2, 0, none⟩)), (8, .pointer (some ⟨b6_5, 0, none⟩)), (9, .int .i64 v2_9), (11, .int .i64 e84_11), (200, .bool (decide (y16_2 = (6 : Int))))] ⟨by kernel_rfl, by kernel_rfl, by kernel_rfl, by kernel_rfl, by kernel_rfl, by kernel_rfl, trivial⟩ ?_
                        refine at_round_normal ?_
                        exact at_join_mk [(2, .slice la (List.length l) lcap), (7, .pointer (some ⟨b6_2, 0, none⟩)), (8, .pointer (some ⟨b6_5, 0, none⟩)), (9, .int .i64 v2_9), (11, .int .i64 e84_11), (200, .bool (decide (y16_2 = (6 : Int))))] ((RChA b6_5 v2_b6_5) :: (CacheA b6_2 v2_b6_2) :: Γ) ⟨by kernel_rfl, by kernel_rfl, by kernel_rfl, by kernel_rfl, by kernel_rfl, by kernel_rfl, trivial⟩ (fun w hw => (Sat.less (.take (.there (.there .here)) (.take (.there (.there .here)) (.drop .here (.drop .here .refl)))) hw)) ⟨decide (y16_2 = (6 : Int)), H, rfl, rfl⟩
              · refine at_seq (x := C8 [1,1,1,1,1,1,0,1,0,0,1,0,0,1,1,1,0,1,0,0,0]) (y := C8 [1,1,1,1,1,1,0,1,0,0,1,0,0,1,1,1,0,1,0,0,1]) (by kernel_rfl) ?_
                refine at_region (id := 26) 2 (by kernel_rfl) (by kernel_rfl) ?_
                refine s_pure 118 (.bool (decide (y16_2 = (0 : Int)))) (by kernel_rfl) (by kernel_rfl) (fun _ => by kernel_rfl) ?_
                refine s_pure 117 (.bool (decide (y16_2 = (0 : Int)))) (by kernel_rfl) (by kernel_rfl) (fun _ => by kernel_rfl) ?_
                refine ops_end ?_
                refine At.env [(2, .slice la (List.length l) lcap), (7, .pointer (some ⟨b6_2, 0, none⟩)), (8, .pointer (some ⟨b6_5, 0, none⟩)), (9, .int .i64 v2_9), (10, .pointer (some ⟨b12_4, 0, none⟩)), (11, .int .i64 e84_11), (74, .int .i64 y16_2), (117, .bool (decide (y16_2 = (0 : Int))))] ⟨by kernel_rfl, by kernel_rfl, by kernel_rfl, by kernel_rfl, by kernel_rfl, by kernel_rfl, by kernel_rfl, by kernel_rfl, trivial⟩ ?_
                refine at_then_normal ?_
                rcases Bool.eq_false_or_eq_true (decide (y16_2 = (0 : Int))) with h35 | h35
                · replace H := bifT H h35
                  refine at_true (t := decide (y16_2 = (0 : Int))) (x := C8 [1,1,1,1,1,1,0,1,0,0,1,0,0,1,1,1,0,1,0,0,1,0]) (y := C8 [1,1,1,1,1,1,0,1,0,0,1,0,0,1,1,1,0,1,0,0,1,1]) (o := .tmp 117) (by kernel_rfl) (by kernel_rfl) (by kernel_rfl) h35 ?_
                  refine at_skip (by kernel_rfl) ?_
                  refine at_round_normal ?_
                  exact at_join_mk [(2, .slice la (List.length l) lcap), (7, .pointer (some ⟨b6_2, 0, none⟩)), (8, .pointer (some ⟨b6_5, 0, none⟩)), (9, .int .i64 v2_9), (10, .pointer (some ⟨b12_4, 0, none⟩)), (11, .int .i64 e84_11), (74, .int .i64 y16_2), (117, .bool (decide (y16_2 = (0 : Int))))] ((Asn.own b12_4 (.cells #[.int .i64 x12_3.act, .int .i64 x12_3.line, .int .i64 x12_3.fwd, .int .i64 x12_3.back, .bool x12_3.dirty, .slice a12_3 (List.length x12_3.data) c12_3] 57 (0, 0))) :: (ImmI a12_3 x12_3.data) :: (RChA b6_5 v2_b6_5) :: (CacheA b6_2 v2_b6_2) :: Γ) ⟨by kernel_rfl, by kernel_rfl, by kernel_rfl, by kernel_rfl, by kernel_rfl, by kernel_rfl, by kernel_rfl, by kernel_rfl, trivial⟩ (fun w hw => (Sat.less (.take .here (.take .here (.take .here (.take .here .refl)))) hw)) ⟨decide (y16_2 = (0 : Int)), H, rfl, rfl⟩
                · replace H := bifF H h35
                  refine at_false (t := decide (y16_2 = (0 : Int))) (x := C8 [1,1,1,1,1,1,0,1,0,0,1,0,0,1,1,1,0,1,0,0,1,0]) (y := C8 [1,1,1,1,1,1,0,1,0,0,1,0,0,1,1,1,0,1,0,0,1,1]) (o := .tmp 117) (by kernel_rfl) (by kernel_rfl) (by kernel_rfl) h35 ?_
                  refine at_seq (x := C8 [1,1,1,1,1,1,0,1,0,0,1,0,0,1,1,1,0,1,0,0,1,1,0]) (y := C8 [1,1,1,1,1,1,0,1,0,0,1,0,0,1,1,1,0,1,0,0,1,1,1]) (by kernel_rfl) ?_
                  refine at_region (id := 27) 2 (by kernel_rfl) (by kernel_rfl) ?_
                  refine s_pure 119 (.bool (decide (y16_2 = (1 : Int)))) (by kernel_rfl) (by kernel_rfl) (fun _ => by kernel_rfl) ?_
                  refine s_pure 117 (.bool (decide (y16_2 = (1 : Int)))) (by kernel_rfl) (by kernel_rfl) (fun _ => by kernel_rfl) ?_
                  refine ops_end ?_
                  refine At.env [(2, .slice la (List.length l) lcap), (7, .pointer (some ⟨b6_2, 0, none⟩)), (8, .pointer (some ⟨b6_5, 0, none⟩)), (9, .int .i64 v2_9), (10, .pointer (some ⟨b12_4, 0, none⟩)), (11, .int .i64 e84_11), (74, .int .i64 y16_2), (117, .bool (decide (y16_2 = (1 : Int))))] ⟨by kernel_rfl, by kernel_rfl, by kernel_rfl, by kernel_rfl, by kernel_rfl, by kernel_rfl, by kernel_rfl, by kernel_rfl, trivial⟩ ?_
                  refine at_then_normal ?_
                  rcases Bool.eq_false_or_eq_true (decide (y16_2 = (1 : Int))) with h36 | h36
                  · replace H := bifT H h36
                    refine at_true (t := decide (y16_2 = (1 : Int))) (x := C8 [1,1,1,1,1,1,0,1,0,0,1,0,0,1,1,1,0,1,0,0,1,1,1,0]) (y := C8 [1,1,1,1,1,1,0,1,0,0,1,0,0,1,1,1,0,1,0,0,1,1,1,1]) (o := .tmp 117) (by kernel_rfl) (by kernel_rfl) (by kernel_rfl) h36 ?_
                    refine at_skip (by kernel_rfl) ?_
                    refine at_round_normal ?_
                    exact at_join_mk [(2, .slice la (List.length l) lcap), (7, .pointer (some ⟨b6_2, 0, none⟩)), (8, .pointer (some ⟨b6_5, 0, none⟩)), (9, .int .i64 v2_9), (10, .pointer (some ⟨b12_4, 0, none⟩)), (11, .int .i64 e84_11), (74, .int .i64 y16_2), (117, .bool (decide (y16_2 = (1 : Int))))] ((Asn.own b12_4 (.cells #[.int .i64 x12_3.act, .int .i64 x12_3.line, .int .i64 x12_3.fwd, .int .i64 x12_3.back, .bool x12_3.dirty, .slice a12_3 (List.length x12_3.data) c12_3] 57 (0, 0))) :: (ImmI a12_3 x12_3.data) :: (RChA b6_5 v2_b6_5) :: (CacheA b6_2 v2_b6_2) :: Γ) ⟨by kernel_rfl, by kernel_rfl, by kernel_rfl, by kernel_rfl, by kernel_rfl, by kernel_rfl, by kernel_rfl, by kernel_rfl, trivial⟩ (fun w hw => (Sat.less (.take .here (.take .here (.take .here (.take .here .refl)))) hw)) ⟨decide (y16_2 = (1 : Int)), H, rfl, rfl⟩
                  · replace H := bifF H h36
                    refine at_false (t := decide (y16_2 = (1 : Int))) (x := C8 [1,1,1,1,1,1,0,1,0,0,1,0,0,1,1,1,0,1,0,0,1,1,1,0]) (y := C8 [1,1,1,1,1,1,0,1,0,0,1,0,0,1,1,1,0,1,0,0,1,1,1,1]) (o := .tmp 117) (by kernel_rfl) (by kernel_rfl) (by kernel_rfl) h36 ?_
                    refine at_seq (x := C8 [1,1,1,1,1,1,0,1,0,0,1,0,0,1,1,1,0,1,0,0,1,1,1,1,0]) (y := C8 [1,1,1,1,1,1,0,1,0,0,1,0,0,1,1,1,0,1,0,0,1,1,1,1,1]) (by kernel_rfl) ?_
                    refine at_region (id := 28) 2 (by kernel_rfl) (by kernel_rfl) ?_
                    refine s_pure 120 (.bool (decide (y16_2 = (2 : Int)))) (by kernel_rfl) (by kernel_rfl) (fun _ => by kernel_rfl) ?_
                    refine s_pure 117 (.bool (decide (y16_2 = (2 : Int)))) (by kernel_rfl) (by kernel_rfl) (fun _ => by kernel_rfl) ?_
                    refine ops_end ?_
                    refine At.env [(2, .slice la (List.length l) lcap), (7, .pointer (some ⟨b6_2, 0, none⟩)), (8, .pointer (some ⟨b6_5, 0, none⟩)), (9, .int .i64 v2_9), (10, .pointer (some ⟨b12_4, 0, none⟩)), (11, .int .i64 e84_11), (74, .int .i64 y16_2), (117, .bool (decide (y16_2 = (2 : Int))))] ⟨by kernel_rfl, by kernel_rfl, by kernel_rfl, by kernel_rfl, by kernel_rfl, by kernel_rfl, by kernel_rfl, by kernel_rfl, trivial⟩ ?_
                    refine at_then_normal ?_
                    rcases Bool.eq_false_or_eq_true (decide (y16_2 = (2 : Int))) with h37 | h37
                    · replace H := bifT H h37
                      refine at_true (t := decide (y16_2 = (2 : Int))) (x := C8 [1,1,1,1,1,1,0,1,0,0,1,0,0,1,1,1,0,1,0,0,1,1,1,1,1,0]) (y := C8 [1,1,1,1,1,1,0,1,0,0,1,0,0,1,1,1,0,1,0,0,1,1,1,1,1,1]) (o := .tmp 117) (by kernel_rfl) (by kernel_rfl) (by kernel_rfl) h37 ?_
                      refine at_skip (by kernel_rfl) ?_
                      refine at_round_normal ?_
                      exact at_join_mk [(2, .slice la (List.length l) lcap), (7, .pointer (some ⟨b6_2, 0, none⟩)), (8, .pointer (some ⟨b6_5, 0, none⟩)), (9, .int .i64 v2_9), (10, .pointer (some ⟨b12_4, 0, none⟩)), (11, .int .i64 e84_11), (74, .int .i64 y16_2), (117, .bool (decide (y16_2 = (2 : Int))))] ((Asn.own b12_4 (.cells #[.int .i64 x12_3.act, .int .i64 x12_3.line, .int .i64 x12_3.fwd, .int .i64 x12_3.back, .bool x12_3.dirty, .slice a12_3 (List.length x12_3.data) c12_3] 57 (0, 0))) :: (ImmI a12_3 x12_3.data) :: (RChA b6_5 v2_b6_5) :: (CacheA b6_2 v2_b6_2) :: Γ) ⟨by kernel_rfl, by kernel_rfl, by kernel_rfl, by kernel_rfl, by kernel_rfl, by kernel_rfl, by kernel_rfl, by kernel_rfl, trivial⟩ (fun w hw => (Sat.less (.take .here (.take .here (.take .here (.take .here .refl)))) hw)) ⟨decide (y16_2 = (2 : Int)), H, rfl, rfl⟩
                    · replace H := bifF H h37
                      refine at_false (t := decide (y16_2 = (2 : Int))) (x := C8 [1,1,1,1,1,1,0,1,0,0,1,0,0,1,1,1,0,1,0,0,1,1,1,1,1,0]) (y := C8 [1,1,1,1,1,1,0,1,0,0,1,0,0,1,1,1,0,1,0,0,1,1,1,1,1,1]) (o := .tmp 117) (by kernel_rfl) (by kernel_rfl) (by kernel_rfl) h37 ?_
                      refine at_region (id := 29) 2 (by kernel_rfl) (by kernel_rfl) ?_
                      refine s_pure 121 (.bool (decide (y16_2 = (3 : Int)))) (by kernel_rfl) (by kernel_rfl) (fun _ => by kernel_rfl) ?_
                      refine s_pure 117 (.bool (decide (y16_2 = (3 : Int)))) (by kernel_rfl) (by kernel_rfl) (fun _ => by kernel_rfl) ?_
                      refine ops_end ?_
                      refine At.env [(2, .slice la (List.length l) lcap), (7, .pointer (some ⟨b6_2, 0, none⟩)), (8, .pointer (some ⟨b6_5, 0, none⟩)), (9, .int .i64 v2_9), (10, .pointer (some ⟨b12_4, 0, none⟩)), (11, .int .i64 e84_11), (74, .int .i64 y16_2), (117, .bool (decide (y16_2 = (3 : Int))))] ⟨by kernel_rfl, by kernel_rfl, by kernel_rfl, by kernel_rfl, by kernel_rfl, by kernel_rfl, by kernel_rfl, by kernel_rfl, trivial⟩ ?_
                      refine at_round_normal ?_
                      exact at_join_mk [(2, .slice la (List.length l) lcap), (7, .pointer (some ⟨b6_2, 0, none⟩)), (8, .pointer (some ⟨b6_5, 0, none⟩)), (9, .int .i64 v2_9), (10, .pointer (some ⟨b12_4, 0, none⟩)), (11, .int .i64 e84_11), (74, .int .i64 y16_2), (117, .bool (decide (y16_2 = (3 : Int))))] ((Asn.own b12_4 (.cells #[.int .i64 x12_3.act, .int .i64 x12_3.line, .int .i64 x12_3.fwd, .int .i64 x12_3.back, .bool x12_3.dirty, .slice a12_3 (List.length x12_3.data) c12_3] 57 (0, 0))) :: (ImmI a12_3 x12_3.data) :: (RChA b6_5 v2_b6_5) :: (CacheA b6_2 v2_b6_2) :: Γ) ⟨by kernel_rfl, by kernel_rfl, by kernel_rfl, by kernel_rfl, by kernel_rfl, by kernel_rfl, by kernel_rfl, by kernel_rfl, trivial⟩ (fun w hw => (Sat.less (.take .here (.take .here (.take .here (.take .here .refl)))) hw)) ⟨decide (y16_2 = (3 : Int)), H, rfl, rfl⟩
          · refine at_seq (x := C8 [1,1,1,1,1,1,0,1,0,0,1,0,0,1,1,0,0]) (y := C8 [1,1,1,1,1,1,0,1,0,0,1,0,0,1,1,0,1]) (by kernel_rfl) ?_
            refine at_region (id := 14) 4 (by kernel_rfl) (by kernel_rfl) ?_
            refine s_pure 66 (.pointer (some ⟨b12_4, 1, none⟩)) (by kernel_rfl) (by kernel_rfl) (fun _ => by kernel_rfl) ?_
            refine s_load 67 (.int .i64 x12_3.line) (by kernel_rfl) (by kernel_rfl) (load1 (off := 1) (fun _ => by kernel_rfl) (holds_own .here) (by kernel_rfl)) ?_
            refine s_pure 68 (.int .i64 (x12_3.line.tmod (17 : Int))) (by kernel_rfl) (by kernel_rfl) (run_remP (a := x12_3.line) (b := 17) (fun _ => by kernel_rfl) (by decide)) ?_
            refine s_pure 69 (.bool (decide ((x12_3.line.tmod (17 : Int)) = (16 : Int)))) (by kernel_rfl) (by kernel_rfl) (fun _ => by kernel_rfl) ?_
            refine ops_end ?_
            refine At.env [(2, .slice la (List.length l) lcap), (7, .pointer (some ⟨b6_2, 0, none⟩)), (8, .pointer (some ⟨b6_5, 0, none⟩)), (9, .int .i64 v2_9), (10, .pointer (some ⟨b12_4, 0, none⟩)), (11, .int .i64 (wr (y13_2 - (1 : Int)))), (69, .bool (decide ((x12_3.line.tmod (17 : Int)) = (16 : Int))))] ⟨by kernel_rfl, by kernel_rfl, by kernel_rfl, by kernel_rfl, by kernel_rfl, by kernel_rfl, by kernel_rfl, trivial⟩ ?_
            refine at_then_normal ?_
            rcases Bool.eq_false_or_eq_true (decide ((x12_3.line.tmod (17 : Int)) = (16 : Int))) with h38 | h38
            · replace H := bifT H h38
              refine at_true (t := decide ((x12_3.line.tmod (17 : Int)) = (16 : Int))) (x := C8 [1,1,1,1,1,1,0,1,0,0,1,0,0,1,1,0,1,0]) (y := C8 [1,1,1,1,1,1,0,1,0,0,1,0,0,1,1,0,1,1]) (o := .tmp 69) (by kernel_rfl) (by kernel_rfl) (by kernel_rfl) h38 ?_
              refine at_region (id := 15) 3 (by kernel_rfl) (by kernel_rfl) ?_
              refine s_pure 70 (.pointer (some ⟨b12_4, 1, none⟩)) (by kernel_rfl) (by kernel_rfl) (fun _ => by kernel_rfl) ?_
              refine s_load 71 (.int .i64 x12_3.line) (by kernel_rfl) (by kernel_rfl) (load1 (off := 1) (fun _ => by kernel_rfl) (holds_own .here) (by kernel_rfl)) ?_
              refine s_pure 11 (.int .i64 x12_3.line) (by kernel_rfl) (by kernel_rfl) (fun _ => by kernel_rfl) ?_
              refine ops_end ?_
              refine At.env [(2, .slice la (List.length l) lcap), (7, .pointer (some ⟨b6_2, 0, none⟩)), (8, .pointer (some ⟨b6_5, 0, none⟩)), (9, .int .i64 v2_9), (10, .pointer (some ⟨b12_4, 0, none⟩)), (11, .int .i64 x12_3.line)] ⟨by kernel_rfl, by kernel_rfl, by kernel_rfl, by kernel_rfl, by kernel_rfl, by kernel_rfl, trivial⟩ ?_
              refine at_round_normal ?_
              exact at_join_mk [(2, .slice la (List.length l) lcap), (7, .pointer (some ⟨b6_2, 0, none⟩)), (8, .pointer (some ⟨b6_5, 0, none⟩)), (9, .int .i64 v2_9), (10, .pointer (some ⟨b12_4, 0, none⟩)), (11, .int .i64 x12_3.line)] ((Asn.own b12_4 (.cells #[.int .i64 x12_3.act, .int .i64 x12_3.line, .int .i64 x12_3.fwd, .int .i64 x12_3.back, .bool x12_3.dirty, .slice a12_3 (List.length x12_3.data) c12_3] 57 (0, 0))) :: (ImmI a12_3 x12_3.data) :: (RChA b6_5 v2_b6_5) :: (CacheA b6_2 v2_b6_2) :: Γ) ⟨by kernel_rfl, by kernel_rfl, by kernel_rfl, by kernel_rfl, by kernel_rfl, by kernel_rfl, trivial⟩ (fun w hw => (Sat.less (.take .here (.take .here (.take .here (.take .here .refl)))) hw)) ⟨x12_3.line, H, rfl, rfl⟩
            · replace H := bifF H h38
              refine at_false (t := decide ((x12_3.line.tmod (17 : Int)) = (16 : Int))) (x := C8 [1,1,1,1,1,1,0,1,0,0,1,0,0,1,1,0,1,0]) (y := C8 [1,1,1,1,1,1,0,1,0,0,1,0,0,1,1,0,1,1]) (o := .tmp 69) (by kernel_rfl) (by kernel_rfl) (by kernel_rfl) h38 ?_
              refine at_skip (by kernel_rfl) ?_
              refine at_round_normal ?_
              exact at_join_mk [(2, .slice la (List.length l) lcap), (7, .pointer (some ⟨b6_2, 0, none⟩)), (8, .pointer (some ⟨b6_5, 0, none⟩)), (9, .int .i64 v2_9), (10, .pointer (some ⟨b12_4, 0, none⟩)), (11, .int .i64 (wr (y13_2 - (1 : Int))))] ((Asn.own b12_4 (.cells #[.int .i64 x12_3.act, .int .i64 x12_3.line, .int .i64 x12_3.fwd, .int .i64 x12_3.back, .bool x12_3.dirty, .slice a12_3 (List.length x12_3.data) c12_3] 57 (0, 0))) :: (ImmI a12_3 x12_3.data) :: (RChA b6_5 v2_b6_5) :: (CacheA b6_2 v2_b6_2) :: Γ) ⟨by kernel_rfl, by kernel_rfl, by kernel_rfl, by kernel_rfl, by kernel_rfl, by kernel_rfl, trivial⟩ (fun w hw => (Sat.less (.take .here (.take .here (.take .here (.take .here .refl)))) hw)) ⟨wr (y13_2 - (1 : Int)), H, rfl, rfl⟩
        · replace H := bifF H h1
          refine at_false (t := e83_55) (x := C8 [1,1,1,1,1,1,0,1,0,0,0,1,0]) (y := C8 [1,1,1,1,1,1,0,1,0,0,0,1,1]) (o := .tmp 55) (by kernel_rfl) (by kernel_rfl) (by kernel_rfl) h1 ?_
          refine at_exit (i := 0) (by kernel_rfl) ?_
          refine at_then_exit ?_
          refine at_then_exit ?_
          rw [cachePlaysS_k2] at H
          refine At.env [(2, .slice la (List.length l) lcap), (7, .pointer (some ⟨b6_2, 0, none⟩)), (8, .pointer (some ⟨b6_5, 0, none⟩)), (9, .int .i64 v2_9)] ⟨by kernel_rfl, by kernel_rfl, by kernel_rfl, by kernel_rfl, trivial⟩ ?_
          refine At.conv (Γ' := (RChA b6_5 v2_b6_5) :: (CacheA b6_2 v2_b6_2) :: Γ) (fun w hw => (Sat.less (.take .here (.take .here .refl)) hw)) ?_
          refine at_in_here ?_
          refine at_then_normal ?_
          refine at_seq (x := C8 [1,1,1,1,1,1,1,0]) (y := C8 [1,1,1,1,1,1,1,1]) (by kernel_rfl) ?_
          refine at_region (id := 53) 2 (by kernel_rfl) (by kernel_rfl) ?_
          obtain ⟨y53_0, hy53_0, H⟩ := bindE H
          refine s_call 254 29 #[] (by kernel_rfl) (by kernel_rfl) (fun _ => by kernel_rfl) (W8F_tr  y53_0 hy53_0) ?_
          rintro _ _ ⟨rfl, rfl⟩
          refine s_pure 6 (.bool y53_0) (by kernel_rfl) (by kernel_rfl) (fun _ => by kernel_rfl) ?_
          refine ops_end ?_
          refine At.env [(6, .bool y53_0)] ⟨by kernel_rfl, trivial⟩ ?_
          refine at_then_normal ?_
          refine at_ret (by kernel_rfl) ?_
          obtain rfl := someE H
          refine at_backR [.bool y53_0] (Γ) (rs := [.tmp 6]) (by kernel_rfl) (.cons (.tmp (by kernel_rfl)) .nil) (fun w hw => (Sat.less (.drop .here (.drop .here .refl)) hw)) ?_
          exact ⟨rfl, rfl⟩
      · refine at_region (id := 10) 8 (by kernel_rfl) (by kernel_rfl) ?_
        refine s_pure 48 (.int .i64 v2_9) (by kernel_rfl) (by kernel_rfl) (fun _ => by kernel_rfl) ?_
        refine s_pure 49 (.slice la (List.length l) lcap) (by kernel_rfl) (by kernel_rfl) (fun _ => by kernel_rfl) ?_
        refine s_pure 50 (.int .i64 (((List.length l) : Nat) : Int)) (by kernel_rfl) (by kernel_rfl) (fun _ => by kernel_rfl) ?_
        refine s_pure 51 (.bool (decide (v2_9 < (((List.length l) : Nat) : Int)))) (by kernel_rfl) (by kernel_rfl) (fun _ => by kernel_rfl) ?_
        rcases Bool.eq_false_or_eq_true (decide (v2_9 < (((List.length l) : Nat) : Int))) with h39 | h39
        · replace H := bifT H h39
          refine s_pure 52 (.bool true) (by kernel_rfl) (by kernel_rfl) (run_eq (v := .bool (decide (v2_9 < (((List.length l) : Nat) : Int)))) (fun _ => by kernel_rfl) (congrArg Value.bool h39)) ?_
          refine s_pure 53 (.int .i64 v2_9) (by kernel_rfl) (by kernel_rfl) (fun _ => by kernel_rfl) ?_
          refine s_pure 54 (.bool (decide (v2_9 < (24 : Int)))) (by kernel_rfl) (by kernel_rfl) (fun _ => by kernel_rfl) ?_
          refine s_pure 55 (.bool (decide (v2_9 < (24 : Int)))) (by kernel_rfl) (by kernel_rfl) (fun _ => by kernel_rfl) ?_
          refine ops_end ?_
          refine At.env [(2, .slice la (List.length l) lcap), (7, .pointer (some ⟨b6_2, 0, none⟩)), (8, .pointer (some ⟨b6_5, 0, none⟩)), (9, .int .i64 v2_9), (55, .bool (decide (v2_9 < (24 : Int))))] ⟨by kernel_rfl, by kernel_rfl, by kernel_rfl, by kernel_rfl, by kernel_rfl, trivial⟩ ?_
          refine at_round_normal ?_
          exact at_join_mk [(2, .slice la (List.length l) lcap), (7, .pointer (some ⟨b6_2, 0, none⟩)), (8, .pointer (some ⟨b6_5, 0, none⟩)), (9, .int .i64 v2_9), (55, .bool (decide (v2_9 < (24 : Int))))] ((RChA b6_5 v2_b6_5) :: (CacheA b6_2 v2_b6_2) :: Γ) ⟨by kernel_rfl, by kernel_rfl, by kernel_rfl, by kernel_rfl, by kernel_rfl, trivial⟩ (fun w hw => (Sat.less (.take .here (.take .here .refl)) hw)) ⟨decide (v2_9 < (24 : Int)), H, rfl, rfl⟩
        · replace H := bifF H h39
          refine s_pure 52 (.bool false) (by kernel_rfl) (by kernel_rfl) (run_eq (v := .bool (decide (v2_9 < (((List.length l) : Nat) : Int)))) (fun _ => by kernel_rfl) (congrArg Value.bool h39)) ?_
          refine s_pass 53 (by kernel_rfl) (by kernel_rfl) ?_
          refine s_pass 54 (by kernel_rfl) (by kernel_rfl) ?_
          refine s_pure 55 (.bool false) (by kernel_rfl) (by kernel_rfl) (fun _ => by kernel_rfl) ?_
          refine ops_end ?_
          refine At.env [(2, .slice la (List.length l) lcap), (7, .pointer (some ⟨b6_2, 0, none⟩)), (8, .pointer (some ⟨b6_5, 0, none⟩)), (9, .int .i64 v2_9), (55, .bool false)] ⟨by kernel_rfl, by kernel_rfl, by kernel_rfl, by kernel_rfl, by kernel_rfl, trivial⟩ ?_
          refine at_round_normal ?_
          exact at_join_mk [(2, .slice la (List.length l) lcap), (7, .pointer (some ⟨b6_2, 0, none⟩)), (8, .pointer (some ⟨b6_5, 0, none⟩)), (9, .int .i64 v2_9), (55, .bool false)] ((RChA b6_5 v2_b6_5) :: (CacheA b6_2 v2_b6_2) :: Γ) ⟨by kernel_rfl, by kernel_rfl, by kernel_rfl, by kernel_rfl, by kernel_rfl, trivial⟩ (fun w hw => (Sat.less (.take .here (.take .here .refl)) hw)) ⟨false, H, rfl, rfl⟩
    · refine at_seq (x := C8 [1,1,0,0]) (y := C8 [1,1,0,1]) (by kernel_rfl) ?_
      refine at_region (id := 3) 3 (by kernel_rfl) (by kernel_rfl) ?_
      refine s_pure 31 (.int .i64 ways) (by kernel_rfl) (by kernel_rfl) (fun _ => by kernel_rfl) ?_
      refine s_pure 32 (.int .i64 (ways.tmod (9 : Int))) (by kernel_rfl) (by kernel_rfl) (run_remP (a := ways) (b := 9) (fun _ => by kernel_rfl) (by decide)) ?_
      refine s_pure 33 (.bool (!(decide ((ways.tmod (9 : Int)) = (8 : Int))))) (by kernel_rfl) (by kernel_rfl) (fun _ => by kernel_rfl) ?_
      refine ops_end ?_
      refine At.env [(0, .int .i64 e0_0), (1, .int .i64 ways), (2, .slice la (List.length l) lcap), (33, .bool (!(decide ((ways.tmod (9 : Int)) = (8 : Int)))))] ⟨by kernel_rfl, by kernel_rfl, by kernel_rfl, by kernel_rfl, trivial⟩ ?_
      refine at_then_normal ?_
      rcases Bool.eq_false_or_eq_true (!(decide ((ways.tmod (9 : Int)) = (8 : Int)))) with h40 | h40
      · replace H := bifT H h40
        refine at_true (t := !(decide ((ways.tmod (9 : Int)) = (8 : Int)))) (x := C8 [1,1,0,1,0]) (y := C8 [1,1,0,1,1]) (o := .tmp 33) (by kernel_rfl) (by kernel_rfl) (by kernel_rfl) h40 ?_
        refine at_region (id := 4) 3 (by kernel_rfl) (by kernel_rfl) ?_
        refine s_pure 34 (.int .i64 ways) (by kernel_rfl) (by kernel_rfl) (fun _ => by kernel_rfl) ?_
        obtain ⟨y4_1, hy4_1, H⟩ := bindE H
        refine s_quiet 35 (.int .i64 y4_1) 17 #[.int .i64 ways, .int .i64 (4)] (by kernel_rfl) (by kernel_rfl) (fun _ => by kernel_rfl) (WithinF_tr ways (4 : Int) y4_1 hy4_1) ?_
        refine s_pure 1 (.int .i64 y4_1) (by kernel_rfl) (by kernel_rfl) (fun _ => by kernel_rfl) ?_
        refine ops_end ?_
        refine At.env [(0, .int .i64 e0_0), (1, .int .i64 y4_1), (2, .slice la (List.length l) lcap)] ⟨by kernel_rfl, by kernel_rfl, by kernel_rfl, trivial⟩ ?_
        refine at_round_normal ?_
        exact at_join_mk [(0, .int .i64 e0_0), (1, .int .i64 y4_1), (2, .slice la (List.length l) lcap)] (Γ) ⟨by kernel_rfl, by kernel_rfl, by kernel_rfl, trivial⟩ (fun w hw => (Sat.less .refl hw)) ⟨y4_1, H, rfl, rfl⟩
      · replace H := bifF H h40
        refine at_false (t := !(decide ((ways.tmod (9 : Int)) = (8 : Int)))) (x := C8 [1,1,0,1,0]) (y := C8 [1,1,0,1,1]) (o := .tmp 33) (by kernel_rfl) (by kernel_rfl) (by kernel_rfl) h40 ?_
        refine at_skip (by kernel_rfl) ?_
        refine at_round_normal ?_
        exact at_join_mk [(0, .int .i64 e0_0), (1, .int .i64 ways), (2, .slice la (List.length l) lcap)] (Γ) ⟨by kernel_rfl, by kernel_rfl, by kernel_rfl, trivial⟩ (fun w hw => (Sat.less .refl hw)) ⟨ways, H, rfl, rfl⟩
  · refine at_seq (x := C8 [1,0,0]) (y := C8 [1,0,1]) (by kernel_rfl) ?_
    refine at_region (id := 1) 3 (by kernel_rfl) (by kernel_rfl) ?_
    refine s_pure 26 (.int .i64 sets) (by kernel_rfl) (by kernel_rfl) (fun _ => by kernel_rfl) ?_
    refine s_pure 27 (.int .i64 (sets.tmod (9 : Int))) (by kernel_rfl) (by kernel_rfl) (run_remP (a := sets) (b := 9) (fun _ => by kernel_rfl) (by decide)) ?_
    refine s_pure 28 (.bool (!(decide ((sets.tmod (9 : Int)) = (8 : Int))))) (by kernel_rfl) (by kernel_rfl) (fun _ => by kernel_rfl) ?_
    refine ops_end ?_
    refine At.env [(0, .int .i64 sets), (1, .int .i64 ways), (2, .slice la (List.length l) lcap), (28, .bool (!(decide ((sets.tmod (9 : Int)) = (8 : Int)))))] ⟨by kernel_rfl, by kernel_rfl, by kernel_rfl, by kernel_rfl, trivial⟩ ?_
    refine at_then_normal ?_
    rcases Bool.eq_false_or_eq_true (!(decide ((sets.tmod (9 : Int)) = (8 : Int)))) with h41 | h41
    · replace H := bifT H h41
      refine at_true (t := !(decide ((sets.tmod (9 : Int)) = (8 : Int)))) (x := C8 [1,0,1,0]) (y := C8 [1,0,1,1]) (o := .tmp 28) (by kernel_rfl) (by kernel_rfl) (by kernel_rfl) h41 ?_
      refine at_region (id := 2) 3 (by kernel_rfl) (by kernel_rfl) ?_
      refine s_pure 29 (.int .i64 sets) (by kernel_rfl) (by kernel_rfl) (fun _ => by kernel_rfl) ?_
      obtain ⟨y2_1, hy2_1, H⟩ := bindE H
      refine s_quiet 30 (.int .i64 y2_1) 17 #[.int .i64 sets, .int .i64 (4)] (by kernel_rfl) (by kernel_rfl) (fun _ => by kernel_rfl) (WithinF_tr sets (4 : Int) y2_1 hy2_1) ?_
      refine s_pure 0 (.int .i64 y2_1) (by kernel_rfl) (by kernel_rfl) (fun _ => by kernel_rfl) ?_
      refine ops_end ?_
      refine At.env [(0, .int .i64 y2_1), (1, .int .i64 ways), (2, .slice la (List.length l) lcap)] ⟨by kernel_rfl, by kernel_rfl, by kernel_rfl, trivial⟩ ?_
      refine at_round_normal ?_
      exact at_join_mk [(0, .int .i64 y2_1), (1, .int .i64 ways), (2, .slice la (List.length l) lcap)] (Γ) ⟨by kernel_rfl, by kernel_rfl, by kernel_rfl, trivial⟩ (fun w hw => (Sat.less .refl hw)) ⟨y2_1, H, rfl, rfl⟩
    · replace H := bifF H h41
      refine at_false (t := !(decide ((sets.tmod (9 : Int)) = (8 : Int)))) (x := C8 [1,0,1,0]) (y := C8 [1,0,1,1]) (o := .tmp 28) (by kernel_rfl) (by kernel_rfl) (by kernel_rfl) h41 ?_
      refine at_skip (by kernel_rfl) ?_
      refine at_round_normal ?_
      exact at_join_mk [(0, .int .i64 sets), (1, .int .i64 ways), (2, .slice la (List.length l) lcap)] (Γ) ⟨by kernel_rfl, by kernel_rfl, by kernel_rfl, trivial⟩ (fun w hw => (Sat.less .refl hw)) ⟨sets, H, rfl, rfl⟩
end Go.Proofs.Ytfpiolnbnfngkaa
