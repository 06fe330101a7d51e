/- A cache tells of its lines; the example of the document; words of entries. -/
import Derived.Test.YtfpiolnbnfngkaaLinesA
import Derived.Test.YtfpiolnbnfngkaaOwnA
namespace Go.Proofs.Ytfpiolnbnfngkaa
open Go Go.RowKit
set_option linter.unusedVariables false
set_option linter.unusedSimpArgs false
def linesS (c : CacheS) : Option (List Int) := chk (okC c) ((sortS (c.l.map Ent.line)).bind fun ys => chk (ys.length = c.l.length) (some ys))
theorem LinesF_tr {W0 : World} {Γ : List Asn} (c : Nat) (cc : CacheS)  (y : (List Int)) (H : linesS cc = some y) : Tr Try.prog 28 #[.pointer (some ⟨c, 0, none⟩)] W0 ((CacheA c cc) :: Γ) (fun r Δ => ∃ (a0_0 : Option Addr) (c0_0 : Nat), r = .slice a0_0 (List.length y) c0_0 ∧ Δ = (IntsA a0_0 c0_0 y) :: (CacheA c cc) :: Γ) := by
  unfold linesS at H
  obtain ⟨h, H⟩ := chkE H
  obtain ⟨ys, hs, H⟩ := bindE H
  obtain ⟨hl, H⟩ := chkE H
  obtain rfl := someE H
  exact Lines_tr c cc ys h.1 hs hl
def eisS (e : Ent) (i : Int) : Option (Bool) :=
  (bif decide ((0 : Int) ≤ i) then some (decide (i < (((List.length e.data) : Nat) : Int))) else some false)
noncomputable def C55 (p : List Nat) : Code := codeAt (bodyOf Try.f55) p
set_option maxRecDepth 100000 in
set_option maxHeartbeats 8000000 in
theorem EIsF_tr {W0 : World} {Γ : List Asn} (ea : Option Addr) (ecap : Nat) (e : Ent) (i : Int) (hrea : Reads W0 Γ ea (ints e.data)) (y : Bool) (H : eisS e i = some y) : Tr Try.prog 55 #[.agg #[.int .i64 e.fwd, .int .i64 e.back, .int .i64 e.line, .int .i64 e.used, .bool e.dirty, .slice ea (List.length e.data) ecap], .int .i64 i] W0 (Γ) (fun r Δ => r = .bool y ∧ Δ = Γ) := by
  unfold eisS at H
  refine Tr.enter (fn := Try.f55) (c := C55 []) (args := [.agg #[.int .i64 e.fwd, .int .i64 e.back, .int .i64 e.line, .int .i64 e.used, .bool e.dirty, .slice ea (List.length e.data) ecap], .int .i64 i]) 14 Try.func55 (by kernel_rfl) (by kernel_rfl) ?_
  refine At.env [(0, .agg #[.int .i64 e.fwd, .int .i64 e.back, .int .i64 e.line, .int .i64 e.used, .bool e.dirty, .slice ea (List.length e.data) ecap]), (1, .int .i64 i)] ⟨by kernel_rfl, by kernel_rfl, trivial⟩ ?_
  refine at_seq (x := C55 [0]) (y := C55 [1]) (by kernel_rfl) ?_
  refine at_region (id := 0) 2 (by kernel_rfl) (by kernel_rfl) ?_
  refine s_step 2 (by kernel_rfl) (by kernel_rfl) (st_new (T := 31) (cells := #[.int .i64 e.fwd, .int .i64 e.back, .int .i64 e.line, .int .i64 e.used, .bool e.dirty, .slice ea (List.length e.data) ecap]) (fun a => .pointer (some a)) (fun _ => by kernel_rfl)) ?_
  rintro _ _ ⟨b0_0, rfl, rfl⟩
  refine s_pure 4 (.bool false) (by kernel_rfl) (by kernel_rfl) (fun _ => by kernel_rfl) ?_
  refine ops_end ?_
  refine At.env [(1, .int .i64 i), (2, .pointer (some ⟨b0_0, 0, none⟩))] ⟨by kernel_rfl, by kernel_rfl, trivial⟩ ?_
  refine at_then_normal ?_
  refine at_seq (x := C55 [1,0]) (y := C55 [1,1]) (by kernel_rfl) ?_
  refine at_region (id := 1) 10 (by kernel_rfl) (by kernel_rfl) ?_
  refine s_pure 5 (.int .i64 i) (by kernel_rfl) (by kernel_rfl) (fun _ => by kernel_rfl) ?_
  refine s_pure 6 (.bool (decide ((0 : Int) ≤ i))) (by kernel_rfl) (by kernel_rfl) (fun _ => by kernel_rfl) ?_
  rcases Bool.eq_false_or_eq_true (decide ((0 : Int) ≤ i)) with h1 | h1
  · replace H := bifT H h1
    refine s_pure 7 (.bool true) (by kernel_rfl) (by kernel_rfl) (run_eq (v := .bool (decide ((0 : Int) ≤ i))) (fun _ => by kernel_rfl) (congrArg Value.bool h1)) ?_
    refine s_pure 8 (.int .i64 i) (by kernel_rfl) (by kernel_rfl) (fun _ => by kernel_rfl) ?_
    refine s_pure 9 (.pointer (some ⟨b0_0, 5, none⟩)) (by kernel_rfl) (by kernel_rfl) (fun _ => by kernel_rfl) ?_
    refine s_load 10 (.slice ea (List.length e.data) ecap) (by kernel_rfl) (by kernel_rfl) (load1 (off := 5) (fun _ => by kernel_rfl) (holds_own .here) (by kernel_rfl)) ?_
    refine s_pure 11 (.int .i64 (((List.length e.data) : Nat) : Int)) (by kernel_rfl) (by kernel_rfl) (fun _ => by kernel_rfl) ?_
    refine s_pure 12 (.bool (decide (i < (((List.length e.data) : Nat) : Int)))) (by kernel_rfl) (by kernel_rfl) (fun _ => by kernel_rfl) ?_
    refine s_pure 13 (.bool (decide (i < (((List.length e.data) : Nat) : Int)))) (by kernel_rfl) (by kernel_rfl) (fun _ => by kernel_rfl) ?_
    refine s_pure 4 (.bool (decide (i < (((List.length e.data) : Nat) : Int)))) (by kernel_rfl) (by kernel_rfl) (fun _ => by kernel_rfl) ?_
    refine ops_end ?_
    refine At.env [(4, .bool (decide (i < (((List.length e.data) : Nat) : Int))))] ⟨by kernel_rfl, trivial⟩ ?_
    refine at_then_normal ?_
    refine at_ret (by kernel_rfl) ?_
    obtain rfl := someE H
    refine at_backR [.bool (decide (i < (((List.length e.data) : Nat) : Int)))] (Γ) (rs := [.tmp 4]) (by kernel_rfl) (.cons (.tmp (by kernel_rfl)) .nil) (fun w hw => (Sat.less (.drop .here .refl) hw)) ?_
    exact ⟨rfl, rfl⟩
  · replace H := bifF H h1
    refine s_pure 7 (.bool false) (by kernel_rfl) (by kernel_rfl) (run_eq (v := .bool (decide ((0 : Int) ≤ i))) (fun _ => by kernel_rfl) (congrArg Value.bool h1)) ?_
    refine s_pass 8 (by kernel_rfl) (by kernel_rfl) ?_
    refine s_pass 9 (by kernel_rfl) (by kernel_rfl) ?_
    refine s_pass 10 (by kernel_rfl) (by kernel_rfl) ?_
    refine s_pass 11 (by kernel_rfl) (by kernel_rfl) ?_
    refine s_pass 12 (by kernel_rfl) (by kernel_rfl) ?_
    refine s_pure 13 (.bool false) (by kernel_rfl) (by kernel_rfl) (fun _ => by kernel_rfl) ?_
    refine s_pure 4 (.bool false) (by kernel_rfl) (by kernel_rfl) (fun _ => by kernel_rfl) ?_
    refine ops_end ?_
    refine At.env [(4, .bool false)] ⟨by kernel_rfl, trivial⟩ ?_
    refine at_then_normal ?_
    refine at_ret (by kernel_rfl) ?_
    obtain rfl := someE H
    refine at_backR [.bool false] (Γ) (rs := [.tmp 4]) (by kernel_rfl) (.cons (.tmp (by kernel_rfl)) .nil) (fun w hw => (Sat.less (.drop .here .refl) hw)) ?_
    exact ⟨rfl, rfl⟩
def ewordS (e : Ent) (i : Int) : Option (Int) :=
  (eisS e i).bind fun y1_2 => (bif !y1_2 then some (0 : Int) else chk (0 ≤ i ∧ i < ((e.data.length : Nat) : Int)) (some (nth e.data i)))
noncomputable def C22 (p : List Nat) : Code := codeAt (bodyOf Try.f22) p
set_option maxRecDepth 100000 in
set_option maxHeartbeats 8000000 in
theorem EWordF_tr {W0 : World} {Γ : List Asn} (ea : Option Addr) (ecap : Nat) (e : Ent) (i : Int) (hrea : Reads W0 Γ ea (ints e.data)) (y : Int) (H : ewordS e i = some y) : Tr Try.prog 22 #[.agg #[.int .i64 e.fwd, .int .i64 e.back, .int .i64 e.line, .int .i64 e.used, .bool e.dirty, .slice ea (List.length e.data) ecap], .int .i64 i] W0 (Γ) (fun r Δ => r = .int .i64 y ∧ Δ = Γ) := by
  unfold ewordS at H
  refine Tr.enter (fn := Try.f22) (c := C22 []) (args := [.agg #[.int .i64 e.fwd, .int .i64 e.back, .int .i64 e.line, .int .i64 e.used, .bool e.dirty, .slice ea (List.length e.data) ecap], .int .i64 i]) 14 Try.func22 (by kernel_rfl) (by kernel_rfl) ?_
  refine At.env [(0, .agg #[.int .i64 e.fwd, .int .i64 e.back, .int .i64 e.line, .int .i64 e.used, .bool e.dirty, .slice ea (List.length e.data) ecap]), (1, .int .i64 i)] ⟨by kernel_rfl, by kernel_rfl, trivial⟩ ?_
  refine at_seq (x := C22 [0]) (y := C22 [1]) (by kernel_rfl) ?_
  refine at_region (id := 0) 2 (by kernel_rfl) (by kernel_rfl) ?_
  refine s_step 2 (by kernel_rfl) (by kernel_rfl) (st_new (T := 31) (cells := #[.int .i64 e.fwd, .int .i64 e.back, .int .i64 e.line, .int .i64 e.used, .bool e.dirty, .slice ea (List.length e.data) ecap]) (fun a => .pointer (some a)) (fun _ => by kernel_rfl)) ?_
  rintro _ _ ⟨b0_0, rfl, rfl⟩
  refine s_pure 4 (.int .i64 (0)) (by kernel_rfl) (by kernel_rfl) (fun _ => by kernel_rfl) ?_
  refine ops_end ?_
  refine At.env [(1, .int .i64 i), (2, .pointer (some ⟨b0_0, 0, none⟩))] ⟨by kernel_rfl, by kernel_rfl, trivial⟩ ?_
  refine at_then_normal ?_
  refine at_seq (x := C22 [1,0]) (y := C22 [1,1]) (by kernel_rfl) ?_
  refine at_seq (x := C22 [1,0,0]) (y := C22 [1,0,1]) (by kernel_rfl) ?_
  refine at_region (id := 1) 4 (by kernel_rfl) (by kernel_rfl) ?_
  refine s_load 5 (.agg #[.int .i64 e.fwd, .int .i64 e.back, .int .i64 e.line, .int .i64 e.used, .bool e.dirty, .slice ea (List.length e.data) ecap]) (by kernel_rfl) (by kernel_rfl) (loadN (off := 0) (vs := [.int .i64 e.fwd, .int .i64 e.back, .int .i64 e.line, .int .i64 e.used, .bool e.dirty, .slice ea (List.length e.data) ecap]) 6 (fun _ => by kernel_rfl) (holds_own .here) rfl (by exact ⟨rfl, rfl, rfl, rfl, rfl, rfl, trivial⟩)) ?_
  refine s_pure 6 (.int .i64 i) (by kernel_rfl) (by kernel_rfl) (fun _ => by kernel_rfl) ?_
  obtain ⟨y1_2, hy1_2, H⟩ := bindE H
  refine s_call 7 55 #[.agg #[.int .i64 e.fwd, .int .i64 e.back, .int .i64 e.line, .int .i64 e.used, .bool e.dirty, .slice ea (List.length e.data) ecap], .int .i64 i] (by kernel_rfl) (by kernel_rfl) (fun _ => by kernel_rfl) (EIsF_tr ea ecap e i (Reads.conv (fun w hw => hw.less (.drop .here .refl)) hrea) y1_2 hy1_2) ?_
  rintro _ _ ⟨rfl, rfl⟩
  refine s_pure 8 (.bool !y1_2) (by kernel_rfl) (by kernel_rfl) (fun _ => by kernel_rfl) ?_
  refine ops_end ?_
  refine At.env [(1, .int .i64 i), (2, .pointer (some ⟨b0_0, 0, none⟩)), (8, .bool !y1_2)] ⟨by kernel_rfl, by kernel_rfl, by kernel_rfl, trivial⟩ ?_
  refine at_then_normal ?_
  rcases Bool.eq_false_or_eq_true (!y1_2) with h1 | h1
  · replace H := bifT H h1
    refine at_true (t := !y1_2) (x := C22 [1,0,1,0]) (y := C22 [1,0,1,1]) (o := .tmp 8) (by kernel_rfl) (by kernel_rfl) (by kernel_rfl) h1 ?_
    refine at_seq (x := C22 [1,0,1,0,0]) (y := C22 [1,0,1,0,1]) (by kernel_rfl) ?_
    refine at_region (id := 2) 1 (by kernel_rfl) (by kernel_rfl) ?_
    refine s_pure 4 (.int .i64 (0)) (by kernel_rfl) (by kernel_rfl) (fun _ => by kernel_rfl) ?_
    refine ops_end ?_
    refine At.env [(4, .int .i64 (0))] ⟨by kernel_rfl, trivial⟩ ?_
    refine at_then_normal ?_
    refine at_ret (by kernel_rfl) ?_
    refine at_then_ret ?_
    obtain rfl := someE H
    refine at_backR [.int .i64 (0)] (Γ) (rs := [.tmp 4]) (by kernel_rfl) (.cons (.tmp (by kernel_rfl)) .nil) (fun w hw => (Sat.less (.drop .here .refl) hw)) ?_
    exact ⟨rfl, rfl⟩
  · replace H := bifF H h1
    refine at_false (t := !y1_2) (x := C22 [1,0,1,0]) (y := C22 [1,0,1,1]) (o := .tmp 8) (by kernel_rfl) (by kernel_rfl) (by kernel_rfl) h1 ?_
    refine at_skip (by kernel_rfl) ?_
    refine at_then_normal ?_
    refine at_seq (x := C22 [1,1,0]) (y := C22 [1,1,1]) (by kernel_rfl) ?_
    refine at_region (id := 3) 6 (by kernel_rfl) (by kernel_rfl) ?_
    refine s_pure 9 (.pointer (some ⟨b0_0, 5, none⟩)) (by kernel_rfl) (by kernel_rfl) (fun _ => by kernel_rfl) ?_
    refine s_load 10 (.slice ea (List.length e.data) ecap) (by kernel_rfl) (by kernel_rfl) (load1 (off := 5) (fun _ => by kernel_rfl) (holds_own .here) (by kernel_rfl)) ?_
    refine s_pure 11 (.int .i64 i) (by kernel_rfl) (by kernel_rfl) (fun _ => by kernel_rfl) ?_
    obtain ⟨hc3_3_0, H⟩ := chkE H
    refine reads_at (Reads.conv (fun w hw => hw.less (.drop .here .refl)) hrea) (by have := hc3_3_0; omega) ?_
    intro bb1 oo1 ha1
    refine s_pure 12 (.pointer (some ⟨bb1, oo1 + ((i).toNat * 1 + 0), none⟩)) (by kernel_rfl) (by kernel_rfl) (index_at (t := 22) (sz := 1) (E := 3) (a := ea) (m := (List.length e.data)) (c := ecap) (b := bb1) (off := oo1) (i := (i).toNat) (tinfo 3) (fun _ => by kernel_rfl) (by kernel_rfl) (by kernel_rfl) (by kernel_rfl) ha1 (idx_cast hc3_3_0) (idx_nat hc3_3_0) rfl) ?_
    refine s_load 13 (.int .i64 (nth e.data i)) (by kernel_rfl) (by kernel_rfl) (load1_at (off := oo1 + ((i).toNat * 1 + 0)) (v := .int .i64 (nth e.data i)) (fun _ => by kernel_rfl) rfl (reads_cell (k := 1) (Reads.conv (fun w hw => hw.less (.drop .here .refl)) hrea) (ints_rows _) ha1 (nth_row hc3_3_0) (show [(.int .i64 (nth e.data i) : Value)][0]? = some _ from rfl))) ?_
    refine s_pure 4 (.int .i64 (nth e.data i)) (by kernel_rfl) (by kernel_rfl) (fun _ => by kernel_rfl) ?_
    refine ops_end ?_
    refine At.env [(4, .int .i64 (nth e.data i))] ⟨by kernel_rfl, trivial⟩ ?_
    refine at_then_normal ?_
    refine at_ret (by kernel_rfl) ?_
    obtain rfl := someE H
    refine at_backR [.int .i64 (nth e.data i)] (Γ) (rs := [.tmp 4]) (by kernel_rfl) (.cons (.tmp (by kernel_rfl)) .nil) (fun w hw => (Sat.less (.drop .here .refl) hw)) ?_
    exact ⟨rfl, rfl⟩
def wakes08S : Option (Bool) :=
  letP (newC (1 : Int) (1 : Int)) fun y1_0 => (linesS y1_0).bind fun y2_4 => (bif decide ((((List.length y2_4) : Nat) : Int) = (0 : Int)) then letP ([7] : List Int) fun l2_10 => (enewS (4 : Int) ((-1) : Int) ((-1) : Int) false l2_10).bind fun y2_11 => (putS y1_0 y2_11).bind fun y2_12 => (bif decide (y2_12.1 = (0 : Int)) then (enewS (5 : Int) ((-1) : Int) ((-1) : Int) false ([] : List Int)).bind fun y2_17 => (putS y2_12.2 y2_17).bind fun y2_18 => (bif decide (y2_18.1 = (5 : Int)) then letP (lenC y2_18.2) fun y2_23 => some (decide (y2_23 = (1 : Int))) else some false) else some false) else some false)
noncomputable def C29 (p : List Nat) : Code := codeAt (bodyOf Try.f29) p
set_option maxRecDepth 100000 in
set_option maxHeartbeats 8000000 in
theorem W08F_tr {W0 : World} {Γ : List Asn}   (y : Bool) (H : wakes08S = some y) : Tr Try.prog 29 #[] W0 (Γ) (fun r Δ => r = .bool y ∧ Δ = Γ) := by
  unfold wakes08S at H
  refine Tr.enter (fn := Try.f29) (c := C29 []) (args := []) 29 Try.func29 (by kernel_rfl) (by kernel_rfl) ?_
  refine At.env [] trivial ?_
  refine at_seq (x := C29 [0]) (y := C29 [1]) (by kernel_rfl) ?_
  refine at_region (id := 0) 1 (by kernel_rfl) (by kernel_rfl) ?_
  refine s_pure 0 (.bool false) (by kernel_rfl) (by kernel_rfl) (fun _ => by kernel_rfl) ?_
  refine ops_end ?_
  refine At.env [] trivial ?_
  refine at_then_normal ?_
  refine at_seq (x := C29 [1,0]) (y := C29 [1,1]) (by kernel_rfl) ?_
  refine at_region (id := 1) 2 (by kernel_rfl) (by kernel_rfl) ?_
  obtain ⟨y1_0, hy1_0, H⟩ := letE H
  refine s_call 2 13 #[.int .i64 (1), .int .i64 (1)] (by kernel_rfl) (by kernel_rfl) (fun _ => by kernel_rfl) (NewF_tr (1 : Int) (1 : Int) y1_0 hy1_0) ?_
  rintro _ _ ⟨b1_0, rfl, rfl⟩
  refine s_pure 1 (.pointer (some ⟨b1_0, 0, none⟩)) (by kernel_rfl) (by kernel_rfl) (fun _ => by kernel_rfl) ?_
  refine ops_end ?_
  refine At.env [(1, .pointer (some ⟨b1_0, 0, none⟩))] ⟨by kernel_rfl, trivial⟩ ?_
  refine at_then_normal ?_
  refine at_seq (x := C29 [1,1,0]) (y := C29 [1,1,1]) (by kernel_rfl) ?_
  refine at_region (id := 2) 27 (by kernel_rfl) (by kernel_rfl) ?_
  refine s_pure 3 (.pointer (some ⟨b1_0, 0, none⟩)) (by kernel_rfl) (by kernel_rfl) (fun _ => by kernel_rfl) ?_
  refine s_pure 4 (.bool true) (by kernel_rfl) (by kernel_rfl) (fun _ => by kernel_rfl) ?_
  refine s_pure 5 (.bool true) (by kernel_rfl) (by kernel_rfl) (fun _ => by kernel_rfl) ?_
  refine s_pure 6 (.pointer (some ⟨b1_0, 0, none⟩)) (by kernel_rfl) (by kernel_rfl) (fun _ => by kernel_rfl) ?_
  obtain ⟨y2_4, hy2_4, H⟩ := bindE H
  refine s_call 7 28 #[.pointer (some ⟨b1_0, 0, none⟩)] (by kernel_rfl) (by kernel_rfl) (fun _ => by kernel_rfl) (LinesF_tr b1_0 y1_0 y2_4 hy2_4) ?_
  rintro _ _ ⟨a2_4_00, c2_4_00, rfl, rfl⟩
  refine s_pure 8 (.int .i64 (((List.length y2_4) : Nat) : Int)) (by kernel_rfl) (by kernel_rfl) (fun _ => by kernel_rfl) ?_
  refine s_pure 9 (.bool (decide ((((List.length y2_4) : Nat) : Int) = (0 : Int)))) (by kernel_rfl) (by kernel_rfl) (fun _ => by kernel_rfl) ?_
  refine s_pure 10 (.bool (decide ((((List.length y2_4) : Nat) : Int) = (0 : Int)))) (by kernel_rfl) (by kernel_rfl) (fun _ => by kernel_rfl) ?_
  rcases Bool.eq_false_or_eq_true (decide ((((List.length y2_4) : Nat) : Int) = (0 : Int))) with h1 | h1
  · replace H := bifT H h1
    refine s_pure 11 (.bool true) (by kernel_rfl) (by kernel_rfl) (run_eq (v := .bool (decide ((((List.length y2_4) : Nat) : Int) = (0 : Int)))) (fun _ => by kernel_rfl) (congrArg Value.bool h1)) ?_
    refine s_pure 12 (.pointer (some ⟨b1_0, 0, none⟩)) (by kernel_rfl) (by kernel_rfl) (fun _ => by kernel_rfl) ?_
    obtain ⟨l2_10, hl2_10, H⟩ := letE H
    refine s_step 13 (by kernel_rfl) (by kernel_rfl) (st_new_ints (T := 3) (xs := l2_10) 1 hl2_10 (fun _ => by kernel_rfl) (by kernel_rfl)) ?_
    rintro _ _ ⟨b2_10, rfl, rfl⟩
    obtain ⟨y2_11, hy2_11, H⟩ := bindE H
    refine s_call 14 16 #[.int .i64 (4), .int .i64 (-1), .int .i64 (-1), .bool false, .slice (some ⟨b2_10, 0, none⟩) (List.length l2_10) 1] (by kernel_rfl) (by kernel_rfl) (fun _ => by kernel_rfl) (ENewF_tr (4 : Int) ((-1) : Int) ((-1) : Int) false (some ⟨b2_10, 0, none⟩) 1 l2_10 (RowsA.reads (k := 1) .here) y2_11 hy2_11) ?_
    rintro _ _ ⟨a2_11_00, c2_11_00, rfl, rfl⟩
    obtain ⟨y2_12, hy2_12, H⟩ := bindE H
    refine s_call 15 15 #[.pointer (some ⟨b1_0, 0, none⟩), .agg #[.int .i64 y2_11.fwd, .int .i64 y2_11.back, .int .i64 y2_11.line, .int .i64 y2_11.used, .bool y2_11.dirty, .slice a2_11_00 (List.length y2_11.data) c2_11_00]] (by kernel_rfl) (by kernel_rfl) (fun _ => by kernel_rfl) (Tr.conv (Γ' := (CacheA b1_0 y1_0) :: (IntsA a2_11_00 c2_11_00 y2_11.data) :: (IntsA (some ⟨b2_10, 0, none⟩) 1 l2_10) :: (IntsA a2_4_00 c2_4_00 y2_4) :: Γ) (fun w hw => (Sat.less (.take (.there (.there (.there .here))) (.take .here (.take .here (.take .here .refl)))) hw)) (PutF_tr b1_0 y1_0 a2_11_00 c2_11_00 y2_11 (RowsA.reads (k := 1) .here) y2_12 hy2_12)) ?_
    rintro _ _ ⟨rfl, rfl⟩
    refine s_pure 16 (.bool (decide (y2_12.1 = (0 : Int)))) (by kernel_rfl) (by kernel_rfl) (fun _ => by kernel_rfl) ?_
    refine s_pure 17 (.bool (decide (y2_12.1 = (0 : Int)))) (by kernel_rfl) (by kernel_rfl) (fun _ => by kernel_rfl) ?_
    rcases Bool.eq_false_or_eq_true (decide (y2_12.1 = (0 : Int))) with h2 | h2
    · replace H := bifT H h2
      refine s_pure 18 (.bool true) (by kernel_rfl) (by kernel_rfl) (run_eq (v := .bool (decide (y2_12.1 = (0 : Int)))) (fun _ => by kernel_rfl) (congrArg Value.bool h2)) ?_
      refine s_pure 19 (.pointer (some ⟨b1_0, 0, none⟩)) (by kernel_rfl) (by kernel_rfl) (fun _ => by kernel_rfl) ?_
      obtain ⟨y2_17, hy2_17, H⟩ := bindE H
      refine s_call 20 16 #[.int .i64 (5), .int .i64 (-1), .int .i64 (-1), .bool false, .slice none 0 0] (by kernel_rfl) (by kernel_rfl) (fun _ => by kernel_rfl) (ENewF_tr (5 : Int) ((-1) : Int) ((-1) : Int) false none 0 ([] : List Int) Reads.nil y2_17 hy2_17) ?_
      rintro _ _ ⟨a2_17_00, c2_17_00, rfl, rfl⟩
      obtain ⟨y2_18, hy2_18, H⟩ := bindE H
      refine s_call 21 15 #[.pointer (some ⟨b1_0, 0, none⟩), .agg #[.int .i64 y2_17.fwd, .int .i64 y2_17.back, .int .i64 y2_17.line, .int .i64 y2_17.used, .bool y2_17.dirty, .slice a2_17_00 (List.length y2_17.data) c2_17_00]] (by kernel_rfl) (by kernel_rfl) (fun _ => by kernel_rfl) (Tr.conv (Γ' := (CacheA b1_0 y2_12.2) :: (IntsA a2_17_00 c2_17_00 y2_17.data) :: (IntsA a2_11_00 c2_11_00 y2_11.data) :: (IntsA (some ⟨b2_10, 0, none⟩) 1 l2_10) :: (IntsA a2_4_00 c2_4_00 y2_4) :: Γ) (fun w hw => (Sat.less (.take (.there .here) (.take .here (.take .here (.take .here (.take .here .refl))))) hw)) (PutF_tr b1_0 y2_12.2 a2_17_00 c2_17_00 y2_17 (RowsA.reads (k := 1) .here) y2_18 hy2_18)) ?_
      rintro _ _ ⟨rfl, rfl⟩
      refine s_pure 22 (.bool (decide (y2_18.1 = (5 : Int)))) (by kernel_rfl) (by kernel_rfl) (fun _ => by kernel_rfl) ?_
      refine s_pure 23 (.bool (decide (y2_18.1 = (5 : Int)))) (by kernel_rfl) (by kernel_rfl) (fun _ => by kernel_rfl) ?_
      rcases Bool.eq_false_or_eq_true (decide (y2_18.1 = (5 : Int))) with h3 | h3
      · replace H := bifT H h3
        refine s_pure 24 (.bool true) (by kernel_rfl) (by kernel_rfl) (run_eq (v := .bool (decide (y2_18.1 = (5 : Int)))) (fun _ => by kernel_rfl) (congrArg Value.bool h3)) ?_
        refine s_pure 25 (.pointer (some ⟨b1_0, 0, none⟩)) (by kernel_rfl) (by kernel_rfl) (fun _ => by kernel_rfl) ?_
        obtain ⟨y2_23, hy2_23, H⟩ := letE H
        refine s_call 26 23 #[.pointer (some ⟨b1_0, 0, none⟩)] (by kernel_rfl) (by kernel_rfl) (fun _ => by kernel_rfl) (LenF_tr b1_0 y2_18.2 y2_23 hy2_23) ?_
        rintro _ _ ⟨rfl, rfl⟩
        refine s_pure 27 (.bool (decide (y2_23 = (1 : Int)))) (by kernel_rfl) (by kernel_rfl) (fun _ => by kernel_rfl) ?_
        refine s_pure 28 (.bool (decide (y2_23 = (1 : Int)))) (by kernel_rfl) (by kernel_rfl) (fun _ => by kernel_rfl) ?_
        refine s_pure 0 (.bool (decide (y2_23 = (1 : Int)))) (by kernel_rfl) (by kernel_rfl) (fun _ => by kernel_rfl) ?_
        refine ops_end ?_
        refine At.env [(0, .bool (decide (y2_23 = (1 : Int))))] ⟨by kernel_rfl, trivial⟩ ?_
        refine at_then_normal ?_
        refine at_ret (by kernel_rfl) ?_
        obtain rfl := someE H
        refine at_backR [.bool (decide (y2_23 = (1 : Int)))] (Γ) (rs := [.tmp 0]) (by kernel_rfl) (.cons (.tmp (by kernel_rfl)) .nil) (fun w hw => (Sat.less (.drop .here (.drop .here (.drop .here (.drop .here (.drop .here .refl))))) hw)) ?_
        exact ⟨rfl, rfl⟩
      · replace H := bifF H h3
        refine s_pure 24 (.bool false) (by kernel_rfl) (by kernel_rfl) (run_eq (v := .bool (decide (y2_18.1 = (5 : Int)))) (fun _ => by kernel_rfl) (congrArg Value.bool h3)) ?_
        refine s_pass 25 (by kernel_rfl) (by kernel_rfl) ?_
        refine s_pass 26 (by kernel_rfl) (by kernel_rfl) ?_
        refine s_pass 27 (by kernel_rfl) (by kernel_rfl) ?_
        refine s_pure 28 (.bool false) (by kernel_rfl) (by kernel_rfl) (fun _ => by kernel_rfl) ?_
        refine s_pure 0 (.bool false) (by kernel_rfl) (by kernel_rfl) (fun _ => by kernel_rfl) ?_
        refine ops_end ?_
        refine At.env [(0, .bool false)] ⟨by kernel_rfl, trivial⟩ ?_
        refine at_then_normal ?_
        refine at_ret (by kernel_rfl) ?_
        obtain rfl := someE H
        refine at_backR [.bool false] (Γ) (rs := [.tmp 0]) (by kernel_rfl) (.cons (.tmp (by kernel_rfl)) .nil) (fun w hw => (Sat.less (.drop .here (.drop .here (.drop .here (.drop .here (.drop .here .refl))))) hw)) ?_
        exact ⟨rfl, rfl⟩
    · replace H := bifF H h2
      refine s_pure 18 (.bool false) (by kernel_rfl) (by kernel_rfl) (run_eq (v := .bool (decide (y2_12.1 = (0 : Int)))) (fun _ => by kernel_rfl) (congrArg Value.bool h2)) ?_
      refine s_pass 19 (by kernel_rfl) (by kernel_rfl) ?_
      refine s_pass 20 (by kernel_rfl) (by kernel_rfl) ?_
      refine s_pass 21 (by kernel_rfl) (by kernel_rfl) ?_
      refine s_pass 22 (by kernel_rfl) (by kernel_rfl) ?_
      refine s_pure 23 (.bool false) (by kernel_rfl) (by kernel_rfl) (fun _ => by kernel_rfl) ?_
      refine s_pure 24 (.bool false) (by kernel_rfl) (by kernel_rfl) (fun _ => by kernel_rfl) ?_
      refine s_pass 25 (by kernel_rfl) (by kernel_rfl) ?_
      refine s_pass 26 (by kernel_rfl) (by kernel_rfl) ?_
      refine s_pass 27 (by kernel_rfl) (by kernel_rfl) ?_
      refine s_pure 28 (.bool false) (by kernel_rfl) (by kernel_rfl) (fun _ => by kernel_rfl) ?_
      refine s_pure 0 (.bool false) (by kernel_rfl) (by kernel_rfl) (fun _ => by kernel_rfl) ?_
      refine ops_end ?_
      refine At.env [(0, .bool false)] ⟨by kernel_rfl, trivial⟩ ?_
      refine at_then_normal ?_
      refine at_ret (by kernel_rfl) ?_
      obtain rfl := someE H
      refine at_backR [.bool false] (Γ) (rs := [.tmp 0]) (by kernel_rfl) (.cons (.tmp (by kernel_rfl)) .nil) (fun w hw => (Sat.less (.drop .here (.drop .here (.drop .here (.drop .here .refl)))) hw)) ?_
      exact ⟨rfl, rfl⟩
  · replace H := bifF H h1
    refine s_pure 11 (.bool false) (by kernel_rfl) (by kernel_rfl) (run_eq (v := .bool (decide ((((List.length y2_4) : Nat) : Int) = (0 : Int)))) (fun _ => by kernel_rfl) (congrArg Value.bool h1)) ?_
    refine s_pass 12 (by kernel_rfl) (by kernel_rfl) ?_
    refine s_pass 13 (by kernel_rfl) (by kernel_rfl) ?_
    refine s_pass 14 (by kernel_rfl) (by kernel_rfl) ?_
    refine s_pass 15 (by kernel_rfl) (by kernel_rfl) ?_
    refine s_pass 16 (by kernel_rfl) (by kernel_rfl) ?_
    refine s_pure 17 (.bool false) (by kernel_rfl) (by kernel_rfl) (fun _ => by kernel_rfl) ?_
    refine s_pure 18 (.bool false) (by kernel_rfl) (by kernel_rfl) (fun _ => by kernel_rfl) ?_
    refine s_pass 19 (by kernel_rfl) (by kernel_rfl) ?_
    refine s_pass 20 (by kernel_rfl) (by kernel_rfl) ?_
    refine s_pass 21 (by kernel_rfl) (by kernel_rfl) ?_
    refine s_pass 22 (by kernel_rfl) (by kernel_rfl) ?_
    refine s_pure 23 (.bool false) (by kernel_rfl) (by kernel_rfl) (fun _ => by kernel_rfl) ?_
    refine s_pure 24 (.bool false) (by kernel_rfl) (by kernel_rfl) (fun _ => by kernel_rfl) ?_
    refine s_pass 25 (by kernel_rfl) (by kernel_rfl) ?_
    refine s_pass 26 (by kernel_rfl) (by kernel_rfl) ?_
    refine s_pass 27 (by kernel_rfl) (by kernel_rfl) ?_
    refine s_pure 28 (.bool false) (by kernel_rfl) (by kernel_rfl) (fun _ => by kernel_rfl) ?_
    refine s_pure 0 (.bool false) (by kernel_rfl) (by kernel_rfl) (fun _ => by kernel_rfl) ?_
    refine ops_end ?_
    refine At.env [(0, .bool false)] ⟨by kernel_rfl, trivial⟩ ?_
    refine at_then_normal ?_
    refine at_ret (by kernel_rfl) ?_
    obtain rfl := someE H
    refine at_backR [.bool false] (Γ) (rs := [.tmp 0]) (by kernel_rfl) (.cons (.tmp (by kernel_rfl)) .nil) (fun w hw => (Sat.less (.drop .here (.drop .here .refl)) hw)) ?_
    exact ⟨rfl, rfl⟩
def ewriteS_j0 (ev : Ent) (i : Int) (v : Int) (e0_19 : Bool) : Option (Bool × Ent) :=
  (bif e0_19 then some (false, ev) else (copyS ev.data).bind fun y3_5 => chk (0 ≤ i ∧ i < ((y3_5.length : Nat) : Int)) (letP (setI y3_5 i v) fun w4_7 => some (true, (⟨ev.fwd, ev.back, ev.line, ev.used, ev.dirty, w4_7⟩ : Ent))))
def ewriteS (ev : Ent) (i : Int) (v : Int) : Option (Bool × Ent) :=
  (bif !ev.dirty then ewriteS_j0 ev i v true else (eisS ev i).bind fun y1_10 => ewriteS_j0 ev i v !y1_10)
noncomputable def C30 (p : List Nat) : Code := codeAt (bodyOf Try.f30) p
set_option maxRecDepth 100000 in
set_option maxHeartbeats 8000000 in
theorem EWriteF_tr {W0 : World} {Γ : List Asn} (e eT : Nat) (ea : Option Addr) (ecap : Nat) (ev : Ent) (i : Int) (v : Int)  (y : Bool × Ent) (H : ewriteS ev i v = some y) : Tr Try.prog 30 #[.pointer (some ⟨e, 0, none⟩), .int .i64 i, .int .i64 v] W0 ((IntsA ea ecap ev.data) :: (Asn.own e (.cells #[.int .i64 ev.fwd, .int .i64 ev.back, .int .i64 ev.line, .int .i64 ev.used, .bool ev.dirty, .slice ea (List.length ev.data) ecap] eT (0, 0))) :: Γ) (fun r Δ => ∃ (a_e : Option Addr) (c_e : Nat), r = .bool y.1 ∧ Δ = (IntsA a_e c_e y.2.data) :: (Asn.own e (.cells #[.int .i64 y.2.fwd, .int .i64 y.2.back, .int .i64 y.2.line, .int .i64 y.2.used, .bool y.2.dirty, .slice a_e (List.length y.2.data) c_e] eT (0, 0))) :: Γ) := by
  unfold ewriteS at H
  refine Tr.enter (fn := Try.f30) (c := C30 []) (args := [.pointer (some ⟨e, 0, none⟩), .int .i64 i, .int .i64 v]) 35 Try.func30 (by kernel_rfl) (by kernel_rfl) ?_
  refine At.env [(0, .pointer (some ⟨e, 0, none⟩)), (1, .int .i64 i), (2, .int .i64 v)] ⟨by kernel_rfl, by kernel_rfl, by kernel_rfl, trivial⟩ ?_
  refine at_seq (x := C30 [0]) (y := C30 [1]) (by kernel_rfl) ?_
  refine at_region (id := 0) 1 (by kernel_rfl) (by kernel_rfl) ?_
  refine s_pure 6 (.bool false) (by kernel_rfl) (by kernel_rfl) (fun _ => by kernel_rfl) ?_
  refine ops_end ?_
  refine At.env [(0, .pointer (some ⟨e, 0, none⟩)), (1, .int .i64 i), (2, .int .i64 v)] ⟨by kernel_rfl, by kernel_rfl, by kernel_rfl, trivial⟩ ?_
  refine at_then_normal ?_
  refine at_seq (x := C30 [1,0]) (y := C30 [1,1]) (by kernel_rfl) ?_
  refine at_seq_join (x := C30 [1,0,0]) (y := C30 [1,0,1]) (fun ff ΔΔ => ∃ (e0_19 : Bool), ewriteS_j0 ev i v e0_19 = some y ∧ ff = [(0, .pointer (some ⟨e, 0, none⟩)), (1, .int .i64 i), (2, .int .i64 v), (19, .bool e0_19)] ∧ (IntsA ea ecap ev.data) :: (Asn.own e (.cells #[.int .i64 ev.fwd, .int .i64 ev.back, .int .i64 ev.line, .int .i64 ev.used, .bool ev.dirty, .slice ea (List.length ev.data) ecap] eT (0, 0))) :: Γ = ΔΔ) (by kernel_rfl) ?_ ?_
  · rintro _ _ ⟨e0_19, H, rfl, rfl⟩
    rw [ewriteS_j0] at H
    rcases Bool.eq_false_or_eq_true (e0_19) with h1 | h1
    · replace H := bifT H h1
      refine at_true (t := e0_19) (x := C30 [1,0,1,0]) (y := C30 [1,0,1,1]) (o := .tmp 19) (by kernel_rfl) (by kernel_rfl) (by kernel_rfl) h1 ?_
      refine at_seq (x := C30 [1,0,1,0,0]) (y := C30 [1,0,1,0,1]) (by kernel_rfl) ?_
      refine at_region (id := 2) 1 (by kernel_rfl) (by kernel_rfl) ?_
      refine s_pure 6 (.bool false) (by kernel_rfl) (by kernel_rfl) (fun _ => by kernel_rfl) ?_
      refine ops_end ?_
      refine At.env [(6, .bool false)] ⟨by kernel_rfl, trivial⟩ ?_
      refine at_then_normal ?_
      refine at_ret (by kernel_rfl) ?_
      refine at_then_ret ?_
      obtain rfl := someE H
      refine at_backR [.bool false] ((IntsA ea ecap ev.data) :: (Asn.own e (.cells #[.int .i64 ev.fwd, .int .i64 ev.back, .int .i64 ev.line, .int .i64 ev.used, .bool ev.dirty, .slice ea (List.length ev.data) ecap] eT (0, 0))) :: Γ) (rs := [.tmp 6]) (by kernel_rfl) (.cons (.tmp (by kernel_rfl)) .nil) (fun w hw => (Sat.less (.take .here (.take .here .refl)) hw)) ?_
      exact ⟨ea, ecap, rfl, rfl⟩
    · replace H := bifF H h1
      refine at_false (t := e0_19) (x := C30 [1,0,1,0]) (y := C30 [1,0,1,1]) (o := .tmp 19) (by kernel_rfl) (by kernel_rfl) (by kernel_rfl) h1 ?_
      refine at_skip (by kernel_rfl) ?_
      refine at_then_normal ?_
      refine at_seq (x := C30 [1,1,0]) (y := C30 [1,1,1]) (by kernel_rfl) ?_
      refine at_region (id := 3) 9 (by kernel_rfl) (by kernel_rfl) ?_
      refine s_pure 20 (.pointer (some ⟨e, 0, none⟩)) (by kernel_rfl) (by kernel_rfl) (fun _ => by kernel_rfl) ?_
      refine s_pure 21 (.pointer (some ⟨e, 0, none⟩)) (by kernel_rfl) (by kernel_rfl) (fun _ => by kernel_rfl) ?_
      refine s_pure 22 (.pointer (some ⟨e, 0, none⟩)) (by kernel_rfl) (by kernel_rfl) (fun _ => by kernel_rfl) ?_
      refine s_pure 23 (.pointer (some ⟨e, 5, none⟩)) (by kernel_rfl) (by kernel_rfl) (fun _ => by kernel_rfl) ?_
      refine s_load 24 (.slice ea (List.length ev.data) ecap) (by kernel_rfl) (by kernel_rfl) (load1 (off := 5) (fun _ => by kernel_rfl) (holds_own (.there .here)) (by kernel_rfl)) ?_
      obtain ⟨y3_5, hy3_5, H⟩ := bindE H
      refine s_call 25 50 #[.slice ea (List.length ev.data) ecap] (by kernel_rfl) (by kernel_rfl) (fun _ => by kernel_rfl) (CloneF_tr ea ecap ev.data (RowsA.reads (k := 1) .here) y3_5 hy3_5) ?_
      rintro _ _ ⟨a3_5_00, c3_5_00, rfl, rfl⟩
      refine s_pure 26 (.pointer (some ⟨e, 0, none⟩)) (by kernel_rfl) (by kernel_rfl) (fun _ => by kernel_rfl) ?_
      refine s_pure 27 (.pointer (some ⟨e, 5, none⟩)) (by kernel_rfl) (by kernel_rfl) (fun _ => by kernel_rfl) ?_
      refine s_do (by kernel_rfl) (by kernel_rfl) (st_store (off := 5) (vs := [.slice a3_5_00 (List.length y3_5) c3_5_00]) (c' := #[.int .i64 ev.fwd, .int .i64 ev.back, .int .i64 ev.line, .int .i64 ev.used, .bool ev.dirty, .slice a3_5_00 (List.length y3_5) c3_5_00]) (fun _ => by kernel_rfl) (.there (.there .here)) (by kernel_rfl) (by kernel_rfl) (by kernel_rfl)) ?_
      rintro _ _ ⟨rfl, rfl⟩
      refine ops_end ?_
      refine At.env [(0, .pointer (some ⟨e, 0, none⟩)), (1, .int .i64 i), (2, .int .i64 v)] ⟨by kernel_rfl, by kernel_rfl, by kernel_rfl, trivial⟩ ?_
      refine at_then_normal ?_
      refine at_seq (x := C30 [1,1,1,0]) (y := C30 [1,1,1,1]) (by kernel_rfl) ?_
      refine at_region (id := 4) 8 (by kernel_rfl) (by kernel_rfl) ?_
      refine s_pure 28 (.pointer (some ⟨e, 0, none⟩)) (by kernel_rfl) (by kernel_rfl) (fun _ => by kernel_rfl) ?_
      refine s_pure 29 (.pointer (some ⟨e, 0, none⟩)) (by kernel_rfl) (by kernel_rfl) (fun _ => by kernel_rfl) ?_
      refine s_pure 30 (.pointer (some ⟨e, 5, none⟩)) (by kernel_rfl) (by kernel_rfl) (fun _ => by kernel_rfl) ?_
      refine s_load 31 (.slice a3_5_00 (List.length y3_5) c3_5_00) (by kernel_rfl) (by kernel_rfl) (load1 (off := 5) (fun _ => by kernel_rfl) (holds_own .here) (by kernel_rfl)) ?_
      refine s_pure 32 (.int .i64 i) (by kernel_rfl) (by kernel_rfl) (fun _ => by kernel_rfl) ?_
      refine s_pure 33 (.int .i64 v) (by kernel_rfl) (by kernel_rfl) (fun _ => by kernel_rfl) ?_
      obtain ⟨hc4_6_0, H⟩ := chkE H
      refine rows_at (.there .here) (by have := hc4_6_0; simp only [ints_length]; omega) ?_
      intro bb1 oo1 ha1
      refine s_pure 34 (.pointer (some ⟨bb1, oo1 + ((i).toNat * 1 + 0), none⟩)) (by kernel_rfl) (by kernel_rfl) (index_at (t := 22) (sz := 1) (E := 3) (a := a3_5_00) (m := (List.length y3_5)) (c := c3_5_00) (b := bb1) (off := oo1) (i := (i).toNat) (tinfo 3) (fun _ => by kernel_rfl) (by kernel_rfl) (by kernel_rfl) (by kernel_rfl) ha1 (idx_cast hc4_6_0) (idx_nat hc4_6_0) rfl) ?_
      obtain ⟨w4_7, hw4_7, H⟩ := letE H
      refine s_do (by kernel_rfl) (by kernel_rfl) (st_to_int (st_row (k := 1) (off := oo1) (i := (i).toNat) (j := 0) (row := [.int .i64 (nth y3_5 i)]) (row' := [.int .i64 v]) (vs := [.int .i64 v]) (fun _ => by kernel_rfl) (.there .here) ha1 (nth_row hc4_6_0) rfl (by kernel_rfl) (by kernel_rfl) rfl)) ?_
      rintro _ _ ⟨rfl, rfl⟩
      have hsw4_7 : w4_7 = List.set y3_5 (i).toNat v := hw4_7.symm
      rw [← hsw4_7]
      have hnw4_7 : List.length y3_5 = List.length w4_7 := by rw [hsw4_7]; simp
      rw [hnw4_7]
      refine ops_end ?_
      refine At.env [] trivial ?_
      refine at_then_normal ?_
      refine at_seq (x := C30 [1,1,1,1,0]) (y := C30 [1,1,1,1,1]) (by kernel_rfl) ?_
      refine at_region (id := 5) 1 (by kernel_rfl) (by kernel_rfl) ?_
      refine s_pure 6 (.bool true) (by kernel_rfl) (by kernel_rfl) (fun _ => by kernel_rfl) ?_
      refine ops_end ?_
      refine At.env [(6, .bool true)] ⟨by kernel_rfl, trivial⟩ ?_
      refine at_then_normal ?_
      refine at_ret (by kernel_rfl) ?_
      obtain rfl := someE H
      refine at_backR [.bool true] ((IntsA a3_5_00 c3_5_00 w4_7) :: (Asn.own e (.cells #[.int .i64 ev.fwd, .int .i64 ev.back, .int .i64 ev.line, .int .i64 ev.used, .bool ev.dirty, .slice a3_5_00 (List.length w4_7) c3_5_00] eT (0, 0))) :: Γ) (rs := [.tmp 6]) (by kernel_rfl) (.cons (.tmp (by kernel_rfl)) .nil) (fun w hw => (Sat.less (.take .here (.take .here (.drop .here .refl))) hw)) ?_
      exact ⟨a3_5_00, c3_5_00, rfl, rfl⟩
  · refine at_region (id := 1) 13 (by kernel_rfl) (by kernel_rfl) ?_
    refine s_pure 7 (.pointer (some ⟨e, 0, none⟩)) (by kernel_rfl) (by kernel_rfl) (fun _ => by kernel_rfl) ?_
    refine s_pure 8 (.pointer (some ⟨e, 0, none⟩)) (by kernel_rfl) (by kernel_rfl) (fun _ => by kernel_rfl) ?_
    refine s_pure 9 (.pointer (some ⟨e, 4, none⟩)) (by kernel_rfl) (by kernel_rfl) (fun _ => by kernel_rfl) ?_
    refine s_load 10 (.bool ev.dirty) (by kernel_rfl) (by kernel_rfl) (load1 (off := 4) (fun _ => by kernel_rfl) (holds_own (.there .here)) (by kernel_rfl)) ?_
    refine s_pure 11 (.bool !ev.dirty) (by kernel_rfl) (by kernel_rfl) (fun _ => by kernel_rfl) ?_
    rcases Bool.eq_false_or_eq_true (!ev.dirty) with h2 | h2
    · replace H := bifT H h2
      refine s_pure 12 (.bool true) (by kernel_rfl) (by kernel_rfl) (run_eq (v := .bool (!ev.dirty)) (fun _ => by kernel_rfl) (congrArg Value.bool h2)) ?_
      refine s_pass 13 (by kernel_rfl) (by kernel_rfl) ?_
      refine s_pass 14 (by kernel_rfl) (by kernel_rfl) ?_
      refine s_pass 15 (by kernel_rfl) (by kernel_rfl) ?_
      refine s_pass 16 (by kernel_rfl) (by kernel_rfl) ?_
      refine s_pass 17 (by kernel_rfl) (by kernel_rfl) ?_
      refine s_pass 18 (by kernel_rfl) (by kernel_rfl) ?_
      refine s_pure 19 (.bool true) (by kernel_rfl) (by kernel_rfl) (fun _ => by kernel_rfl) ?_
      refine ops_end ?_
      refine At.env [(0, .pointer (some ⟨e, 0, none⟩)), (1, .int .i64 i), (2, .int .i64 v), (19, .bool true)] ⟨by kernel_rfl, by kernel_rfl, by kernel_rfl, by kernel_rfl, trivial⟩ ?_
      refine at_round_normal ?_
      exact at_join_mk [(0, .pointer (some ⟨e, 0, none⟩)), (1, .int .i64 i), (2, .int .i64 v), (19, .bool true)] ((IntsA ea ecap ev.data) :: (Asn.own e (.cells #[.int .i64 ev.fwd, .int .i64 ev.back, .int .i64 ev.line, .int .i64 ev.used, .bool ev.dirty, .slice ea (List.length ev.data) ecap] eT (0, 0))) :: Γ) ⟨by kernel_rfl, by kernel_rfl, by kernel_rfl, by kernel_rfl, trivial⟩ (fun w hw => (Sat.less (.take .here (.take .here .refl)) hw)) ⟨true, H, rfl, rfl⟩
    · replace H := bifF H h2
      refine s_pure 12 (.bool false) (by kernel_rfl) (by kernel_rfl) (run_eq (v := .bool (!ev.dirty)) (fun _ => by kernel_rfl) (congrArg Value.bool h2)) ?_
      refine s_pure 13 (.pointer (some ⟨e, 0, none⟩)) (by kernel_rfl) (by kernel_rfl) (fun _ => by kernel_rfl) ?_
      refine s_pure 14 (.pointer (some ⟨e, 0, none⟩)) (by kernel_rfl) (by kernel_rfl) (fun _ => by kernel_rfl) ?_
      refine s_load 15 (.agg #[.int .i64 ev.fwd, .int .i64 ev.back, .int .i64 ev.line, .int .i64 ev.used, .bool ev.dirty, .slice ea (List.length ev.data) ecap]) (by kernel_rfl) (by kernel_rfl) (loadN (off := 0) (vs := [.int .i64 ev.fwd, .int .i64 ev.back, .int .i64 ev.line, .int .i64 ev.used, .bool ev.dirty, .slice ea (List.length ev.data) ecap]) 6 (fun _ => by kernel_rfl) (holds_own (.there .here)) rfl (by exact ⟨rfl, rfl, rfl, rfl, rfl, rfl, trivial⟩)) ?_
      refine s_pure 16 (.int .i64 i) (by kernel_rfl) (by kernel_rfl) (fun _ => by kernel_rfl) ?_
      obtain ⟨y1_10, hy1_10, H⟩ := bindE H
      refine s_call 17 55 #[.agg #[.int .i64 ev.fwd, .int .i64 ev.back, .int .i64 ev.line, .int .i64 ev.used, .bool ev.dirty, .slice ea (List.length ev.data) ecap], .int .i64 i] (by kernel_rfl) (by kernel_rfl) (fun _ => by kernel_rfl) (EIsF_tr ea ecap ev i (RowsA.reads (k := 1) .here) y1_10 hy1_10) ?_
      rintro _ _ ⟨rfl, rfl⟩
      refine s_pure 18 (.bool !y1_10) (by kernel_rfl) (by kernel_rfl) (fun _ => by kernel_rfl) ?_
      refine s_pure 19 (.bool !y1_10) (by kernel_rfl) (by kernel_rfl) (fun _ => by kernel_rfl) ?_
      refine ops_end ?_
      refine At.env [(0, .pointer (some ⟨e, 0, none⟩)), (1, .int .i64 i), (2, .int .i64 v), (19, .bool !y1_10)] ⟨by kernel_rfl, by kernel_rfl, by kernel_rfl, by kernel_rfl, trivial⟩ ?_
      refine at_round_normal ?_
      exact at_join_mk [(0, .pointer (some ⟨e, 0, none⟩)), (1, .int .i64 i), (2, .int .i64 v), (19, .bool !y1_10)] ((IntsA ea ecap ev.data) :: (Asn.own e (.cells #[.int .i64 ev.fwd, .int .i64 ev.back, .int .i64 ev.line, .int .i64 ev.used, .bool ev.dirty, .slice ea (List.length ev.data) ecap] eT (0, 0))) :: Γ) ⟨by kernel_rfl, by kernel_rfl, by kernel_rfl, by kernel_rfl, trivial⟩ (fun w hw => (Sat.less (.take .here (.take .here .refl)) hw)) ⟨!y1_10, H, rfl, rfl⟩
end Go.Proofs.Ytfpiolnbnfngkaa
