/- The law ServeHandles: its walk. -/
import Derived.Test.YtfpiolnbnfngkaaBoA
import Derived.Test.YtfpiolnbnfngkaaSvA
import Derived.Test.YtfpiolnbnfngkaaSvB
namespace Go.Proofs.Ytfpiolnbnfngkaa
open Go Go.RowKit
set_option linter.unusedVariables false
set_option linter.unusedSimpArgs false
def wakes12S : Option (Bool) :=
  letP (newC (1 : Int) (2 : Int)) fun y1_0 => (shandleS y1_0 (⟨6, 0, 0, 0, 1, 0, 0, false, ([] : List Int)⟩ : PktS)).bind fun y4_2 => letP ([9] : List Int) fun l5_1 => (enewS (1 : Int) (2 : Int) ((-1) : Int) true l5_1).bind fun y5_2 => (putS y4_2.2.2 y5_2).bind fun y5_3 => (shandleS y5_3.2 (⟨6, 0, 0, 0, 1, 0, 0, false, ([] : List Int)⟩ : PktS)).bind fun y6_2 => (bif decide (y4_2.2.1 = (3 : Int)) then (bif decide (y6_2.2.1 = (0 : Int)) then (bif decide (y6_2.1.ptr = (2 : Int)) then (bif y6_2.1.flag then (bif decide ((((List.length y6_2.1.data) : Nat) : Int) = (1 : Int)) then chk (0 ≤ (0 : Int) ∧ (0 : Int) < ((y6_2.1.data.length : Nat) : Int)) ((bif decide ((nth y6_2.1.data (0 : Int)) = (9 : Int)) then letP (lenC y6_2.2.2) fun y7_30 => some (decide (y7_30 = (0 : Int))) else some false)) else some false) else some false) else some false) else some false) else some false)
noncomputable def C21 (p : List Nat) : Code := codeAt (bodyOf Try.f21) p
set_option maxRecDepth 100000 in
set_option maxHeartbeats 8000000 in
theorem W12F_tr {W0 : World} {Γ : List Asn}   (y : Bool) (H : wakes12S = some y) : Tr Try.prog 21 #[] W0 (Γ) (fun r Δ => r = .bool y ∧ Δ = Γ) := by
  unfold wakes12S at H
  refine Tr.enter (fn := Try.f21) (c := C21 []) (args := []) 58 Try.func21 (by kernel_rfl) (by kernel_rfl) ?_
  refine At.env [] trivial ?_
  refine aq (x := C21 [0]) (y := C21 [1]) ?_
  refine ar (id := 0) 1 ?_
  refine sp 0 (.bool false) ?_
  refine ops_end ?_
  refine At.env [] trivial ?_
  refine at_then_normal ?_
  refine aq (x := C21 [1,0]) (y := C21 [1,1]) ?_
  refine ar (id := 1) 2 ?_
  obtain ⟨y1_0, hy1_0, H⟩ := letE H
  refine s_call 6 13 #[.int .i64 (1), .int .i64 (2)] (by kernel_rfl) (by kernel_rfl) (fun _ => by kernel_rfl) (NewF_tr (1 : Int) (2 : Int) y1_0 hy1_0) ?_
  rintro _ _ ⟨b1_0, rfl, rfl⟩
  refine sp 1 (.pointer (some ⟨b1_0, 0, none⟩)) ?_
  refine ops_end ?_
  refine ae [(1, .pointer (some ⟨b1_0, 0, none⟩))] ?_
  refine at_then_normal ?_
  refine aq (x := C21 [1,1,0]) (y := C21 [1,1,1]) ?_
  refine aq (x := C21 [1,1,0,0]) (y := C21 [1,1,0,1]) ?_
  refine ar (id := 2) 2 ?_
  refine sp 7 (.pointer (some ⟨b1_0, 0, none⟩)) ?_
  refine sp 8 (.bool false) ?_
  refine ops_end ?_
  refine ae [(1, .pointer (some ⟨b1_0, 0, none⟩)), (8, .bool false)] ?_
  refine at_then_normal ?_
  refine at_false (t := false) (x := C21 [1,1,0,1,0]) (y := C21 [1,1,0,1,1]) (o := .tmp 8) (by kernel_rfl) (by kernel_rfl) (by kernel_rfl) rfl ?_
  refine at_skip (by kernel_rfl) ?_
  refine at_then_normal ?_
  refine aq (x := C21 [1,1,1,0]) (y := C21 [1,1,1,1]) ?_
  refine ar (id := 4) 9 ?_
  refine sp 10 (.pointer (some ⟨b1_0, 0, none⟩)) ?_
  refine sp 11 (.agg #[.int .i64 (6), .int .i64 (0), .int .i64 (0), .int .i64 (0), .int .i64 (1), .int .i64 (0), .int .i64 (0), .bool false, .slice none 0 0]) ?_
  obtain ⟨y4_2, hy4_2, H⟩ := bindE H
  refine s_call 12 18 #[.pointer (some ⟨b1_0, 0, none⟩), .agg #[.int .i64 (6), .int .i64 (0), .int .i64 (0), .int .i64 (0), .int .i64 (1), .int .i64 (0), .int .i64 (0), .bool false, .slice none 0 0]] (by kernel_rfl) (by kernel_rfl) (fun _ => by kernel_rfl) (SHandleF_tr b1_0 y1_0 none 0 (⟨6, 0, 0, 0, 1, 0, 0, false, ([] : List Int)⟩ : PktS) Reads.nil y4_2 hy4_2) ?_
  rintro _ _ ⟨a4_2_00, c4_2_00, rfl, rfl⟩
  refine sp 9 (.tuple #[.agg #[.int .i64 y4_2.1.kind, .int .i64 y4_2.1.src, .int .i64 y4_2.1.dst, .int .i64 y4_2.1.id, .int .i64 y4_2.1.line, .int .i64 y4_2.1.ptr, .int .i64 y4_2.1.state, .bool y4_2.1.flag, .slice a4_2_00 (List.length y4_2.1.data) c4_2_00], .int .i64 y4_2.2.1]) ?_
  refine sp 13 (.agg #[.int .i64 y4_2.1.kind, .int .i64 y4_2.1.src, .int .i64 y4_2.1.dst, .int .i64 y4_2.1.id, .int .i64 y4_2.1.line, .int .i64 y4_2.1.ptr, .int .i64 y4_2.1.state, .bool y4_2.1.flag, .slice a4_2_00 (List.length y4_2.1.data) c4_2_00]) ?_
  refine sp 14 (.int .i64 y4_2.2.1) ?_
  refine s_step 2 (by kernel_rfl) (by kernel_rfl) (st_new (T := 35) (cells := #[.int .i64 (0), .int .i64 (0), .int .i64 (0), .int .i64 (0), .int .i64 (0), .int .i64 (0), .int .i64 (0), .bool false, .slice none 0 0]) (fun a => .pointer (some a)) (fun _ => by kernel_rfl)) ?_
  rintro _ _ ⟨b4_6, rfl, rfl⟩
  refine s_do (by kernel_rfl) (by kernel_rfl) (st_store (off := 0) (vs := [.int .i64 y4_2.1.kind, .int .i64 y4_2.1.src, .int .i64 y4_2.1.dst, .int .i64 y4_2.1.id, .int .i64 y4_2.1.line, .int .i64 y4_2.1.ptr, .int .i64 y4_2.1.state, .bool y4_2.1.flag, .slice a4_2_00 (List.length y4_2.1.data) c4_2_00]) (c' := #[.int .i64 y4_2.1.kind, .int .i64 y4_2.1.src, .int .i64 y4_2.1.dst, .int .i64 y4_2.1.id, .int .i64 y4_2.1.line, .int .i64 y4_2.1.ptr, .int .i64 y4_2.1.state, .bool y4_2.1.flag, .slice a4_2_00 (List.length y4_2.1.data) c4_2_00]) (fun _ => by kernel_rfl) .here (by kernel_rfl) (by kernel_rfl) (by kernel_rfl)) ?_
  rintro _ _ ⟨rfl, rfl⟩
  refine sp 3 (.int .i64 y4_2.2.1) ?_
  refine ops_end ?_
  refine ae [(1, .pointer (some ⟨b1_0, 0, none⟩)), (3, .int .i64 y4_2.2.1)] ?_
  refine at_then_normal ?_
  refine aq (x := C21 [1,1,1,1,0]) (y := C21 [1,1,1,1,1]) ?_
  refine ar (id := 5) 4 ?_
  refine sp 15 (.pointer (some ⟨b1_0, 0, none⟩)) ?_
  obtain ⟨l5_1, hl5_1, H⟩ := letE H
  refine s_step 16 (by kernel_rfl) (by kernel_rfl) (st_new_ints (T := 3) (xs := l5_1) 1 hl5_1 (fun _ => by kernel_rfl) (by kernel_rfl)) ?_
  rintro _ _ ⟨b5_1, rfl, rfl⟩
  obtain ⟨y5_2, hy5_2, H⟩ := bindE H
  refine s_call 17 16 #[.int .i64 (1), .int .i64 (2), .int .i64 (-1), .bool true, .slice (some ⟨b5_1, 0, none⟩) (List.length l5_1) 1] (by kernel_rfl) (by kernel_rfl) (fun _ => by kernel_rfl) (ENewF_tr (1 : Int) (2 : Int) ((-1) : Int) true (some ⟨b5_1, 0, none⟩) 1 l5_1 (RowsA.reads (k := 1) .here) y5_2 hy5_2) ?_
  rintro _ _ ⟨a5_2_00, c5_2_00, rfl, rfl⟩
  obtain ⟨y5_3, hy5_3, H⟩ := bindE H
  refine s_call 18 15 #[.pointer (some ⟨b1_0, 0, none⟩), .agg #[.int .i64 y5_2.fwd, .int .i64 y5_2.back, .int .i64 y5_2.line, .int .i64 y5_2.used, .bool y5_2.dirty, .slice a5_2_00 (List.length y5_2.data) c5_2_00]] (by kernel_rfl) (by kernel_rfl) (fun _ => by kernel_rfl) (Tr.conv (Γ' := (CacheA b1_0 y4_2.2.2) :: (IntsA a5_2_00 c5_2_00 y5_2.data) :: (IntsA (some ⟨b5_1, 0, none⟩) 1 l5_1) :: (Asn.own b4_6 (.cells #[.int .i64 y4_2.1.kind, .int .i64 y4_2.1.src, .int .i64 y4_2.1.dst, .int .i64 y4_2.1.id, .int .i64 y4_2.1.line, .int .i64 y4_2.1.ptr, .int .i64 y4_2.1.state, .bool y4_2.1.flag, .slice a4_2_00 (List.length y4_2.1.data) c4_2_00] 35 (0, 0))) :: (IntsA a4_2_00 c4_2_00 y4_2.1.data) :: Γ) (fun w hw => (Sat.less (.take (.there (.there (.there (.there .here)))) (.take .here (.take .here (.take .here (.take .here .refl))))) hw)) (PutF_tr b1_0 y4_2.2.2 a5_2_00 c5_2_00 y5_2 (RowsA.reads (k := 1) .here) y5_3 hy5_3)) ?_
  rintro _ _ ⟨rfl, rfl⟩
  refine ops_end ?_
  refine ae [(1, .pointer (some ⟨b1_0, 0, none⟩)), (3, .int .i64 y4_2.2.1)] ?_
  refine at_then_normal ?_
  refine aq (x := C21 [1,1,1,1,1,0]) (y := C21 [1,1,1,1,1,1]) ?_
  refine ar (id := 6) 9 ?_
  refine sp 20 (.pointer (some ⟨b1_0, 0, none⟩)) ?_
  refine sp 21 (.agg #[.int .i64 (6), .int .i64 (0), .int .i64 (0), .int .i64 (0), .int .i64 (1), .int .i64 (0), .int .i64 (0), .bool false, .slice none 0 0]) ?_
  obtain ⟨y6_2, hy6_2, H⟩ := bindE H
  refine s_call 22 18 #[.pointer (some ⟨b1_0, 0, none⟩), .agg #[.int .i64 (6), .int .i64 (0), .int .i64 (0), .int .i64 (0), .int .i64 (1), .int .i64 (0), .int .i64 (0), .bool false, .slice none 0 0]] (by kernel_rfl) (by kernel_rfl) (fun _ => by kernel_rfl) (SHandleF_tr b1_0 y5_3.2 none 0 (⟨6, 0, 0, 0, 1, 0, 0, false, ([] : List Int)⟩ : PktS) Reads.nil y6_2 hy6_2) ?_
  rintro _ _ ⟨a6_2_00, c6_2_00, rfl, rfl⟩
  refine sp 19 (.tuple #[.agg #[.int .i64 y6_2.1.kind, .int .i64 y6_2.1.src, .int .i64 y6_2.1.dst, .int .i64 y6_2.1.id, .int .i64 y6_2.1.line, .int .i64 y6_2.1.ptr, .int .i64 y6_2.1.state, .bool y6_2.1.flag, .slice a6_2_00 (List.length y6_2.1.data) c6_2_00], .int .i64 y6_2.2.1]) ?_
  refine sp 23 (.agg #[.int .i64 y6_2.1.kind, .int .i64 y6_2.1.src, .int .i64 y6_2.1.dst, .int .i64 y6_2.1.id, .int .i64 y6_2.1.line, .int .i64 y6_2.1.ptr, .int .i64 y6_2.1.state, .bool y6_2.1.flag, .slice a6_2_00 (List.length y6_2.1.data) c6_2_00]) ?_
  refine sp 24 (.int .i64 y6_2.2.1) ?_
  refine s_step 4 (by kernel_rfl) (by kernel_rfl) (st_new (T := 35) (cells := #[.int .i64 (0), .int .i64 (0), .int .i64 (0), .int .i64 (0), .int .i64 (0), .int .i64 (0), .int .i64 (0), .bool false, .slice none 0 0]) (fun a => .pointer (some a)) (fun _ => by kernel_rfl)) ?_
  rintro _ _ ⟨b6_6, rfl, rfl⟩
  refine s_do (by kernel_rfl) (by kernel_rfl) (st_store (off := 0) (vs := [.int .i64 y6_2.1.kind, .int .i64 y6_2.1.src, .int .i64 y6_2.1.dst, .int .i64 y6_2.1.id, .int .i64 y6_2.1.line, .int .i64 y6_2.1.ptr, .int .i64 y6_2.1.state, .bool y6_2.1.flag, .slice a6_2_00 (List.length y6_2.1.data) c6_2_00]) (c' := #[.int .i64 y6_2.1.kind, .int .i64 y6_2.1.src, .int .i64 y6_2.1.dst, .int .i64 y6_2.1.id, .int .i64 y6_2.1.line, .int .i64 y6_2.1.ptr, .int .i64 y6_2.1.state, .bool y6_2.1.flag, .slice a6_2_00 (List.length y6_2.1.data) c6_2_00]) (fun _ => by kernel_rfl) .here (by kernel_rfl) (by kernel_rfl) (by kernel_rfl)) ?_
  rintro _ _ ⟨rfl, rfl⟩
  refine sp 5 (.int .i64 y6_2.2.1) ?_
  refine ops_end ?_
  refine ae [(1, .pointer (some ⟨b1_0, 0, none⟩)), (3, .int .i64 y4_2.2.1), (4, .pointer (some ⟨b6_6, 0, none⟩)), (5, .int .i64 y6_2.2.1)] ?_
  refine at_then_normal ?_
  refine aq (x := C21 [1,1,1,1,1,1,0]) (y := C21 [1,1,1,1,1,1,1]) ?_
  refine ar (id := 7) 34 ?_
  refine sp 25 (.int .i64 y4_2.2.1) ?_
  refine sp 26 (.bool (decide (y4_2.2.1 = (3 : Int)))) ?_
  rcases Bool.eq_false_or_eq_true (decide (y4_2.2.1 = (3 : Int))) with h1 | h1
  · replace H := bifT H h1
    refine sr 27 (.bool true) (run_eq (v := .bool (decide (y4_2.2.1 = (3 : Int)))) (fun _ => by kernel_rfl) (congrArg Value.bool h1)) ?_
    refine sp 28 (.int .i64 y6_2.2.1) ?_
    refine sp 29 (.bool (decide (y6_2.2.1 = (0 : Int)))) ?_
    refine sp 30 (.bool (decide (y6_2.2.1 = (0 : Int)))) ?_
    rcases Bool.eq_false_or_eq_true (decide (y6_2.2.1 = (0 : Int))) with h2 | h2
    · replace H := bifT H h2
      refine sr 31 (.bool true) (run_eq (v := .bool (decide (y6_2.2.1 = (0 : Int)))) (fun _ => by kernel_rfl) (congrArg Value.bool h2)) ?_
      refine sp 32 (.pointer (some ⟨b6_6, 5, none⟩)) ?_
      refine sl 33 (.int .i64 y6_2.1.ptr) (load1 (off := 5) (fun _ => by kernel_rfl) (holds_own .here) (by kernel_rfl)) ?_
      refine sp 34 (.bool (decide (y6_2.1.ptr = (2 : Int)))) ?_
      refine sp 35 (.bool (decide (y6_2.1.ptr = (2 : Int)))) ?_
      rcases Bool.eq_false_or_eq_true (decide (y6_2.1.ptr = (2 : Int))) with h3 | h3
      · replace H := bifT H h3
        refine sr 36 (.bool true) (run_eq (v := .bool (decide (y6_2.1.ptr = (2 : Int)))) (fun _ => by kernel_rfl) (congrArg Value.bool h3)) ?_
        refine sp 37 (.pointer (some ⟨b6_6, 7, none⟩)) ?_
        refine sl 38 (.bool y6_2.1.flag) (load1 (off := 7) (fun _ => by kernel_rfl) (holds_own .here) (by kernel_rfl)) ?_
        refine sp 39 (.bool y6_2.1.flag) ?_
        rcases Bool.eq_false_or_eq_true (y6_2.1.flag) with h4 | h4
        · replace H := bifT H h4
          refine sr 40 (.bool true) (run_eq (v := .bool (y6_2.1.flag)) (fun _ => by kernel_rfl) (congrArg Value.bool h4)) ?_
          refine sp 41 (.pointer (some ⟨b6_6, 8, none⟩)) ?_
          refine sl 42 (.slice a6_2_00 (List.length y6_2.1.data) c6_2_00) (load1 (off := 8) (fun _ => by kernel_rfl) (holds_own .here) (by kernel_rfl)) ?_
          refine sp 43 (.int .i64 (((List.length y6_2.1.data) : Nat) : Int)) ?_
          refine sp 44 (.bool (decide ((((List.length y6_2.1.data) : Nat) : Int) = (1 : Int)))) ?_
          refine sp 45 (.bool (decide ((((List.length y6_2.1.data) : Nat) : Int) = (1 : Int)))) ?_
          rcases Bool.eq_false_or_eq_true (decide ((((List.length y6_2.1.data) : Nat) : Int) = (1 : Int))) with h5 | h5
          · replace H := bifT H h5
            refine sr 46 (.bool true) (run_eq (v := .bool (decide ((((List.length y6_2.1.data) : Nat) : Int) = (1 : Int)))) (fun _ => by kernel_rfl) (congrArg Value.bool h5)) ?_
            refine sp 47 (.pointer (some ⟨b6_6, 8, none⟩)) ?_
            refine sl 48 (.slice a6_2_00 (List.length y6_2.1.data) c6_2_00) (load1 (off := 8) (fun _ => by kernel_rfl) (holds_own .here) (by kernel_rfl)) ?_
            obtain ⟨hc7_24_0, H⟩ := chkE H
            refine rows_at (.there .here) (by have := hc7_24_0; simp only [ints_length]; omega) ?_
            intro bb1 oo1 ha1
            refine sr 49 (.pointer (some ⟨bb1, oo1 + (((0 : Int)).toNat * 1 + 0), none⟩)) (index_at (t := 22) (sz := 1) (E := 3) (a := a6_2_00) (m := (List.length y6_2.1.data)) (c := c6_2_00) (b := bb1) (off := oo1) (i := ((0 : Int)).toNat) (tinfo 3) (fun _ => by kernel_rfl) (by kernel_rfl) (by kernel_rfl) (by kernel_rfl) ha1 (idx_cast hc7_24_0) (idx_nat hc7_24_0) rfl) ?_
            refine sl 50 (.int .i64 (nth y6_2.1.data (0 : Int))) (load1_at (off := oo1 + (((0 : Int)).toNat * 1 + 0)) (v := .int .i64 (nth y6_2.1.data (0 : Int))) (fun _ => by kernel_rfl) rfl (reads_cell (k := 1) (RowsA.reads (k := 1) (.there .here)) (ints_rows _) ha1 (nth_row hc7_24_0) (show [(.int .i64 (nth y6_2.1.data (0 : Int)) : Value)][0]? = some _ from rfl))) ?_
            refine sp 51 (.bool (decide ((nth y6_2.1.data (0 : Int)) = (9 : Int)))) ?_
            refine sp 52 (.bool (decide ((nth y6_2.1.data (0 : Int)) = (9 : Int)))) ?_
            rcases Bool.eq_false_or_eq_true (decide ((nth y6_2.1.data (0 : Int)) = (9 : Int))) with h6 | h6
            · replace H := bifT H h6
              refine sr 53 (.bool true) (run_eq (v := .bool (decide ((nth y6_2.1.data (0 : Int)) = (9 : Int)))) (fun _ => by kernel_rfl) (congrArg Value.bool h6)) ?_
              refine sp 54 (.pointer (some ⟨b1_0, 0, none⟩)) ?_
              obtain ⟨y7_30, hy7_30, H⟩ := letE H
              refine s_call 55 23 #[.pointer (some ⟨b1_0, 0, none⟩)] (by kernel_rfl) (by kernel_rfl) (fun _ => by kernel_rfl) (Tr.conv (Γ' := (CacheA b1_0 y6_2.2.2) :: (Asn.own b6_6 (.cells #[.int .i64 y6_2.1.kind, .int .i64 y6_2.1.src, .int .i64 y6_2.1.dst, .int .i64 y6_2.1.id, .int .i64 y6_2.1.line, .int .i64 y6_2.1.ptr, .int .i64 y6_2.1.state, .bool y6_2.1.flag, .slice a6_2_00 (List.length y6_2.1.data) c6_2_00] 35 (0, 0))) :: (IntsA a6_2_00 c6_2_00 y6_2.1.data) :: (IntsA a5_2_00 c5_2_00 y5_2.data) :: (IntsA (some ⟨b5_1, 0, none⟩) 1 l5_1) :: (Asn.own b4_6 (.cells #[.int .i64 y4_2.1.kind, .int .i64 y4_2.1.src, .int .i64 y4_2.1.dst, .int .i64 y4_2.1.id, .int .i64 y4_2.1.line, .int .i64 y4_2.1.ptr, .int .i64 y4_2.1.state, .bool y4_2.1.flag, .slice a4_2_00 (List.length y4_2.1.data) c4_2_00] 35 (0, 0))) :: (IntsA a4_2_00 c4_2_00 y4_2.1.data) :: Γ) (fun w hw => (Sat.less (.take (.there (.there .here)) (.take .here (.take .here (.take .here (.take .here (.take .here (.take .here .refl))))))) hw)) (LenF_tr b1_0 y6_2.2.2 y7_30 hy7_30)) ?_
              rintro _ _ ⟨rfl, rfl⟩
              refine sp 56 (.bool (decide (y7_30 = (0 : Int)))) ?_
              refine sp 57 (.bool (decide (y7_30 = (0 : Int)))) ?_
              refine sp 0 (.bool (decide (y7_30 = (0 : Int)))) ?_
              refine ops_end ?_
              refine ae [(0, .bool (decide (y7_30 = (0 : Int))))] ?_
              refine at_then_normal ?_
              refine at_ret (by kernel_rfl) ?_
              obtain rfl := someE H
              refine at_backR [.bool (decide (y7_30 = (0 : Int)))] (Γ) (rs := [.tmp 0]) (by kernel_rfl) (.cons (.tmp (by kernel_rfl)) .nil) (fun w hw => (Sat.less (.drop .here (.drop .here (.drop .here (.drop .here (.drop .here (.drop .here (.drop .here .refl))))))) hw)) ?_
              exact ⟨rfl, rfl⟩
            · replace H := bifF H h6
              refine sr 53 (.bool false) (run_eq (v := .bool (decide ((nth y6_2.1.data (0 : Int)) = (9 : Int)))) (fun _ => by kernel_rfl) (congrArg Value.bool h6)) ?_
              refine sa 54 ?_
              refine sa 55 ?_
              refine sa 56 ?_
              refine sp 57 (.bool false) ?_
              refine sp 0 (.bool false) ?_
              refine ops_end ?_
              refine ae [(0, .bool false)] ?_
              refine at_then_normal ?_
              refine at_ret (by kernel_rfl) ?_
              obtain rfl := someE H
              refine at_backR [.bool false] (Γ) (rs := [.tmp 0]) (by kernel_rfl) (.cons (.tmp (by kernel_rfl)) .nil) (fun w hw => (Sat.less (.drop .here (.drop .here (.drop .here (.drop .here (.drop .here (.drop .here (.drop .here .refl))))))) hw)) ?_
              exact ⟨rfl, rfl⟩
          · replace H := bifF H h5
            refine sr 46 (.bool false) (run_eq (v := .bool (decide ((((List.length y6_2.1.data) : Nat) : Int) = (1 : Int)))) (fun _ => by kernel_rfl) (congrArg Value.bool h5)) ?_
            refine sa 47 ?_
            refine sa 48 ?_
            refine sa 49 ?_
            refine sa 50 ?_
            refine sa 51 ?_
            refine sp 52 (.bool false) ?_
            refine sp 53 (.bool false) ?_
            refine sa 54 ?_
            refine sa 55 ?_
            refine sa 56 ?_
            refine sp 57 (.bool false) ?_
            refine sp 0 (.bool false) ?_
            refine ops_end ?_
            refine ae [(0, .bool false)] ?_
            refine at_then_normal ?_
            refine at_ret (by kernel_rfl) ?_
            obtain rfl := someE H
            refine at_backR [.bool false] (Γ) (rs := [.tmp 0]) (by kernel_rfl) (.cons (.tmp (by kernel_rfl)) .nil) (fun w hw => (Sat.less (.drop .here (.drop .here (.drop .here (.drop .here (.drop .here (.drop .here (.drop .here .refl))))))) hw)) ?_
            exact ⟨rfl, rfl⟩
        · replace H := bifF H h4
          refine sr 40 (.bool false) (run_eq (v := .bool (y6_2.1.flag)) (fun _ => by kernel_rfl) (congrArg Value.bool h4)) ?_
          refine sa 41 ?_
          refine sa 42 ?_
          refine sa 43 ?_
          refine sa 44 ?_
          refine sp 45 (.bool false) ?_
          refine sp 46 (.bool false) ?_
          refine sa 47 ?_
          refine sa 48 ?_
          refine sa 49 ?_
          refine sa 50 ?_
          refine sa 51 ?_
          refine sp 52 (.bool false) ?_
          refine sp 53 (.bool false) ?_
          refine sa 54 ?_
          refine sa 55 ?_
          refine sa 56 ?_
          refine sp 57 (.bool false) ?_
          refine sp 0 (.bool false) ?_
          refine ops_end ?_
          refine ae [(0, .bool false)] ?_
          refine at_then_normal ?_
          refine at_ret (by kernel_rfl) ?_
          obtain rfl := someE H
          refine at_backR [.bool false] (Γ) (rs := [.tmp 0]) (by kernel_rfl) (.cons (.tmp (by kernel_rfl)) .nil) (fun w hw => (Sat.less (.drop .here (.drop .here (.drop .here (.drop .here (.drop .here (.drop .here (.drop .here .refl))))))) hw)) ?_
          exact ⟨rfl, rfl⟩
      · replace H := bifF H h3
        refine sr 36 (.bool false) (run_eq (v := .bool (decide (y6_2.1.ptr = (2 : Int)))) (fun _ => by kernel_rfl) (congrArg Value.bool h3)) ?_
        refine sa 37 ?_
        refine sa 38 ?_
        refine sp 39 (.bool false) ?_
        refine sp 40 (.bool false) ?_
        refine sa 41 ?_
        refine sa 42 ?_
        refine sa 43 ?_
        refine sa 44 ?_
        refine sp 45 (.bool false) ?_
        refine sp 46 (.bool false) ?_
        refine sa 47 ?_
        refine sa 48 ?_
        refine sa 49 ?_
        refine sa 50 ?_
        refine sa 51 ?_
        refine sp 52 (.bool false) ?_
        refine sp 53 (.bool false) ?_
        refine sa 54 ?_
        refine sa 55 ?_
        refine sa 56 ?_
        refine sp 57 (.bool false) ?_
        refine sp 0 (.bool false) ?_
        refine ops_end ?_
        refine ae [(0, .bool false)] ?_
        refine at_then_normal ?_
        refine at_ret (by kernel_rfl) ?_
        obtain rfl := someE H
        refine at_backR [.bool false] (Γ) (rs := [.tmp 0]) (by kernel_rfl) (.cons (.tmp (by kernel_rfl)) .nil) (fun w hw => (Sat.less (.drop .here (.drop .here (.drop .here (.drop .here (.drop .here (.drop .here (.drop .here .refl))))))) hw)) ?_
        exact ⟨rfl, rfl⟩
    · replace H := bifF H h2
      refine sr 31 (.bool false) (run_eq (v := .bool (decide (y6_2.2.1 = (0 : Int)))) (fun _ => by kernel_rfl) (congrArg Value.bool h2)) ?_
      refine sa 32 ?_
      refine sa 33 ?_
      refine sa 34 ?_
      refine sp 35 (.bool false) ?_
      refine sp 36 (.bool false) ?_
      refine sa 37 ?_
      refine sa 38 ?_
      refine sp 39 (.bool false) ?_
      refine sp 40 (.bool false) ?_
      refine sa 41 ?_
      refine sa 42 ?_
      refine sa 43 ?_
      refine sa 44 ?_
      refine sp 45 (.bool false) ?_
      refine sp 46 (.bool false) ?_
      refine sa 47 ?_
      refine sa 48 ?_
      refine sa 49 ?_
      refine sa 50 ?_
      refine sa 51 ?_
      refine sp 52 (.bool false) ?_
      refine sp 53 (.bool false) ?_
      refine sa 54 ?_
      refine sa 55 ?_
      refine sa 56 ?_
      refine sp 57 (.bool false) ?_
      refine sp 0 (.bool false) ?_
      refine ops_end ?_
      refine ae [(0, .bool false)] ?_
      refine at_then_normal ?_
      refine at_ret (by kernel_rfl) ?_
      obtain rfl := someE H
      refine at_backR [.bool false] (Γ) (rs := [.tmp 0]) (by kernel_rfl) (.cons (.tmp (by kernel_rfl)) .nil) (fun w hw => (Sat.less (.drop .here (.drop .here (.drop .here (.drop .here (.drop .here (.drop .here (.drop .here .refl))))))) hw)) ?_
      exact ⟨rfl, rfl⟩
  · replace H := bifF H h1
    refine sr 27 (.bool false) (run_eq (v := .bool (decide (y4_2.2.1 = (3 : Int)))) (fun _ => by kernel_rfl) (congrArg Value.bool h1)) ?_
    refine sa 28 ?_
    refine sa 29 ?_
    refine sp 30 (.bool false) ?_
    refine sp 31 (.bool false) ?_
    refine sa 32 ?_
    refine sa 33 ?_
    refine sa 34 ?_
    refine sp 35 (.bool false) ?_
    refine sp 36 (.bool false) ?_
    refine sa 37 ?_
    refine sa 38 ?_
    refine sp 39 (.bool false) ?_
    refine sp 40 (.bool false) ?_
    refine sa 41 ?_
    refine sa 42 ?_
    refine sa 43 ?_
    refine sa 44 ?_
    refine sp 45 (.bool false) ?_
    refine sp 46 (.bool false) ?_
    refine sa 47 ?_
    refine sa 48 ?_
    refine sa 49 ?_
    refine sa 50 ?_
    refine sa 51 ?_
    refine sp 52 (.bool false) ?_
    refine sp 53 (.bool false) ?_
    refine sa 54 ?_
    refine sa 55 ?_
    refine sa 56 ?_
    refine sp 57 (.bool false) ?_
    refine sp 0 (.bool false) ?_
    refine ops_end ?_
    refine ae [(0, .bool false)] ?_
    refine at_then_normal ?_
    refine at_ret (by kernel_rfl) ?_
    obtain rfl := someE H
    refine at_backR [.bool false] (Γ) (rs := [.tmp 0]) (by kernel_rfl) (.cons (.tmp (by kernel_rfl)) .nil) (fun w hw => (Sat.less (.drop .here (.drop .here (.drop .here (.drop .here (.drop .here (.drop .here (.drop .here .refl))))))) hw)) ?_
    exact ⟨rfl, rfl⟩
def serveHandlesS_j3 (v0_b1_3_0 : CacheS) (y10_5 : PktS) (v0_b1_3_1 : CacheS) (v0_13 : Int) (r0 : Int → CacheS → CacheS → Option (Bool)) (e3_b10_6_0 : Int) : Option (Bool) :=
  (shandleS v0_b1_3_0 (⟨e3_b10_6_0, y10_5.src, y10_5.dst, y10_5.id, y10_5.line, y10_5.ptr, y10_5.state, y10_5.flag, y10_5.data⟩ : PktS)).bind fun y13_2 => (rserveS v0_b1_3_1 (⟨e3_b10_6_0, y10_5.src, y10_5.dst, y10_5.id, y10_5.line, y10_5.ptr, y10_5.state, y10_5.flag, y10_5.data⟩ : PktS)).bind fun y14_2 => (bif !(decide (y13_2.2.1 = y14_2.2.1)) then some false else (rsamepS y13_2.1 y14_2.1).bind fun y15_6 => (bif !y15_6 then some false else (sameCS y13_2.2.2 y14_2.2.2).bind fun y15_12 => (bif !y15_12 then some false else chk (inR (v0_13 + (1 : Int))) (r0 (v0_13 + (1 : Int)) y13_2.2.2 y14_2.2.2))))
def serveHandlesS_j2 (v0_13 : Int) (ps : List PktS) (v0_b1_3_0 : CacheS) (v0_b1_3_1 : CacheS) (r0 : Int → CacheS → CacheS → Option (Bool)) (e2_14 : Int) : Option (Bool) :=
  chk (0 ≤ v0_13 ∧ v0_13 < ((List.length ps : Nat) : Int)) (letP (nthT ps v0_13) fun x10_3 => (plpacketS x10_3 e2_14).bind fun y10_5 => (bif !(decide ((e2_14.tmod (4 : Int)) = (3 : Int))) then (withinS y10_5.kind (4 : Int)).bind fun y12_2 => serveHandlesS_j3 v0_b1_3_0 y10_5 v0_b1_3_1 v0_13 r0 (wr ((3 : Int) + y12_2)) else serveHandlesS_j3 v0_b1_3_0 y10_5 v0_b1_3_1 v0_13 r0 y10_5.kind))
def serveHandlesS_j1 (v0_13 : Int) (hows : List Int) (ps : List PktS) (v0_b1_3_0 : CacheS) (v0_b1_3_1 : CacheS) (r0 : Int → CacheS → CacheS → Option (Bool)) (k0 : Int → CacheS → CacheS → Option (Bool)) (e1_36 : Bool) : Option (Bool) :=
  (bif e1_36 then (bif decide (v0_13 < (((List.length hows) : Nat) : Int)) then chk (0 ≤ v0_13 ∧ v0_13 < ((hows.length : Nat) : Int)) (serveHandlesS_j2 v0_13 ps v0_b1_3_0 v0_b1_3_1 r0 (nth hows v0_13)) else serveHandlesS_j2 v0_13 ps v0_b1_3_0 v0_b1_3_1 r0 0) else k0 v0_13 v0_b1_3_0 v0_b1_3_1)
def serveHandlesS_k0 (e0_13 : Int) (e0_b1_3_0 : CacheS) (e0_b1_3_1 : CacheS) : Option (Bool) :=
  (wakes12S).bind fun y17_0 => some y17_0
def serveHandlesS_l0 (ps : List PktS) (hows : List Int) (k0 : Int → CacheS → CacheS → Option (Bool)) : Nat → Int → CacheS → CacheS → Option (Bool)
  | 0 => fun _ _ _ => none
  | m + 1 => fun v0_13 v0_b1_3_0 v0_b1_3_1 => (bif decide (v0_13 < (((List.length ps) : Nat) : Int)) then serveHandlesS_j1 v0_13 hows ps v0_b1_3_0 v0_b1_3_1 (serveHandlesS_l0 ps hows k0 m) k0 (decide (v0_13 < (12 : Int))) else serveHandlesS_j1 v0_13 hows ps v0_b1_3_0 v0_b1_3_1 (serveHandlesS_l0 ps hows k0 m) k0 false)
def serveHandlesS (lines : List Int) (links : List Int) (data : List Int) (ps : List PktS) (hows : List Int) : Option (Bool) :=
  (bothS lines links data).bind fun y1_3 => serveHandlesS_l0 ps hows (serveHandlesS_k0 ) 64 0 y1_3.1 y1_3.2
noncomputable def C12 (p : List Nat) : Code := codeAt (bodyOf Try.f12) p
set_option maxRecDepth 100000 in
set_option maxHeartbeats 8000000 in
theorem ServeHandlesF_tr {W0 : World} {Γ : List Asn} (linesa : Option Addr) (linescap : Nat) (lines : List Int) (linksa : Option Addr) (linkscap : Nat) (links : List Int) (dataa : Option Addr) (datacap : Nat) (data : List Int) (psa : Option Addr) (pscap : Nat) (psrows : List (List Value)) (ps : List PktS) (howsa : Option Addr) (howscap : Nat) (hows : List Int) (hrlinesa : Reads W0 Γ linesa (ints lines)) (hrlinksa : Reads W0 Γ linksa (ints links)) (hrdataa : Reads W0 Γ dataa (ints data)) (hcdataa : data.length ≤ datacap) (hrps : RecRd W0 Γ psa psrows ps) (hcps : CapR psrows ps) (hrhowsa : Reads W0 Γ howsa (ints hows)) (y : Bool) (H : serveHandlesS lines links data ps hows = some y) : Tr Try.prog 12 #[.slice linesa (List.length lines) linescap, .slice linksa (List.length links) linkscap, .slice dataa (List.length data) datacap, .slice psa (List.length ps) pscap, .slice howsa (List.length hows) howscap] W0 (Γ) (fun r Δ => r = .bool y ∧ Δ = Γ) := by
  unfold serveHandlesS at H
  refine Tr.enter (fn := Try.f12) (c := C12 []) (args := [.slice linesa (List.length lines) linescap, .slice linksa (List.length links) linkscap, .slice dataa (List.length data) datacap, .slice psa (List.length ps) pscap, .slice howsa (List.length hows) howscap]) 89 Try.func12 (by kernel_rfl) (by kernel_rfl) ?_
  refine ae [(0, .slice linesa (List.length lines) linescap), (1, .slice linksa (List.length links) linkscap), (2, .slice dataa (List.length data) datacap), (3, .slice psa (List.length ps) pscap), (4, .slice howsa (List.length hows) howscap)] ?_
  refine aq (x := C12 [0]) (y := C12 [1]) ?_
  refine ar (id := 0) 1 ?_
  refine sp 10 (.bool false) ?_
  refine ops_end ?_
  refine ae [(0, .slice linesa (List.length lines) linescap), (1, .slice linksa (List.length links) linkscap), (2, .slice dataa (List.length data) datacap), (3, .slice psa (List.length ps) pscap), (4, .slice howsa (List.length hows) howscap)] ?_
  refine at_then_normal ?_
  refine aq (x := C12 [1,0]) (y := C12 [1,1]) ?_
  refine ar (id := 1) 9 ?_
  refine sp 21 (.slice linesa (List.length lines) linescap) ?_
  refine sp 22 (.slice linksa (List.length links) linkscap) ?_
  refine sp 23 (.slice dataa (List.length data) datacap) ?_
  obtain ⟨y1_3, hy1_3, H⟩ := bindE H
  refine s_call 24 43 #[.slice linesa (List.length lines) linescap, .slice linksa (List.length links) linkscap, .slice dataa (List.length data) datacap] (by kernel_rfl) (by kernel_rfl) (fun _ => by kernel_rfl) (BothF_tr linesa linescap lines linksa linkscap links dataa datacap data (Reads.conv (fun w hw => hw.less .refl) hrlinesa) (Reads.conv (fun w hw => hw.less .refl) hrlinksa) (Reads.conv (fun w hw => hw.less .refl) hrdataa) hcdataa y1_3 hy1_3) ?_
  rintro _ _ ⟨b1_3_0, b1_3_1, rfl, rfl⟩
  refine sp 20 (.tuple #[.pointer (some ⟨b1_3_0, 0, none⟩), .pointer (some ⟨b1_3_1, 0, none⟩)]) ?_
  refine sp 25 (.pointer (some ⟨b1_3_0, 0, none⟩)) ?_
  refine sp 26 (.pointer (some ⟨b1_3_1, 0, none⟩)) ?_
  refine sp 11 (.pointer (some ⟨b1_3_0, 0, none⟩)) ?_
  refine sp 12 (.pointer (some ⟨b1_3_1, 0, none⟩)) ?_
  refine ops_end ?_
  refine ae [(3, .slice psa (List.length ps) pscap), (4, .slice howsa (List.length hows) howscap), (11, .pointer (some ⟨b1_3_0, 0, none⟩)), (12, .pointer (some ⟨b1_3_1, 0, none⟩))] ?_
  refine at_then_normal ?_
  refine aq (x := C12 [1,1,0]) (y := C12 [1,1,1]) ?_
  refine aq (x := C12 [1,1,0,0]) (y := C12 [1,1,0,1]) ?_
  refine ar (id := 2) 2 ?_
  refine sp 27 (.pointer (some ⟨b1_3_0, 0, none⟩)) ?_
  refine sp 28 (.bool false) ?_
  refine ops_end ?_
  refine ae [(3, .slice psa (List.length ps) pscap), (4, .slice howsa (List.length hows) howscap), (11, .pointer (some ⟨b1_3_0, 0, none⟩)), (12, .pointer (some ⟨b1_3_1, 0, none⟩)), (28, .bool false)] ?_
  refine at_then_normal ?_
  refine at_false (t := false) (x := C12 [1,1,0,1,0]) (y := C12 [1,1,0,1,1]) (o := .tmp 28) (by kernel_rfl) (by kernel_rfl) (by kernel_rfl) rfl ?_
  refine at_skip (by kernel_rfl) ?_
  refine at_then_normal ?_
  refine aq (x := C12 [1,1,1,0]) (y := C12 [1,1,1,1]) ?_
  refine aq (x := C12 [1,1,1,0,0]) (y := C12 [1,1,1,0,1]) ?_
  refine ar (id := 4) 1 ?_
  refine sp 13 (.int .i64 (0)) ?_
  refine ops_end ?_
  refine ae [(3, .slice psa (List.length ps) pscap), (4, .slice howsa (List.length hows) howscap), (11, .pointer (some ⟨b1_3_0, 0, none⟩)), (12, .pointer (some ⟨b1_3_1, 0, none⟩)), (13, .int .i64 (0))] ?_
  refine at_then_normal ?_
  refine at_block (i := 0) (x := C12 [1,1,1,0,1,0]) (by kernel_rfl) ?_
  refine At.conv (Γ' := (CacheA b1_3_0 y1_3.1) :: (RChA b1_3_1 y1_3.2) :: Γ) (fun w hw => (Sat.less (.take .here (.take .here .refl)) hw)) ?_
  refine at_loopR (x := C12 [1,1,1,0,1,0,0]) (fun mm ff ΔΔ => ∃ (fuel : Nat) (v0_13 : Int) (v0_b1_3_0 : CacheS) (v0_b1_3_1 : CacheS), serveHandlesS_l0 ps hows (serveHandlesS_k0 ) fuel v0_13 v0_b1_3_0 v0_b1_3_1 = some y ∧ fuel = mm ∧ ff = [(3, .slice psa (List.length ps) pscap), (4, .slice howsa (List.length hows) howscap), (11, .pointer (some ⟨b1_3_0, 0, none⟩)), (12, .pointer (some ⟨b1_3_1, 0, none⟩)), (13, .int .i64 v0_13)] ∧ (CacheA b1_3_0 v0_b1_3_0) :: (RChA b1_3_1 v0_b1_3_1) :: Γ = ΔΔ) (64) (by kernel_rfl) [(3, .slice psa (List.length ps) pscap), (4, .slice howsa (List.length hows) howscap), (11, .pointer (some ⟨b1_3_0, 0, none⟩)), (12, .pointer (some ⟨b1_3_1, 0, none⟩)), (13, .int .i64 0)] ⟨by kernel_rfl, by kernel_rfl, by kernel_rfl, by kernel_rfl, by kernel_rfl, trivial⟩ ⟨64, 0, y1_3.1, y1_3.2, H, rfl, rfl, rfl⟩ ?_
  rintro _ _ _ ⟨fuel1, v0_13, v0_b1_3_0, v0_b1_3_1, H, rfl, rfl, rfl⟩
  rcases fuel1 with _ | fuel1
  · exact (noneE H).elim
  rw [serveHandlesS_l0] at H
  refine aq (x := C12 [1,1,1,0,1,0,0,0]) (y := C12 [1,1,1,0,1,0,0,1]) ?_
  refine at_seq_join (x := C12 [1,1,1,0,1,0,0,0,0]) (y := C12 [1,1,1,0,1,0,0,0,1]) (fun ff ΔΔ => ∃ (e1_36 : Bool), serveHandlesS_j1 v0_13 hows ps v0_b1_3_0 v0_b1_3_1 (serveHandlesS_l0 ps hows (serveHandlesS_k0 ) fuel1) (serveHandlesS_k0 ) e1_36 = some y ∧ ff = [(3, .slice psa (List.length ps) pscap), (4, .slice howsa (List.length hows) howscap), (11, .pointer (some ⟨b1_3_0, 0, none⟩)), (12, .pointer (some ⟨b1_3_1, 0, none⟩)), (13, .int .i64 v0_13), (36, .bool e1_36)] ∧ (CacheA b1_3_0 v0_b1_3_0) :: (RChA b1_3_1 v0_b1_3_1) :: Γ = ΔΔ) (by kernel_rfl) ?_ ?_
  · rintro _ _ ⟨e1_36, H, rfl, rfl⟩
    rw [serveHandlesS_j1] at H
    rcases Bool.eq_false_or_eq_true (e1_36) with h1 | h1
    · replace H := bifT H h1
      refine at_true (t := e1_36) (x := C12 [1,1,1,0,1,0,0,0,1,0]) (y := C12 [1,1,1,0,1,0,0,0,1,1]) (o := .tmp 36) (by kernel_rfl) (by kernel_rfl) (by kernel_rfl) h1 ?_
      refine at_skip (by kernel_rfl) ?_
      refine at_then_normal ?_
      refine aq (x := C12 [1,1,1,0,1,0,0,1,0]) (y := C12 [1,1,1,0,1,0,0,1,1]) ?_
      refine at_block (i := 1) (x := C12 [1,1,1,0,1,0,0,1,0,0]) (by kernel_rfl) ?_
      refine aq (x := C12 [1,1,1,0,1,0,0,1,0,0,0]) (y := C12 [1,1,1,0,1,0,0,1,0,0,1]) ?_
      refine ar (id := 7) 1 ?_
      refine sp 14 (.int .i64 (0)) ?_
      refine ops_end ?_
      refine ae [(3, .slice psa (List.length ps) pscap), (4, .slice howsa (List.length hows) howscap), (11, .pointer (some ⟨b1_3_0, 0, none⟩)), (12, .pointer (some ⟨b1_3_1, 0, none⟩)), (13, .int .i64 v0_13), (14, .int .i64 (0))] ?_
      refine at_then_normal ?_
      refine at_seq_join (x := C12 [1,1,1,0,1,0,0,1,0,0,1,0]) (y := C12 [1,1,1,0,1,0,0,1,0,0,1,1]) (fun ff ΔΔ => ∃ (e2_14 : Int), serveHandlesS_j2 v0_13 ps v0_b1_3_0 v0_b1_3_1 (serveHandlesS_l0 ps hows (serveHandlesS_k0 ) fuel1) e2_14 = some y ∧ ff = [(3, .slice psa (List.length ps) pscap), (4, .slice howsa (List.length hows) howscap), (11, .pointer (some ⟨b1_3_0, 0, none⟩)), (12, .pointer (some ⟨b1_3_1, 0, none⟩)), (13, .int .i64 v0_13), (14, .int .i64 e2_14)] ∧ (CacheA b1_3_0 v0_b1_3_0) :: (RChA b1_3_1 v0_b1_3_1) :: Γ = ΔΔ) (by kernel_rfl) ?_ ?_
      · rintro _ _ ⟨e2_14, H, rfl, rfl⟩
        rw [serveHandlesS_j2] at H
        refine aq (x := C12 [1,1,1,0,1,0,0,1,0,0,1,1,0]) (y := C12 [1,1,1,0,1,0,0,1,0,0,1,1,1]) ?_
        refine ar (id := 10) 8 ?_
        refine sp 47 (.slice psa (List.length ps) pscap) ?_
        refine sp 48 (.int .i64 v0_13) ?_
        obtain ⟨hc10_2_0, H⟩ := chkE H
        refine rd_at (RecRd.less (.drop .here (.drop .here .refl)) hrps) (by have := hc10_2_0; omega) ?_
        intro bb1 oo1 ha1
        refine sr 49 (.pointer (some ⟨bb1, oo1 + (((v0_13).toNat) * 9 + 0), none⟩)) (index_at (t := 74) (sz := 9) (E := 35) (a := psa) (m := (List.length ps)) (c := pscap) (b := bb1) (off := oo1) (i := (v0_13).toNat) (tinfo 35) (fun _ => by kernel_rfl) (by kernel_rfl) (by kernel_rfl) (by kernel_rfl) ha1 (idx_cast hc10_2_0) (idx_nat hc10_2_0) rfl) ?_
        obtain ⟨x10_3, hx10_3, H⟩ := letE H
        refine rd_get (RecRd.less (.drop .here (.drop .here .refl)) hrps) hc10_2_0 ?_
        intro a10_3 c10_3 hrx10_3
        rw [hx10_3] at hrx10_3 ⊢
        have hcpx10_3 : (x10_3.data).length ≤ c10_3 := CapR.at hcps hc10_2_0 hx10_3 hrx10_3
        refine sl 50 (.agg #[.int .i64 x10_3.kind, .int .i64 x10_3.src, .int .i64 x10_3.dst, .int .i64 x10_3.id, .int .i64 x10_3.line, .int .i64 x10_3.ptr, .int .i64 x10_3.state, .bool x10_3.flag, .slice a10_3 (List.length x10_3.data) c10_3]) (loadP_at (m := 9) (k := 9) (vs := [.int .i64 x10_3.kind, .int .i64 x10_3.src, .int .i64 x10_3.dst, .int .i64 x10_3.id, .int .i64 x10_3.line, .int .i64 x10_3.ptr, .int .i64 x10_3.state, .bool x10_3.flag, .slice a10_3 (List.length x10_3.data) c10_3]) (off := oo1) (i := (v0_13).toNat) (j := 0) (fun _ => by kernel_rfl) rfl rfl (fun q v hq => rd_row (j := 0 + q) (RecRd.less (.drop .here (.drop .here (.drop .here .refl))) hrps) ha1 hrx10_3 (rowP (j := 0) (m := 9) (by kernel_rfl) hq))) ?_
        refine sp 51 (.int .i64 e2_14) ?_
        obtain ⟨y10_5, hy10_5, H⟩ := bindE H
        refine s_call 52 44 #[.agg #[.int .i64 x10_3.kind, .int .i64 x10_3.src, .int .i64 x10_3.dst, .int .i64 x10_3.id, .int .i64 x10_3.line, .int .i64 x10_3.ptr, .int .i64 x10_3.state, .bool x10_3.flag, .slice a10_3 (List.length x10_3.data) c10_3], .int .i64 e2_14] (by kernel_rfl) (by kernel_rfl) (fun _ => by kernel_rfl) (PlPacketF_tr a10_3 c10_3 x10_3 e2_14 (ImmR.reads (k := 1) .here) hcpx10_3 y10_5 hy10_5) ?_
        rintro _ _ ⟨a10_5_00, c10_5_00, rfl, rfl⟩
        refine s_step 15 (by kernel_rfl) (by kernel_rfl) (st_new (T := 35) (cells := #[.int .i64 (0), .int .i64 (0), .int .i64 (0), .int .i64 (0), .int .i64 (0), .int .i64 (0), .int .i64 (0), .bool false, .slice none 0 0]) (fun a => .pointer (some a)) (fun _ => by kernel_rfl)) ?_
        rintro _ _ ⟨b10_6, rfl, rfl⟩
        refine s_do (by kernel_rfl) (by kernel_rfl) (st_store (off := 0) (vs := [.int .i64 y10_5.kind, .int .i64 y10_5.src, .int .i64 y10_5.dst, .int .i64 y10_5.id, .int .i64 y10_5.line, .int .i64 y10_5.ptr, .int .i64 y10_5.state, .bool y10_5.flag, .slice a10_5_00 (List.length y10_5.data) c10_5_00]) (c' := #[.int .i64 y10_5.kind, .int .i64 y10_5.src, .int .i64 y10_5.dst, .int .i64 y10_5.id, .int .i64 y10_5.line, .int .i64 y10_5.ptr, .int .i64 y10_5.state, .bool y10_5.flag, .slice a10_5_00 (List.length y10_5.data) c10_5_00]) (fun _ => by kernel_rfl) .here (by kernel_rfl) (by kernel_rfl) (by kernel_rfl)) ?_
        rintro _ _ ⟨rfl, rfl⟩
        refine ops_end ?_
        refine ae [(3, .slice psa (List.length ps) pscap), (4, .slice howsa (List.length hows) howscap), (11, .pointer (some ⟨b1_3_0, 0, none⟩)), (12, .pointer (some ⟨b1_3_1, 0, none⟩)), (13, .int .i64 v0_13), (14, .int .i64 e2_14), (15, .pointer (some ⟨b10_6, 0, none⟩))] ?_
        refine at_then_normal ?_
        refine at_seq_join (x := C12 [1,1,1,0,1,0,0,1,0,0,1,1,1,0]) (y := C12 [1,1,1,0,1,0,0,1,0,0,1,1,1,1]) (fun ff ΔΔ => ∃ (e3_b10_6_0 : Int), serveHandlesS_j3 v0_b1_3_0 y10_5 v0_b1_3_1 v0_13 (serveHandlesS_l0 ps hows (serveHandlesS_k0 ) fuel1) e3_b10_6_0 = some y ∧ ff = [(3, .slice psa (List.length ps) pscap), (4, .slice howsa (List.length hows) howscap), (11, .pointer (some ⟨b1_3_0, 0, none⟩)), (12, .pointer (some ⟨b1_3_1, 0, none⟩)), (13, .int .i64 v0_13), (15, .pointer (some ⟨b10_6, 0, none⟩))] ∧ (Asn.own b10_6 (.cells #[.int .i64 e3_b10_6_0, .int .i64 y10_5.src, .int .i64 y10_5.dst, .int .i64 y10_5.id, .int .i64 y10_5.line, .int .i64 y10_5.ptr, .int .i64 y10_5.state, .bool y10_5.flag, .slice a10_5_00 (List.length y10_5.data) c10_5_00] 35 (0, 0))) :: (IntsA a10_5_00 c10_5_00 y10_5.data) :: (CacheA b1_3_0 v0_b1_3_0) :: (RChA b1_3_1 v0_b1_3_1) :: Γ = ΔΔ) (by kernel_rfl) ?_ ?_
        · rintro _ _ ⟨e3_b10_6_0, H, rfl, rfl⟩
          rw [serveHandlesS_j3] at H
          refine aq (x := C12 [1,1,1,0,1,0,0,1,0,0,1,1,1,1,0]) (y := C12 [1,1,1,0,1,0,0,1,0,0,1,1,1,1,1]) ?_
          refine ar (id := 13) 9 ?_
          refine sp 62 (.pointer (some ⟨b1_3_0, 0, none⟩)) ?_
          refine sl 63 (.agg #[.int .i64 e3_b10_6_0, .int .i64 y10_5.src, .int .i64 y10_5.dst, .int .i64 y10_5.id, .int .i64 y10_5.line, .int .i64 y10_5.ptr, .int .i64 y10_5.state, .bool y10_5.flag, .slice a10_5_00 (List.length y10_5.data) c10_5_00]) (loadN (off := 0) (vs := [.int .i64 e3_b10_6_0, .int .i64 y10_5.src, .int .i64 y10_5.dst, .int .i64 y10_5.id, .int .i64 y10_5.line, .int .i64 y10_5.ptr, .int .i64 y10_5.state, .bool y10_5.flag, .slice a10_5_00 (List.length y10_5.data) c10_5_00]) 9 (fun _ => by kernel_rfl) (holds_own .here) rfl (by exact ⟨rfl, rfl, rfl, rfl, rfl, rfl, rfl, rfl, rfl, trivial⟩)) ?_
          obtain ⟨y13_2, hy13_2, H⟩ := bindE H
          refine s_call 64 18 #[.pointer (some ⟨b1_3_0, 0, none⟩), .agg #[.int .i64 e3_b10_6_0, .int .i64 y10_5.src, .int .i64 y10_5.dst, .int .i64 y10_5.id, .int .i64 y10_5.line, .int .i64 y10_5.ptr, .int .i64 y10_5.state, .bool y10_5.flag, .slice a10_5_00 (List.length y10_5.data) c10_5_00]] (by kernel_rfl) (by kernel_rfl) (fun _ => by kernel_rfl) (Tr.conv (Γ' := (CacheA b1_3_0 v0_b1_3_0) :: (Asn.own b10_6 (.cells #[.int .i64 e3_b10_6_0, .int .i64 y10_5.src, .int .i64 y10_5.dst, .int .i64 y10_5.id, .int .i64 y10_5.line, .int .i64 y10_5.ptr, .int .i64 y10_5.state, .bool y10_5.flag, .slice a10_5_00 (List.length y10_5.data) c10_5_00] 35 (0, 0))) :: (IntsA a10_5_00 c10_5_00 y10_5.data) :: (RChA b1_3_1 v0_b1_3_1) :: Γ) (fun w hw => (Sat.less (.take (.there (.there .here)) (.take .here (.take .here (.take .here .refl)))) hw)) (SHandleF_tr b1_3_0 v0_b1_3_0 a10_5_00 c10_5_00 (⟨e3_b10_6_0, y10_5.src, y10_5.dst, y10_5.id, y10_5.line, y10_5.ptr, y10_5.state, y10_5.flag, y10_5.data⟩ : PktS) (RowsA.reads (k := 1) (.there .here)) y13_2 hy13_2)) ?_
          rintro _ _ ⟨a13_2_00, c13_2_00, rfl, rfl⟩
          refine sp 61 (.tuple #[.agg #[.int .i64 y13_2.1.kind, .int .i64 y13_2.1.src, .int .i64 y13_2.1.dst, .int .i64 y13_2.1.id, .int .i64 y13_2.1.line, .int .i64 y13_2.1.ptr, .int .i64 y13_2.1.state, .bool y13_2.1.flag, .slice a13_2_00 (List.length y13_2.1.data) c13_2_00], .int .i64 y13_2.2.1]) ?_
          refine sp 65 (.agg #[.int .i64 y13_2.1.kind, .int .i64 y13_2.1.src, .int .i64 y13_2.1.dst, .int .i64 y13_2.1.id, .int .i64 y13_2.1.line, .int .i64 y13_2.1.ptr, .int .i64 y13_2.1.state, .bool y13_2.1.flag, .slice a13_2_00 (List.length y13_2.1.data) c13_2_00]) ?_
          refine sp 66 (.int .i64 y13_2.2.1) ?_
          refine s_step 16 (by kernel_rfl) (by kernel_rfl) (st_new (T := 35) (cells := #[.int .i64 (0), .int .i64 (0), .int .i64 (0), .int .i64 (0), .int .i64 (0), .int .i64 (0), .int .i64 (0), .bool false, .slice none 0 0]) (fun a => .pointer (some a)) (fun _ => by kernel_rfl)) ?_
          rintro _ _ ⟨b13_6, rfl, rfl⟩
          refine s_do (by kernel_rfl) (by kernel_rfl) (st_store (off := 0) (vs := [.int .i64 y13_2.1.kind, .int .i64 y13_2.1.src, .int .i64 y13_2.1.dst, .int .i64 y13_2.1.id, .int .i64 y13_2.1.line, .int .i64 y13_2.1.ptr, .int .i64 y13_2.1.state, .bool y13_2.1.flag, .slice a13_2_00 (List.length y13_2.1.data) c13_2_00]) (c' := #[.int .i64 y13_2.1.kind, .int .i64 y13_2.1.src, .int .i64 y13_2.1.dst, .int .i64 y13_2.1.id, .int .i64 y13_2.1.line, .int .i64 y13_2.1.ptr, .int .i64 y13_2.1.state, .bool y13_2.1.flag, .slice a13_2_00 (List.length y13_2.1.data) c13_2_00]) (fun _ => by kernel_rfl) .here (by kernel_rfl) (by kernel_rfl) (by kernel_rfl)) ?_
          rintro _ _ ⟨rfl, rfl⟩
          refine sp 17 (.int .i64 y13_2.2.1) ?_
          refine ops_end ?_
          refine ae [(3, .slice psa (List.length ps) pscap), (4, .slice howsa (List.length hows) howscap), (11, .pointer (some ⟨b1_3_0, 0, none⟩)), (12, .pointer (some ⟨b1_3_1, 0, none⟩)), (13, .int .i64 v0_13), (15, .pointer (some ⟨b10_6, 0, none⟩)), (16, .pointer (some ⟨b13_6, 0, none⟩)), (17, .int .i64 y13_2.2.1)] ?_
          refine at_then_normal ?_
          refine aq (x := C12 [1,1,1,0,1,0,0,1,0,0,1,1,1,1,1,0]) (y := C12 [1,1,1,0,1,0,0,1,0,0,1,1,1,1,1,1]) ?_
          refine ar (id := 14) 9 ?_
          refine sp 68 (.pointer (some ⟨b1_3_1, 0, none⟩)) ?_
          refine sl 69 (.agg #[.int .i64 e3_b10_6_0, .int .i64 y10_5.src, .int .i64 y10_5.dst, .int .i64 y10_5.id, .int .i64 y10_5.line, .int .i64 y10_5.ptr, .int .i64 y10_5.state, .bool y10_5.flag, .slice a10_5_00 (List.length y10_5.data) c10_5_00]) (loadN (off := 0) (vs := [.int .i64 e3_b10_6_0, .int .i64 y10_5.src, .int .i64 y10_5.dst, .int .i64 y10_5.id, .int .i64 y10_5.line, .int .i64 y10_5.ptr, .int .i64 y10_5.state, .bool y10_5.flag, .slice a10_5_00 (List.length y10_5.data) c10_5_00]) 9 (fun _ => by kernel_rfl) (holds_own (.there (.there (.there .here)))) rfl (by exact ⟨rfl, rfl, rfl, rfl, rfl, rfl, rfl, rfl, rfl, trivial⟩)) ?_
          obtain ⟨y14_2, hy14_2, H⟩ := bindE H
          refine s_call 70 45 #[.pointer (some ⟨b1_3_1, 0, none⟩), .agg #[.int .i64 e3_b10_6_0, .int .i64 y10_5.src, .int .i64 y10_5.dst, .int .i64 y10_5.id, .int .i64 y10_5.line, .int .i64 y10_5.ptr, .int .i64 y10_5.state, .bool y10_5.flag, .slice a10_5_00 (List.length y10_5.data) c10_5_00]] (by kernel_rfl) (by kernel_rfl) (fun _ => by kernel_rfl) (Tr.conv (Γ' := (RChA b1_3_1 v0_b1_3_1) :: (Asn.own b13_6 (.cells #[.int .i64 y13_2.1.kind, .int .i64 y13_2.1.src, .int .i64 y13_2.1.dst, .int .i64 y13_2.1.id, .int .i64 y13_2.1.line, .int .i64 y13_2.1.ptr, .int .i64 y13_2.1.state, .bool y13_2.1.flag, .slice a13_2_00 (List.length y13_2.1.data) c13_2_00] 35 (0, 0))) :: (IntsA a13_2_00 c13_2_00 y13_2.1.data) :: (CacheA b1_3_0 y13_2.2.2) :: (Asn.own b10_6 (.cells #[.int .i64 e3_b10_6_0, .int .i64 y10_5.src, .int .i64 y10_5.dst, .int .i64 y10_5.id, .int .i64 y10_5.line, .int .i64 y10_5.ptr, .int .i64 y10_5.state, .bool y10_5.flag, .slice a10_5_00 (List.length y10_5.data) c10_5_00] 35 (0, 0))) :: (IntsA a10_5_00 c10_5_00 y10_5.data) :: Γ) (fun w hw => (Sat.less (.take (.there (.there (.there (.there (.there .here))))) (.take .here (.take .here (.take .here (.take .here (.take .here .refl)))))) hw)) (RServeF_tr b1_3_1 v0_b1_3_1 a10_5_00 c10_5_00 (⟨e3_b10_6_0, y10_5.src, y10_5.dst, y10_5.id, y10_5.line, y10_5.ptr, y10_5.state, y10_5.flag, y10_5.data⟩ : PktS) (RowsA.reads (k := 1) (.there (.there (.there (.there .here))))) y14_2 hy14_2)) ?_
          rintro _ _ ⟨a14_2_00, c14_2_00, rfl, rfl⟩
          refine sp 67 (.tuple #[.agg #[.int .i64 y14_2.1.kind, .int .i64 y14_2.1.src, .int .i64 y14_2.1.dst, .int .i64 y14_2.1.id, .int .i64 y14_2.1.line, .int .i64 y14_2.1.ptr, .int .i64 y14_2.1.state, .bool y14_2.1.flag, .slice a14_2_00 (List.length y14_2.1.data) c14_2_00], .int .i64 y14_2.2.1]) ?_
          refine sp 71 (.agg #[.int .i64 y14_2.1.kind, .int .i64 y14_2.1.src, .int .i64 y14_2.1.dst, .int .i64 y14_2.1.id, .int .i64 y14_2.1.line, .int .i64 y14_2.1.ptr, .int .i64 y14_2.1.state, .bool y14_2.1.flag, .slice a14_2_00 (List.length y14_2.1.data) c14_2_00]) ?_
          refine sp 72 (.int .i64 y14_2.2.1) ?_
          refine s_step 18 (by kernel_rfl) (by kernel_rfl) (st_new (T := 35) (cells := #[.int .i64 (0), .int .i64 (0), .int .i64 (0), .int .i64 (0), .int .i64 (0), .int .i64 (0), .int .i64 (0), .bool false, .slice none 0 0]) (fun a => .pointer (some a)) (fun _ => by kernel_rfl)) ?_
          rintro _ _ ⟨b14_6, rfl, rfl⟩
          refine s_do (by kernel_rfl) (by kernel_rfl) (st_store (off := 0) (vs := [.int .i64 y14_2.1.kind, .int .i64 y14_2.1.src, .int .i64 y14_2.1.dst, .int .i64 y14_2.1.id, .int .i64 y14_2.1.line, .int .i64 y14_2.1.ptr, .int .i64 y14_2.1.state, .bool y14_2.1.flag, .slice a14_2_00 (List.length y14_2.1.data) c14_2_00]) (c' := #[.int .i64 y14_2.1.kind, .int .i64 y14_2.1.src, .int .i64 y14_2.1.dst, .int .i64 y14_2.1.id, .int .i64 y14_2.1.line, .int .i64 y14_2.1.ptr, .int .i64 y14_2.1.state, .bool y14_2.1.flag, .slice a14_2_00 (List.length y14_2.1.data) c14_2_00]) (fun _ => by kernel_rfl) .here (by kernel_rfl) (by kernel_rfl) (by kernel_rfl)) ?_
          rintro _ _ ⟨rfl, rfl⟩
          refine sp 19 (.int .i64 y14_2.2.1) ?_
          refine ops_end ?_
          refine ae [(3, .slice psa (List.length ps) pscap), (4, .slice howsa (List.length hows) howscap), (11, .pointer (some ⟨b1_3_0, 0, none⟩)), (12, .pointer (some ⟨b1_3_1, 0, none⟩)), (13, .int .i64 v0_13), (16, .pointer (some ⟨b13_6, 0, none⟩)), (17, .int .i64 y13_2.2.1), (18, .pointer (some ⟨b14_6, 0, none⟩)), (19, .int .i64 y14_2.2.1)] ?_
          refine at_then_normal ?_
          refine aq (x := C12 [1,1,1,0,1,0,0,1,0,0,1,1,1,1,1,1,0]) (y := C12 [1,1,1,0,1,0,0,1,0,0,1,1,1,1,1,1,1]) ?_
          refine ar (id := 15) 15 ?_
          refine sp 73 (.int .i64 y13_2.2.1) ?_
          refine sp 74 (.int .i64 y14_2.2.1) ?_
          refine sp 75 (.bool (!(decide (y13_2.2.1 = y14_2.2.1)))) ?_
          rcases Bool.eq_false_or_eq_true (!(decide (y13_2.2.1 = y14_2.2.1))) with h2 | h2
          · replace H := bifT H h2
            refine sr 76 (.bool true) (run_eq (v := .bool (!(decide (y13_2.2.1 = y14_2.2.1)))) (fun _ => by kernel_rfl) (congrArg Value.bool h2)) ?_
            refine sa 77 ?_
            refine sa 78 ?_
            refine sa 79 ?_
            refine sa 80 ?_
            refine sp 81 (.bool true) ?_
            refine sp 82 (.bool true) ?_
            refine sa 83 ?_
            refine sa 84 ?_
            refine sa 85 ?_
            refine sa 86 ?_
            refine sp 87 (.bool true) ?_
            refine ops_end ?_
            refine ae [(3, .slice psa (List.length ps) pscap), (4, .slice howsa (List.length hows) howscap), (11, .pointer (some ⟨b1_3_0, 0, none⟩)), (12, .pointer (some ⟨b1_3_1, 0, none⟩)), (13, .int .i64 v0_13), (87, .bool true)] ?_
            refine at_then_normal ?_
            refine at_true (t := true) (x := C12 [1,1,1,0,1,0,0,1,0,0,1,1,1,1,1,1,1,0]) (y := C12 [1,1,1,0,1,0,0,1,0,0,1,1,1,1,1,1,1,1]) (o := .tmp 87) (by kernel_rfl) (by kernel_rfl) (by kernel_rfl) rfl ?_
            refine aq (x := C12 [1,1,1,0,1,0,0,1,0,0,1,1,1,1,1,1,1,0,0]) (y := C12 [1,1,1,0,1,0,0,1,0,0,1,1,1,1,1,1,1,0,1]) ?_
            refine ar (id := 16) 1 ?_
            refine sp 10 (.bool false) ?_
            refine ops_end ?_
            refine ae [(10, .bool false)] ?_
            refine at_then_normal ?_
            refine at_ret (by kernel_rfl) ?_
            refine at_in_ret ?_
            refine at_then_ret ?_
            refine at_then_ret ?_
            refine at_in_ret ?_
            refine at_then_ret ?_
            obtain rfl := someE H
            refine at_backR [.bool false] (Γ) (rs := [.tmp 10]) (by kernel_rfl) (.cons (.tmp (by kernel_rfl)) .nil) (fun w hw => (Sat.less (.drop .here (.drop .here (.drop .here (.drop .here (.drop .here (.drop .here (.drop .here (.drop .here .refl)))))))) hw)) ?_
            exact ⟨rfl, rfl⟩
          · replace H := bifF H h2
            refine sr 76 (.bool false) (run_eq (v := .bool (!(decide (y13_2.2.1 = y14_2.2.1)))) (fun _ => by kernel_rfl) (congrArg Value.bool h2)) ?_
            refine sl 77 (.agg #[.int .i64 y13_2.1.kind, .int .i64 y13_2.1.src, .int .i64 y13_2.1.dst, .int .i64 y13_2.1.id, .int .i64 y13_2.1.line, .int .i64 y13_2.1.ptr, .int .i64 y13_2.1.state, .bool y13_2.1.flag, .slice a13_2_00 (List.length y13_2.1.data) c13_2_00]) (loadN (off := 0) (vs := [.int .i64 y13_2.1.kind, .int .i64 y13_2.1.src, .int .i64 y13_2.1.dst, .int .i64 y13_2.1.id, .int .i64 y13_2.1.line, .int .i64 y13_2.1.ptr, .int .i64 y13_2.1.state, .bool y13_2.1.flag, .slice a13_2_00 (List.length y13_2.1.data) c13_2_00]) 9 (fun _ => by kernel_rfl) (holds_own (.there (.there (.there .here)))) rfl (by exact ⟨rfl, rfl, rfl, rfl, rfl, rfl, rfl, rfl, rfl, trivial⟩)) ?_
            refine sl 78 (.agg #[.int .i64 y14_2.1.kind, .int .i64 y14_2.1.src, .int .i64 y14_2.1.dst, .int .i64 y14_2.1.id, .int .i64 y14_2.1.line, .int .i64 y14_2.1.ptr, .int .i64 y14_2.1.state, .bool y14_2.1.flag, .slice a14_2_00 (List.length y14_2.1.data) c14_2_00]) (loadN (off := 0) (vs := [.int .i64 y14_2.1.kind, .int .i64 y14_2.1.src, .int .i64 y14_2.1.dst, .int .i64 y14_2.1.id, .int .i64 y14_2.1.line, .int .i64 y14_2.1.ptr, .int .i64 y14_2.1.state, .bool y14_2.1.flag, .slice a14_2_00 (List.length y14_2.1.data) c14_2_00]) 9 (fun _ => by kernel_rfl) (holds_own .here) rfl (by exact ⟨rfl, rfl, rfl, rfl, rfl, rfl, rfl, rfl, rfl, trivial⟩)) ?_
            obtain ⟨y15_6, hy15_6, H⟩ := bindE H
            refine s_call 79 46 #[.agg #[.int .i64 y13_2.1.kind, .int .i64 y13_2.1.src, .int .i64 y13_2.1.dst, .int .i64 y13_2.1.id, .int .i64 y13_2.1.line, .int .i64 y13_2.1.ptr, .int .i64 y13_2.1.state, .bool y13_2.1.flag, .slice a13_2_00 (List.length y13_2.1.data) c13_2_00], .agg #[.int .i64 y14_2.1.kind, .int .i64 y14_2.1.src, .int .i64 y14_2.1.dst, .int .i64 y14_2.1.id, .int .i64 y14_2.1.line, .int .i64 y14_2.1.ptr, .int .i64 y14_2.1.state, .bool y14_2.1.flag, .slice a14_2_00 (List.length y14_2.1.data) c14_2_00]] (by kernel_rfl) (by kernel_rfl) (fun _ => by kernel_rfl) (RSamePF_tr a13_2_00 c13_2_00 y13_2.1 a14_2_00 c14_2_00 y14_2.1 (RowsA.reads (k := 1) (.there (.there (.there (.there .here))))) (RowsA.reads (k := 1) (.there .here)) y15_6 hy15_6) ?_
            rintro _ _ ⟨rfl, rfl⟩
            refine sp 80 (.bool !y15_6) ?_
            refine sp 81 (.bool !y15_6) ?_
            rcases Bool.eq_false_or_eq_true (!y15_6) with h3 | h3
            · replace H := bifT H h3
              refine sr 82 (.bool true) (run_eq (v := .bool (!y15_6)) (fun _ => by kernel_rfl) (congrArg Value.bool h3)) ?_
              refine sa 83 ?_
              refine sa 84 ?_
              refine sa 85 ?_
              refine sa 86 ?_
              refine sp 87 (.bool true) ?_
              refine ops_end ?_
              refine ae [(3, .slice psa (List.length ps) pscap), (4, .slice howsa (List.length hows) howscap), (11, .pointer (some ⟨b1_3_0, 0, none⟩)), (12, .pointer (some ⟨b1_3_1, 0, none⟩)), (13, .int .i64 v0_13), (87, .bool true)] ?_
              refine at_then_normal ?_
              refine at_true (t := true) (x := C12 [1,1,1,0,1,0,0,1,0,0,1,1,1,1,1,1,1,0]) (y := C12 [1,1,1,0,1,0,0,1,0,0,1,1,1,1,1,1,1,1]) (o := .tmp 87) (by kernel_rfl) (by kernel_rfl) (by kernel_rfl) rfl ?_
              refine aq (x := C12 [1,1,1,0,1,0,0,1,0,0,1,1,1,1,1,1,1,0,0]) (y := C12 [1,1,1,0,1,0,0,1,0,0,1,1,1,1,1,1,1,0,1]) ?_
              refine ar (id := 16) 1 ?_
              refine sp 10 (.bool false) ?_
              refine ops_end ?_
              refine ae [(10, .bool false)] ?_
              refine at_then_normal ?_
              refine at_ret (by kernel_rfl) ?_
              refine at_in_ret ?_
              refine at_then_ret ?_
              refine at_then_ret ?_
              refine at_in_ret ?_
              refine at_then_ret ?_
              obtain rfl := someE H
              refine at_backR [.bool false] (Γ) (rs := [.tmp 10]) (by kernel_rfl) (.cons (.tmp (by kernel_rfl)) .nil) (fun w hw => (Sat.less (.drop .here (.drop .here (.drop .here (.drop .here (.drop .here (.drop .here (.drop .here (.drop .here .refl)))))))) hw)) ?_
              exact ⟨rfl, rfl⟩
            · replace H := bifF H h3
              refine sr 82 (.bool false) (run_eq (v := .bool (!y15_6)) (fun _ => by kernel_rfl) (congrArg Value.bool h3)) ?_
              refine sp 83 (.pointer (some ⟨b1_3_0, 0, none⟩)) ?_
              refine sp 84 (.pointer (some ⟨b1_3_1, 0, none⟩)) ?_
              refine RChA.tox (.there (.there .here)) ?_
              intro x15_12_b1_3_1
              obtain ⟨y15_12, hy15_12, H⟩ := bindE H
              refine s_call 85 42 #[.pointer (some ⟨b1_3_0, 0, none⟩), .pointer (some ⟨b1_3_1, 0, none⟩)] (by kernel_rfl) (by kernel_rfl) (fun _ => by kernel_rfl) (Tr.conv (Γ' := (CacheA b1_3_0 y13_2.2.2) :: (RChXA b1_3_1 x15_12_b1_3_1 y14_2.2.2) :: (Asn.own b14_6 (.cells #[.int .i64 y14_2.1.kind, .int .i64 y14_2.1.src, .int .i64 y14_2.1.dst, .int .i64 y14_2.1.id, .int .i64 y14_2.1.line, .int .i64 y14_2.1.ptr, .int .i64 y14_2.1.state, .bool y14_2.1.flag, .slice a14_2_00 (List.length y14_2.1.data) c14_2_00] 35 (0, 0))) :: (IntsA a14_2_00 c14_2_00 y14_2.1.data) :: (Asn.own b13_6 (.cells #[.int .i64 y13_2.1.kind, .int .i64 y13_2.1.src, .int .i64 y13_2.1.dst, .int .i64 y13_2.1.id, .int .i64 y13_2.1.line, .int .i64 y13_2.1.ptr, .int .i64 y13_2.1.state, .bool y13_2.1.flag, .slice a13_2_00 (List.length y13_2.1.data) c13_2_00] 35 (0, 0))) :: (IntsA a13_2_00 c13_2_00 y13_2.1.data) :: (Asn.own b10_6 (.cells #[.int .i64 e3_b10_6_0, .int .i64 y10_5.src, .int .i64 y10_5.dst, .int .i64 y10_5.id, .int .i64 y10_5.line, .int .i64 y10_5.ptr, .int .i64 y10_5.state, .bool y10_5.flag, .slice a10_5_00 (List.length y10_5.data) c10_5_00] 35 (0, 0))) :: (IntsA a10_5_00 c10_5_00 y10_5.data) :: Γ) (fun w hw => (Sat.less (.take (.there (.there (.there (.there (.there .here))))) (.take .here (.take .here (.take .here (.take .here (.take .here (.take .here (.take .here .refl)))))))) hw)) (SameCF_tr b1_3_0 y13_2.2.2 b1_3_1 x15_12_b1_3_1 y14_2.2.2 y15_12 hy15_12)) ?_
              rintro _ _ ⟨rfl, rfl⟩
              refine sp 86 (.bool !y15_12) ?_
              refine sp 87 (.bool !y15_12) ?_
              refine ops_end ?_
              refine ae [(3, .slice psa (List.length ps) pscap), (4, .slice howsa (List.length hows) howscap), (11, .pointer (some ⟨b1_3_0, 0, none⟩)), (12, .pointer (some ⟨b1_3_1, 0, none⟩)), (13, .int .i64 v0_13), (87, .bool !y15_12)] ?_
              refine at_then_normal ?_
              rcases Bool.eq_false_or_eq_true (!y15_12) with h4 | h4
              · replace H := bifT H h4
                refine at_true (t := !y15_12) (x := C12 [1,1,1,0,1,0,0,1,0,0,1,1,1,1,1,1,1,0]) (y := C12 [1,1,1,0,1,0,0,1,0,0,1,1,1,1,1,1,1,1]) (o := .tmp 87) (by kernel_rfl) (by kernel_rfl) (by kernel_rfl) h4 ?_
                refine At.conv (Γ' := (RChA b1_3_1 y14_2.2.2) :: (CacheA b1_3_0 y13_2.2.2) :: (Asn.own b14_6 (.cells #[.int .i64 y14_2.1.kind, .int .i64 y14_2.1.src, .int .i64 y14_2.1.dst, .int .i64 y14_2.1.id, .int .i64 y14_2.1.line, .int .i64 y14_2.1.ptr, .int .i64 y14_2.1.state, .bool y14_2.1.flag, .slice a14_2_00 (List.length y14_2.1.data) c14_2_00] 35 (0, 0))) :: (IntsA a14_2_00 c14_2_00 y14_2.1.data) :: (Asn.own b13_6 (.cells #[.int .i64 y13_2.1.kind, .int .i64 y13_2.1.src, .int .i64 y13_2.1.dst, .int .i64 y13_2.1.id, .int .i64 y13_2.1.line, .int .i64 y13_2.1.ptr, .int .i64 y13_2.1.state, .bool y13_2.1.flag, .slice a13_2_00 (List.length y13_2.1.data) c13_2_00] 35 (0, 0))) :: (IntsA a13_2_00 c13_2_00 y13_2.1.data) :: (Asn.own b10_6 (.cells #[.int .i64 e3_b10_6_0, .int .i64 y10_5.src, .int .i64 y10_5.dst, .int .i64 y10_5.id, .int .i64 y10_5.line, .int .i64 y10_5.ptr, .int .i64 y10_5.state, .bool y10_5.flag, .slice a10_5_00 (List.length y10_5.data) c10_5_00] 35 (0, 0))) :: (IntsA a10_5_00 c10_5_00 y10_5.data) :: Γ) (fun w hw => RChXA.shut (hw.pull (.there .here))) ?_
                refine aq (x := C12 [1,1,1,0,1,0,0,1,0,0,1,1,1,1,1,1,1,0,0]) (y := C12 [1,1,1,0,1,0,0,1,0,0,1,1,1,1,1,1,1,0,1]) ?_
                refine ar (id := 16) 1 ?_
                refine sp 10 (.bool false) ?_
                refine ops_end ?_
                refine ae [(10, .bool false)] ?_
                refine at_then_normal ?_
                refine at_ret (by kernel_rfl) ?_
                refine at_in_ret ?_
                refine at_then_ret ?_
                refine at_then_ret ?_
                refine at_in_ret ?_
                refine at_then_ret ?_
                obtain rfl := someE H
                refine at_backR [.bool false] (Γ) (rs := [.tmp 10]) (by kernel_rfl) (.cons (.tmp (by kernel_rfl)) .nil) (fun w hw => (Sat.less (.drop .here (.drop .here (.drop .here (.drop .here (.drop .here (.drop .here (.drop .here (.drop .here .refl)))))))) hw)) ?_
                exact ⟨rfl, rfl⟩
              · replace H := bifF H h4
                refine at_false (t := !y15_12) (x := C12 [1,1,1,0,1,0,0,1,0,0,1,1,1,1,1,1,1,0]) (y := C12 [1,1,1,0,1,0,0,1,0,0,1,1,1,1,1,1,1,1]) (o := .tmp 87) (by kernel_rfl) (by kernel_rfl) (by kernel_rfl) h4 ?_
                refine at_skip (by kernel_rfl) ?_
                refine at_in_normal ?_
                refine at_then_normal ?_
                refine ar (id := 6) 3 ?_
                refine sp 37 (.int .i64 v0_13) ?_
                obtain ⟨hc6_1_0, H⟩ := chkE H
                refine sr 38 (.int .i64 (v0_13 + (1 : Int))) (run_eq (v := .int .i64 (IntKind.i64.wrap (v0_13 + (1 : Int)))) (fun _ => by kernel_rfl) (by rw [inR.wrap hc6_1_0])) ?_
                refine sp 13 (.int .i64 (v0_13 + (1 : Int))) ?_
                refine ops_end ?_
                refine ae [(3, .slice psa (List.length ps) pscap), (4, .slice howsa (List.length hows) howscap), (11, .pointer (some ⟨b1_3_0, 0, none⟩)), (12, .pointer (some ⟨b1_3_1, 0, none⟩)), (13, .int .i64 (v0_13 + (1 : Int)))] ?_
                refine at_round_normal ?_
                refine At.conv (Γ' := (RChA b1_3_1 y14_2.2.2) :: (CacheA b1_3_0 y13_2.2.2) :: (Asn.own b14_6 (.cells #[.int .i64 y14_2.1.kind, .int .i64 y14_2.1.src, .int .i64 y14_2.1.dst, .int .i64 y14_2.1.id, .int .i64 y14_2.1.line, .int .i64 y14_2.1.ptr, .int .i64 y14_2.1.state, .bool y14_2.1.flag, .slice a14_2_00 (List.length y14_2.1.data) c14_2_00] 35 (0, 0))) :: (IntsA a14_2_00 c14_2_00 y14_2.1.data) :: (Asn.own b13_6 (.cells #[.int .i64 y13_2.1.kind, .int .i64 y13_2.1.src, .int .i64 y13_2.1.dst, .int .i64 y13_2.1.id, .int .i64 y13_2.1.line, .int .i64 y13_2.1.ptr, .int .i64 y13_2.1.state, .bool y13_2.1.flag, .slice a13_2_00 (List.length y13_2.1.data) c13_2_00] 35 (0, 0))) :: (IntsA a13_2_00 c13_2_00 y13_2.1.data) :: (Asn.own b10_6 (.cells #[.int .i64 e3_b10_6_0, .int .i64 y10_5.src, .int .i64 y10_5.dst, .int .i64 y10_5.id, .int .i64 y10_5.line, .int .i64 y10_5.ptr, .int .i64 y10_5.state, .bool y10_5.flag, .slice a10_5_00 (List.length y10_5.data) c10_5_00] 35 (0, 0))) :: (IntsA a10_5_00 c10_5_00 y10_5.data) :: Γ) (fun w hw => RChXA.shut (hw.pull (.there .here))) ?_
                exact at_roundR fuel1 [(3, .slice psa (List.length ps) pscap), (4, .slice howsa (List.length hows) howscap), (11, .pointer (some ⟨b1_3_0, 0, none⟩)), (12, .pointer (some ⟨b1_3_1, 0, none⟩)), (13, .int .i64 (v0_13 + (1 : Int)))] ((CacheA b1_3_0 y13_2.2.2) :: (RChA b1_3_1 y14_2.2.2) :: Γ) (Nat.lt_succ_self _) ⟨by kernel_rfl, by kernel_rfl, by kernel_rfl, by kernel_rfl, by kernel_rfl, trivial⟩ (fun w hw => (Sat.less (.take (.there .here) (.take .here (.drop .here (.drop .here (.drop .here (.drop .here (.drop .here (.drop .here .refl)))))))) hw)) ⟨fuel1, v0_13 + (1 : Int), y13_2.2.2, y14_2.2.2, H, rfl, rfl, rfl⟩
        · refine aq (x := C12 [1,1,1,0,1,0,0,1,0,0,1,1,1,0,0]) (y := C12 [1,1,1,0,1,0,0,1,0,0,1,1,1,0,1]) ?_
          refine ar (id := 11) 3 ?_
          refine sp 53 (.int .i64 e2_14) ?_
          refine sr 54 (.int .i64 (e2_14.tmod (4 : Int))) (run_remP (a := e2_14) (b := 4) (fun _ => by kernel_rfl) (by decide)) ?_
          refine sp 55 (.bool (!(decide ((e2_14.tmod (4 : Int)) = (3 : Int))))) ?_
          refine ops_end ?_
          refine ae [(3, .slice psa (List.length ps) pscap), (4, .slice howsa (List.length hows) howscap), (11, .pointer (some ⟨b1_3_0, 0, none⟩)), (12, .pointer (some ⟨b1_3_1, 0, none⟩)), (13, .int .i64 v0_13), (15, .pointer (some ⟨b10_6, 0, none⟩)), (55, .bool (!(decide ((e2_14.tmod (4 : Int)) = (3 : Int)))))] ?_
          refine at_then_normal ?_
          rcases Bool.eq_false_or_eq_true (!(decide ((e2_14.tmod (4 : Int)) = (3 : Int)))) with h5 | h5
          · replace H := bifT H h5
            refine at_true (t := !(decide ((e2_14.tmod (4 : Int)) = (3 : Int)))) (x := C12 [1,1,1,0,1,0,0,1,0,0,1,1,1,0,1,0]) (y := C12 [1,1,1,0,1,0,0,1,0,0,1,1,1,0,1,1]) (o := .tmp 55) (by kernel_rfl) (by kernel_rfl) (by kernel_rfl) h5 ?_
            refine ar (id := 12) 6 ?_
            refine sp 56 (.pointer (some ⟨b10_6, 0, none⟩)) ?_
            refine sl 57 (.int .i64 y10_5.kind) (load1 (off := 0) (fun _ => by kernel_rfl) (holds_own .here) (by kernel_rfl)) ?_
            obtain ⟨y12_2, hy12_2, H⟩ := bindE H
            refine s_quiet 58 (.int .i64 y12_2) 17 #[.int .i64 y10_5.kind, .int .i64 (4)] (by kernel_rfl) (by kernel_rfl) (fun _ => by kernel_rfl) (WithinF_tr y10_5.kind (4 : Int) y12_2 hy12_2) ?_
            refine sp 59 (.int .i64 (wr ((3 : Int) + y12_2))) ?_
            refine sp 60 (.pointer (some ⟨b10_6, 0, none⟩)) ?_
            refine s_do (by kernel_rfl) (by kernel_rfl) (st_store (off := 0) (vs := [.int .i64 (wr ((3 : Int) + y12_2))]) (c' := #[.int .i64 (wr ((3 : Int) + y12_2)), .int .i64 y10_5.src, .int .i64 y10_5.dst, .int .i64 y10_5.id, .int .i64 y10_5.line, .int .i64 y10_5.ptr, .int .i64 y10_5.state, .bool y10_5.flag, .slice a10_5_00 (List.length y10_5.data) c10_5_00]) (fun _ => by kernel_rfl) .here (by kernel_rfl) (by kernel_rfl) (by kernel_rfl)) ?_
            rintro _ _ ⟨rfl, rfl⟩
            refine ops_end ?_
            refine ae [(3, .slice psa (List.length ps) pscap), (4, .slice howsa (List.length hows) howscap), (11, .pointer (some ⟨b1_3_0, 0, none⟩)), (12, .pointer (some ⟨b1_3_1, 0, none⟩)), (13, .int .i64 v0_13), (15, .pointer (some ⟨b10_6, 0, none⟩))] ?_
            refine at_round_normal ?_
            exact at_join_mk [(3, .slice psa (List.length ps) pscap), (4, .slice howsa (List.length hows) howscap), (11, .pointer (some ⟨b1_3_0, 0, none⟩)), (12, .pointer (some ⟨b1_3_1, 0, none⟩)), (13, .int .i64 v0_13), (15, .pointer (some ⟨b10_6, 0, none⟩))] ((Asn.own b10_6 (.cells #[.int .i64 (wr ((3 : Int) + y12_2)), .int .i64 y10_5.src, .int .i64 y10_5.dst, .int .i64 y10_5.id, .int .i64 y10_5.line, .int .i64 y10_5.ptr, .int .i64 y10_5.state, .bool y10_5.flag, .slice a10_5_00 (List.length y10_5.data) c10_5_00] 35 (0, 0))) :: (IntsA a10_5_00 c10_5_00 y10_5.data) :: (CacheA b1_3_0 v0_b1_3_0) :: (RChA b1_3_1 v0_b1_3_1) :: Γ) ⟨by kernel_rfl, by kernel_rfl, by kernel_rfl, by kernel_rfl, by kernel_rfl, by kernel_rfl, trivial⟩ (fun w hw => (Sat.less (.take .here (.take .here (.take (.there .here) (.take (.there .here) (.drop .here .refl))))) hw)) ⟨wr ((3 : Int) + y12_2), H, rfl, rfl⟩
          · replace H := bifF H h5
            refine at_false (t := !(decide ((e2_14.tmod (4 : Int)) = (3 : Int)))) (x := C12 [1,1,1,0,1,0,0,1,0,0,1,1,1,0,1,0]) (y := C12 [1,1,1,0,1,0,0,1,0,0,1,1,1,0,1,1]) (o := .tmp 55) (by kernel_rfl) (by kernel_rfl) (by kernel_rfl) h5 ?_
            refine at_skip (by kernel_rfl) ?_
            refine at_round_normal ?_
            exact at_join_mk [(3, .slice psa (List.length ps) pscap), (4, .slice howsa (List.length hows) howscap), (11, .pointer (some ⟨b1_3_0, 0, none⟩)), (12, .pointer (some ⟨b1_3_1, 0, none⟩)), (13, .int .i64 v0_13), (15, .pointer (some ⟨b10_6, 0, none⟩))] ((Asn.own b10_6 (.cells #[.int .i64 y10_5.kind, .int .i64 y10_5.src, .int .i64 y10_5.dst, .int .i64 y10_5.id, .int .i64 y10_5.line, .int .i64 y10_5.ptr, .int .i64 y10_5.state, .bool y10_5.flag, .slice a10_5_00 (List.length y10_5.data) c10_5_00] 35 (0, 0))) :: (IntsA a10_5_00 c10_5_00 y10_5.data) :: (CacheA b1_3_0 v0_b1_3_0) :: (RChA b1_3_1 v0_b1_3_1) :: Γ) ⟨by kernel_rfl, by kernel_rfl, by kernel_rfl, by kernel_rfl, by kernel_rfl, by kernel_rfl, trivial⟩ (fun w hw => (Sat.less (.take .here (.take .here (.take (.there .here) (.take (.there .here) (.drop .here .refl))))) hw)) ⟨y10_5.kind, H, rfl, rfl⟩
      · refine aq (x := C12 [1,1,1,0,1,0,0,1,0,0,1,0,0]) (y := C12 [1,1,1,0,1,0,0,1,0,0,1,0,1]) ?_
        refine ar (id := 8) 4 ?_
        refine sp 39 (.int .i64 v0_13) ?_
        refine sp 40 (.slice howsa (List.length hows) howscap) ?_
        refine sp 41 (.int .i64 (((List.length hows) : Nat) : Int)) ?_
        refine sp 42 (.bool (decide (v0_13 < (((List.length hows) : Nat) : Int)))) ?_
        refine ops_end ?_
        refine ae [(3, .slice psa (List.length ps) pscap), (4, .slice howsa (List.length hows) howscap), (11, .pointer (some ⟨b1_3_0, 0, none⟩)), (12, .pointer (some ⟨b1_3_1, 0, none⟩)), (13, .int .i64 v0_13), (14, .int .i64 (0)), (42, .bool (decide (v0_13 < (((List.length hows) : Nat) : Int))))] ?_
        refine at_then_normal ?_
        rcases Bool.eq_false_or_eq_true (decide (v0_13 < (((List.length hows) : Nat) : Int))) with h6 | h6
        · replace H := bifT H h6
          refine at_true (t := decide (v0_13 < (((List.length hows) : Nat) : Int))) (x := C12 [1,1,1,0,1,0,0,1,0,0,1,0,1,0]) (y := C12 [1,1,1,0,1,0,0,1,0,0,1,0,1,1]) (o := .tmp 42) (by kernel_rfl) (by kernel_rfl) (by kernel_rfl) h6 ?_
          refine ar (id := 9) 5 ?_
          refine sp 43 (.slice howsa (List.length hows) howscap) ?_
          refine sp 44 (.int .i64 v0_13) ?_
          obtain ⟨hc9_2_0, H⟩ := chkE H
          refine reads_at (Reads.conv (fun w hw => hw.less (.drop .here (.drop .here .refl))) hrhowsa) (by have := hc9_2_0; omega) ?_
          intro bb2 oo2 ha2
          refine sr 45 (.pointer (some ⟨bb2, oo2 + ((v0_13).toNat * 1 + 0), none⟩)) (index_at (t := 22) (sz := 1) (E := 3) (a := howsa) (m := (List.length hows)) (c := howscap) (b := bb2) (off := oo2) (i := (v0_13).toNat) (tinfo 3) (fun _ => by kernel_rfl) (by kernel_rfl) (by kernel_rfl) (by kernel_rfl) ha2 (idx_cast hc9_2_0) (idx_nat hc9_2_0) rfl) ?_
          refine sl 46 (.int .i64 (nth hows v0_13)) (load1_at (off := oo2 + ((v0_13).toNat * 1 + 0)) (v := .int .i64 (nth hows v0_13)) (fun _ => by kernel_rfl) rfl (reads_cell (k := 1) (Reads.conv (fun w hw => hw.less (.drop .here (.drop .here .refl))) hrhowsa) (ints_rows _) ha2 (nth_row hc9_2_0) (show [(.int .i64 (nth hows v0_13) : Value)][0]? = some _ from rfl))) ?_
          refine sp 14 (.int .i64 (nth hows v0_13)) ?_
          refine ops_end ?_
          refine ae [(3, .slice psa (List.length ps) pscap), (4, .slice howsa (List.length hows) howscap), (11, .pointer (some ⟨b1_3_0, 0, none⟩)), (12, .pointer (some ⟨b1_3_1, 0, none⟩)), (13, .int .i64 v0_13), (14, .int .i64 (nth hows v0_13))] ?_
          refine at_round_normal ?_
          exact at_join_mk [(3, .slice psa (List.length ps) pscap), (4, .slice howsa (List.length hows) howscap), (11, .pointer (some ⟨b1_3_0, 0, none⟩)), (12, .pointer (some ⟨b1_3_1, 0, none⟩)), (13, .int .i64 v0_13), (14, .int .i64 (nth hows v0_13))] ((CacheA b1_3_0 v0_b1_3_0) :: (RChA b1_3_1 v0_b1_3_1) :: Γ) ⟨by kernel_rfl, by kernel_rfl, by kernel_rfl, by kernel_rfl, by kernel_rfl, by kernel_rfl, trivial⟩ (fun w hw => (Sat.less (.take .here (.take .here .refl)) hw)) ⟨nth hows v0_13, H, rfl, rfl⟩
        · replace H := bifF H h6
          refine at_false (t := decide (v0_13 < (((List.length hows) : Nat) : Int))) (x := C12 [1,1,1,0,1,0,0,1,0,0,1,0,1,0]) (y := C12 [1,1,1,0,1,0,0,1,0,0,1,0,1,1]) (o := .tmp 42) (by kernel_rfl) (by kernel_rfl) (by kernel_rfl) h6 ?_
          refine at_skip (by kernel_rfl) ?_
          refine at_round_normal ?_
          exact at_join_mk [(3, .slice psa (List.length ps) pscap), (4, .slice howsa (List.length hows) howscap), (11, .pointer (some ⟨b1_3_0, 0, none⟩)), (12, .pointer (some ⟨b1_3_1, 0, none⟩)), (13, .int .i64 v0_13), (14, .int .i64 0)] ((CacheA b1_3_0 v0_b1_3_0) :: (RChA b1_3_1 v0_b1_3_1) :: Γ) ⟨by kernel_rfl, by kernel_rfl, by kernel_rfl, by kernel_rfl, by kernel_rfl, by kernel_rfl, trivial⟩ (fun w hw => (Sat.less (.take .here (.take .here .refl)) hw)) ⟨0, H, rfl, rfl⟩
    · replace H := bifF H h1
      refine at_false (t := e1_36) (x := C12 [1,1,1,0,1,0,0,0,1,0]) (y := C12 [1,1,1,0,1,0,0,0,1,1]) (o := .tmp 36) (by kernel_rfl) (by kernel_rfl) (by kernel_rfl) h1 ?_
      refine at_exit (i := 0) (by kernel_rfl) ?_
      refine at_then_exit ?_
      refine at_then_exit ?_
      rw [serveHandlesS_k0] at H
      refine ae [(3, .slice psa (List.length ps) pscap), (4, .slice howsa (List.length hows) howscap), (11, .pointer (some ⟨b1_3_0, 0, none⟩)), (12, .pointer (some ⟨b1_3_1, 0, none⟩)), (13, .int .i64 v0_13)] ?_
      refine At.conv (Γ' := (CacheA b1_3_0 v0_b1_3_0) :: (RChA b1_3_1 v0_b1_3_1) :: Γ) (fun w hw => (Sat.less (.take .here (.take .here .refl)) hw)) ?_
      refine at_in_here ?_
      refine at_then_normal ?_
      refine aq (x := C12 [1,1,1,1,0]) (y := C12 [1,1,1,1,1]) ?_
      refine ar (id := 17) 2 ?_
      obtain ⟨y17_0, hy17_0, H⟩ := bindE H
      refine s_call 88 21 #[] (by kernel_rfl) (by kernel_rfl) (fun _ => by kernel_rfl) (W12F_tr  y17_0 hy17_0) ?_
      rintro _ _ ⟨rfl, rfl⟩
      refine sp 10 (.bool y17_0) ?_
      refine ops_end ?_
      refine ae [(10, .bool y17_0)] ?_
      refine at_then_normal ?_
      refine at_ret (by kernel_rfl) ?_
      obtain rfl := someE H
      refine at_backR [.bool y17_0] (Γ) (rs := [.tmp 10]) (by kernel_rfl) (.cons (.tmp (by kernel_rfl)) .nil) (fun w hw => (Sat.less (.drop .here (.drop .here .refl)) hw)) ?_
      exact ⟨rfl, rfl⟩
  · refine ar (id := 5) 8 ?_
    refine sp 29 (.int .i64 v0_13) ?_
    refine sp 30 (.slice psa (List.length ps) pscap) ?_
    refine sp 31 (.int .i64 (((List.length ps) : Nat) : Int)) ?_
    refine sp 32 (.bool (decide (v0_13 < (((List.length ps) : Nat) : Int)))) ?_
    rcases Bool.eq_false_or_eq_true (decide (v0_13 < (((List.length ps) : Nat) : Int))) with h7 | h7
    · replace H := bifT H h7
      refine sr 33 (.bool true) (run_eq (v := .bool (decide (v0_13 < (((List.length ps) : Nat) : Int)))) (fun _ => by kernel_rfl) (congrArg Value.bool h7)) ?_
      refine sp 34 (.int .i64 v0_13) ?_
      refine sp 35 (.bool (decide (v0_13 < (12 : Int)))) ?_
      refine sp 36 (.bool (decide (v0_13 < (12 : Int)))) ?_
      refine ops_end ?_
      refine ae [(3, .slice psa (List.length ps) pscap), (4, .slice howsa (List.length hows) howscap), (11, .pointer (some ⟨b1_3_0, 0, none⟩)), (12, .pointer (some ⟨b1_3_1, 0, none⟩)), (13, .int .i64 v0_13), (36, .bool (decide (v0_13 < (12 : Int))))] ?_
      refine at_round_normal ?_
      exact at_join_mk [(3, .slice psa (List.length ps) pscap), (4, .slice howsa (List.length hows) howscap), (11, .pointer (some ⟨b1_3_0, 0, none⟩)), (12, .pointer (some ⟨b1_3_1, 0, none⟩)), (13, .int .i64 v0_13), (36, .bool (decide (v0_13 < (12 : Int))))] ((CacheA b1_3_0 v0_b1_3_0) :: (RChA b1_3_1 v0_b1_3_1) :: Γ) ⟨by kernel_rfl, by kernel_rfl, by kernel_rfl, by kernel_rfl, by kernel_rfl, by kernel_rfl, trivial⟩ (fun w hw => (Sat.less (.take .here (.take .here .refl)) hw)) ⟨decide (v0_13 < (12 : Int)), H, rfl, rfl⟩
    · replace H := bifF H h7
      refine sr 33 (.bool false) (run_eq (v := .bool (decide (v0_13 < (((List.length ps) : Nat) : Int)))) (fun _ => by kernel_rfl) (congrArg Value.bool h7)) ?_
      refine sa 34 ?_
      refine sa 35 ?_
      refine sp 36 (.bool false) ?_
      refine ops_end ?_
      refine ae [(3, .slice psa (List.length ps) pscap), (4, .slice howsa (List.length hows) howscap), (11, .pointer (some ⟨b1_3_0, 0, none⟩)), (12, .pointer (some ⟨b1_3_1, 0, none⟩)), (13, .int .i64 v0_13), (36, .bool false)] ?_
      refine at_round_normal ?_
      exact at_join_mk [(3, .slice psa (List.length ps) pscap), (4, .slice howsa (List.length hows) howscap), (11, .pointer (some ⟨b1_3_0, 0, none⟩)), (12, .pointer (some ⟨b1_3_1, 0, none⟩)), (13, .int .i64 v0_13), (36, .bool false)] ((CacheA b1_3_0 v0_b1_3_0) :: (RChA b1_3_1 v0_b1_3_1) :: Γ) ⟨by kernel_rfl, by kernel_rfl, by kernel_rfl, by kernel_rfl, by kernel_rfl, by kernel_rfl, trivial⟩ (fun w hw => (Sat.less (.take .here (.take .here .refl)) hw)) ⟨false, H, rfl, rfl⟩
end Go.Proofs.Ytfpiolnbnfngkaa
