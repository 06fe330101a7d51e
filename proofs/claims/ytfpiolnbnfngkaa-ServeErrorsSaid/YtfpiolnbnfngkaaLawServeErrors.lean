/- The law ServeErrors: its walk. -/
import Derived.Test.YtfpiolnbnfngkaaBoA
import Derived.Test.YtfpiolnbnfngkaaSvA
namespace Go.Proofs.Ytfpiolnbnfngkaa
open Go Go.RowKit
set_option linter.unusedVariables false
set_option linter.unusedSimpArgs false
def wakes12S : Option (Bool) :=
  letP (newC (1 : Int) (2 : Int)) fun y1_0 => (shandleS y1_0 (⟨6, 0, 0, 0, 1, 0, 0, false, ([] : List Int)⟩ : PktS)).bind fun y4_2 => letP ([9] : List Int) fun l5_1 => (enewS (1 : Int) (2 : Int) ((-1) : Int) true l5_1).bind fun y5_2 => (putS y4_2.2.2 y5_2).bind fun y5_3 => (shandleS y5_3.2 (⟨6, 0, 0, 0, 1, 0, 0, false, ([] : List Int)⟩ : PktS)).bind fun y6_2 => (bif decide (y4_2.2.1 = (3 : Int)) then (bif decide (y6_2.2.1 = (0 : Int)) then (bif decide (y6_2.1.ptr = (2 : Int)) then (bif y6_2.1.flag then (bif decide ((((List.length y6_2.1.data) : Nat) : Int) = (1 : Int)) then chk (0 ≤ (0 : Int) ∧ (0 : Int) < ((y6_2.1.data.length : Nat) : Int)) ((bif decide ((nth y6_2.1.data (0 : Int)) = (9 : Int)) then letP (lenC y6_2.2.2) fun y7_30 => some (decide (y7_30 = (0 : Int))) else some false)) else some false) else some false) else some false) else some false) else some false)
noncomputable def C21 (p : List Nat) : Code := codeAt (bodyOf Try.f21) p
set_option maxRecDepth 100000 in
set_option maxHeartbeats 8000000 in
theorem W12F_tr {W0 : World} {Γ : List Asn}   (y : Bool) (H : wakes12S = some y) : Tr Try.prog 21 #[] W0 (Γ) (fun r Δ => r = .bool y ∧ Δ = Γ) := by
  unfold wakes12S at H
  refine Tr.enter (fn := Try.f21) (c := C21 []) (args := []) 58 Try.func21 (by kernel_rfl) (by kernel_rfl) ?_
  refine At.env [] trivial ?_
  refine aq (x := C21 [0]) (y := C21 [1]) ?_
  refine ar (id := 0) 1 ?_
  refine sp 0 (.bool false) ?_
  refine ops_end ?_
  refine At.env [] trivial ?_
  refine at_then_normal ?_
  refine aq (x := C21 [1,0]) (y := C21 [1,1]) ?_
  refine ar (id := 1) 2 ?_
  obtain ⟨y1_0, hy1_0, H⟩ := letE H
  refine s_call 6 13 #[.int .i64 (1), .int .i64 (2)] (by kernel_rfl) (by kernel_rfl) (fun _ => by kernel_rfl) (NewF_tr (1 : Int) (2 : Int) y1_0 hy1_0) ?_
  rintro _ _ ⟨b1_0, rfl, rfl⟩
  refine sp 1 (.pointer (some ⟨b1_0, 0, none⟩)) ?_
  refine ops_end ?_
  refine ae [(1, .pointer (some ⟨b1_0, 0, none⟩))] ?_
  refine at_then_normal ?_
  refine aq (x := C21 [1,1,0]) (y := C21 [1,1,1]) ?_
  refine aq (x := C21 [1,1,0,0]) (y := C21 [1,1,0,1]) ?_
  refine ar (id := 2) 2 ?_
  refine sp 7 (.pointer (some ⟨b1_0, 0, none⟩)) ?_
  refine sp 8 (.bool false) ?_
  refine ops_end ?_
  refine ae [(1, .pointer (some ⟨b1_0, 0, none⟩)), (8, .bool false)] ?_
  refine at_then_normal ?_
  refine at_false (t := false) (x := C21 [1,1,0,1,0]) (y := C21 [1,1,0,1,1]) (o := .tmp 8) (by kernel_rfl) (by kernel_rfl) (by kernel_rfl) rfl ?_
  refine at_skip (by kernel_rfl) ?_
  refine at_then_normal ?_
  refine aq (x := C21 [1,1,1,0]) (y := C21 [1,1,1,1]) ?_
  refine ar (id := 4) 9 ?_
  refine sp 10 (.pointer (some ⟨b1_0, 0, none⟩)) ?_
  refine sp 11 (.agg #[.int .i64 (6), .int .i64 (0), .int .i64 (0), .int .i64 (0), .int .i64 (1), .int .i64 (0), .int .i64 (0), .bool false, .slice none 0 0]) ?_
  obtain ⟨y4_2, hy4_2, H⟩ := bindE H
  refine s_call 12 18 #[.pointer (some ⟨b1_0, 0, none⟩), .agg #[.int .i64 (6), .int .i64 (0), .int .i64 (0), .int .i64 (0), .int .i64 (1), .int .i64 (0), .int .i64 (0), .bool false, .slice none 0 0]] (by kernel_rfl) (by kernel_rfl) (fun _ => by kernel_rfl) (SHandleF_tr b1_0 y1_0 none 0 (⟨6, 0, 0, 0, 1, 0, 0, false, ([] : List Int)⟩ : PktS) Reads.nil y4_2 hy4_2) ?_
  rintro _ _ ⟨a4_2_00, c4_2_00, rfl, rfl⟩
  refine sp 9 (.tuple #[.agg #[.int .i64 y4_2.1.kind, .int .i64 y4_2.1.src, .int .i64 y4_2.1.dst, .int .i64 y4_2.1.id, .int .i64 y4_2.1.line, .int .i64 y4_2.1.ptr, .int .i64 y4_2.1.state, .bool y4_2.1.flag, .slice a4_2_00 (List.length y4_2.1.data) c4_2_00], .int .i64 y4_2.2.1]) ?_
  refine sp 13 (.agg #[.int .i64 y4_2.1.kind, .int .i64 y4_2.1.src, .int .i64 y4_2.1.dst, .int .i64 y4_2.1.id, .int .i64 y4_2.1.line, .int .i64 y4_2.1.ptr, .int .i64 y4_2.1.state, .bool y4_2.1.flag, .slice a4_2_00 (List.length y4_2.1.data) c4_2_00]) ?_
  refine sp 14 (.int .i64 y4_2.2.1) ?_
  refine s_step 2 (by kernel_rfl) (by kernel_rfl) (st_new (T := 35) (cells := #[.int .i64 (0), .int .i64 (0), .int .i64 (0), .int .i64 (0), .int .i64 (0), .int .i64 (0), .int .i64 (0), .bool false, .slice none 0 0]) (fun a => .pointer (some a)) (fun _ => by kernel_rfl)) ?_
  rintro _ _ ⟨b4_6, rfl, rfl⟩
  refine s_do (by kernel_rfl) (by kernel_rfl) (st_store (off := 0) (vs := [.int .i64 y4_2.1.kind, .int .i64 y4_2.1.src, .int .i64 y4_2.1.dst, .int .i64 y4_2.1.id, .int .i64 y4_2.1.line, .int .i64 y4_2.1.ptr, .int .i64 y4_2.1.state, .bool y4_2.1.flag, .slice a4_2_00 (List.length y4_2.1.data) c4_2_00]) (c' := #[.int .i64 y4_2.1.kind, .int .i64 y4_2.1.src, .int .i64 y4_2.1.dst, .int .i64 y4_2.1.id, .int .i64 y4_2.1.line, .int .i64 y4_2.1.ptr, .int .i64 y4_2.1.state, .bool y4_2.1.flag, .slice a4_2_00 (List.length y4_2.1.data) c4_2_00]) (fun _ => by kernel_rfl) .here (by kernel_rfl) (by kernel_rfl) (by kernel_rfl)) ?_
  rintro _ _ ⟨rfl, rfl⟩
  refine sp 3 (.int .i64 y4_2.2.1) ?_
  refine ops_end ?_
  refine ae [(1, .pointer (some ⟨b1_0, 0, none⟩)), (3, .int .i64 y4_2.2.1)] ?_
  refine at_then_normal ?_
  refine aq (x := C21 [1,1,1,1,0]) (y := C21 [1,1,1,1,1]) ?_
  refine ar (id := 5) 4 ?_
  refine sp 15 (.pointer (some ⟨b1_0, 0, none⟩)) ?_
  obtain ⟨l5_1, hl5_1, H⟩ := letE H
  refine s_step 16 (by kernel_rfl) (by kernel_rfl) (st_new_ints (T := 3) (xs := l5_1) 1 hl5_1 (fun _ => by kernel_rfl) (by kernel_rfl)) ?_
  rintro _ _ ⟨b5_1, rfl, rfl⟩
  obtain ⟨y5_2, hy5_2, H⟩ := bindE H
  refine s_call 17 16 #[.int .i64 (1), .int .i64 (2), .int .i64 (-1), .bool true, .slice (some ⟨b5_1, 0, none⟩) (List.length l5_1) 1] (by kernel_rfl) (by kernel_rfl) (fun _ => by kernel_rfl) (ENewF_tr (1 : Int) (2 : Int) ((-1) : Int) true (some ⟨b5_1, 0, none⟩) 1 l5_1 (RowsA.reads (k := 1) .here) y5_2 hy5_2) ?_
  rintro _ _ ⟨a5_2_00, c5_2_00, rfl, rfl⟩
  obtain ⟨y5_3, hy5_3, H⟩ := bindE H
  refine s_call 18 15 #[.pointer (some ⟨b1_0, 0, none⟩), .agg #[.int .i64 y5_2.fwd, .int .i64 y5_2.back, .int .i64 y5_2.line, .int .i64 y5_2.used, .bool y5_2.dirty, .slice a5_2_00 (List.length y5_2.data) c5_2_00]] (by kernel_rfl) (by kernel_rfl) (fun _ => by kernel_rfl) (Tr.conv (Γ' := (CacheA b1_0 y4_2.2.2) :: (IntsA a5_2_00 c5_2_00 y5_2.data) :: (IntsA (some ⟨b5_1, 0, none⟩) 1 l5_1) :: (Asn.own b4_6 (.cells #[.int .i64 y4_2.1.kind, .int .i64 y4_2.1.src, .int .i64 y4_2.1.dst, .int .i64 y4_2.1.id, .int .i64 y4_2.1.line, .int .i64 y4_2.1.ptr, .int .i64 y4_2.1.state, .bool y4_2.1.flag, .slice a4_2_00 (List.length y4_2.1.data) c4_2_00] 35 (0, 0))) :: (IntsA a4_2_00 c4_2_00 y4_2.1.data) :: Γ) (fun w hw => (Sat.less (.take (.there (.there (.there (.there .here)))) (.take .here (.take .here (.take .here (.take .here .refl))))) hw)) (PutF_tr b1_0 y4_2.2.2 a5_2_00 c5_2_00 y5_2 (RowsA.reads (k := 1) .here) y5_3 hy5_3)) ?_
  rintro _ _ ⟨rfl, rfl⟩
  refine ops_end ?_
  refine ae [(1, .pointer (some ⟨b1_0, 0, none⟩)), (3, .int .i64 y4_2.2.1)] ?_
  refine at_then_normal ?_
  refine aq (x := C21 [1,1,1,1,1,0]) (y := C21 [1,1,1,1,1,1]) ?_
  refine ar (id := 6) 9 ?_
  refine sp 20 (.pointer (some ⟨b1_0, 0, none⟩)) ?_
  refine sp 21 (.agg #[.int .i64 (6), .int .i64 (0), .int .i64 (0), .int .i64 (0), .int .i64 (1), .int .i64 (0), .int .i64 (0), .bool false, .slice none 0 0]) ?_
  obtain ⟨y6_2, hy6_2, H⟩ := bindE H
  refine s_call 22 18 #[.pointer (some ⟨b1_0, 0, none⟩), .agg #[.int .i64 (6), .int .i64 (0), .int .i64 (0), .int .i64 (0), .int .i64 (1), .int .i64 (0), .int .i64 (0), .bool false, .slice none 0 0]] (by kernel_rfl) (by kernel_rfl) (fun _ => by kernel_rfl) (SHandleF_tr b1_0 y5_3.2 none 0 (⟨6, 0, 0, 0, 1, 0, 0, false, ([] : List Int)⟩ : PktS) Reads.nil y6_2 hy6_2) ?_
  rintro _ _ ⟨a6_2_00, c6_2_00, rfl, rfl⟩
  refine sp 19 (.tuple #[.agg #[.int .i64 y6_2.1.kind, .int .i64 y6_2.1.src, .int .i64 y6_2.1.dst, .int .i64 y6_2.1.id, .int .i64 y6_2.1.line, .int .i64 y6_2.1.ptr, .int .i64 y6_2.1.state, .bool y6_2.1.flag, .slice a6_2_00 (List.length y6_2.1.data) c6_2_00], .int .i64 y6_2.2.1]) ?_
  refine sp 23 (.agg #[.int .i64 y6_2.1.kind, .int .i64 y6_2.1.src, .int .i64 y6_2.1.dst, .int .i64 y6_2.1.id, .int .i64 y6_2.1.line, .int .i64 y6_2.1.ptr, .int .i64 y6_2.1.state, .bool y6_2.1.flag, .slice a6_2_00 (List.length y6_2.1.data) c6_2_00]) ?_
  refine sp 24 (.int .i64 y6_2.2.1) ?_
  refine s_step 4 (by kernel_rfl) (by kernel_rfl) (st_new (T := 35) (cells := #[.int .i64 (0), .int .i64 (0), .int .i64 (0), .int .i64 (0), .int .i64 (0), .int .i64 (0), .int .i64 (0), .bool false, .slice none 0 0]) (fun a => .pointer (some a)) (fun _ => by kernel_rfl)) ?_
  rintro _ _ ⟨b6_6, rfl, rfl⟩
  refine s_do (by kernel_rfl) (by kernel_rfl) (st_store (off := 0) (vs := [.int .i64 y6_2.1.kind, .int .i64 y6_2.1.src, .int .i64 y6_2.1.dst, .int .i64 y6_2.1.id, .int .i64 y6_2.1.line, .int .i64 y6_2.1.ptr, .int .i64 y6_2.1.state, .bool y6_2.1.flag, .slice a6_2_00 (List.length y6_2.1.data) c6_2_00]) (c' := #[.int .i64 y6_2.1.kind, .int .i64 y6_2.1.src, .int .i64 y6_2.1.dst, .int .i64 y6_2.1.id, .int .i64 y6_2.1.line, .int .i64 y6_2.1.ptr, .int .i64 y6_2.1.state, .bool y6_2.1.flag, .slice a6_2_00 (List.length y6_2.1.data) c6_2_00]) (fun _ => by kernel_rfl) .here (by kernel_rfl) (by kernel_rfl) (by kernel_rfl)) ?_
  rintro _ _ ⟨rfl, rfl⟩
  refine sp 5 (.int .i64 y6_2.2.1) ?_
  refine ops_end ?_
  refine ae [(1, .pointer (some ⟨b1_0, 0, none⟩)), (3, .int .i64 y4_2.2.1), (4, .pointer (some ⟨b6_6, 0, none⟩)), (5, .int .i64 y6_2.2.1)] ?_
  refine at_then_normal ?_
  refine aq (x := C21 [1,1,1,1,1,1,0]) (y := C21 [1,1,1,1,1,1,1]) ?_
  refine ar (id := 7) 34 ?_
  refine sp 25 (.int .i64 y4_2.2.1) ?_
  refine sp 26 (.bool (decide (y4_2.2.1 = (3 : Int)))) ?_
  rcases Bool.eq_false_or_eq_true (decide (y4_2.2.1 = (3 : Int))) with h1 | h1
  · replace H := bifT H h1
    refine sr 27 (.bool true) (run_eq (v := .bool (decide (y4_2.2.1 = (3 : Int)))) (fun _ => by kernel_rfl) (congrArg Value.bool h1)) ?_
    refine sp 28 (.int .i64 y6_2.2.1) ?_
    refine sp 29 (.bool (decide (y6_2.2.1 = (0 : Int)))) ?_
    refine sp 30 (.bool (decide (y6_2.2.1 = (0 : Int)))) ?_
    rcases Bool.eq_false_or_eq_true (decide (y6_2.2.1 = (0 : Int))) with h2 | h2
    · replace H := bifT H h2
      refine sr 31 (.bool true) (run_eq (v := .bool (decide (y6_2.2.1 = (0 : Int)))) (fun _ => by kernel_rfl) (congrArg Value.bool h2)) ?_
      refine sp 32 (.pointer (some ⟨b6_6, 5, none⟩)) ?_
      refine sl 33 (.int .i64 y6_2.1.ptr) (load1 (off := 5) (fun _ => by kernel_rfl) (holds_own .here) (by kernel_rfl)) ?_
      refine sp 34 (.bool (decide (y6_2.1.ptr = (2 : Int)))) ?_
      refine sp 35 (.bool (decide (y6_2.1.ptr = (2 : Int)))) ?_
      rcases Bool.eq_false_or_eq_true (decide (y6_2.1.ptr = (2 : Int))) with h3 | h3
      · replace H := bifT H h3
        refine sr 36 (.bool true) (run_eq (v := .bool (decide (y6_2.1.ptr = (2 : Int)))) (fun _ => by kernel_rfl) (congrArg Value.bool h3)) ?_
        refine sp 37 (.pointer (some ⟨b6_6, 7, none⟩)) ?_
        refine sl 38 (.bool y6_2.1.flag) (load1 (off := 7) (fun _ => by kernel_rfl) (holds_own .here) (by kernel_rfl)) ?_
        refine sp 39 (.bool y6_2.1.flag) ?_
        rcases Bool.eq_false_or_eq_true (y6_2.1.flag) with h4 | h4
        · replace H := bifT H h4
          refine sr 40 (.bool true) (run_eq (v := .bool (y6_2.1.flag)) (fun _ => by kernel_rfl) (congrArg Value.bool h4)) ?_
          refine sp 41 (.pointer (some ⟨b6_6, 8, none⟩)) ?_
          refine sl 42 (.slice a6_2_00 (List.length y6_2.1.data) c6_2_00) (load1 (off := 8) (fun _ => by kernel_rfl) (holds_own .here) (by kernel_rfl)) ?_
          refine sp 43 (.int .i64 (((List.length y6_2.1.data) : Nat) : Int)) ?_
          refine sp 44 (.bool (decide ((((List.length y6_2.1.data) : Nat) : Int) = (1 : Int)))) ?_
          refine sp 45 (.bool (decide ((((List.length y6_2.1.data) : Nat) : Int) = (1 : Int)))) ?_
          rcases Bool.eq_false_or_eq_true (decide ((((List.length y6_2.1.data) : Nat) : Int) = (1 : Int))) with h5 | h5
          · replace H := bifT H h5
            refine sr 46 (.bool true) (run_eq (v := .bool (decide ((((List.length y6_2.1.data) : Nat) : Int) = (1 : Int)))) (fun _ => by kernel_rfl) (congrArg Value.bool h5)) ?_
            refine sp 47 (.pointer (some ⟨b6_6, 8, none⟩)) ?_
            refine sl 48 (.slice a6_2_00 (List.length y6_2.1.data) c6_2_00) (load1 (off := 8) (fun _ => by kernel_rfl) (holds_own .here) (by kernel_rfl)) ?_
            obtain ⟨hc7_24_0, H⟩ := chkE H
            refine rows_at (.there .here) (by have := hc7_24_0; simp only [ints_length]; omega) ?_
            intro bb1 oo1 ha1
            refine sr 49 (.pointer (some ⟨bb1, oo1 + (((0 : Int)).toNat * 1 + 0), none⟩)) (index_at (t := 22) (sz := 1) (E := 3) (a := a6_2_00) (m := (List.length y6_2.1.data)) (c := c6_2_00) (b := bb1) (off := oo1) (i := ((0 : Int)).toNat) (tinfo 3) (fun _ => by kernel_rfl) (by kernel_rfl) (by kernel_rfl) (by kernel_rfl) ha1 (idx_cast hc7_24_0) (idx_nat hc7_24_0) rfl) ?_
            refine sl 50 (.int .i64 (nth y6_2.1.data (0 : Int))) (load1_at (off := oo1 + (((0 : Int)).toNat * 1 + 0)) (v := .int .i64 (nth y6_2.1.data (0 : Int))) (fun _ => by kernel_rfl) rfl (reads_cell (k := 1) (RowsA.reads (k := 1) (.there .here)) (ints_rows _) ha1 (nth_row hc7_24_0) (show [(.int .i64 (nth y6_2.1.data (0 : Int)) : Value)][0]? = some _ from rfl))) ?_
            refine sp 51 (.bool (decide ((nth y6_2.1.data (0 : Int)) = (9 : Int)))) ?_
            refine sp 52 (.bool (decide ((nth y6_2.1.data (0 : Int)) = (9 : Int)))) ?_
            rcases Bool.eq_false_or_eq_true (decide ((nth y6_2.1.data (0 : Int)) = (9 : Int))) with h6 | h6
            · replace H := bifT H h6
              refine sr 53 (.bool true) (run_eq (v := .bool (decide ((nth y6_2.1.data (0 : Int)) = (9 : Int)))) (fun _ => by kernel_rfl) (congrArg Value.bool h6)) ?_
              refine sp 54 (.pointer (some ⟨b1_0, 0, none⟩)) ?_
              obtain ⟨y7_30, hy7_30, H⟩ := letE H
              refine s_call 55 23 #[.pointer (some ⟨b1_0, 0, none⟩)] (by kernel_rfl) (by kernel_rfl) (fun _ => by kernel_rfl) (Tr.conv (Γ' := (CacheA b1_0 y6_2.2.2) :: (Asn.own b6_6 (.cells #[.int .i64 y6_2.1.kind, .int .i64 y6_2.1.src, .int .i64 y6_2.1.dst, .int .i64 y6_2.1.id, .int .i64 y6_2.1.line, .int .i64 y6_2.1.ptr, .int .i64 y6_2.1.state, .bool y6_2.1.flag, .slice a6_2_00 (List.length y6_2.1.data) c6_2_00] 35 (0, 0))) :: (IntsA a6_2_00 c6_2_00 y6_2.1.data) :: (IntsA a5_2_00 c5_2_00 y5_2.data) :: (IntsA (some ⟨b5_1, 0, none⟩) 1 l5_1) :: (Asn.own b4_6 (.cells #[.int .i64 y4_2.1.kind, .int .i64 y4_2.1.src, .int .i64 y4_2.1.dst, .int .i64 y4_2.1.id, .int .i64 y4_2.1.line, .int .i64 y4_2.1.ptr, .int .i64 y4_2.1.state, .bool y4_2.1.flag, .slice a4_2_00 (List.length y4_2.1.data) c4_2_00] 35 (0, 0))) :: (IntsA a4_2_00 c4_2_00 y4_2.1.data) :: Γ) (fun w hw => (Sat.less (.take (.there (.there .here)) (.take .here (.take .here (.take .here (.take .here (.take .here (.take .here .refl))))))) hw)) (LenF_tr b1_0 y6_2.2.2 y7_30 hy7_30)) ?_
              rintro _ _ ⟨rfl, rfl⟩
              refine sp 56 (.bool (decide (y7_30 = (0 : Int)))) ?_
              refine sp 57 (.bool (decide (y7_30 = (0 : Int)))) ?_
              refine sp 0 (.bool (decide (y7_30 = (0 : Int)))) ?_
              refine ops_end ?_
              refine ae [(0, .bool (decide (y7_30 = (0 : Int))))] ?_
              refine at_then_normal ?_
              refine at_ret (by kernel_rfl) ?_
              obtain rfl := someE H
              refine at_backR [.bool (decide (y7_30 = (0 : Int)))] (Γ) (rs := [.tmp 0]) (by kernel_rfl) (.cons (.tmp (by kernel_rfl)) .nil) (fun w hw => (Sat.less (.drop .here (.drop .here (.drop .here (.drop .here (.drop .here (.drop .here (.drop .here .refl))))))) hw)) ?_
              exact ⟨rfl, rfl⟩
            · replace H := bifF H h6
              refine sr 53 (.bool false) (run_eq (v := .bool (decide ((nth y6_2.1.data (0 : Int)) = (9 : Int)))) (fun _ => by kernel_rfl) (congrArg Value.bool h6)) ?_
              refine sa 54 ?_
              refine sa 55 ?_
              refine sa 56 ?_
              refine sp 57 (.bool false) ?_
              refine sp 0 (.bool false) ?_
              refine ops_end ?_
              refine ae [(0, .bool false)] ?_
              refine at_then_normal ?_
              refine at_ret (by kernel_rfl) ?_
              obtain rfl := someE H
              refine at_backR [.bool false] (Γ) (rs := [.tmp 0]) (by kernel_rfl) (.cons (.tmp (by kernel_rfl)) .nil) (fun w hw => (Sat.less (.drop .here (.drop .here (.drop .here (.drop .here (.drop .here (.drop .here (.drop .here .refl))))))) hw)) ?_
              exact ⟨rfl, rfl⟩
          · replace H := bifF H h5
            refine sr 46 (.bool false) (run_eq (v := .bool (decide ((((List.length y6_2.1.data) : Nat) : Int) = (1 : Int)))) (fun _ => by kernel_rfl) (congrArg Value.bool h5)) ?_
            refine sa 47 ?_
            refine sa 48 ?_
            refine sa 49 ?_
            refine sa 50 ?_
            refine sa 51 ?_
            refine sp 52 (.bool false) ?_
            refine sp 53 (.bool false) ?_
            refine sa 54 ?_
            refine sa 55 ?_
            refine sa 56 ?_
            refine sp 57 (.bool false) ?_
            refine sp 0 (.bool false) ?_
            refine ops_end ?_
            refine ae [(0, .bool false)] ?_
            refine at_then_normal ?_
            refine at_ret (by kernel_rfl) ?_
            obtain rfl := someE H
            refine at_backR [.bool false] (Γ) (rs := [.tmp 0]) (by kernel_rfl) (.cons (.tmp (by kernel_rfl)) .nil) (fun w hw => (Sat.less (.drop .here (.drop .here (.drop .here (.drop .here (.drop .here (.drop .here (.drop .here .refl))))))) hw)) ?_
            exact ⟨rfl, rfl⟩
        · replace H := bifF H h4
          refine sr 40 (.bool false) (run_eq (v := .bool (y6_2.1.flag)) (fun _ => by kernel_rfl) (congrArg Value.bool h4)) ?_
          refine sa 41 ?_
          refine sa 42 ?_
          refine sa 43 ?_
          refine sa 44 ?_
          refine sp 45 (.bool false) ?_
          refine sp 46 (.bool false) ?_
          refine sa 47 ?_
          refine sa 48 ?_
          refine sa 49 ?_
          refine sa 50 ?_
          refine sa 51 ?_
          refine sp 52 (.bool false) ?_
          refine sp 53 (.bool false) ?_
          refine sa 54 ?_
          refine sa 55 ?_
          refine sa 56 ?_
          refine sp 57 (.bool false) ?_
          refine sp 0 (.bool false) ?_
          refine ops_end ?_
          refine ae [(0, .bool false)] ?_
          refine at_then_normal ?_
          refine at_ret (by kernel_rfl) ?_
          obtain rfl := someE H
          refine at_backR [.bool false] (Γ) (rs := [.tmp 0]) (by kernel_rfl) (.cons (.tmp (by kernel_rfl)) .nil) (fun w hw => (Sat.less (.drop .here (.drop .here (.drop .here (.drop .here (.drop .here (.drop .here (.drop .here .refl))))))) hw)) ?_
          exact ⟨rfl, rfl⟩
      · replace H := bifF H h3
        refine sr 36 (.bool false) (run_eq (v := .bool (decide (y6_2.1.ptr = (2 : Int)))) (fun _ => by kernel_rfl) (congrArg Value.bool h3)) ?_
        refine sa 37 ?_
        refine sa 38 ?_
        refine sp 39 (.bool false) ?_
        refine sp 40 (.bool false) ?_
        refine sa 41 ?_
        refine sa 42 ?_
        refine sa 43 ?_
        refine sa 44 ?_
        refine sp 45 (.bool false) ?_
        refine sp 46 (.bool false) ?_
        refine sa 47 ?_
        refine sa 48 ?_
        refine sa 49 ?_
        refine sa 50 ?_
        refine sa 51 ?_
        refine sp 52 (.bool false) ?_
        refine sp 53 (.bool false) ?_
        refine sa 54 ?_
        refine sa 55 ?_
        refine sa 56 ?_
        refine sp 57 (.bool false) ?_
        refine sp 0 (.bool false) ?_
        refine ops_end ?_
        refine ae [(0, .bool false)] ?_
        refine at_then_normal ?_
        refine at_ret (by kernel_rfl) ?_
        obtain rfl := someE H
        refine at_backR [.bool false] (Γ) (rs := [.tmp 0]) (by kernel_rfl) (.cons (.tmp (by kernel_rfl)) .nil) (fun w hw => (Sat.less (.drop .here (.drop .here (.drop .here (.drop .here (.drop .here (.drop .here (.drop .here .refl))))))) hw)) ?_
        exact ⟨rfl, rfl⟩
    · replace H := bifF H h2
      refine sr 31 (.bool false) (run_eq (v := .bool (decide (y6_2.2.1 = (0 : Int)))) (fun _ => by kernel_rfl) (congrArg Value.bool h2)) ?_
      refine sa 32 ?_
      refine sa 33 ?_
      refine sa 34 ?_
      refine sp 35 (.bool false) ?_
      refine sp 36 (.bool false) ?_
      refine sa 37 ?_
      refine sa 38 ?_
      refine sp 39 (.bool false) ?_
      refine sp 40 (.bool false) ?_
      refine sa 41 ?_
      refine sa 42 ?_
      refine sa 43 ?_
      refine sa 44 ?_
      refine sp 45 (.bool false) ?_
      refine sp 46 (.bool false) ?_
      refine sa 47 ?_
      refine sa 48 ?_
      refine sa 49 ?_
      refine sa 50 ?_
      refine sa 51 ?_
      refine sp 52 (.bool false) ?_
      refine sp 53 (.bool false) ?_
      refine sa 54 ?_
      refine sa 55 ?_
      refine sa 56 ?_
      refine sp 57 (.bool false) ?_
      refine sp 0 (.bool false) ?_
      refine ops_end ?_
      refine ae [(0, .bool false)] ?_
      refine at_then_normal ?_
      refine at_ret (by kernel_rfl) ?_
      obtain rfl := someE H
      refine at_backR [.bool false] (Γ) (rs := [.tmp 0]) (by kernel_rfl) (.cons (.tmp (by kernel_rfl)) .nil) (fun w hw => (Sat.less (.drop .here (.drop .here (.drop .here (.drop .here (.drop .here (.drop .here (.drop .here .refl))))))) hw)) ?_
      exact ⟨rfl, rfl⟩
  · replace H := bifF H h1
    refine sr 27 (.bool false) (run_eq (v := .bool (decide (y4_2.2.1 = (3 : Int)))) (fun _ => by kernel_rfl) (congrArg Value.bool h1)) ?_
    refine sa 28 ?_
    refine sa 29 ?_
    refine sp 30 (.bool false) ?_
    refine sp 31 (.bool false) ?_
    refine sa 32 ?_
    refine sa 33 ?_
    refine sa 34 ?_
    refine sp 35 (.bool false) ?_
    refine sp 36 (.bool false) ?_
    refine sa 37 ?_
    refine sa 38 ?_
    refine sp 39 (.bool false) ?_
    refine sp 40 (.bool false) ?_
    refine sa 41 ?_
    refine sa 42 ?_
    refine sa 43 ?_
    refine sa 44 ?_
    refine sp 45 (.bool false) ?_
    refine sp 46 (.bool false) ?_
    refine sa 47 ?_
    refine sa 48 ?_
    refine sa 49 ?_
    refine sa 50 ?_
    refine sa 51 ?_
    refine sp 52 (.bool false) ?_
    refine sp 53 (.bool false) ?_
    refine sa 54 ?_
    refine sa 55 ?_
    refine sa 56 ?_
    refine sp 57 (.bool false) ?_
    refine sp 0 (.bool false) ?_
    refine ops_end ?_
    refine ae [(0, .bool false)] ?_
    refine at_then_normal ?_
    refine at_ret (by kernel_rfl) ?_
    obtain rfl := someE H
    refine at_backR [.bool false] (Γ) (rs := [.tmp 0]) (by kernel_rfl) (.cons (.tmp (by kernel_rfl)) .nil) (fun w hw => (Sat.less (.drop .here (.drop .here (.drop .here (.drop .here (.drop .here (.drop .here (.drop .here .refl))))))) hw)) ?_
    exact ⟨rfl, rfl⟩
def serveErrorsS_k1 (y1_3 : CacheS × CacheS) (e1_15 : Int) (e1_b1_3_0 : CacheS) : Option (Bool) :=
  (sameCS e1_b1_3_0 y1_3.2).bind fun y18_2 => (bif y18_2 then (wakes12S).bind fun y18_4 => some y18_4 else some false)
def serveErrorsS_l1 (y4_1 : Int) (k1 : Int → CacheS → Option (Bool)) : Nat → Int → CacheS → Option (Bool)
  | 0 => fun _ _ => none
  | m + 1 => fun v1_15 v1_b1_3_0 => (bif decide (v1_15 ≤ (6 : Int)) then (shandleS v1_b1_3_0 (⟨v1_15, y4_1, 0, 0, 7, 0, 0, false, ([] : List Int)⟩ : PktS)).bind fun y15_4 => (bif !(decide (y15_4.2.1 = (3 : Int))) then some false else chk (inR (v1_15 + (1 : Int))) ((serveErrorsS_l1 y4_1 k1 m) (v1_15 + (1 : Int)) y15_4.2.2)) else k1 v1_15 v1_b1_3_0)
def serveErrorsS_k0 (y4_1 : Int) (y1_3 : CacheS × CacheS) (e0_40 : Int) (e0_b1_3_0 : CacheS) : Option (Bool) :=
  serveErrorsS_l1 y4_1 (serveErrorsS_k1 y1_3) 64 3 e0_b1_3_0
def serveErrorsS_l0 (l5_9 : List PktS) (k0 : Int → CacheS → Option (Bool)) : Nat → Int → CacheS → Option (Bool)
  | 0 => fun _ _ => none
  | m + 1 => fun v0_40 v0_b1_3_0 => (bif decide (v0_40 < (((List.length l5_9) : Nat) : Int)) then chk (0 ≤ v0_40 ∧ v0_40 < ((List.length l5_9 : Nat) : Int)) (letP (nthT l5_9 v0_40) fun x7_1 => (shandleS v0_b1_3_0 x7_1).bind fun y8_2 => (bif !(decide (y8_2.2.1 = (1 : Int))) then some false else chk (inR (v0_40 + (1 : Int))) ((serveErrorsS_l0 l5_9 k0 m) (v0_40 + (1 : Int)) y8_2.2.2))) else k0 v0_40 v0_b1_3_0)
def serveErrorsS (lines : List Int) (links : List Int) (data : List Int) (n : Int) : Option (Bool) :=
  (bothS lines links data).bind fun y1_3 => (withinS n (6 : Int)).bind fun y4_1 => letP ([(⟨0, 0, 0, 0, 0, 0, 0, false, ([] : List Int)⟩ : PktS), (⟨1, 0, 0, 0, 0, 0, 0, false, ([] : List Int)⟩ : PktS), (⟨2, 0, 0, 0, 0, 0, 0, false, ([] : List Int)⟩ : PktS), (⟨7, 0, 0, 0, 0, 0, 0, false, ([] : List Int)⟩ : PktS), (⟨8, 0, 0, 0, 0, 0, 0, false, ([] : List Int)⟩ : PktS), (⟨9, 0, 0, 0, 0, 0, 0, false, ([] : List Int)⟩ : PktS), (⟨6, (-1), 0, 0, 0, 0, 0, false, ([] : List Int)⟩ : PktS), (⟨4, 0, 0, 0, 0, 6, 0, false, ([] : List Int)⟩ : PktS), (⟨3, 0, 0, 0, 8, 0, 0, false, ([] : List Int)⟩ : PktS)] : List PktS) fun l5_9 => serveErrorsS_l0 l5_9 (serveErrorsS_k0 y4_1 y1_3) 64 0 y1_3.1
noncomputable def C11 (p : List Nat) : Code := codeAt (bodyOf Try.f11) p
set_option maxRecDepth 100000 in
set_option maxHeartbeats 8000000 in
theorem ServeErrorsF_tr {W0 : World} {Γ : List Asn} (linesa : Option Addr) (linescap : Nat) (lines : List Int) (linksa : Option Addr) (linkscap : Nat) (links : List Int) (dataa : Option Addr) (datacap : Nat) (data : List Int) (n : Int) (hrlinesa : Reads W0 Γ linesa (ints lines)) (hrlinksa : Reads W0 Γ linksa (ints links)) (hrdataa : Reads W0 Γ dataa (ints data)) (hcdataa : data.length ≤ datacap) (y : Bool) (H : serveErrorsS lines links data n = some y) : Tr Try.prog 11 #[.slice linesa (List.length lines) linescap, .slice linksa (List.length links) linkscap, .slice dataa (List.length data) datacap, .int .i64 n] W0 (Γ) (fun r Δ => r = .bool y ∧ Δ = Γ) := by
  unfold serveErrorsS at H
  refine Tr.enter (fn := Try.f11) (c := C11 []) (args := [.slice linesa (List.length lines) linescap, .slice linksa (List.length links) linkscap, .slice dataa (List.length data) datacap, .int .i64 n]) 73 Try.func11 (by kernel_rfl) (by kernel_rfl) ?_
  refine ae [(0, .slice linesa (List.length lines) linescap), (1, .slice linksa (List.length links) linkscap), (2, .slice dataa (List.length data) datacap), (3, .int .i64 n)] ?_
  refine aq (x := C11 [0]) (y := C11 [1]) ?_
  refine ar (id := 0) 1 ?_
  refine sp 8 (.bool false) ?_
  refine ops_end ?_
  refine ae [(0, .slice linesa (List.length lines) linescap), (1, .slice linksa (List.length links) linkscap), (2, .slice dataa (List.length data) datacap), (3, .int .i64 n)] ?_
  refine at_then_normal ?_
  refine aq (x := C11 [1,0]) (y := C11 [1,1]) ?_
  refine ar (id := 1) 9 ?_
  refine sp 19 (.slice linesa (List.length lines) linescap) ?_
  refine sp 20 (.slice linksa (List.length links) linkscap) ?_
  refine sp 21 (.slice dataa (List.length data) datacap) ?_
  obtain ⟨y1_3, hy1_3, H⟩ := bindE H
  refine s_call 22 43 #[.slice linesa (List.length lines) linescap, .slice linksa (List.length links) linkscap, .slice dataa (List.length data) datacap] (by kernel_rfl) (by kernel_rfl) (fun _ => by kernel_rfl) (BothF_tr linesa linescap lines linksa linkscap links dataa datacap data (Reads.conv (fun w hw => hw.less .refl) hrlinesa) (Reads.conv (fun w hw => hw.less .refl) hrlinksa) (Reads.conv (fun w hw => hw.less .refl) hrdataa) hcdataa y1_3 hy1_3) ?_
  rintro _ _ ⟨b1_3_0, b1_3_1, rfl, rfl⟩
  refine sp 18 (.tuple #[.pointer (some ⟨b1_3_0, 0, none⟩), .pointer (some ⟨b1_3_1, 0, none⟩)]) ?_
  refine sp 23 (.pointer (some ⟨b1_3_0, 0, none⟩)) ?_
  refine sp 24 (.pointer (some ⟨b1_3_1, 0, none⟩)) ?_
  refine sp 9 (.pointer (some ⟨b1_3_0, 0, none⟩)) ?_
  refine sp 10 (.pointer (some ⟨b1_3_1, 0, none⟩)) ?_
  refine ops_end ?_
  refine ae [(3, .int .i64 n), (9, .pointer (some ⟨b1_3_0, 0, none⟩)), (10, .pointer (some ⟨b1_3_1, 0, none⟩))] ?_
  refine at_then_normal ?_
  refine aq (x := C11 [1,1,0]) (y := C11 [1,1,1]) ?_
  refine aq (x := C11 [1,1,0,0]) (y := C11 [1,1,0,1]) ?_
  refine ar (id := 2) 2 ?_
  refine sp 25 (.pointer (some ⟨b1_3_0, 0, none⟩)) ?_
  refine sp 26 (.bool false) ?_
  refine ops_end ?_
  refine ae [(3, .int .i64 n), (9, .pointer (some ⟨b1_3_0, 0, none⟩)), (10, .pointer (some ⟨b1_3_1, 0, none⟩)), (26, .bool false)] ?_
  refine at_then_normal ?_
  refine at_false (t := false) (x := C11 [1,1,0,1,0]) (y := C11 [1,1,0,1,1]) (o := .tmp 26) (by kernel_rfl) (by kernel_rfl) (by kernel_rfl) rfl ?_
  refine at_skip (by kernel_rfl) ?_
  refine at_then_normal ?_
  refine aq (x := C11 [1,1,1,0]) (y := C11 [1,1,1,1]) ?_
  refine ar (id := 4) 3 ?_
  refine sp 27 (.int .i64 n) ?_
  obtain ⟨y4_1, hy4_1, H⟩ := bindE H
  refine s_quiet 28 (.int .i64 y4_1) 17 #[.int .i64 n, .int .i64 (6)] (by kernel_rfl) (by kernel_rfl) (fun _ => by kernel_rfl) (WithinF_tr n (6 : Int) y4_1 hy4_1) ?_
  refine sp 3 (.int .i64 y4_1) ?_
  refine ops_end ?_
  refine ae [(3, .int .i64 y4_1), (9, .pointer (some ⟨b1_3_0, 0, none⟩)), (10, .pointer (some ⟨b1_3_1, 0, none⟩))] ?_
  refine at_then_normal ?_
  refine aq (x := C11 [1,1,1,1,0]) (y := C11 [1,1,1,1,1]) ?_
  refine aq (x := C11 [1,1,1,1,0,0]) (y := C11 [1,1,1,1,0,1]) ?_
  refine ar (id := 5) 12 ?_
  refine sp 29 (.agg #[.int .i64 (0), .int .i64 (0), .int .i64 (0), .int .i64 (0), .int .i64 (0), .int .i64 (0), .int .i64 (0), .bool false, .slice none 0 0]) ?_
  refine sp 30 (.agg #[.int .i64 (1), .int .i64 (0), .int .i64 (0), .int .i64 (0), .int .i64 (0), .int .i64 (0), .int .i64 (0), .bool false, .slice none 0 0]) ?_
  refine sp 31 (.agg #[.int .i64 (2), .int .i64 (0), .int .i64 (0), .int .i64 (0), .int .i64 (0), .int .i64 (0), .int .i64 (0), .bool false, .slice none 0 0]) ?_
  refine sp 32 (.agg #[.int .i64 (7), .int .i64 (0), .int .i64 (0), .int .i64 (0), .int .i64 (0), .int .i64 (0), .int .i64 (0), .bool false, .slice none 0 0]) ?_
  refine sp 33 (.agg #[.int .i64 (8), .int .i64 (0), .int .i64 (0), .int .i64 (0), .int .i64 (0), .int .i64 (0), .int .i64 (0), .bool false, .slice none 0 0]) ?_
  refine sp 34 (.agg #[.int .i64 (9), .int .i64 (0), .int .i64 (0), .int .i64 (0), .int .i64 (0), .int .i64 (0), .int .i64 (0), .bool false, .slice none 0 0]) ?_
  refine sp 35 (.agg #[.int .i64 (6), .int .i64 (-1), .int .i64 (0), .int .i64 (0), .int .i64 (0), .int .i64 (0), .int .i64 (0), .bool false, .slice none 0 0]) ?_
  refine sp 36 (.agg #[.int .i64 (4), .int .i64 (0), .int .i64 (0), .int .i64 (0), .int .i64 (0), .int .i64 (6), .int .i64 (0), .bool false, .slice none 0 0]) ?_
  refine sp 37 (.agg #[.int .i64 (3), .int .i64 (0), .int .i64 (0), .int .i64 (0), .int .i64 (8), .int .i64 (0), .int .i64 (0), .bool false, .slice none 0 0]) ?_
  obtain ⟨l5_9, hl5_9, H⟩ := letE H
  refine s_step 38 (by kernel_rfl) (by kernel_rfl) (st_new_recs (α := PktS) (T := 35) (cells := #[.int .i64 (0), .int .i64 (0), .int .i64 (0), .int .i64 (0), .int .i64 (0), .int .i64 (0), .int .i64 (0), .bool false, .slice none 0 0, .int .i64 (1), .int .i64 (0), .int .i64 (0), .int .i64 (0), .int .i64 (0), .int .i64 (0), .int .i64 (0), .bool false, .slice none 0 0, .int .i64 (2), .int .i64 (0), .int .i64 (0), .int .i64 (0), .int .i64 (0), .int .i64 (0), .int .i64 (0), .bool false, .slice none 0 0, .int .i64 (7), .int .i64 (0), .int .i64 (0), .int .i64 (0), .int .i64 (0), .int .i64 (0), .int .i64 (0), .bool false, .slice none 0 0, .int .i64 (8), .int .i64 (0), .int .i64 (0), .int .i64 (0), .int .i64 (0), .int .i64 (0), .int .i64 (0), .bool false, .slice none 0 0, .int .i64 (9), .int .i64 (0), .int .i64 (0), .int .i64 (0), .int .i64 (0), .int .i64 (0), .int .i64 (0), .bool false, .slice none 0 0, .int .i64 (6), .int .i64 (-1), .int .i64 (0), .int .i64 (0), .int .i64 (0), .int .i64 (0), .int .i64 (0), .bool false, .slice none 0 0, .int .i64 (4), .int .i64 (0), .int .i64 (0), .int .i64 (0), .int .i64 (0), .int .i64 (6), .int .i64 (0), .bool false, .slice none 0 0, .int .i64 (3), .int .i64 (0), .int .i64 (0), .int .i64 (0), .int .i64 (8), .int .i64 (0), .int .i64 (0), .bool false, .slice none 0 0]) [((⟨0, 0, 0, 0, 0, 0, 0, false, ([] : List Int)⟩ : PktS), none, 0), ((⟨1, 0, 0, 0, 0, 0, 0, false, ([] : List Int)⟩ : PktS), none, 0), ((⟨2, 0, 0, 0, 0, 0, 0, false, ([] : List Int)⟩ : PktS), none, 0), ((⟨7, 0, 0, 0, 0, 0, 0, false, ([] : List Int)⟩ : PktS), none, 0), ((⟨8, 0, 0, 0, 0, 0, 0, false, ([] : List Int)⟩ : PktS), none, 0), ((⟨9, 0, 0, 0, 0, 0, 0, false, ([] : List Int)⟩ : PktS), none, 0), ((⟨6, (-1), 0, 0, 0, 0, 0, false, ([] : List Int)⟩ : PktS), none, 0), ((⟨4, 0, 0, 0, 0, 6, 0, false, ([] : List Int)⟩ : PktS), none, 0), ((⟨3, 0, 0, 0, 8, 0, 0, false, ([] : List Int)⟩ : PktS), none, 0)] 9 (fun _ => by kernel_rfl) (by kernel_rfl) (fun p hp => by simp only [List.mem_cons, List.not_mem_nil, or_false] at hp; rcases hp with rfl | rfl | rfl | rfl | rfl | rfl | rfl | rfl | rfl <;> rfl) rfl hl5_9) ?_
  rintro _ _ ⟨b5_9, rw5_9, rfl, rfl⟩
  refine sp 39 (.int .i64 (((List.length l5_9) : Nat) : Int)) ?_
  refine sp 40 (.int .i64 (0)) ?_
  refine ops_end ?_
  refine ae [(3, .int .i64 y4_1), (9, .pointer (some ⟨b1_3_0, 0, none⟩)), (10, .pointer (some ⟨b1_3_1, 0, none⟩)), (38, .slice (some ⟨b5_9, 0, none⟩) (List.length l5_9) 9), (39, .int .i64 (((List.length l5_9) : Nat) : Int)), (40, .int .i64 (0))] ?_
  refine at_then_normal ?_
  refine at_block (i := 0) (x := C11 [1,1,1,1,0,1,0]) (by kernel_rfl) ?_
  refine At.conv (Γ' := (RecsX (α := PktS) rw5_9 (some ⟨b5_9, 0, none⟩) 9 l5_9) :: (CacheA b1_3_0 y1_3.1) :: (RChA b1_3_1 y1_3.2) :: Γ) (fun w hw => (Sat.less (.take .here (.take .here (.take .here .refl))) hw)) ?_
  refine at_loopR (x := C11 [1,1,1,1,0,1,0,0]) (fun mm ff ΔΔ => ∃ (fuel : Nat) (v0_40 : Int) (v0_b1_3_0 : CacheS), serveErrorsS_l0 l5_9 (serveErrorsS_k0 y4_1 y1_3) fuel v0_40 v0_b1_3_0 = some y ∧ fuel = mm ∧ ff = [(3, .int .i64 y4_1), (9, .pointer (some ⟨b1_3_0, 0, none⟩)), (10, .pointer (some ⟨b1_3_1, 0, none⟩)), (38, .slice (some ⟨b5_9, 0, none⟩) (List.length l5_9) 9), (39, .int .i64 (((List.length l5_9) : Nat) : Int)), (40, .int .i64 v0_40)] ∧ (RecsX (α := PktS) rw5_9 (some ⟨b5_9, 0, none⟩) 9 l5_9) :: (CacheA b1_3_0 v0_b1_3_0) :: (RChA b1_3_1 y1_3.2) :: Γ = ΔΔ) (64) (by kernel_rfl) [(3, .int .i64 y4_1), (9, .pointer (some ⟨b1_3_0, 0, none⟩)), (10, .pointer (some ⟨b1_3_1, 0, none⟩)), (38, .slice (some ⟨b5_9, 0, none⟩) (List.length l5_9) 9), (39, .int .i64 (((List.length l5_9) : Nat) : Int)), (40, .int .i64 0)] ⟨by kernel_rfl, by kernel_rfl, by kernel_rfl, by kernel_rfl, by kernel_rfl, by kernel_rfl, trivial⟩ ⟨64, 0, y1_3.1, H, rfl, rfl, rfl⟩ ?_
  rintro _ _ _ ⟨fuel1, v0_40, v0_b1_3_0, H, rfl, rfl, rfl⟩
  rcases fuel1 with _ | fuel1
  · exact (noneE H).elim
  rw [serveErrorsS_l0] at H
  refine aq (x := C11 [1,1,1,1,0,1,0,0,0]) (y := C11 [1,1,1,1,0,1,0,0,1]) ?_
  refine ar (id := 6) 1 ?_
  refine sp 41 (.bool (decide (v0_40 < (((List.length l5_9) : Nat) : Int)))) ?_
  refine ops_end ?_
  refine ae [(3, .int .i64 y4_1), (9, .pointer (some ⟨b1_3_0, 0, none⟩)), (10, .pointer (some ⟨b1_3_1, 0, none⟩)), (38, .slice (some ⟨b5_9, 0, none⟩) (List.length l5_9) 9), (39, .int .i64 (((List.length l5_9) : Nat) : Int)), (40, .int .i64 v0_40), (41, .bool (decide (v0_40 < (((List.length l5_9) : Nat) : Int))))] ?_
  refine at_then_normal ?_
  refine aq (x := C11 [1,1,1,1,0,1,0,0,1,0]) (y := C11 [1,1,1,1,0,1,0,0,1,1]) ?_
  rcases Bool.eq_false_or_eq_true (decide (v0_40 < (((List.length l5_9) : Nat) : Int))) with h1 | h1
  · replace H := bifT H h1
    refine at_true (t := decide (v0_40 < (((List.length l5_9) : Nat) : Int))) (x := C11 [1,1,1,1,0,1,0,0,1,0,0]) (y := C11 [1,1,1,1,0,1,0,0,1,0,1]) (o := .tmp 41) (by kernel_rfl) (by kernel_rfl) (by kernel_rfl) h1 ?_
    refine at_skip (by kernel_rfl) ?_
    refine at_then_normal ?_
    refine aq (x := C11 [1,1,1,1,0,1,0,0,1,1,0]) (y := C11 [1,1,1,1,0,1,0,0,1,1,1]) ?_
    refine at_block (i := 1) (x := C11 [1,1,1,1,0,1,0,0,1,1,0,0]) (by kernel_rfl) ?_
    refine aq (x := C11 [1,1,1,1,0,1,0,0,1,1,0,0,0]) (y := C11 [1,1,1,1,0,1,0,0,1,1,0,0,1]) ?_
    refine ar (id := 7) 4 ?_
    obtain ⟨hc7_0_0, H⟩ := chkE H
    refine rd_at (RecsX.rd (α := PktS) .here) (by have := hc7_0_0; omega) ?_
    intro bb1 oo1 ha1
    refine sr 42 (.pointer (some ⟨bb1, oo1 + (((v0_40).toNat) * 9 + 0), none⟩)) (index_at (t := 74) (sz := 9) (E := 35) (a := some ⟨b5_9, 0, none⟩) (m := (List.length l5_9)) (c := 9) (b := bb1) (off := oo1) (i := (v0_40).toNat) (tinfo 35) (fun _ => by kernel_rfl) (by kernel_rfl) (by kernel_rfl) (by kernel_rfl) ha1 (idx_cast hc7_0_0) (idx_nat hc7_0_0) rfl) ?_
    obtain ⟨x7_1, hx7_1, H⟩ := letE H
    refine rd_get (RecsX.rd (α := PktS) .here) hc7_0_0 ?_
    intro a7_1 c7_1 hrx7_1
    rw [hx7_1] at hrx7_1 ⊢
    refine sl 43 (.agg #[.int .i64 x7_1.kind, .int .i64 x7_1.src, .int .i64 x7_1.dst, .int .i64 x7_1.id, .int .i64 x7_1.line, .int .i64 x7_1.ptr, .int .i64 x7_1.state, .bool x7_1.flag, .slice a7_1 (List.length x7_1.data) c7_1]) (loadP_at (m := 9) (k := 9) (vs := [.int .i64 x7_1.kind, .int .i64 x7_1.src, .int .i64 x7_1.dst, .int .i64 x7_1.id, .int .i64 x7_1.line, .int .i64 x7_1.ptr, .int .i64 x7_1.state, .bool x7_1.flag, .slice a7_1 (List.length x7_1.data) c7_1]) (off := oo1) (i := (v0_40).toNat) (j := 0) (fun _ => by kernel_rfl) rfl rfl (fun q v hq => rd_row (j := 0 + q) (RecsX.rd (α := PktS) (.there .here)) ha1 hrx7_1 (rowP (j := 0) (m := 9) (by kernel_rfl) hq))) ?_
    refine s_step 12 (by kernel_rfl) (by kernel_rfl) (st_new (T := 35) (cells := #[.int .i64 (0), .int .i64 (0), .int .i64 (0), .int .i64 (0), .int .i64 (0), .int .i64 (0), .int .i64 (0), .bool false, .slice none 0 0]) (fun a => .pointer (some a)) (fun _ => by kernel_rfl)) ?_
    rintro _ _ ⟨b7_2, rfl, rfl⟩
    refine s_do (by kernel_rfl) (by kernel_rfl) (st_store (off := 0) (vs := [.int .i64 x7_1.kind, .int .i64 x7_1.src, .int .i64 x7_1.dst, .int .i64 x7_1.id, .int .i64 x7_1.line, .int .i64 x7_1.ptr, .int .i64 x7_1.state, .bool x7_1.flag, .slice a7_1 (List.length x7_1.data) c7_1]) (c' := #[.int .i64 x7_1.kind, .int .i64 x7_1.src, .int .i64 x7_1.dst, .int .i64 x7_1.id, .int .i64 x7_1.line, .int .i64 x7_1.ptr, .int .i64 x7_1.state, .bool x7_1.flag, .slice a7_1 (List.length x7_1.data) c7_1]) (fun _ => by kernel_rfl) .here (by kernel_rfl) (by kernel_rfl) (by kernel_rfl)) ?_
    rintro _ _ ⟨rfl, rfl⟩
    refine ops_end ?_
    refine ae [(3, .int .i64 y4_1), (9, .pointer (some ⟨b1_3_0, 0, none⟩)), (10, .pointer (some ⟨b1_3_1, 0, none⟩)), (12, .pointer (some ⟨b7_2, 0, none⟩)), (38, .slice (some ⟨b5_9, 0, none⟩) (List.length l5_9) 9), (39, .int .i64 (((List.length l5_9) : Nat) : Int)), (40, .int .i64 v0_40)] ?_
    refine at_then_normal ?_
    refine aq (x := C11 [1,1,1,1,0,1,0,0,1,1,0,0,1,0]) (y := C11 [1,1,1,1,0,1,0,0,1,1,0,0,1,1]) ?_
    refine ar (id := 8) 9 ?_
    refine sp 45 (.pointer (some ⟨b1_3_0, 0, none⟩)) ?_
    refine sl 46 (.agg #[.int .i64 x7_1.kind, .int .i64 x7_1.src, .int .i64 x7_1.dst, .int .i64 x7_1.id, .int .i64 x7_1.line, .int .i64 x7_1.ptr, .int .i64 x7_1.state, .bool x7_1.flag, .slice a7_1 (List.length x7_1.data) c7_1]) (loadN (off := 0) (vs := [.int .i64 x7_1.kind, .int .i64 x7_1.src, .int .i64 x7_1.dst, .int .i64 x7_1.id, .int .i64 x7_1.line, .int .i64 x7_1.ptr, .int .i64 x7_1.state, .bool x7_1.flag, .slice a7_1 (List.length x7_1.data) c7_1]) 9 (fun _ => by kernel_rfl) (holds_own .here) rfl (by exact ⟨rfl, rfl, rfl, rfl, rfl, rfl, rfl, rfl, rfl, trivial⟩)) ?_
    obtain ⟨y8_2, hy8_2, H⟩ := bindE H
    refine s_call 47 18 #[.pointer (some ⟨b1_3_0, 0, none⟩), .agg #[.int .i64 x7_1.kind, .int .i64 x7_1.src, .int .i64 x7_1.dst, .int .i64 x7_1.id, .int .i64 x7_1.line, .int .i64 x7_1.ptr, .int .i64 x7_1.state, .bool x7_1.flag, .slice a7_1 (List.length x7_1.data) c7_1]] (by kernel_rfl) (by kernel_rfl) (fun _ => by kernel_rfl) (Tr.conv (Γ' := (CacheA b1_3_0 v0_b1_3_0) :: (Asn.own b7_2 (.cells #[.int .i64 x7_1.kind, .int .i64 x7_1.src, .int .i64 x7_1.dst, .int .i64 x7_1.id, .int .i64 x7_1.line, .int .i64 x7_1.ptr, .int .i64 x7_1.state, .bool x7_1.flag, .slice a7_1 (List.length x7_1.data) c7_1] 35 (0, 0))) :: (ImmI a7_1 x7_1.data) :: (RecsX (α := PktS) rw5_9 (some ⟨b5_9, 0, none⟩) 9 l5_9) :: (RChA b1_3_1 y1_3.2) :: Γ) (fun w hw => (Sat.less (.take (.there (.there (.there .here))) (.take .here (.take .here (.take .here (.take .here .refl))))) hw)) (SHandleF_tr b1_3_0 v0_b1_3_0 a7_1 c7_1 x7_1 (ImmR.reads (k := 1) (.there .here)) y8_2 hy8_2)) ?_
    rintro _ _ ⟨a8_2_00, c8_2_00, rfl, rfl⟩
    refine sp 44 (.tuple #[.agg #[.int .i64 y8_2.1.kind, .int .i64 y8_2.1.src, .int .i64 y8_2.1.dst, .int .i64 y8_2.1.id, .int .i64 y8_2.1.line, .int .i64 y8_2.1.ptr, .int .i64 y8_2.1.state, .bool y8_2.1.flag, .slice a8_2_00 (List.length y8_2.1.data) c8_2_00], .int .i64 y8_2.2.1]) ?_
    refine sp 48 (.agg #[.int .i64 y8_2.1.kind, .int .i64 y8_2.1.src, .int .i64 y8_2.1.dst, .int .i64 y8_2.1.id, .int .i64 y8_2.1.line, .int .i64 y8_2.1.ptr, .int .i64 y8_2.1.state, .bool y8_2.1.flag, .slice a8_2_00 (List.length y8_2.1.data) c8_2_00]) ?_
    refine sp 49 (.int .i64 y8_2.2.1) ?_
    refine s_step 13 (by kernel_rfl) (by kernel_rfl) (st_new (T := 35) (cells := #[.int .i64 (0), .int .i64 (0), .int .i64 (0), .int .i64 (0), .int .i64 (0), .int .i64 (0), .int .i64 (0), .bool false, .slice none 0 0]) (fun a => .pointer (some a)) (fun _ => by kernel_rfl)) ?_
    rintro _ _ ⟨b8_6, rfl, rfl⟩
    refine s_do (by kernel_rfl) (by kernel_rfl) (st_store (off := 0) (vs := [.int .i64 y8_2.1.kind, .int .i64 y8_2.1.src, .int .i64 y8_2.1.dst, .int .i64 y8_2.1.id, .int .i64 y8_2.1.line, .int .i64 y8_2.1.ptr, .int .i64 y8_2.1.state, .bool y8_2.1.flag, .slice a8_2_00 (List.length y8_2.1.data) c8_2_00]) (c' := #[.int .i64 y8_2.1.kind, .int .i64 y8_2.1.src, .int .i64 y8_2.1.dst, .int .i64 y8_2.1.id, .int .i64 y8_2.1.line, .int .i64 y8_2.1.ptr, .int .i64 y8_2.1.state, .bool y8_2.1.flag, .slice a8_2_00 (List.length y8_2.1.data) c8_2_00]) (fun _ => by kernel_rfl) .here (by kernel_rfl) (by kernel_rfl) (by kernel_rfl)) ?_
    rintro _ _ ⟨rfl, rfl⟩
    refine sp 14 (.int .i64 y8_2.2.1) ?_
    refine ops_end ?_
    refine ae [(3, .int .i64 y4_1), (9, .pointer (some ⟨b1_3_0, 0, none⟩)), (10, .pointer (some ⟨b1_3_1, 0, none⟩)), (14, .int .i64 y8_2.2.1), (38, .slice (some ⟨b5_9, 0, none⟩) (List.length l5_9) 9), (39, .int .i64 (((List.length l5_9) : Nat) : Int)), (40, .int .i64 v0_40)] ?_
    refine at_then_normal ?_
    refine aq (x := C11 [1,1,1,1,0,1,0,0,1,1,0,0,1,1,0]) (y := C11 [1,1,1,1,0,1,0,0,1,1,0,0,1,1,1]) ?_
    refine ar (id := 9) 2 ?_
    refine sp 50 (.int .i64 y8_2.2.1) ?_
    refine sp 51 (.bool (!(decide (y8_2.2.1 = (1 : Int))))) ?_
    refine ops_end ?_
    refine ae [(3, .int .i64 y4_1), (9, .pointer (some ⟨b1_3_0, 0, none⟩)), (10, .pointer (some ⟨b1_3_1, 0, none⟩)), (38, .slice (some ⟨b5_9, 0, none⟩) (List.length l5_9) 9), (39, .int .i64 (((List.length l5_9) : Nat) : Int)), (40, .int .i64 v0_40), (51, .bool (!(decide (y8_2.2.1 = (1 : Int)))))] ?_
    refine at_then_normal ?_
    rcases Bool.eq_false_or_eq_true (!(decide (y8_2.2.1 = (1 : Int)))) with h2 | h2
    · replace H := bifT H h2
      refine at_true (t := !(decide (y8_2.2.1 = (1 : Int)))) (x := C11 [1,1,1,1,0,1,0,0,1,1,0,0,1,1,1,0]) (y := C11 [1,1,1,1,0,1,0,0,1,1,0,0,1,1,1,1]) (o := .tmp 51) (by kernel_rfl) (by kernel_rfl) (by kernel_rfl) h2 ?_
      refine aq (x := C11 [1,1,1,1,0,1,0,0,1,1,0,0,1,1,1,0,0]) (y := C11 [1,1,1,1,0,1,0,0,1,1,0,0,1,1,1,0,1]) ?_
      refine ar (id := 10) 1 ?_
      refine sp 8 (.bool false) ?_
      refine ops_end ?_
      refine ae [(8, .bool false)] ?_
      refine at_then_normal ?_
      refine at_ret (by kernel_rfl) ?_
      refine at_in_ret ?_
      refine at_then_ret ?_
      refine at_then_ret ?_
      refine at_in_ret ?_
      refine at_then_ret ?_
      obtain rfl := someE H
      refine at_backR [.bool false] (Γ) (rs := [.tmp 8]) (by kernel_rfl) (.cons (.tmp (by kernel_rfl)) .nil) (fun w hw => (Sat.less (.drop .here (.drop .here (.drop .here (.drop .here (.drop .here (.drop .here (.drop .here .refl))))))) hw)) ?_
      exact ⟨rfl, rfl⟩
    · replace H := bifF H h2
      refine at_false (t := !(decide (y8_2.2.1 = (1 : Int)))) (x := C11 [1,1,1,1,0,1,0,0,1,1,0,0,1,1,1,0]) (y := C11 [1,1,1,1,0,1,0,0,1,1,0,0,1,1,1,1]) (o := .tmp 51) (by kernel_rfl) (by kernel_rfl) (by kernel_rfl) h2 ?_
      refine at_skip (by kernel_rfl) ?_
      refine at_in_normal ?_
      refine at_then_normal ?_
      refine ar (id := 11) 2 ?_
      obtain ⟨hc11_0_0, H⟩ := chkE H
      refine sr 52 (.int .i64 (v0_40 + (1 : Int))) (run_eq (v := .int .i64 (IntKind.i64.wrap (v0_40 + (1 : Int)))) (fun _ => by kernel_rfl) (by rw [inR.wrap hc11_0_0])) ?_
      refine sp 40 (.int .i64 (v0_40 + (1 : Int))) ?_
      refine ops_end ?_
      refine ae [(3, .int .i64 y4_1), (9, .pointer (some ⟨b1_3_0, 0, none⟩)), (10, .pointer (some ⟨b1_3_1, 0, none⟩)), (38, .slice (some ⟨b5_9, 0, none⟩) (List.length l5_9) 9), (39, .int .i64 (((List.length l5_9) : Nat) : Int)), (40, .int .i64 (v0_40 + (1 : Int)))] ?_
      refine at_round_normal ?_
      exact at_roundR fuel1 [(3, .int .i64 y4_1), (9, .pointer (some ⟨b1_3_0, 0, none⟩)), (10, .pointer (some ⟨b1_3_1, 0, none⟩)), (38, .slice (some ⟨b5_9, 0, none⟩) (List.length l5_9) 9), (39, .int .i64 (((List.length l5_9) : Nat) : Int)), (40, .int .i64 (v0_40 + (1 : Int)))] ((RecsX (α := PktS) rw5_9 (some ⟨b5_9, 0, none⟩) 9 l5_9) :: (CacheA b1_3_0 y8_2.2.2) :: (RChA b1_3_1 y1_3.2) :: Γ) (Nat.lt_succ_self _) ⟨by kernel_rfl, by kernel_rfl, by kernel_rfl, by kernel_rfl, by kernel_rfl, by kernel_rfl, trivial⟩ (fun w hw => (Sat.less (.take (.there (.there (.there (.there (.there .here))))) (.take (.there (.there .here)) (.take (.there (.there (.there (.there .here)))) (.drop .here (.drop .here (.drop .here (.drop .here .refl))))))) hw)) ⟨fuel1, v0_40 + (1 : Int), y8_2.2.2, H, rfl, rfl, rfl⟩
  · replace H := bifF H h1
    refine at_false (t := decide (v0_40 < (((List.length l5_9) : Nat) : Int))) (x := C11 [1,1,1,1,0,1,0,0,1,0,0]) (y := C11 [1,1,1,1,0,1,0,0,1,0,1]) (o := .tmp 41) (by kernel_rfl) (by kernel_rfl) (by kernel_rfl) h1 ?_
    refine at_exit (i := 0) (by kernel_rfl) ?_
    refine at_then_exit ?_
    refine at_then_exit ?_
    rw [serveErrorsS_k0] at H
    refine ae [(3, .int .i64 y4_1), (9, .pointer (some ⟨b1_3_0, 0, none⟩)), (10, .pointer (some ⟨b1_3_1, 0, none⟩)), (38, .slice (some ⟨b5_9, 0, none⟩) (List.length l5_9) 9), (39, .int .i64 (((List.length l5_9) : Nat) : Int)), (40, .int .i64 v0_40)] ?_
    refine At.conv (Γ' := (RecsX (α := PktS) rw5_9 (some ⟨b5_9, 0, none⟩) 9 l5_9) :: (CacheA b1_3_0 v0_b1_3_0) :: (RChA b1_3_1 y1_3.2) :: Γ) (fun w hw => (Sat.less (.take .here (.take .here (.take .here .refl))) hw)) ?_
    refine at_in_here ?_
    refine at_then_normal ?_
    refine aq (x := C11 [1,1,1,1,1,0]) (y := C11 [1,1,1,1,1,1]) ?_
    refine aq (x := C11 [1,1,1,1,1,0,0]) (y := C11 [1,1,1,1,1,0,1]) ?_
    refine ar (id := 12) 1 ?_
    refine sp 15 (.int .i64 (3)) ?_
    refine ops_end ?_
    refine ae [(3, .int .i64 y4_1), (9, .pointer (some ⟨b1_3_0, 0, none⟩)), (10, .pointer (some ⟨b1_3_1, 0, none⟩)), (15, .int .i64 (3))] ?_
    refine at_then_normal ?_
    refine at_block (i := 2) (x := C11 [1,1,1,1,1,0,1,0]) (by kernel_rfl) ?_
    refine At.conv (Γ' := (CacheA b1_3_0 v0_b1_3_0) :: (RChA b1_3_1 y1_3.2) :: Γ) (fun w hw => (Sat.less (.take (.there .here) (.take (.there .here) (.drop .here .refl))) hw)) ?_
    refine at_loopR (x := C11 [1,1,1,1,1,0,1,0,0]) (fun mm ff ΔΔ => ∃ (fuel : Nat) (v1_15 : Int) (v1_b1_3_0 : CacheS), serveErrorsS_l1 y4_1 (serveErrorsS_k1 y1_3) fuel v1_15 v1_b1_3_0 = some y ∧ fuel = mm ∧ ff = [(3, .int .i64 y4_1), (9, .pointer (some ⟨b1_3_0, 0, none⟩)), (10, .pointer (some ⟨b1_3_1, 0, none⟩)), (15, .int .i64 v1_15)] ∧ (CacheA b1_3_0 v1_b1_3_0) :: (RChA b1_3_1 y1_3.2) :: Γ = ΔΔ) (64) (by kernel_rfl) [(3, .int .i64 y4_1), (9, .pointer (some ⟨b1_3_0, 0, none⟩)), (10, .pointer (some ⟨b1_3_1, 0, none⟩)), (15, .int .i64 3)] ⟨by kernel_rfl, by kernel_rfl, by kernel_rfl, by kernel_rfl, trivial⟩ ⟨64, 3, v0_b1_3_0, H, rfl, rfl, rfl⟩ ?_
    rintro _ _ _ ⟨fuel2, v1_15, v1_b1_3_0, H, rfl, rfl, rfl⟩
    rcases fuel2 with _ | fuel2
    · exact (noneE H).elim
    rw [serveErrorsS_l1] at H
    refine aq (x := C11 [1,1,1,1,1,0,1,0,0,0]) (y := C11 [1,1,1,1,1,0,1,0,0,1]) ?_
    refine aq (x := C11 [1,1,1,1,1,0,1,0,0,0,0]) (y := C11 [1,1,1,1,1,0,1,0,0,0,1]) ?_
    refine ar (id := 13) 2 ?_
    refine sp 53 (.int .i64 v1_15) ?_
    refine sp 54 (.bool (decide (v1_15 ≤ (6 : Int)))) ?_
    refine ops_end ?_
    refine ae [(3, .int .i64 y4_1), (9, .pointer (some ⟨b1_3_0, 0, none⟩)), (10, .pointer (some ⟨b1_3_1, 0, none⟩)), (15, .int .i64 v1_15), (54, .bool (decide (v1_15 ≤ (6 : Int))))] ?_
    refine at_then_normal ?_
    rcases Bool.eq_false_or_eq_true (decide (v1_15 ≤ (6 : Int))) with h3 | h3
    · replace H := bifT H h3
      refine at_true (t := decide (v1_15 ≤ (6 : Int))) (x := C11 [1,1,1,1,1,0,1,0,0,0,1,0]) (y := C11 [1,1,1,1,1,0,1,0,0,0,1,1]) (o := .tmp 54) (by kernel_rfl) (by kernel_rfl) (by kernel_rfl) h3 ?_
      refine at_skip (by kernel_rfl) ?_
      refine at_then_normal ?_
      refine aq (x := C11 [1,1,1,1,1,0,1,0,0,1,0]) (y := C11 [1,1,1,1,1,0,1,0,0,1,1]) ?_
      refine at_block (i := 3) (x := C11 [1,1,1,1,1,0,1,0,0,1,0,0]) (by kernel_rfl) ?_
      refine aq (x := C11 [1,1,1,1,1,0,1,0,0,1,0,0,0]) (y := C11 [1,1,1,1,1,0,1,0,0,1,0,0,1]) ?_
      refine ar (id := 15) 11 ?_
      refine sp 58 (.pointer (some ⟨b1_3_0, 0, none⟩)) ?_
      refine sp 59 (.int .i64 v1_15) ?_
      refine sp 60 (.int .i64 y4_1) ?_
      refine sp 61 (.agg #[.int .i64 v1_15, .int .i64 y4_1, .int .i64 (0), .int .i64 (0), .int .i64 (7), .int .i64 (0), .int .i64 (0), .bool false, .slice none 0 0]) ?_
      obtain ⟨y15_4, hy15_4, H⟩ := bindE H
      refine s_call 62 18 #[.pointer (some ⟨b1_3_0, 0, none⟩), .agg #[.int .i64 v1_15, .int .i64 y4_1, .int .i64 (0), .int .i64 (0), .int .i64 (7), .int .i64 (0), .int .i64 (0), .bool false, .slice none 0 0]] (by kernel_rfl) (by kernel_rfl) (fun _ => by kernel_rfl) (SHandleF_tr b1_3_0 v1_b1_3_0 none 0 (⟨v1_15, y4_1, 0, 0, 7, 0, 0, false, ([] : List Int)⟩ : PktS) Reads.nil y15_4 hy15_4) ?_
      rintro _ _ ⟨a15_4_00, c15_4_00, rfl, rfl⟩
      refine sp 57 (.tuple #[.agg #[.int .i64 y15_4.1.kind, .int .i64 y15_4.1.src, .int .i64 y15_4.1.dst, .int .i64 y15_4.1.id, .int .i64 y15_4.1.line, .int .i64 y15_4.1.ptr, .int .i64 y15_4.1.state, .bool y15_4.1.flag, .slice a15_4_00 (List.length y15_4.1.data) c15_4_00], .int .i64 y15_4.2.1]) ?_
      refine sp 63 (.agg #[.int .i64 y15_4.1.kind, .int .i64 y15_4.1.src, .int .i64 y15_4.1.dst, .int .i64 y15_4.1.id, .int .i64 y15_4.1.line, .int .i64 y15_4.1.ptr, .int .i64 y15_4.1.state, .bool y15_4.1.flag, .slice a15_4_00 (List.length y15_4.1.data) c15_4_00]) ?_
      refine sp 64 (.int .i64 y15_4.2.1) ?_
      refine s_step 16 (by kernel_rfl) (by kernel_rfl) (st_new (T := 35) (cells := #[.int .i64 (0), .int .i64 (0), .int .i64 (0), .int .i64 (0), .int .i64 (0), .int .i64 (0), .int .i64 (0), .bool false, .slice none 0 0]) (fun a => .pointer (some a)) (fun _ => by kernel_rfl)) ?_
      rintro _ _ ⟨b15_8, rfl, rfl⟩
      refine s_do (by kernel_rfl) (by kernel_rfl) (st_store (off := 0) (vs := [.int .i64 y15_4.1.kind, .int .i64 y15_4.1.src, .int .i64 y15_4.1.dst, .int .i64 y15_4.1.id, .int .i64 y15_4.1.line, .int .i64 y15_4.1.ptr, .int .i64 y15_4.1.state, .bool y15_4.1.flag, .slice a15_4_00 (List.length y15_4.1.data) c15_4_00]) (c' := #[.int .i64 y15_4.1.kind, .int .i64 y15_4.1.src, .int .i64 y15_4.1.dst, .int .i64 y15_4.1.id, .int .i64 y15_4.1.line, .int .i64 y15_4.1.ptr, .int .i64 y15_4.1.state, .bool y15_4.1.flag, .slice a15_4_00 (List.length y15_4.1.data) c15_4_00]) (fun _ => by kernel_rfl) .here (by kernel_rfl) (by kernel_rfl) (by kernel_rfl)) ?_
      rintro _ _ ⟨rfl, rfl⟩
      refine sp 17 (.int .i64 y15_4.2.1) ?_
      refine ops_end ?_
      refine ae [(3, .int .i64 y4_1), (9, .pointer (some ⟨b1_3_0, 0, none⟩)), (10, .pointer (some ⟨b1_3_1, 0, none⟩)), (15, .int .i64 v1_15), (17, .int .i64 y15_4.2.1)] ?_
      refine at_then_normal ?_
      refine aq (x := C11 [1,1,1,1,1,0,1,0,0,1,0,0,1,0]) (y := C11 [1,1,1,1,1,0,1,0,0,1,0,0,1,1]) ?_
      refine ar (id := 16) 2 ?_
      refine sp 65 (.int .i64 y15_4.2.1) ?_
      refine sp 66 (.bool (!(decide (y15_4.2.1 = (3 : Int))))) ?_
      refine ops_end ?_
      refine ae [(3, .int .i64 y4_1), (9, .pointer (some ⟨b1_3_0, 0, none⟩)), (10, .pointer (some ⟨b1_3_1, 0, none⟩)), (15, .int .i64 v1_15), (66, .bool (!(decide (y15_4.2.1 = (3 : Int)))))] ?_
      refine at_then_normal ?_
      rcases Bool.eq_false_or_eq_true (!(decide (y15_4.2.1 = (3 : Int)))) with h4 | h4
      · replace H := bifT H h4
        refine at_true (t := !(decide (y15_4.2.1 = (3 : Int)))) (x := C11 [1,1,1,1,1,0,1,0,0,1,0,0,1,1,0]) (y := C11 [1,1,1,1,1,0,1,0,0,1,0,0,1,1,1]) (o := .tmp 66) (by kernel_rfl) (by kernel_rfl) (by kernel_rfl) h4 ?_
        refine aq (x := C11 [1,1,1,1,1,0,1,0,0,1,0,0,1,1,0,0]) (y := C11 [1,1,1,1,1,0,1,0,0,1,0,0,1,1,0,1]) ?_
        refine ar (id := 17) 1 ?_
        refine sp 8 (.bool false) ?_
        refine ops_end ?_
        refine ae [(8, .bool false)] ?_
        refine at_then_normal ?_
        refine at_ret (by kernel_rfl) ?_
        refine at_in_ret ?_
        refine at_then_ret ?_
        refine at_then_ret ?_
        refine at_in_ret ?_
        refine at_then_ret ?_
        obtain rfl := someE H
        refine at_backR [.bool false] (Γ) (rs := [.tmp 8]) (by kernel_rfl) (.cons (.tmp (by kernel_rfl)) .nil) (fun w hw => (Sat.less (.drop .here (.drop .here (.drop .here (.drop .here .refl)))) hw)) ?_
        exact ⟨rfl, rfl⟩
      · replace H := bifF H h4
        refine at_false (t := !(decide (y15_4.2.1 = (3 : Int)))) (x := C11 [1,1,1,1,1,0,1,0,0,1,0,0,1,1,0]) (y := C11 [1,1,1,1,1,0,1,0,0,1,0,0,1,1,1]) (o := .tmp 66) (by kernel_rfl) (by kernel_rfl) (by kernel_rfl) h4 ?_
        refine at_skip (by kernel_rfl) ?_
        refine at_in_normal ?_
        refine at_then_normal ?_
        refine ar (id := 14) 3 ?_
        refine sp 55 (.int .i64 v1_15) ?_
        obtain ⟨hc14_1_0, H⟩ := chkE H
        refine sr 56 (.int .i64 (v1_15 + (1 : Int))) (run_eq (v := .int .i64 (IntKind.i64.wrap (v1_15 + (1 : Int)))) (fun _ => by kernel_rfl) (by rw [inR.wrap hc14_1_0])) ?_
        refine sp 15 (.int .i64 (v1_15 + (1 : Int))) ?_
        refine ops_end ?_
        refine ae [(3, .int .i64 y4_1), (9, .pointer (some ⟨b1_3_0, 0, none⟩)), (10, .pointer (some ⟨b1_3_1, 0, none⟩)), (15, .int .i64 (v1_15 + (1 : Int)))] ?_
        refine at_round_normal ?_
        exact at_roundR fuel2 [(3, .int .i64 y4_1), (9, .pointer (some ⟨b1_3_0, 0, none⟩)), (10, .pointer (some ⟨b1_3_1, 0, none⟩)), (15, .int .i64 (v1_15 + (1 : Int)))] ((CacheA b1_3_0 y15_4.2.2) :: (RChA b1_3_1 y1_3.2) :: Γ) (Nat.lt_succ_self _) ⟨by kernel_rfl, by kernel_rfl, by kernel_rfl, by kernel_rfl, trivial⟩ (fun w hw => (Sat.less (.take (.there (.there .here)) (.take (.there (.there .here)) (.drop .here (.drop .here .refl)))) hw)) ⟨fuel2, v1_15 + (1 : Int), y15_4.2.2, H, rfl, rfl, rfl⟩
    · replace H := bifF H h3
      refine at_false (t := decide (v1_15 ≤ (6 : Int))) (x := C11 [1,1,1,1,1,0,1,0,0,0,1,0]) (y := C11 [1,1,1,1,1,0,1,0,0,0,1,1]) (o := .tmp 54) (by kernel_rfl) (by kernel_rfl) (by kernel_rfl) h3 ?_
      refine at_exit (i := 2) (by kernel_rfl) ?_
      refine at_then_exit ?_
      refine at_then_exit ?_
      rw [serveErrorsS_k1] at H
      refine ae [(3, .int .i64 y4_1), (9, .pointer (some ⟨b1_3_0, 0, none⟩)), (10, .pointer (some ⟨b1_3_1, 0, none⟩)), (15, .int .i64 v1_15)] ?_
      refine At.conv (Γ' := (CacheA b1_3_0 v1_b1_3_0) :: (RChA b1_3_1 y1_3.2) :: Γ) (fun w hw => (Sat.less (.take .here (.take .here .refl)) hw)) ?_
      refine at_in_here ?_
      refine at_then_normal ?_
      refine aq (x := C11 [1,1,1,1,1,1,0]) (y := C11 [1,1,1,1,1,1,1]) ?_
      refine ar (id := 18) 7 ?_
      refine sp 67 (.pointer (some ⟨b1_3_0, 0, none⟩)) ?_
      refine sp 68 (.pointer (some ⟨b1_3_1, 0, none⟩)) ?_
      refine RChA.tox (.there .here) ?_
      intro x18_2_b1_3_1
      obtain ⟨y18_2, hy18_2, H⟩ := bindE H
      refine s_call 69 42 #[.pointer (some ⟨b1_3_0, 0, none⟩), .pointer (some ⟨b1_3_1, 0, none⟩)] (by kernel_rfl) (by kernel_rfl) (fun _ => by kernel_rfl) (Tr.conv (Γ' := (CacheA b1_3_0 v1_b1_3_0) :: (RChXA b1_3_1 x18_2_b1_3_1 y1_3.2) :: Γ) (fun w hw => (Sat.less (.take (.there .here) (.take .here .refl)) hw)) (SameCF_tr b1_3_0 v1_b1_3_0 b1_3_1 x18_2_b1_3_1 y1_3.2 y18_2 hy18_2)) ?_
      rintro _ _ ⟨rfl, rfl⟩
      rcases Bool.eq_false_or_eq_true (y18_2) with h5 | h5
      · replace H := bifT H h5
        refine sr 70 (.bool true) (run_eq (v := .bool (y18_2)) (fun _ => by kernel_rfl) (congrArg Value.bool h5)) ?_
        obtain ⟨y18_4, hy18_4, H⟩ := bindE H
        refine s_call 71 21 #[] (by kernel_rfl) (by kernel_rfl) (fun _ => by kernel_rfl) (W12F_tr  y18_4 hy18_4) ?_
        rintro _ _ ⟨rfl, rfl⟩
        refine sp 72 (.bool y18_4) ?_
        refine sp 8 (.bool y18_4) ?_
        refine ops_end ?_
        refine ae [(8, .bool y18_4)] ?_
        refine at_then_normal ?_
        refine at_ret (by kernel_rfl) ?_
        refine At.conv (Γ' := (RChA b1_3_1 y1_3.2) :: (CacheA b1_3_0 v1_b1_3_0) :: Γ) (fun w hw => RChXA.shut (hw.pull (.there .here))) ?_
        obtain rfl := someE H
        refine at_backR [.bool y18_4] (Γ) (rs := [.tmp 8]) (by kernel_rfl) (.cons (.tmp (by kernel_rfl)) .nil) (fun w hw => (Sat.less (.drop .here (.drop .here .refl)) hw)) ?_
        exact ⟨rfl, rfl⟩
      · replace H := bifF H h5
        refine sr 70 (.bool false) (run_eq (v := .bool (y18_2)) (fun _ => by kernel_rfl) (congrArg Value.bool h5)) ?_
        refine sa 71 ?_
        refine sp 72 (.bool false) ?_
        refine sp 8 (.bool false) ?_
        refine ops_end ?_
        refine ae [(8, .bool false)] ?_
        refine at_then_normal ?_
        refine at_ret (by kernel_rfl) ?_
        refine At.conv (Γ' := (RChA b1_3_1 y1_3.2) :: (CacheA b1_3_0 v1_b1_3_0) :: Γ) (fun w hw => RChXA.shut (hw.pull (.there .here))) ?_
        obtain rfl := someE H
        refine at_backR [.bool false] (Γ) (rs := [.tmp 8]) (by kernel_rfl) (.cons (.tmp (by kernel_rfl)) .nil) (fun w hw => (Sat.less (.drop .here (.drop .here .refl)) hw)) ?_
        exact ⟨rfl, rfl⟩
end Go.Proofs.Ytfpiolnbnfngkaa
