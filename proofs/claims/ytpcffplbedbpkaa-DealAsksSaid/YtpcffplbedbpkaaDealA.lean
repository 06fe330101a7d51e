/- What deals ask for, and which answers fit: each function does what its plain function says. -/
import Derived.Test.YtpcffplbedbpkaaSlDealLaw
import Derived.Test.YtpcffplbedbpkaaKeepA
namespace Go.Proofs.Ytpcffplbedbpkaa
open Go Go.RowKit
noncomputable def C43 (p : List Nat) : Code := codeAt (bodyOf Try.f43) p
set_option maxRecDepth 100000 in
theorem Kind_tr {W0 : World} {Γ : List Asn} (s : Int) : Tr Try.prog 43 #[.int .i64 s] W0 (Γ) (fun r Δ => r = .int .i64 (kindI s) ∧ Δ = Γ) := by
  refine Tr.enter (fn := Try.f43) (c := C43 []) (args := [.int .i64 s]) 16 Try.func43 (by kernel_rfl) (by kernel_rfl) ?_
  refine At.env [(0, .int .i64 s)] ⟨by kernel_rfl, trivial⟩ ?_
  refine at_seq (x := C43 [0]) (y := C43 [1]) (by kernel_rfl) ?_
  refine at_region (id := 0) 1 (by kernel_rfl) (by kernel_rfl) ?_
  refine s_pure 2 (.int .i64 (0)) (by kernel_rfl) (by kernel_rfl) (fun _ => by kernel_rfl) ?_
  refine ops_end ?_
  refine At.env [(0, .int .i64 s), (2, .int .i64 (0))] ⟨by kernel_rfl, by kernel_rfl, trivial⟩ ?_
  refine at_then_normal ?_
  refine at_seq (x := C43 [1, 0]) (y := C43 [1, 1]) (by kernel_rfl) ?_
  refine at_seq (x := C43 [1, 0, 0]) (y := C43 [1, 0, 1]) (by kernel_rfl) ?_
  refine at_region (id := 1) 1 (by kernel_rfl) (by kernel_rfl) ?_
  refine s_pure 3 (.int .i64 s) (by kernel_rfl) (by kernel_rfl) (fun _ => by kernel_rfl) ?_
  refine ops_end ?_
  refine At.env [(0, .int .i64 s), (2, .int .i64 (0)), (3, .int .i64 s)] ⟨by kernel_rfl, by kernel_rfl, by kernel_rfl, trivial⟩ ?_
  refine at_then_normal ?_
  refine at_block (i := 0) (x := C43 [1, 0, 1, 0]) (by kernel_rfl) ?_
  refine at_seq (x := C43 [1, 0, 1, 0, 0]) (y := C43 [1, 0, 1, 0, 1]) (by kernel_rfl) ?_
  refine at_region (id := 2) 2 (by kernel_rfl) (by kernel_rfl) ?_
  rcases Decidable.em (s = (1 : Int)) with h1 | h1
  · refine s_pure 5 (.bool true) (by kernel_rfl) (by kernel_rfl) (run_eq (v := .bool (decide (s = (1 : Int)))) (fun _ => by kernel_rfl) (congrArg Value.bool (by rw [decide_eq_true h1]))) ?_
    refine s_pure 4 (.bool true) (by kernel_rfl) (by kernel_rfl) (fun _ => by kernel_rfl) ?_
    refine ops_end ?_
    refine At.env [(0, .int .i64 s), (2, .int .i64 (0)), (3, .int .i64 s), (4, .bool true)] ⟨by kernel_rfl, by kernel_rfl, by kernel_rfl, by kernel_rfl, trivial⟩ ?_
    refine at_then_normal ?_
    refine at_true (t := true) (x := C43 [1, 0, 1, 0, 1, 0]) (y := C43 [1, 0, 1, 0, 1, 1]) (o := .tmp 4) (by kernel_rfl) (by kernel_rfl) (by kernel_rfl) rfl ?_
    refine at_seq (x := C43 [1, 0, 1, 0, 1, 0, 0]) (y := C43 [1, 0, 1, 0, 1, 0, 1]) (by kernel_rfl) ?_
    refine at_region (id := 3) 1 (by kernel_rfl) (by kernel_rfl) ?_
    refine s_pure 2 (.int .i64 (1)) (by kernel_rfl) (by kernel_rfl) (fun _ => by kernel_rfl) ?_
    refine ops_end ?_
    refine At.env [(0, .int .i64 s), (2, .int .i64 (1)), (3, .int .i64 s), (4, .bool true)] ⟨by kernel_rfl, by kernel_rfl, by kernel_rfl, by kernel_rfl, trivial⟩ ?_
    refine at_then_normal ?_
    refine at_ret (by kernel_rfl) ?_
    refine at_in_ret ?_
    refine at_then_ret ?_
    refine at_backR [.int .i64 (1)] (Γ) (rs := [.tmp 2]) (by kernel_rfl) (.cons (.tmp (by kernel_rfl)) .nil) (fun w hw => hw.less .refl) ?_
    exact ⟨congrArg (Value.int .i64) (by simp [kindI, *]), rfl⟩
  · refine s_pure 5 (.bool false) (by kernel_rfl) (by kernel_rfl) (run_eq (v := .bool (decide (s = (1 : Int)))) (fun _ => by kernel_rfl) (congrArg Value.bool (by rw [decide_eq_false h1]))) ?_
    refine s_pure 4 (.bool false) (by kernel_rfl) (by kernel_rfl) (fun _ => by kernel_rfl) ?_
    refine ops_end ?_
    refine At.env [(0, .int .i64 s), (2, .int .i64 (0)), (3, .int .i64 s), (4, .bool false)] ⟨by kernel_rfl, by kernel_rfl, by kernel_rfl, by kernel_rfl, trivial⟩ ?_
    refine at_then_normal ?_
    refine at_false (t := false) (x := C43 [1, 0, 1, 0, 1, 0]) (y := C43 [1, 0, 1, 0, 1, 1]) (o := .tmp 4) (by kernel_rfl) (by kernel_rfl) (by kernel_rfl) rfl ?_
    refine at_seq (x := C43 [1, 0, 1, 0, 1, 1, 0]) (y := C43 [1, 0, 1, 0, 1, 1, 1]) (by kernel_rfl) ?_
    refine at_region (id := 4) 2 (by kernel_rfl) (by kernel_rfl) ?_
    rcases Decidable.em (s = (2 : Int)) with h2 | h2
    · refine s_pure 7 (.bool true) (by kernel_rfl) (by kernel_rfl) (run_eq (v := .bool (decide (s = (2 : Int)))) (fun _ => by kernel_rfl) (congrArg Value.bool (by rw [decide_eq_true h2]))) ?_
      refine s_pure 6 (.bool true) (by kernel_rfl) (by kernel_rfl) (fun _ => by kernel_rfl) ?_
      refine ops_end ?_
      refine At.env [(0, .int .i64 s), (2, .int .i64 (0)), (3, .int .i64 s), (4, .bool false), (6, .bool true)] ⟨by kernel_rfl, by kernel_rfl, by kernel_rfl, by kernel_rfl, by kernel_rfl, trivial⟩ ?_
      refine at_then_normal ?_
      refine at_true (t := true) (x := C43 [1, 0, 1, 0, 1, 1, 1, 0]) (y := C43 [1, 0, 1, 0, 1, 1, 1, 1]) (o := .tmp 6) (by kernel_rfl) (by kernel_rfl) (by kernel_rfl) rfl ?_
      refine at_seq (x := C43 [1, 0, 1, 0, 1, 1, 1, 0, 0]) (y := C43 [1, 0, 1, 0, 1, 1, 1, 0, 1]) (by kernel_rfl) ?_
      refine at_region (id := 5) 1 (by kernel_rfl) (by kernel_rfl) ?_
      refine s_pure 2 (.int .i64 (3)) (by kernel_rfl) (by kernel_rfl) (fun _ => by kernel_rfl) ?_
      refine ops_end ?_
      refine At.env [(0, .int .i64 s), (2, .int .i64 (3)), (3, .int .i64 s), (4, .bool false), (6, .bool true)] ⟨by kernel_rfl, by kernel_rfl, by kernel_rfl, by kernel_rfl, by kernel_rfl, trivial⟩ ?_
      refine at_then_normal ?_
      refine at_ret (by kernel_rfl) ?_
      refine at_in_ret ?_
      refine at_then_ret ?_
      refine at_backR [.int .i64 (3)] (Γ) (rs := [.tmp 2]) (by kernel_rfl) (.cons (.tmp (by kernel_rfl)) .nil) (fun w hw => hw.less .refl) ?_
      exact ⟨congrArg (Value.int .i64) (by simp [kindI, *]), rfl⟩
    · refine s_pure 7 (.bool false) (by kernel_rfl) (by kernel_rfl) (run_eq (v := .bool (decide (s = (2 : Int)))) (fun _ => by kernel_rfl) (congrArg Value.bool (by rw [decide_eq_false h2]))) ?_
      refine s_pure 6 (.bool false) (by kernel_rfl) (by kernel_rfl) (fun _ => by kernel_rfl) ?_
      refine ops_end ?_
      refine At.env [(0, .int .i64 s), (2, .int .i64 (0)), (3, .int .i64 s), (4, .bool false), (6, .bool false)] ⟨by kernel_rfl, by kernel_rfl, by kernel_rfl, by kernel_rfl, by kernel_rfl, trivial⟩ ?_
      refine at_then_normal ?_
      refine at_false (t := false) (x := C43 [1, 0, 1, 0, 1, 1, 1, 0]) (y := C43 [1, 0, 1, 0, 1, 1, 1, 1]) (o := .tmp 6) (by kernel_rfl) (by kernel_rfl) (by kernel_rfl) rfl ?_
      refine at_seq (x := C43 [1, 0, 1, 0, 1, 1, 1, 1, 0]) (y := C43 [1, 0, 1, 0, 1, 1, 1, 1, 1]) (by kernel_rfl) ?_
      refine at_region (id := 6) 2 (by kernel_rfl) (by kernel_rfl) ?_
      rcases Decidable.em (s = (3 : Int)) with h3 | h3
      · refine s_pure 9 (.bool true) (by kernel_rfl) (by kernel_rfl) (run_eq (v := .bool (decide (s = (3 : Int)))) (fun _ => by kernel_rfl) (congrArg Value.bool (by rw [decide_eq_true h3]))) ?_
        refine s_pure 8 (.bool true) (by kernel_rfl) (by kernel_rfl) (fun _ => by kernel_rfl) ?_
        refine ops_end ?_
        refine At.env [(0, .int .i64 s), (2, .int .i64 (0)), (3, .int .i64 s), (4, .bool false), (6, .bool false), (8, .bool true)] ⟨by kernel_rfl, by kernel_rfl, by kernel_rfl, by kernel_rfl, by kernel_rfl, by kernel_rfl, trivial⟩ ?_
        refine at_then_normal ?_
        refine at_true (t := true) (x := C43 [1, 0, 1, 0, 1, 1, 1, 1, 1, 0]) (y := C43 [1, 0, 1, 0, 1, 1, 1, 1, 1, 1]) (o := .tmp 8) (by kernel_rfl) (by kernel_rfl) (by kernel_rfl) rfl ?_
        refine at_seq (x := C43 [1, 0, 1, 0, 1, 1, 1, 1, 1, 0, 0]) (y := C43 [1, 0, 1, 0, 1, 1, 1, 1, 1, 0, 1]) (by kernel_rfl) ?_
        refine at_region (id := 7) 1 (by kernel_rfl) (by kernel_rfl) ?_
        refine s_pure 2 (.int .i64 (6)) (by kernel_rfl) (by kernel_rfl) (fun _ => by kernel_rfl) ?_
        refine ops_end ?_
        refine At.env [(0, .int .i64 s), (2, .int .i64 (6)), (3, .int .i64 s), (4, .bool false), (6, .bool false), (8, .bool true)] ⟨by kernel_rfl, by kernel_rfl, by kernel_rfl, by kernel_rfl, by kernel_rfl, by kernel_rfl, trivial⟩ ?_
        refine at_then_normal ?_
        refine at_ret (by kernel_rfl) ?_
        refine at_in_ret ?_
        refine at_then_ret ?_
        refine at_backR [.int .i64 (6)] (Γ) (rs := [.tmp 2]) (by kernel_rfl) (.cons (.tmp (by kernel_rfl)) .nil) (fun w hw => hw.less .refl) ?_
        exact ⟨congrArg (Value.int .i64) (by simp [kindI, *]), rfl⟩
      · refine s_pure 9 (.bool false) (by kernel_rfl) (by kernel_rfl) (run_eq (v := .bool (decide (s = (3 : Int)))) (fun _ => by kernel_rfl) (congrArg Value.bool (by rw [decide_eq_false h3]))) ?_
        refine s_pure 8 (.bool false) (by kernel_rfl) (by kernel_rfl) (fun _ => by kernel_rfl) ?_
        refine ops_end ?_
        refine At.env [(0, .int .i64 s), (2, .int .i64 (0)), (3, .int .i64 s), (4, .bool false), (6, .bool false), (8, .bool false)] ⟨by kernel_rfl, by kernel_rfl, by kernel_rfl, by kernel_rfl, by kernel_rfl, by kernel_rfl, trivial⟩ ?_
        refine at_then_normal ?_
        refine at_false (t := false) (x := C43 [1, 0, 1, 0, 1, 1, 1, 1, 1, 0]) (y := C43 [1, 0, 1, 0, 1, 1, 1, 1, 1, 1]) (o := .tmp 8) (by kernel_rfl) (by kernel_rfl) (by kernel_rfl) rfl ?_
        refine at_seq (x := C43 [1, 0, 1, 0, 1, 1, 1, 1, 1, 1, 0]) (y := C43 [1, 0, 1, 0, 1, 1, 1, 1, 1, 1, 1]) (by kernel_rfl) ?_
        refine at_region (id := 8) 2 (by kernel_rfl) (by kernel_rfl) ?_
        rcases Decidable.em (s = (4 : Int)) with h4 | h4
        · refine s_pure 11 (.bool true) (by kernel_rfl) (by kernel_rfl) (run_eq (v := .bool (decide (s = (4 : Int)))) (fun _ => by kernel_rfl) (congrArg Value.bool (by rw [decide_eq_true h4]))) ?_
          refine s_pure 10 (.bool true) (by kernel_rfl) (by kernel_rfl) (fun _ => by kernel_rfl) ?_
          refine ops_end ?_
          refine At.env [(0, .int .i64 s), (2, .int .i64 (0)), (3, .int .i64 s), (4, .bool false), (6, .bool false), (8, .bool false), (10, .bool true)] ⟨by kernel_rfl, by kernel_rfl, by kernel_rfl, by kernel_rfl, by kernel_rfl, by kernel_rfl, by kernel_rfl, trivial⟩ ?_
          refine at_then_normal ?_
          refine at_true (t := true) (x := C43 [1, 0, 1, 0, 1, 1, 1, 1, 1, 1, 1, 0]) (y := C43 [1, 0, 1, 0, 1, 1, 1, 1, 1, 1, 1, 1]) (o := .tmp 10) (by kernel_rfl) (by kernel_rfl) (by kernel_rfl) rfl ?_
          refine at_seq (x := C43 [1, 0, 1, 0, 1, 1, 1, 1, 1, 1, 1, 0, 0]) (y := C43 [1, 0, 1, 0, 1, 1, 1, 1, 1, 1, 1, 0, 1]) (by kernel_rfl) ?_
          refine at_region (id := 9) 1 (by kernel_rfl) (by kernel_rfl) ?_
          refine s_pure 2 (.int .i64 (4)) (by kernel_rfl) (by kernel_rfl) (fun _ => by kernel_rfl) ?_
          refine ops_end ?_
          refine At.env [(0, .int .i64 s), (2, .int .i64 (4)), (3, .int .i64 s), (4, .bool false), (6, .bool false), (8, .bool false), (10, .bool true)] ⟨by kernel_rfl, by kernel_rfl, by kernel_rfl, by kernel_rfl, by kernel_rfl, by kernel_rfl, by kernel_rfl, trivial⟩ ?_
          refine at_then_normal ?_
          refine at_ret (by kernel_rfl) ?_
          refine at_in_ret ?_
          refine at_then_ret ?_
          refine at_backR [.int .i64 (4)] (Γ) (rs := [.tmp 2]) (by kernel_rfl) (.cons (.tmp (by kernel_rfl)) .nil) (fun w hw => hw.less .refl) ?_
          exact ⟨congrArg (Value.int .i64) (by simp [kindI, *]), rfl⟩
        · refine s_pure 11 (.bool false) (by kernel_rfl) (by kernel_rfl) (run_eq (v := .bool (decide (s = (4 : Int)))) (fun _ => by kernel_rfl) (congrArg Value.bool (by rw [decide_eq_false h4]))) ?_
          refine s_pure 10 (.bool false) (by kernel_rfl) (by kernel_rfl) (fun _ => by kernel_rfl) ?_
          refine ops_end ?_
          refine At.env [(0, .int .i64 s), (2, .int .i64 (0)), (3, .int .i64 s), (4, .bool false), (6, .bool false), (8, .bool false), (10, .bool false)] ⟨by kernel_rfl, by kernel_rfl, by kernel_rfl, by kernel_rfl, by kernel_rfl, by kernel_rfl, by kernel_rfl, trivial⟩ ?_
          refine at_then_normal ?_
          refine at_false (t := false) (x := C43 [1, 0, 1, 0, 1, 1, 1, 1, 1, 1, 1, 0]) (y := C43 [1, 0, 1, 0, 1, 1, 1, 1, 1, 1, 1, 1]) (o := .tmp 10) (by kernel_rfl) (by kernel_rfl) (by kernel_rfl) rfl ?_
          refine at_seq (x := C43 [1, 0, 1, 0, 1, 1, 1, 1, 1, 1, 1, 1, 0]) (y := C43 [1, 0, 1, 0, 1, 1, 1, 1, 1, 1, 1, 1, 1]) (by kernel_rfl) ?_
          refine at_region (id := 10) 2 (by kernel_rfl) (by kernel_rfl) ?_
          rcases Decidable.em (s = (5 : Int)) with h5 | h5
          · refine s_pure 13 (.bool true) (by kernel_rfl) (by kernel_rfl) (run_eq (v := .bool (decide (s = (5 : Int)))) (fun _ => by kernel_rfl) (congrArg Value.bool (by rw [decide_eq_true h5]))) ?_
            refine s_pure 12 (.bool true) (by kernel_rfl) (by kernel_rfl) (fun _ => by kernel_rfl) ?_
            refine ops_end ?_
            refine At.env [(0, .int .i64 s), (2, .int .i64 (0)), (3, .int .i64 s), (4, .bool false), (6, .bool false), (8, .bool false), (10, .bool false), (12, .bool true)] ⟨by kernel_rfl, by kernel_rfl, by kernel_rfl, by kernel_rfl, by kernel_rfl, by kernel_rfl, by kernel_rfl, by kernel_rfl, trivial⟩ ?_
            refine at_then_normal ?_
            refine at_true (t := true) (x := C43 [1, 0, 1, 0, 1, 1, 1, 1, 1, 1, 1, 1, 1, 0]) (y := C43 [1, 0, 1, 0, 1, 1, 1, 1, 1, 1, 1, 1, 1, 1]) (o := .tmp 12) (by kernel_rfl) (by kernel_rfl) (by kernel_rfl) rfl ?_
            refine at_seq (x := C43 [1, 0, 1, 0, 1, 1, 1, 1, 1, 1, 1, 1, 1, 0, 0]) (y := C43 [1, 0, 1, 0, 1, 1, 1, 1, 1, 1, 1, 1, 1, 0, 1]) (by kernel_rfl) ?_
            refine at_region (id := 11) 1 (by kernel_rfl) (by kernel_rfl) ?_
            refine s_pure 2 (.int .i64 (5)) (by kernel_rfl) (by kernel_rfl) (fun _ => by kernel_rfl) ?_
            refine ops_end ?_
            refine At.env [(0, .int .i64 s), (2, .int .i64 (5)), (3, .int .i64 s), (4, .bool false), (6, .bool false), (8, .bool false), (10, .bool false), (12, .bool true)] ⟨by kernel_rfl, by kernel_rfl, by kernel_rfl, by kernel_rfl, by kernel_rfl, by kernel_rfl, by kernel_rfl, by kernel_rfl, trivial⟩ ?_
            refine at_then_normal ?_
            refine at_ret (by kernel_rfl) ?_
            refine at_in_ret ?_
            refine at_then_ret ?_
            refine at_backR [.int .i64 (5)] (Γ) (rs := [.tmp 2]) (by kernel_rfl) (.cons (.tmp (by kernel_rfl)) .nil) (fun w hw => hw.less .refl) ?_
            exact ⟨congrArg (Value.int .i64) (by simp [kindI, *]), rfl⟩
          · refine s_pure 13 (.bool false) (by kernel_rfl) (by kernel_rfl) (run_eq (v := .bool (decide (s = (5 : Int)))) (fun _ => by kernel_rfl) (congrArg Value.bool (by rw [decide_eq_false h5]))) ?_
            refine s_pure 12 (.bool false) (by kernel_rfl) (by kernel_rfl) (fun _ => by kernel_rfl) ?_
            refine ops_end ?_
            refine At.env [(0, .int .i64 s), (2, .int .i64 (0)), (3, .int .i64 s), (4, .bool false), (6, .bool false), (8, .bool false), (10, .bool false), (12, .bool false)] ⟨by kernel_rfl, by kernel_rfl, by kernel_rfl, by kernel_rfl, by kernel_rfl, by kernel_rfl, by kernel_rfl, by kernel_rfl, trivial⟩ ?_
            refine at_then_normal ?_
            refine at_false (t := false) (x := C43 [1, 0, 1, 0, 1, 1, 1, 1, 1, 1, 1, 1, 1, 0]) (y := C43 [1, 0, 1, 0, 1, 1, 1, 1, 1, 1, 1, 1, 1, 1]) (o := .tmp 12) (by kernel_rfl) (by kernel_rfl) (by kernel_rfl) rfl ?_
            refine at_seq (x := C43 [1, 0, 1, 0, 1, 1, 1, 1, 1, 1, 1, 1, 1, 1, 0]) (y := C43 [1, 0, 1, 0, 1, 1, 1, 1, 1, 1, 1, 1, 1, 1, 1]) (by kernel_rfl) ?_
            refine at_region (id := 12) 2 (by kernel_rfl) (by kernel_rfl) ?_
            rcases Decidable.em (s = (6 : Int)) with h6 | h6
            · refine s_pure 15 (.bool true) (by kernel_rfl) (by kernel_rfl) (run_eq (v := .bool (decide (s = (6 : Int)))) (fun _ => by kernel_rfl) (congrArg Value.bool (by rw [decide_eq_true h6]))) ?_
              refine s_pure 14 (.bool true) (by kernel_rfl) (by kernel_rfl) (fun _ => by kernel_rfl) ?_
              refine ops_end ?_
              refine At.env [(0, .int .i64 s), (2, .int .i64 (0)), (3, .int .i64 s), (4, .bool false), (6, .bool false), (8, .bool false), (10, .bool false), (12, .bool false), (14, .bool true)] ⟨by kernel_rfl, by kernel_rfl, by kernel_rfl, by kernel_rfl, by kernel_rfl, by kernel_rfl, by kernel_rfl, by kernel_rfl, by kernel_rfl, trivial⟩ ?_
              refine at_then_normal ?_
              refine at_true (t := true) (x := C43 [1, 0, 1, 0, 1, 1, 1, 1, 1, 1, 1, 1, 1, 1, 1, 0]) (y := C43 [1, 0, 1, 0, 1, 1, 1, 1, 1, 1, 1, 1, 1, 1, 1, 1]) (o := .tmp 14) (by kernel_rfl) (by kernel_rfl) (by kernel_rfl) rfl ?_
              refine at_seq (x := C43 [1, 0, 1, 0, 1, 1, 1, 1, 1, 1, 1, 1, 1, 1, 1, 0, 0]) (y := C43 [1, 0, 1, 0, 1, 1, 1, 1, 1, 1, 1, 1, 1, 1, 1, 0, 1]) (by kernel_rfl) ?_
              refine at_region (id := 13) 1 (by kernel_rfl) (by kernel_rfl) ?_
              refine s_pure 2 (.int .i64 (2)) (by kernel_rfl) (by kernel_rfl) (fun _ => by kernel_rfl) ?_
              refine ops_end ?_
              refine At.env [(0, .int .i64 s), (2, .int .i64 (2)), (3, .int .i64 s), (4, .bool false), (6, .bool false), (8, .bool false), (10, .bool false), (12, .bool false), (14, .bool true)] ⟨by kernel_rfl, by kernel_rfl, by kernel_rfl, by kernel_rfl, by kernel_rfl, by kernel_rfl, by kernel_rfl, by kernel_rfl, by kernel_rfl, trivial⟩ ?_
              refine at_then_normal ?_
              refine at_ret (by kernel_rfl) ?_
              refine at_in_ret ?_
              refine at_then_ret ?_
              refine at_backR [.int .i64 (2)] (Γ) (rs := [.tmp 2]) (by kernel_rfl) (.cons (.tmp (by kernel_rfl)) .nil) (fun w hw => hw.less .refl) ?_
              exact ⟨congrArg (Value.int .i64) (by simp [kindI, *]), rfl⟩
            · refine s_pure 15 (.bool false) (by kernel_rfl) (by kernel_rfl) (run_eq (v := .bool (decide (s = (6 : Int)))) (fun _ => by kernel_rfl) (congrArg Value.bool (by rw [decide_eq_false h6]))) ?_
              refine s_pure 14 (.bool false) (by kernel_rfl) (by kernel_rfl) (fun _ => by kernel_rfl) ?_
              refine ops_end ?_
              refine At.env [(0, .int .i64 s), (2, .int .i64 (0)), (3, .int .i64 s), (4, .bool false), (6, .bool false), (8, .bool false), (10, .bool false), (12, .bool false), (14, .bool false)] ⟨by kernel_rfl, by kernel_rfl, by kernel_rfl, by kernel_rfl, by kernel_rfl, by kernel_rfl, by kernel_rfl, by kernel_rfl, by kernel_rfl, trivial⟩ ?_
              refine at_then_normal ?_
              refine at_false (t := false) (x := C43 [1, 0, 1, 0, 1, 1, 1, 1, 1, 1, 1, 1, 1, 1, 1, 0]) (y := C43 [1, 0, 1, 0, 1, 1, 1, 1, 1, 1, 1, 1, 1, 1, 1, 1]) (o := .tmp 14) (by kernel_rfl) (by kernel_rfl) (by kernel_rfl) rfl ?_
              refine at_skip (by kernel_rfl) ?_
              refine at_in_normal ?_
              refine at_then_normal ?_
              refine at_seq (x := C43 [1, 1, 0]) (y := C43 [1, 1, 1]) (by kernel_rfl) ?_
              refine at_region (id := 14) 1 (by kernel_rfl) (by kernel_rfl) ?_
              refine s_pure 2 (.int .i64 (0)) (by kernel_rfl) (by kernel_rfl) (fun _ => by kernel_rfl) ?_
              refine ops_end ?_
              refine At.env [(0, .int .i64 s), (2, .int .i64 (0)), (3, .int .i64 s), (4, .bool false), (6, .bool false), (8, .bool false), (10, .bool false), (12, .bool false), (14, .bool false)] ⟨by kernel_rfl, by kernel_rfl, by kernel_rfl, by kernel_rfl, by kernel_rfl, by kernel_rfl, by kernel_rfl, by kernel_rfl, by kernel_rfl, trivial⟩ ?_
              refine at_then_normal ?_
              refine at_ret (by kernel_rfl) ?_
              refine at_backR [.int .i64 (0)] (Γ) (rs := [.tmp 2]) (by kernel_rfl) (.cons (.tmp (by kernel_rfl)) .nil) (fun w hw => hw.less .refl) ?_
              exact ⟨congrArg (Value.int .i64) (by simp [kindI, *]), rfl⟩
noncomputable def C45 (p : List Nat) : Code := codeAt (bodyOf Try.f45) p
set_option maxRecDepth 100000 in
theorem Answer_tr {W0 : World} {Γ : List Asn} (k : Int) : Tr Try.prog 45 #[.int .i64 k] W0 (Γ) (fun r Δ => r = .int .i64 (answerI k) ∧ Δ = Γ) := by
  refine Tr.enter (fn := Try.f45) (c := C45 []) (args := [.int .i64 k]) 13 Try.func45 (by kernel_rfl) (by kernel_rfl) ?_
  refine At.env [(0, .int .i64 k)] ⟨by kernel_rfl, trivial⟩ ?_
  refine at_seq (x := C45 [0]) (y := C45 [1]) (by kernel_rfl) ?_
  refine at_region (id := 0) 1 (by kernel_rfl) (by kernel_rfl) ?_
  refine s_pure 2 (.int .i64 (0)) (by kernel_rfl) (by kernel_rfl) (fun _ => by kernel_rfl) ?_
  refine ops_end ?_
  refine At.env [(0, .int .i64 k), (2, .int .i64 (0))] ⟨by kernel_rfl, by kernel_rfl, trivial⟩ ?_
  refine at_then_normal ?_
  refine at_seq (x := C45 [1, 0]) (y := C45 [1, 1]) (by kernel_rfl) ?_
  refine at_seq (x := C45 [1, 0, 0]) (y := C45 [1, 0, 1]) (by kernel_rfl) ?_
  refine at_region (id := 1) 1 (by kernel_rfl) (by kernel_rfl) ?_
  refine s_pure 3 (.int .i64 k) (by kernel_rfl) (by kernel_rfl) (fun _ => by kernel_rfl) ?_
  refine ops_end ?_
  refine At.env [(0, .int .i64 k), (2, .int .i64 (0)), (3, .int .i64 k)] ⟨by kernel_rfl, by kernel_rfl, by kernel_rfl, trivial⟩ ?_
  refine at_then_normal ?_
  refine at_block (i := 0) (x := C45 [1, 0, 1, 0]) (by kernel_rfl) ?_
  refine at_seq (x := C45 [1, 0, 1, 0, 0]) (y := C45 [1, 0, 1, 0, 1]) (by kernel_rfl) ?_
  refine at_region (id := 2) 2 (by kernel_rfl) (by kernel_rfl) ?_
  rcases Decidable.em (k = (1 : Int)) with h1 | h1
  · refine s_pure 5 (.bool true) (by kernel_rfl) (by kernel_rfl) (run_eq (v := .bool (decide (k = (1 : Int)))) (fun _ => by kernel_rfl) (congrArg Value.bool (by rw [decide_eq_true h1]))) ?_
    refine s_pure 4 (.bool true) (by kernel_rfl) (by kernel_rfl) (fun _ => by kernel_rfl) ?_
    refine ops_end ?_
    refine At.env [(0, .int .i64 k), (2, .int .i64 (0)), (3, .int .i64 k), (4, .bool true)] ⟨by kernel_rfl, by kernel_rfl, by kernel_rfl, by kernel_rfl, trivial⟩ ?_
    refine at_then_normal ?_
    refine at_true (t := true) (x := C45 [1, 0, 1, 0, 1, 0]) (y := C45 [1, 0, 1, 0, 1, 1]) (o := .tmp 4) (by kernel_rfl) (by kernel_rfl) (by kernel_rfl) rfl ?_
    refine at_seq (x := C45 [1, 0, 1, 0, 1, 0, 0]) (y := C45 [1, 0, 1, 0, 1, 0, 1]) (by kernel_rfl) ?_
    refine at_region (id := 3) 1 (by kernel_rfl) (by kernel_rfl) ?_
    refine s_pure 2 (.int .i64 (7)) (by kernel_rfl) (by kernel_rfl) (fun _ => by kernel_rfl) ?_
    refine ops_end ?_
    refine At.env [(0, .int .i64 k), (2, .int .i64 (7)), (3, .int .i64 k), (4, .bool true)] ⟨by kernel_rfl, by kernel_rfl, by kernel_rfl, by kernel_rfl, trivial⟩ ?_
    refine at_then_normal ?_
    refine at_ret (by kernel_rfl) ?_
    refine at_in_ret ?_
    refine at_then_ret ?_
    refine at_backR [.int .i64 (7)] (Γ) (rs := [.tmp 2]) (by kernel_rfl) (.cons (.tmp (by kernel_rfl)) .nil) (fun w hw => hw.less .refl) ?_
    exact ⟨congrArg (Value.int .i64) (by simp [answerI, *]), rfl⟩
  · refine s_pure 5 (.bool false) (by kernel_rfl) (by kernel_rfl) (run_eq (v := .bool (decide (k = (1 : Int)))) (fun _ => by kernel_rfl) (congrArg Value.bool (by rw [decide_eq_false h1]))) ?_
    refine s_pure 4 (.bool false) (by kernel_rfl) (by kernel_rfl) (fun _ => by kernel_rfl) ?_
    refine ops_end ?_
    refine At.env [(0, .int .i64 k), (2, .int .i64 (0)), (3, .int .i64 k), (4, .bool false)] ⟨by kernel_rfl, by kernel_rfl, by kernel_rfl, by kernel_rfl, trivial⟩ ?_
    refine at_then_normal ?_
    refine at_false (t := false) (x := C45 [1, 0, 1, 0, 1, 0]) (y := C45 [1, 0, 1, 0, 1, 1]) (o := .tmp 4) (by kernel_rfl) (by kernel_rfl) (by kernel_rfl) rfl ?_
    refine at_seq (x := C45 [1, 0, 1, 0, 1, 1, 0]) (y := C45 [1, 0, 1, 0, 1, 1, 1]) (by kernel_rfl) ?_
    refine at_seq (x := C45 [1, 0, 1, 0, 1, 1, 0, 0]) (y := C45 [1, 0, 1, 0, 1, 1, 0, 1]) (by kernel_rfl) ?_
    refine at_region (id := 4) 2 (by kernel_rfl) (by kernel_rfl) ?_
    rcases Decidable.em (k = (2 : Int)) with h2 | h2
    · refine s_pure 7 (.bool true) (by kernel_rfl) (by kernel_rfl) (run_eq (v := .bool (decide (k = (2 : Int)))) (fun _ => by kernel_rfl) (congrArg Value.bool (by rw [decide_eq_true h2]))) ?_
      refine s_pure 6 (.bool true) (by kernel_rfl) (by kernel_rfl) (fun _ => by kernel_rfl) ?_
      refine ops_end ?_
      refine At.env [(0, .int .i64 k), (2, .int .i64 (0)), (3, .int .i64 k), (4, .bool false), (6, .bool true)] ⟨by kernel_rfl, by kernel_rfl, by kernel_rfl, by kernel_rfl, by kernel_rfl, trivial⟩ ?_
      refine at_then_normal ?_
      refine at_true (t := true) (x := C45 [1, 0, 1, 0, 1, 1, 0, 1, 0]) (y := C45 [1, 0, 1, 0, 1, 1, 0, 1, 1]) (o := .tmp 6) (by kernel_rfl) (by kernel_rfl) (by kernel_rfl) rfl ?_
      refine at_skip (by kernel_rfl) ?_
      refine at_then_normal ?_
      refine at_true (t := true) (x := C45 [1, 0, 1, 0, 1, 1, 1, 0]) (y := C45 [1, 0, 1, 0, 1, 1, 1, 1]) (o := .tmp 6) (by kernel_rfl) (by kernel_rfl) (by kernel_rfl) rfl ?_
      refine at_seq (x := C45 [1, 0, 1, 0, 1, 1, 1, 0, 0]) (y := C45 [1, 0, 1, 0, 1, 1, 1, 0, 1]) (by kernel_rfl) ?_
      refine at_region (id := 7) 1 (by kernel_rfl) (by kernel_rfl) ?_
      refine s_pure 2 (.int .i64 (8)) (by kernel_rfl) (by kernel_rfl) (fun _ => by kernel_rfl) ?_
      refine ops_end ?_
      refine At.env [(0, .int .i64 k), (2, .int .i64 (8)), (3, .int .i64 k), (4, .bool false), (6, .bool true)] ⟨by kernel_rfl, by kernel_rfl, by kernel_rfl, by kernel_rfl, by kernel_rfl, trivial⟩ ?_
      refine at_then_normal ?_
      refine at_ret (by kernel_rfl) ?_
      refine at_in_ret ?_
      refine at_then_ret ?_
      refine at_backR [.int .i64 (8)] (Γ) (rs := [.tmp 2]) (by kernel_rfl) (.cons (.tmp (by kernel_rfl)) .nil) (fun w hw => hw.less .refl) ?_
      exact ⟨congrArg (Value.int .i64) (by simp [answerI, *]), rfl⟩
    · refine s_pure 7 (.bool false) (by kernel_rfl) (by kernel_rfl) (run_eq (v := .bool (decide (k = (2 : Int)))) (fun _ => by kernel_rfl) (congrArg Value.bool (by rw [decide_eq_false h2]))) ?_
      refine s_pure 6 (.bool false) (by kernel_rfl) (by kernel_rfl) (fun _ => by kernel_rfl) ?_
      refine ops_end ?_
      refine At.env [(0, .int .i64 k), (2, .int .i64 (0)), (3, .int .i64 k), (4, .bool false), (6, .bool false)] ⟨by kernel_rfl, by kernel_rfl, by kernel_rfl, by kernel_rfl, by kernel_rfl, trivial⟩ ?_
      refine at_then_normal ?_
      refine at_false (t := false) (x := C45 [1, 0, 1, 0, 1, 1, 0, 1, 0]) (y := C45 [1, 0, 1, 0, 1, 1, 0, 1, 1]) (o := .tmp 6) (by kernel_rfl) (by kernel_rfl) (by kernel_rfl) rfl ?_
      refine at_seq (x := C45 [1, 0, 1, 0, 1, 1, 0, 1, 1, 0]) (y := C45 [1, 0, 1, 0, 1, 1, 0, 1, 1, 1]) (by kernel_rfl) ?_
      refine at_region (id := 5) 2 (by kernel_rfl) (by kernel_rfl) ?_
      rcases Decidable.em (k = (4 : Int)) with h3 | h3
      · refine s_pure 8 (.bool true) (by kernel_rfl) (by kernel_rfl) (run_eq (v := .bool (decide (k = (4 : Int)))) (fun _ => by kernel_rfl) (congrArg Value.bool (by rw [decide_eq_true h3]))) ?_
        refine s_pure 6 (.bool true) (by kernel_rfl) (by kernel_rfl) (fun _ => by kernel_rfl) ?_
        refine ops_end ?_
        refine At.env [(0, .int .i64 k), (2, .int .i64 (0)), (3, .int .i64 k), (4, .bool false), (6, .bool true)] ⟨by kernel_rfl, by kernel_rfl, by kernel_rfl, by kernel_rfl, by kernel_rfl, trivial⟩ ?_
        refine at_then_normal ?_
        refine at_true (t := true) (x := C45 [1, 0, 1, 0, 1, 1, 0, 1, 1, 1, 0]) (y := C45 [1, 0, 1, 0, 1, 1, 0, 1, 1, 1, 1]) (o := .tmp 6) (by kernel_rfl) (by kernel_rfl) (by kernel_rfl) rfl ?_
        refine at_skip (by kernel_rfl) ?_
        refine at_then_normal ?_
        refine at_true (t := true) (x := C45 [1, 0, 1, 0, 1, 1, 1, 0]) (y := C45 [1, 0, 1, 0, 1, 1, 1, 1]) (o := .tmp 6) (by kernel_rfl) (by kernel_rfl) (by kernel_rfl) rfl ?_
        refine at_seq (x := C45 [1, 0, 1, 0, 1, 1, 1, 0, 0]) (y := C45 [1, 0, 1, 0, 1, 1, 1, 0, 1]) (by kernel_rfl) ?_
        refine at_region (id := 7) 1 (by kernel_rfl) (by kernel_rfl) ?_
        refine s_pure 2 (.int .i64 (8)) (by kernel_rfl) (by kernel_rfl) (fun _ => by kernel_rfl) ?_
        refine ops_end ?_
        refine At.env [(0, .int .i64 k), (2, .int .i64 (8)), (3, .int .i64 k), (4, .bool false), (6, .bool true)] ⟨by kernel_rfl, by kernel_rfl, by kernel_rfl, by kernel_rfl, by kernel_rfl, trivial⟩ ?_
        refine at_then_normal ?_
        refine at_ret (by kernel_rfl) ?_
        refine at_in_ret ?_
        refine at_then_ret ?_
        refine at_backR [.int .i64 (8)] (Γ) (rs := [.tmp 2]) (by kernel_rfl) (.cons (.tmp (by kernel_rfl)) .nil) (fun w hw => hw.less .refl) ?_
        exact ⟨congrArg (Value.int .i64) (by simp [answerI, *]), rfl⟩
      · refine s_pure 8 (.bool false) (by kernel_rfl) (by kernel_rfl) (run_eq (v := .bool (decide (k = (4 : Int)))) (fun _ => by kernel_rfl) (congrArg Value.bool (by rw [decide_eq_false h3]))) ?_
        refine s_pure 6 (.bool false) (by kernel_rfl) (by kernel_rfl) (fun _ => by kernel_rfl) ?_
        refine ops_end ?_
        refine At.env [(0, .int .i64 k), (2, .int .i64 (0)), (3, .int .i64 k), (4, .bool false), (6, .bool false)] ⟨by kernel_rfl, by kernel_rfl, by kernel_rfl, by kernel_rfl, by kernel_rfl, trivial⟩ ?_
        refine at_then_normal ?_
        refine at_false (t := false) (x := C45 [1, 0, 1, 0, 1, 1, 0, 1, 1, 1, 0]) (y := C45 [1, 0, 1, 0, 1, 1, 0, 1, 1, 1, 1]) (o := .tmp 6) (by kernel_rfl) (by kernel_rfl) (by kernel_rfl) rfl ?_
        refine at_region (id := 6) 2 (by kernel_rfl) (by kernel_rfl) ?_
        rcases Decidable.em (k = (5 : Int)) with h4 | h4
        · refine s_pure 9 (.bool true) (by kernel_rfl) (by kernel_rfl) (run_eq (v := .bool (decide (k = (5 : Int)))) (fun _ => by kernel_rfl) (congrArg Value.bool (by rw [decide_eq_true h4]))) ?_
          refine s_pure 6 (.bool true) (by kernel_rfl) (by kernel_rfl) (fun _ => by kernel_rfl) ?_
          refine ops_end ?_
          refine At.env [(0, .int .i64 k), (2, .int .i64 (0)), (3, .int .i64 k), (4, .bool false), (6, .bool true)] ⟨by kernel_rfl, by kernel_rfl, by kernel_rfl, by kernel_rfl, by kernel_rfl, trivial⟩ ?_
          refine at_then_normal ?_
          refine at_true (t := true) (x := C45 [1, 0, 1, 0, 1, 1, 1, 0]) (y := C45 [1, 0, 1, 0, 1, 1, 1, 1]) (o := .tmp 6) (by kernel_rfl) (by kernel_rfl) (by kernel_rfl) rfl ?_
          refine at_seq (x := C45 [1, 0, 1, 0, 1, 1, 1, 0, 0]) (y := C45 [1, 0, 1, 0, 1, 1, 1, 0, 1]) (by kernel_rfl) ?_
          refine at_region (id := 7) 1 (by kernel_rfl) (by kernel_rfl) ?_
          refine s_pure 2 (.int .i64 (8)) (by kernel_rfl) (by kernel_rfl) (fun _ => by kernel_rfl) ?_
          refine ops_end ?_
          refine At.env [(0, .int .i64 k), (2, .int .i64 (8)), (3, .int .i64 k), (4, .bool false), (6, .bool true)] ⟨by kernel_rfl, by kernel_rfl, by kernel_rfl, by kernel_rfl, by kernel_rfl, trivial⟩ ?_
          refine at_then_normal ?_
          refine at_ret (by kernel_rfl) ?_
          refine at_in_ret ?_
          refine at_then_ret ?_
          refine at_backR [.int .i64 (8)] (Γ) (rs := [.tmp 2]) (by kernel_rfl) (.cons (.tmp (by kernel_rfl)) .nil) (fun w hw => hw.less .refl) ?_
          exact ⟨congrArg (Value.int .i64) (by simp [answerI, *]), rfl⟩
        · refine s_pure 9 (.bool false) (by kernel_rfl) (by kernel_rfl) (run_eq (v := .bool (decide (k = (5 : Int)))) (fun _ => by kernel_rfl) (congrArg Value.bool (by rw [decide_eq_false h4]))) ?_
          refine s_pure 6 (.bool false) (by kernel_rfl) (by kernel_rfl) (fun _ => by kernel_rfl) ?_
          refine ops_end ?_
          refine At.env [(0, .int .i64 k), (2, .int .i64 (0)), (3, .int .i64 k), (4, .bool false), (6, .bool false)] ⟨by kernel_rfl, by kernel_rfl, by kernel_rfl, by kernel_rfl, by kernel_rfl, trivial⟩ ?_
          refine at_then_normal ?_
          refine at_false (t := false) (x := C45 [1, 0, 1, 0, 1, 1, 1, 0]) (y := C45 [1, 0, 1, 0, 1, 1, 1, 1]) (o := .tmp 6) (by kernel_rfl) (by kernel_rfl) (by kernel_rfl) rfl ?_
          refine at_seq (x := C45 [1, 0, 1, 0, 1, 1, 1, 1, 0]) (y := C45 [1, 0, 1, 0, 1, 1, 1, 1, 1]) (by kernel_rfl) ?_
          refine at_seq (x := C45 [1, 0, 1, 0, 1, 1, 1, 1, 0, 0]) (y := C45 [1, 0, 1, 0, 1, 1, 1, 1, 0, 1]) (by kernel_rfl) ?_
          refine at_region (id := 8) 2 (by kernel_rfl) (by kernel_rfl) ?_
          rcases Decidable.em (k = (3 : Int)) with h5 | h5
          · refine s_pure 11 (.bool true) (by kernel_rfl) (by kernel_rfl) (run_eq (v := .bool (decide (k = (3 : Int)))) (fun _ => by kernel_rfl) (congrArg Value.bool (by rw [decide_eq_true h5]))) ?_
            refine s_pure 10 (.bool true) (by kernel_rfl) (by kernel_rfl) (fun _ => by kernel_rfl) ?_
            refine ops_end ?_
            refine At.env [(0, .int .i64 k), (2, .int .i64 (0)), (3, .int .i64 k), (4, .bool false), (6, .bool false), (10, .bool true)] ⟨by kernel_rfl, by kernel_rfl, by kernel_rfl, by kernel_rfl, by kernel_rfl, by kernel_rfl, trivial⟩ ?_
            refine at_then_normal ?_
            refine at_true (t := true) (x := C45 [1, 0, 1, 0, 1, 1, 1, 1, 0, 1, 0]) (y := C45 [1, 0, 1, 0, 1, 1, 1, 1, 0, 1, 1]) (o := .tmp 10) (by kernel_rfl) (by kernel_rfl) (by kernel_rfl) rfl ?_
            refine at_skip (by kernel_rfl) ?_
            refine at_then_normal ?_
            refine at_true (t := true) (x := C45 [1, 0, 1, 0, 1, 1, 1, 1, 1, 0]) (y := C45 [1, 0, 1, 0, 1, 1, 1, 1, 1, 1]) (o := .tmp 10) (by kernel_rfl) (by kernel_rfl) (by kernel_rfl) rfl ?_
            refine at_seq (x := C45 [1, 0, 1, 0, 1, 1, 1, 1, 1, 0, 0]) (y := C45 [1, 0, 1, 0, 1, 1, 1, 1, 1, 0, 1]) (by kernel_rfl) ?_
            refine at_region (id := 10) 1 (by kernel_rfl) (by kernel_rfl) ?_
            refine s_pure 2 (.int .i64 (9)) (by kernel_rfl) (by kernel_rfl) (fun _ => by kernel_rfl) ?_
            refine ops_end ?_
            refine At.env [(0, .int .i64 k), (2, .int .i64 (9)), (3, .int .i64 k), (4, .bool false), (6, .bool false), (10, .bool true)] ⟨by kernel_rfl, by kernel_rfl, by kernel_rfl, by kernel_rfl, by kernel_rfl, by kernel_rfl, trivial⟩ ?_
            refine at_then_normal ?_
            refine at_ret (by kernel_rfl) ?_
            refine at_in_ret ?_
            refine at_then_ret ?_
            refine at_backR [.int .i64 (9)] (Γ) (rs := [.tmp 2]) (by kernel_rfl) (.cons (.tmp (by kernel_rfl)) .nil) (fun w hw => hw.less .refl) ?_
            exact ⟨congrArg (Value.int .i64) (by simp [answerI, *]), rfl⟩
          · refine s_pure 11 (.bool false) (by kernel_rfl) (by kernel_rfl) (run_eq (v := .bool (decide (k = (3 : Int)))) (fun _ => by kernel_rfl) (congrArg Value.bool (by rw [decide_eq_false h5]))) ?_
            refine s_pure 10 (.bool false) (by kernel_rfl) (by kernel_rfl) (fun _ => by kernel_rfl) ?_
            refine ops_end ?_
            refine At.env [(0, .int .i64 k), (2, .int .i64 (0)), (3, .int .i64 k), (4, .bool false), (6, .bool false), (10, .bool false)] ⟨by kernel_rfl, by kernel_rfl, by kernel_rfl, by kernel_rfl, by kernel_rfl, by kernel_rfl, trivial⟩ ?_
            refine at_then_normal ?_
            refine at_false (t := false) (x := C45 [1, 0, 1, 0, 1, 1, 1, 1, 0, 1, 0]) (y := C45 [1, 0, 1, 0, 1, 1, 1, 1, 0, 1, 1]) (o := .tmp 10) (by kernel_rfl) (by kernel_rfl) (by kernel_rfl) rfl ?_
            refine at_region (id := 9) 2 (by kernel_rfl) (by kernel_rfl) ?_
            rcases Decidable.em (k = (6 : Int)) with h6 | h6
            · refine s_pure 12 (.bool true) (by kernel_rfl) (by kernel_rfl) (run_eq (v := .bool (decide (k = (6 : Int)))) (fun _ => by kernel_rfl) (congrArg Value.bool (by rw [decide_eq_true h6]))) ?_
              refine s_pure 10 (.bool true) (by kernel_rfl) (by kernel_rfl) (fun _ => by kernel_rfl) ?_
              refine ops_end ?_
              refine At.env [(0, .int .i64 k), (2, .int .i64 (0)), (3, .int .i64 k), (4, .bool false), (6, .bool false), (10, .bool true)] ⟨by kernel_rfl, by kernel_rfl, by kernel_rfl, by kernel_rfl, by kernel_rfl, by kernel_rfl, trivial⟩ ?_
              refine at_then_normal ?_
              refine at_true (t := true) (x := C45 [1, 0, 1, 0, 1, 1, 1, 1, 1, 0]) (y := C45 [1, 0, 1, 0, 1, 1, 1, 1, 1, 1]) (o := .tmp 10) (by kernel_rfl) (by kernel_rfl) (by kernel_rfl) rfl ?_
              refine at_seq (x := C45 [1, 0, 1, 0, 1, 1, 1, 1, 1, 0, 0]) (y := C45 [1, 0, 1, 0, 1, 1, 1, 1, 1, 0, 1]) (by kernel_rfl) ?_
              refine at_region (id := 10) 1 (by kernel_rfl) (by kernel_rfl) ?_
              refine s_pure 2 (.int .i64 (9)) (by kernel_rfl) (by kernel_rfl) (fun _ => by kernel_rfl) ?_
              refine ops_end ?_
              refine At.env [(0, .int .i64 k), (2, .int .i64 (9)), (3, .int .i64 k), (4, .bool false), (6, .bool false), (10, .bool true)] ⟨by kernel_rfl, by kernel_rfl, by kernel_rfl, by kernel_rfl, by kernel_rfl, by kernel_rfl, trivial⟩ ?_
              refine at_then_normal ?_
              refine at_ret (by kernel_rfl) ?_
              refine at_in_ret ?_
              refine at_then_ret ?_
              refine at_backR [.int .i64 (9)] (Γ) (rs := [.tmp 2]) (by kernel_rfl) (.cons (.tmp (by kernel_rfl)) .nil) (fun w hw => hw.less .refl) ?_
              exact ⟨congrArg (Value.int .i64) (by simp [answerI, *]), rfl⟩
            · refine s_pure 12 (.bool false) (by kernel_rfl) (by kernel_rfl) (run_eq (v := .bool (decide (k = (6 : Int)))) (fun _ => by kernel_rfl) (congrArg Value.bool (by rw [decide_eq_false h6]))) ?_
              refine s_pure 10 (.bool false) (by kernel_rfl) (by kernel_rfl) (fun _ => by kernel_rfl) ?_
              refine ops_end ?_
              refine At.env [(0, .int .i64 k), (2, .int .i64 (0)), (3, .int .i64 k), (4, .bool false), (6, .bool false), (10, .bool false)] ⟨by kernel_rfl, by kernel_rfl, by kernel_rfl, by kernel_rfl, by kernel_rfl, by kernel_rfl, trivial⟩ ?_
              refine at_then_normal ?_
              refine at_false (t := false) (x := C45 [1, 0, 1, 0, 1, 1, 1, 1, 1, 0]) (y := C45 [1, 0, 1, 0, 1, 1, 1, 1, 1, 1]) (o := .tmp 10) (by kernel_rfl) (by kernel_rfl) (by kernel_rfl) rfl ?_
              refine at_skip (by kernel_rfl) ?_
              refine at_in_normal ?_
              refine at_then_normal ?_
              refine at_seq (x := C45 [1, 1, 0]) (y := C45 [1, 1, 1]) (by kernel_rfl) ?_
              refine at_region (id := 11) 1 (by kernel_rfl) (by kernel_rfl) ?_
              refine s_pure 2 (.int .i64 (0)) (by kernel_rfl) (by kernel_rfl) (fun _ => by kernel_rfl) ?_
              refine ops_end ?_
              refine At.env [(0, .int .i64 k), (2, .int .i64 (0)), (3, .int .i64 k), (4, .bool false), (6, .bool false), (10, .bool false)] ⟨by kernel_rfl, by kernel_rfl, by kernel_rfl, by kernel_rfl, by kernel_rfl, by kernel_rfl, trivial⟩ ?_
              refine at_then_normal ?_
              refine at_ret (by kernel_rfl) ?_
              refine at_backR [.int .i64 (0)] (Γ) (rs := [.tmp 2]) (by kernel_rfl) (.cons (.tmp (by kernel_rfl)) .nil) (fun w hw => hw.less .refl) ?_
              exact ⟨congrArg (Value.int .i64) (by simp [answerI, *]), rfl⟩
noncomputable def C30 (p : List Nat) : Code := codeAt (bodyOf Try.f30) p
set_option maxRecDepth 100000 in
theorem Begin_tr {W0 : World} {Γ : List Asn} (k line id : Int) : Tr Try.prog 30 #[.int .i64 k, .int .i64 line, .int .i64 id] W0 (Γ) (fun r Δ => r = .agg #[.int .i64 k, .int .i64 line, .int .i64 id, .int .i64 1, .int .i64 0, .int .i64 (-1), .slice none 0 0, .int .i64 (-1), .int .i64 (-1)] ∧ Δ = Γ) := by
  refine Tr.enter (fn := Try.f30) (c := C30 []) (args := [.int .i64 k, .int .i64 line, .int .i64 id]) 11 Try.func30 (by kernel_rfl) (by kernel_rfl) ?_
  refine At.env [(0, .int .i64 k), (1, .int .i64 line), (2, .int .i64 id)] ⟨by kernel_rfl, by kernel_rfl, by kernel_rfl, trivial⟩ ?_
  refine at_seq (x := C30 [0]) (y := C30 [1]) (by kernel_rfl) ?_
  refine at_region (id := 0) 1 (by kernel_rfl) (by kernel_rfl) ?_
  refine s_step 6 (by kernel_rfl) (by kernel_rfl) (st_new (T := 36) (cells := #[.int .i64 (0), .int .i64 (0), .int .i64 (0), .int .i64 (0), .int .i64 (0), .int .i64 (0), .slice none 0 0, .int .i64 (0), .int .i64 (0)]) (fun a => .pointer (some a)) (fun _ => by kernel_rfl)) ?_
  rintro _ _ ⟨b1, rfl, rfl⟩
  refine ops_end ?_
  refine At.env [(0, .int .i64 k), (1, .int .i64 line), (2, .int .i64 id), (6, .pointer (some ⟨b1, 0, none⟩))] ⟨by kernel_rfl, by kernel_rfl, by kernel_rfl, by kernel_rfl, trivial⟩ ?_
  refine at_then_normal ?_
  refine at_seq (x := C30 [1, 0]) (y := C30 [1, 1]) (by kernel_rfl) ?_
  refine at_region (id := 1) 5 (by kernel_rfl) (by kernel_rfl) ?_
  refine s_pure 7 (.int .i64 k) (by kernel_rfl) (by kernel_rfl) (fun _ => by kernel_rfl) ?_
  refine s_pure 8 (.int .i64 line) (by kernel_rfl) (by kernel_rfl) (fun _ => by kernel_rfl) ?_
  refine s_pure 9 (.int .i64 id) (by kernel_rfl) (by kernel_rfl) (fun _ => by kernel_rfl) ?_
  refine s_pure 10 (.agg #[.int .i64 k, .int .i64 line, .int .i64 id, .int .i64 (1), .int .i64 (0), .int .i64 (-1), .slice none 0 0, .int .i64 (-1), .int .i64 (-1)]) (by kernel_rfl) (by kernel_rfl) (fun _ => by kernel_rfl) ?_
  refine s_do (by kernel_rfl) (by kernel_rfl) (st_store (off := 0) (vs := [.int .i64 k, .int .i64 line, .int .i64 id, .int .i64 (1), .int .i64 (0), .int .i64 (-1), .slice none 0 0, .int .i64 (-1), .int .i64 (-1)]) (c' := #[.int .i64 k, .int .i64 line, .int .i64 id, .int .i64 (1), .int .i64 (0), .int .i64 (-1), .slice none 0 0, .int .i64 (-1), .int .i64 (-1)]) (fun _ => by kernel_rfl) .here (by kernel_rfl) (by kernel_rfl) (by kernel_rfl)) ?_
  rintro _ _ ⟨rfl, rfl⟩
  refine ops_end ?_
  refine At.env [(0, .int .i64 k), (1, .int .i64 line), (2, .int .i64 id), (6, .pointer (some ⟨b1, 0, none⟩))] ⟨by kernel_rfl, by kernel_rfl, by kernel_rfl, by kernel_rfl, trivial⟩ ?_
  refine at_then_normal ?_
  refine at_ret (by kernel_rfl) ?_
  refine at_backR [.agg #[.int .i64 k, .int .i64 line, .int .i64 id, .int .i64 (1), .int .i64 (0), .int .i64 (-1), .slice none 0 0, .int .i64 (-1), .int .i64 (-1)]] (Γ) (rs := [.cell 6 36]) (by kernel_rfl) (.cons (.cell (by kernel_rfl) (retN (off := 0) (vs := [.int .i64 k, .int .i64 line, .int .i64 id, .int .i64 (1), .int .i64 (0), .int .i64 (-1), .slice none 0 0, .int .i64 (-1), .int .i64 (-1)]) 9 (fun _ => by kernel_rfl) (holds_own .here) rfl (by exact ⟨rfl, rfl, rfl, rfl, rfl, rfl, rfl, rfl, rfl, trivial⟩))) .nil) (fun w hw => hw.less (.drop .here .refl)) ?_
  exact ⟨rfl, rfl⟩
noncomputable def C20 (p : List Nat) : Code := codeAt (bodyOf Try.f20) p
set_option maxRecDepth 100000 in
theorem Ask_other {W0 : World} {Γ : List Asn} (s : Int) (h1 : ¬ s = 1) (h2 : ¬ s = 2) (h3 : ¬ s = 3) (h4 : ¬ s = 4) (h5 : ¬ s = 5) (h6 : ¬ s = 6) (k line id state head next told : Int) (a : Option Addr) (m cap : Nat) (node home : Int) : Tr Try.prog 20 #[.agg #[.int .i64 k, .int .i64 line, .int .i64 id, .int .i64 s, .int .i64 state, .int .i64 head, .slice a m cap, .int .i64 next, .int .i64 told], .int .i64 node, .int .i64 home] W0 (Γ) (fun r Δ => r = .agg #[.int .i64 (0), .int .i64 0, .int .i64 0, .int .i64 0, .int .i64 0, .int .i64 (0), .int .i64 (0), .bool false, .slice none 0 0] ∧ Δ = Γ) := by
  refine Tr.enter (fn := Try.f20) (c := C20 []) (args := [.agg #[.int .i64 k, .int .i64 line, .int .i64 id, .int .i64 s, .int .i64 state, .int .i64 head, .slice a m cap, .int .i64 next, .int .i64 told], .int .i64 node, .int .i64 home]) 70 Try.func20 (by kernel_rfl) (by kernel_rfl) ?_
  refine At.env [(0, .agg #[.int .i64 k, .int .i64 line, .int .i64 id, .int .i64 s, .int .i64 state, .int .i64 head, .slice a m cap, .int .i64 next, .int .i64 told]), (1, .int .i64 node), (2, .int .i64 home)] ⟨by kernel_rfl, by kernel_rfl, by kernel_rfl, trivial⟩ ?_
  refine at_seq (x := C20 [0]) (y := C20 [1]) (by kernel_rfl) ?_
  refine at_region (id := 0) 2 (by kernel_rfl) (by kernel_rfl) ?_
  refine s_step 3 (by kernel_rfl) (by kernel_rfl) (st_new (T := 36) (cells := #[.int .i64 k, .int .i64 line, .int .i64 id, .int .i64 s, .int .i64 state, .int .i64 head, .slice a m cap, .int .i64 next, .int .i64 told]) (fun a => .pointer (some a)) (fun _ => by kernel_rfl)) ?_
  rintro _ _ ⟨b1, rfl, rfl⟩
  refine s_step 6 (by kernel_rfl) (by kernel_rfl) (st_new (T := 38) (cells := #[.int .i64 (0), .int .i64 (0), .int .i64 (0), .int .i64 (0), .int .i64 (0), .int .i64 (0), .int .i64 (0), .bool false, .slice none 0 0]) (fun a => .pointer (some a)) (fun _ => by kernel_rfl)) ?_
  rintro _ _ ⟨b2, rfl, rfl⟩
  refine ops_end ?_
  refine At.env [(0, .agg #[.int .i64 k, .int .i64 line, .int .i64 id, .int .i64 s, .int .i64 state, .int .i64 head, .slice a m cap, .int .i64 next, .int .i64 told]), (1, .int .i64 node), (2, .int .i64 home), (3, .pointer (some ⟨b1, 0, none⟩)), (6, .pointer (some ⟨b2, 0, none⟩))] ⟨by kernel_rfl, by kernel_rfl, by kernel_rfl, by kernel_rfl, by kernel_rfl, trivial⟩ ?_
  refine at_then_normal ?_
  refine at_seq (x := C20 [1, 0]) (y := C20 [1, 1]) (by kernel_rfl) ?_
  refine at_region_draw (id := 1) (by kernel_rfl) (by kernel_rfl) ?_
  refine d_pure 0 8 (.pointer (some ⟨b1, 3, none⟩)) (by kernel_rfl) (by kernel_rfl) (by kernel_rfl) (fun _ => by kernel_rfl) ?_
  refine d_load 1 9 (.int .i64 s) (by kernel_rfl) (by kernel_rfl) (by kernel_rfl) (load1 (off := 3) (fun _ => by kernel_rfl) (holds_own (.there .here)) (by kernel_rfl)) ?_
  refine d_quiet 2 10 (.int .i64 (kindI s)) 43 #[.int .i64 s] (by kernel_rfl) (by kernel_rfl) (by kernel_rfl) (fun _ => by kernel_rfl) (fun _ => (Kind_tr s)) ?_
  refine d_pure 3 11 (.int .i64 node) (by kernel_rfl) (by kernel_rfl) (by kernel_rfl) (fun _ => by kernel_rfl) ?_
  refine d_pure 4 12 (.int .i64 home) (by kernel_rfl) (by kernel_rfl) (by kernel_rfl) (fun _ => by kernel_rfl) ?_
  refine d_pure 5 13 (.pointer (some ⟨b1, 2, none⟩)) (by kernel_rfl) (by kernel_rfl) (by kernel_rfl) (fun _ => by kernel_rfl) ?_
  refine d_load 6 14 (.int .i64 id) (by kernel_rfl) (by kernel_rfl) (by kernel_rfl) (load1 (off := 2) (fun _ => by kernel_rfl) (holds_own (.there .here)) (by kernel_rfl)) ?_
  refine d_pure 7 15 (.pointer (some ⟨b1, 1, none⟩)) (by kernel_rfl) (by kernel_rfl) (by kernel_rfl) (fun _ => by kernel_rfl) ?_
  refine d_load 8 16 (.int .i64 line) (by kernel_rfl) (by kernel_rfl) (by kernel_rfl) (load1 (off := 1) (fun _ => by kernel_rfl) (holds_own (.there .here)) (by kernel_rfl)) ?_
  refine d_pure 9 17 (.agg #[.int .i64 (kindI s), .int .i64 node, .int .i64 home, .int .i64 id, .int .i64 line, .int .i64 (0), .int .i64 (0), .bool false, .slice none 0 0]) (by kernel_rfl) (by kernel_rfl) (by kernel_rfl) (fun _ => by kernel_rfl) ?_
  refine d_step 10 7 [] [9, 7, 5, 4, 3, 2, 0] [8, 6, 1] (by kernel_rfl) (by kernel_rfl) (by kernel_rfl) (st_new (T := 38) (cells := #[.int .i64 (0), .int .i64 (0), .int .i64 (0), .int .i64 (0), .int .i64 (0), .int .i64 (0), .int .i64 (0), .bool false, .slice none 0 0]) (fun a => .pointer (some a)) (fun _ => by kernel_rfl)) ?_
  rintro _ _ ⟨b3, rfl, rfl⟩
  refine ⟨(stable_cons 8 16 (.int .i64 line) (by kernel_rfl) (by kernel_rfl) (by kernel_rfl) (load1 (off := 1) (fun _ => by kernel_rfl) (holds_own (.there (.there .here))) (by kernel_rfl)) (stable_cons 6 14 (.int .i64 id) (by kernel_rfl) (by kernel_rfl) (by kernel_rfl) (load1 (off := 2) (fun _ => by kernel_rfl) (holds_own (.there (.there .here))) (by kernel_rfl)) (stable_cons 1 9 (.int .i64 s) (by kernel_rfl) (by kernel_rfl) (by kernel_rfl) (load1 (off := 3) (fun _ => by kernel_rfl) (holds_own (.there (.there .here))) (by kernel_rfl)) stable_nil))), ?_⟩
  refine d_do 11 [10, 9, 2, 0, 1, 3, 4, 5, 6, 7, 8] [] [] (by kernel_rfl) (by kernel_rfl) (by kernel_rfl) (st_store (off := 0) (vs := [.int .i64 (kindI s), .int .i64 node, .int .i64 home, .int .i64 id, .int .i64 line, .int .i64 (0), .int .i64 (0), .bool false, .slice none 0 0]) (c' := #[.int .i64 (kindI s), .int .i64 node, .int .i64 home, .int .i64 id, .int .i64 line, .int .i64 (0), .int .i64 (0), .bool false, .slice none 0 0]) (fun _ => by kernel_rfl) .here (by kernel_rfl) (by kernel_rfl) (by kernel_rfl)) ?_
  rintro _ _ ⟨rfl, rfl⟩
  refine ⟨stable_nil, ?_⟩
  refine draw_end (by kernel_rfl) ?_
  refine At.env [(0, .agg #[.int .i64 k, .int .i64 line, .int .i64 id, .int .i64 s, .int .i64 state, .int .i64 head, .slice a m cap, .int .i64 next, .int .i64 told]), (1, .int .i64 node), (2, .int .i64 home), (3, .pointer (some ⟨b1, 0, none⟩)), (6, .pointer (some ⟨b2, 0, none⟩)), (7, .pointer (some ⟨b3, 0, none⟩))] ⟨by kernel_rfl, by kernel_rfl, by kernel_rfl, by kernel_rfl, by kernel_rfl, by kernel_rfl, trivial⟩ ?_
  refine at_then_normal ?_
  refine at_seq (x := C20 [1, 1, 0]) (y := C20 [1, 1, 1]) (by kernel_rfl) ?_
  refine at_seq (x := C20 [1, 1, 0, 0]) (y := C20 [1, 1, 0, 1]) (by kernel_rfl) ?_
  refine at_region (id := 2) 2 (by kernel_rfl) (by kernel_rfl) ?_
  refine s_pure 18 (.pointer (some ⟨b1, 3, none⟩)) (by kernel_rfl) (by kernel_rfl) (fun _ => by kernel_rfl) ?_
  refine s_load 19 (.int .i64 s) (by kernel_rfl) (by kernel_rfl) (load1 (off := 3) (fun _ => by kernel_rfl) (holds_own (.there (.there .here))) (by kernel_rfl)) ?_
  refine ops_end ?_
  refine At.env [(0, .agg #[.int .i64 k, .int .i64 line, .int .i64 id, .int .i64 s, .int .i64 state, .int .i64 head, .slice a m cap, .int .i64 next, .int .i64 told]), (1, .int .i64 node), (2, .int .i64 home), (3, .pointer (some ⟨b1, 0, none⟩)), (6, .pointer (some ⟨b2, 0, none⟩)), (7, .pointer (some ⟨b3, 0, none⟩)), (19, .int .i64 s)] ⟨by kernel_rfl, by kernel_rfl, by kernel_rfl, by kernel_rfl, by kernel_rfl, by kernel_rfl, by kernel_rfl, trivial⟩ ?_
  refine at_then_normal ?_
  refine at_block (i := 0) (x := C20 [1, 1, 0, 1, 0]) (by kernel_rfl) ?_
  refine at_seq (x := C20 [1, 1, 0, 1, 0, 0]) (y := C20 [1, 1, 0, 1, 0, 1]) (by kernel_rfl) ?_
  refine at_region (id := 4) 2 (by kernel_rfl) (by kernel_rfl) ?_
  refine s_pure 22 (.bool false) (by kernel_rfl) (by kernel_rfl) (run_eq (v := .bool (decide (s = (1 : Int)))) (fun _ => by kernel_rfl) (congrArg Value.bool (by rw [decide_eq_false h1]))) ?_
  refine s_pure 21 (.bool false) (by kernel_rfl) (by kernel_rfl) (fun _ => by kernel_rfl) ?_
  refine ops_end ?_
  refine At.env [(0, .agg #[.int .i64 k, .int .i64 line, .int .i64 id, .int .i64 s, .int .i64 state, .int .i64 head, .slice a m cap, .int .i64 next, .int .i64 told]), (1, .int .i64 node), (2, .int .i64 home), (3, .pointer (some ⟨b1, 0, none⟩)), (6, .pointer (some ⟨b2, 0, none⟩)), (7, .pointer (some ⟨b3, 0, none⟩)), (19, .int .i64 s), (21, .bool false)] ⟨by kernel_rfl, by kernel_rfl, by kernel_rfl, by kernel_rfl, by kernel_rfl, by kernel_rfl, by kernel_rfl, by kernel_rfl, trivial⟩ ?_
  refine at_then_normal ?_
  refine at_false (t := false) (x := C20 [1, 1, 0, 1, 0, 1, 0]) (y := C20 [1, 1, 0, 1, 0, 1, 1]) (o := .tmp 21) (by kernel_rfl) (by kernel_rfl) (by kernel_rfl) rfl ?_
  refine at_seq (x := C20 [1, 1, 0, 1, 0, 1, 1, 0]) (y := C20 [1, 1, 0, 1, 0, 1, 1, 1]) (by kernel_rfl) ?_
  refine at_region (id := 6) 2 (by kernel_rfl) (by kernel_rfl) ?_
  refine s_pure 25 (.bool false) (by kernel_rfl) (by kernel_rfl) (run_eq (v := .bool (decide (s = (2 : Int)))) (fun _ => by kernel_rfl) (congrArg Value.bool (by rw [decide_eq_false h2]))) ?_
  refine s_pure 24 (.bool false) (by kernel_rfl) (by kernel_rfl) (fun _ => by kernel_rfl) ?_
  refine ops_end ?_
  refine At.env [(0, .agg #[.int .i64 k, .int .i64 line, .int .i64 id, .int .i64 s, .int .i64 state, .int .i64 head, .slice a m cap, .int .i64 next, .int .i64 told]), (1, .int .i64 node), (2, .int .i64 home), (3, .pointer (some ⟨b1, 0, none⟩)), (6, .pointer (some ⟨b2, 0, none⟩)), (7, .pointer (some ⟨b3, 0, none⟩)), (19, .int .i64 s), (21, .bool false), (24, .bool false)] ⟨by kernel_rfl, by kernel_rfl, by kernel_rfl, by kernel_rfl, by kernel_rfl, by kernel_rfl, by kernel_rfl, by kernel_rfl, by kernel_rfl, trivial⟩ ?_
  refine at_then_normal ?_
  refine at_false (t := false) (x := C20 [1, 1, 0, 1, 0, 1, 1, 1, 0]) (y := C20 [1, 1, 0, 1, 0, 1, 1, 1, 1]) (o := .tmp 24) (by kernel_rfl) (by kernel_rfl) (by kernel_rfl) rfl ?_
  refine at_seq (x := C20 [1, 1, 0, 1, 0, 1, 1, 1, 1, 0]) (y := C20 [1, 1, 0, 1, 0, 1, 1, 1, 1, 1]) (by kernel_rfl) ?_
  refine at_region (id := 8) 2 (by kernel_rfl) (by kernel_rfl) ?_
  refine s_pure 32 (.bool false) (by kernel_rfl) (by kernel_rfl) (run_eq (v := .bool (decide (s = (3 : Int)))) (fun _ => by kernel_rfl) (congrArg Value.bool (by rw [decide_eq_false h3]))) ?_
  refine s_pure 31 (.bool false) (by kernel_rfl) (by kernel_rfl) (fun _ => by kernel_rfl) ?_
  refine ops_end ?_
  refine At.env [(0, .agg #[.int .i64 k, .int .i64 line, .int .i64 id, .int .i64 s, .int .i64 state, .int .i64 head, .slice a m cap, .int .i64 next, .int .i64 told]), (1, .int .i64 node), (2, .int .i64 home), (3, .pointer (some ⟨b1, 0, none⟩)), (6, .pointer (some ⟨b2, 0, none⟩)), (7, .pointer (some ⟨b3, 0, none⟩)), (19, .int .i64 s), (21, .bool false), (24, .bool false), (31, .bool false)] ⟨by kernel_rfl, by kernel_rfl, by kernel_rfl, by kernel_rfl, by kernel_rfl, by kernel_rfl, by kernel_rfl, by kernel_rfl, by kernel_rfl, by kernel_rfl, trivial⟩ ?_
  refine at_then_normal ?_
  refine at_false (t := false) (x := C20 [1, 1, 0, 1, 0, 1, 1, 1, 1, 1, 0]) (y := C20 [1, 1, 0, 1, 0, 1, 1, 1, 1, 1, 1]) (o := .tmp 31) (by kernel_rfl) (by kernel_rfl) (by kernel_rfl) rfl ?_
  refine at_seq (x := C20 [1, 1, 0, 1, 0, 1, 1, 1, 1, 1, 1, 0]) (y := C20 [1, 1, 0, 1, 0, 1, 1, 1, 1, 1, 1, 1]) (by kernel_rfl) ?_
  refine at_region (id := 10) 2 (by kernel_rfl) (by kernel_rfl) ?_
  refine s_pure 37 (.bool false) (by kernel_rfl) (by kernel_rfl) (run_eq (v := .bool (decide (s = (4 : Int)))) (fun _ => by kernel_rfl) (congrArg Value.bool (by rw [decide_eq_false h4]))) ?_
  refine s_pure 36 (.bool false) (by kernel_rfl) (by kernel_rfl) (fun _ => by kernel_rfl) ?_
  refine ops_end ?_
  refine At.env [(0, .agg #[.int .i64 k, .int .i64 line, .int .i64 id, .int .i64 s, .int .i64 state, .int .i64 head, .slice a m cap, .int .i64 next, .int .i64 told]), (1, .int .i64 node), (2, .int .i64 home), (3, .pointer (some ⟨b1, 0, none⟩)), (6, .pointer (some ⟨b2, 0, none⟩)), (7, .pointer (some ⟨b3, 0, none⟩)), (19, .int .i64 s), (21, .bool false), (24, .bool false), (31, .bool false), (36, .bool false)] ⟨by kernel_rfl, by kernel_rfl, by kernel_rfl, by kernel_rfl, by kernel_rfl, by kernel_rfl, by kernel_rfl, by kernel_rfl, by kernel_rfl, by kernel_rfl, by kernel_rfl, trivial⟩ ?_
  refine at_then_normal ?_
  refine at_false (t := false) (x := C20 [1, 1, 0, 1, 0, 1, 1, 1, 1, 1, 1, 1, 0]) (y := C20 [1, 1, 0, 1, 0, 1, 1, 1, 1, 1, 1, 1, 1]) (o := .tmp 36) (by kernel_rfl) (by kernel_rfl) (by kernel_rfl) rfl ?_
  refine at_seq (x := C20 [1, 1, 0, 1, 0, 1, 1, 1, 1, 1, 1, 1, 1, 0]) (y := C20 [1, 1, 0, 1, 0, 1, 1, 1, 1, 1, 1, 1, 1, 1]) (by kernel_rfl) ?_
  refine at_region (id := 12) 2 (by kernel_rfl) (by kernel_rfl) ?_
  refine s_pure 45 (.bool false) (by kernel_rfl) (by kernel_rfl) (run_eq (v := .bool (decide (s = (5 : Int)))) (fun _ => by kernel_rfl) (congrArg Value.bool (by rw [decide_eq_false h5]))) ?_
  refine s_pure 44 (.bool false) (by kernel_rfl) (by kernel_rfl) (fun _ => by kernel_rfl) ?_
  refine ops_end ?_
  refine At.env [(0, .agg #[.int .i64 k, .int .i64 line, .int .i64 id, .int .i64 s, .int .i64 state, .int .i64 head, .slice a m cap, .int .i64 next, .int .i64 told]), (1, .int .i64 node), (2, .int .i64 home), (3, .pointer (some ⟨b1, 0, none⟩)), (6, .pointer (some ⟨b2, 0, none⟩)), (7, .pointer (some ⟨b3, 0, none⟩)), (19, .int .i64 s), (21, .bool false), (24, .bool false), (31, .bool false), (36, .bool false), (44, .bool false)] ⟨by kernel_rfl, by kernel_rfl, by kernel_rfl, by kernel_rfl, by kernel_rfl, by kernel_rfl, by kernel_rfl, by kernel_rfl, by kernel_rfl, by kernel_rfl, by kernel_rfl, by kernel_rfl, trivial⟩ ?_
  refine at_then_normal ?_
  refine at_false (t := false) (x := C20 [1, 1, 0, 1, 0, 1, 1, 1, 1, 1, 1, 1, 1, 1, 0]) (y := C20 [1, 1, 0, 1, 0, 1, 1, 1, 1, 1, 1, 1, 1, 1, 1]) (o := .tmp 44) (by kernel_rfl) (by kernel_rfl) (by kernel_rfl) rfl ?_
  refine at_seq (x := C20 [1, 1, 0, 1, 0, 1, 1, 1, 1, 1, 1, 1, 1, 1, 1, 0]) (y := C20 [1, 1, 0, 1, 0, 1, 1, 1, 1, 1, 1, 1, 1, 1, 1, 1]) (by kernel_rfl) ?_
  refine at_region (id := 14) 2 (by kernel_rfl) (by kernel_rfl) ?_
  refine s_pure 53 (.bool false) (by kernel_rfl) (by kernel_rfl) (run_eq (v := .bool (decide (s = (6 : Int)))) (fun _ => by kernel_rfl) (congrArg Value.bool (by rw [decide_eq_false h6]))) ?_
  refine s_pure 52 (.bool false) (by kernel_rfl) (by kernel_rfl) (fun _ => by kernel_rfl) ?_
  refine ops_end ?_
  refine At.env [(0, .agg #[.int .i64 k, .int .i64 line, .int .i64 id, .int .i64 s, .int .i64 state, .int .i64 head, .slice a m cap, .int .i64 next, .int .i64 told]), (1, .int .i64 node), (2, .int .i64 home), (3, .pointer (some ⟨b1, 0, none⟩)), (6, .pointer (some ⟨b2, 0, none⟩)), (7, .pointer (some ⟨b3, 0, none⟩)), (19, .int .i64 s), (21, .bool false), (24, .bool false), (31, .bool false), (36, .bool false), (44, .bool false), (52, .bool false)] ⟨by kernel_rfl, by kernel_rfl, by kernel_rfl, by kernel_rfl, by kernel_rfl, by kernel_rfl, by kernel_rfl, by kernel_rfl, by kernel_rfl, by kernel_rfl, by kernel_rfl, by kernel_rfl, by kernel_rfl, trivial⟩ ?_
  refine at_then_normal ?_
  refine at_false (t := false) (x := C20 [1, 1, 0, 1, 0, 1, 1, 1, 1, 1, 1, 1, 1, 1, 1, 1, 0]) (y := C20 [1, 1, 0, 1, 0, 1, 1, 1, 1, 1, 1, 1, 1, 1, 1, 1, 1]) (o := .tmp 52) (by kernel_rfl) (by kernel_rfl) (by kernel_rfl) rfl ?_
  refine at_seq (x := C20 [1, 1, 0, 1, 0, 1, 1, 1, 1, 1, 1, 1, 1, 1, 1, 1, 1, 0]) (y := C20 [1, 1, 0, 1, 0, 1, 1, 1, 1, 1, 1, 1, 1, 1, 1, 1, 1, 1]) (by kernel_rfl) ?_
  refine at_region (id := 3) 2 (by kernel_rfl) (by kernel_rfl) ?_
  refine s_pure 20 (.agg #[.int .i64 (0), .int .i64 (0), .int .i64 (0), .int .i64 (0), .int .i64 (0), .int .i64 (0), .int .i64 (0), .bool false, .slice none 0 0]) (by kernel_rfl) (by kernel_rfl) (fun _ => by kernel_rfl) ?_
  refine s_do (by kernel_rfl) (by kernel_rfl) (st_store (off := 0) (vs := [.int .i64 (0), .int .i64 (0), .int .i64 (0), .int .i64 (0), .int .i64 (0), .int .i64 (0), .int .i64 (0), .bool false, .slice none 0 0]) (c' := #[.int .i64 (0), .int .i64 (0), .int .i64 (0), .int .i64 (0), .int .i64 (0), .int .i64 (0), .int .i64 (0), .bool false, .slice none 0 0]) (fun _ => by kernel_rfl) (.there .here) (by kernel_rfl) (by kernel_rfl) (by kernel_rfl)) ?_
  rintro _ _ ⟨rfl, rfl⟩
  refine ops_end ?_
  refine At.env [(0, .agg #[.int .i64 k, .int .i64 line, .int .i64 id, .int .i64 s, .int .i64 state, .int .i64 head, .slice a m cap, .int .i64 next, .int .i64 told]), (1, .int .i64 node), (2, .int .i64 home), (3, .pointer (some ⟨b1, 0, none⟩)), (6, .pointer (some ⟨b2, 0, none⟩)), (7, .pointer (some ⟨b3, 0, none⟩)), (19, .int .i64 s), (21, .bool false), (24, .bool false), (31, .bool false), (36, .bool false), (44, .bool false), (52, .bool false)] ⟨by kernel_rfl, by kernel_rfl, by kernel_rfl, by kernel_rfl, by kernel_rfl, by kernel_rfl, by kernel_rfl, by kernel_rfl, by kernel_rfl, by kernel_rfl, by kernel_rfl, by kernel_rfl, by kernel_rfl, trivial⟩ ?_
  refine at_then_normal ?_
  refine at_ret (by kernel_rfl) ?_
  refine at_in_ret ?_
  refine at_then_ret ?_
  refine at_backR [.agg #[.int .i64 (0), .int .i64 (0), .int .i64 (0), .int .i64 (0), .int .i64 (0), .int .i64 (0), .int .i64 (0), .bool false, .slice none 0 0]] (Γ) (rs := [.cell 6 38]) (by kernel_rfl) (.cons (.cell (by kernel_rfl) (retN (off := 0) (vs := [.int .i64 (0), .int .i64 (0), .int .i64 (0), .int .i64 (0), .int .i64 (0), .int .i64 (0), .int .i64 (0), .bool false, .slice none 0 0]) 9 (fun _ => by kernel_rfl) (holds_own .here) rfl (by exact ⟨rfl, rfl, rfl, rfl, rfl, rfl, rfl, rfl, rfl, trivial⟩))) .nil) (fun w hw => hw.less (.drop .here (.drop .here (.drop .here .refl)))) ?_
  exact ⟨rfl, rfl⟩
set_option maxRecDepth 100000 in
theorem Ask_1 {W0 : World} {Γ : List Asn} (k line id state head next told : Int) (a : Option Addr) (m cap : Nat) (node home : Int) : Tr Try.prog 20 #[.agg #[.int .i64 k, .int .i64 line, .int .i64 id, .int .i64 (1), .int .i64 state, .int .i64 head, .slice a m cap, .int .i64 next, .int .i64 told], .int .i64 node, .int .i64 home] W0 (Γ) (fun r Δ => r = .agg #[.int .i64 (1), .int .i64 node, .int .i64 home, .int .i64 id, .int .i64 line, .int .i64 (0), .int .i64 (0), .bool false, .slice none 0 0] ∧ Δ = Γ) := by
  refine Tr.enter (fn := Try.f20) (c := C20 []) (args := [.agg #[.int .i64 k, .int .i64 line, .int .i64 id, .int .i64 (1), .int .i64 state, .int .i64 head, .slice a m cap, .int .i64 next, .int .i64 told], .int .i64 node, .int .i64 home]) 70 Try.func20 (by kernel_rfl) (by kernel_rfl) ?_
  refine At.env [(0, .agg #[.int .i64 k, .int .i64 line, .int .i64 id, .int .i64 (1), .int .i64 state, .int .i64 head, .slice a m cap, .int .i64 next, .int .i64 told]), (1, .int .i64 node), (2, .int .i64 home)] ⟨by kernel_rfl, by kernel_rfl, by kernel_rfl, trivial⟩ ?_
  refine at_seq (x := C20 [0]) (y := C20 [1]) (by kernel_rfl) ?_
  refine at_region (id := 0) 2 (by kernel_rfl) (by kernel_rfl) ?_
  refine s_step 3 (by kernel_rfl) (by kernel_rfl) (st_new (T := 36) (cells := #[.int .i64 k, .int .i64 line, .int .i64 id, .int .i64 (1), .int .i64 state, .int .i64 head, .slice a m cap, .int .i64 next, .int .i64 told]) (fun a => .pointer (some a)) (fun _ => by kernel_rfl)) ?_
  rintro _ _ ⟨b1, rfl, rfl⟩
  refine s_step 6 (by kernel_rfl) (by kernel_rfl) (st_new (T := 38) (cells := #[.int .i64 (0), .int .i64 (0), .int .i64 (0), .int .i64 (0), .int .i64 (0), .int .i64 (0), .int .i64 (0), .bool false, .slice none 0 0]) (fun a => .pointer (some a)) (fun _ => by kernel_rfl)) ?_
  rintro _ _ ⟨b2, rfl, rfl⟩
  refine ops_end ?_
  refine At.env [(0, .agg #[.int .i64 k, .int .i64 line, .int .i64 id, .int .i64 (1), .int .i64 state, .int .i64 head, .slice a m cap, .int .i64 next, .int .i64 told]), (1, .int .i64 node), (2, .int .i64 home), (3, .pointer (some ⟨b1, 0, none⟩)), (6, .pointer (some ⟨b2, 0, none⟩))] ⟨by kernel_rfl, by kernel_rfl, by kernel_rfl, by kernel_rfl, by kernel_rfl, trivial⟩ ?_
  refine at_then_normal ?_
  refine at_seq (x := C20 [1, 0]) (y := C20 [1, 1]) (by kernel_rfl) ?_
  refine at_region_draw (id := 1) (by kernel_rfl) (by kernel_rfl) ?_
  refine d_pure 0 8 (.pointer (some ⟨b1, 3, none⟩)) (by kernel_rfl) (by kernel_rfl) (by kernel_rfl) (fun _ => by kernel_rfl) ?_
  refine d_load 1 9 (.int .i64 (1)) (by kernel_rfl) (by kernel_rfl) (by kernel_rfl) (load1 (off := 3) (fun _ => by kernel_rfl) (holds_own (.there .here)) (by kernel_rfl)) ?_
  refine d_quiet 2 10 (.int .i64 (1)) 43 #[.int .i64 (1)] (by kernel_rfl) (by kernel_rfl) (by kernel_rfl) (fun _ => by kernel_rfl) (fun _ => (Tr.as (Kind_tr (1)) (show Value.int .i64 (kindI (1)) = .int .i64 (1) from by rfl))) ?_
  refine d_pure 3 11 (.int .i64 node) (by kernel_rfl) (by kernel_rfl) (by kernel_rfl) (fun _ => by kernel_rfl) ?_
  refine d_pure 4 12 (.int .i64 home) (by kernel_rfl) (by kernel_rfl) (by kernel_rfl) (fun _ => by kernel_rfl) ?_
  refine d_pure 5 13 (.pointer (some ⟨b1, 2, none⟩)) (by kernel_rfl) (by kernel_rfl) (by kernel_rfl) (fun _ => by kernel_rfl) ?_
  refine d_load 6 14 (.int .i64 id) (by kernel_rfl) (by kernel_rfl) (by kernel_rfl) (load1 (off := 2) (fun _ => by kernel_rfl) (holds_own (.there .here)) (by kernel_rfl)) ?_
  refine d_pure 7 15 (.pointer (some ⟨b1, 1, none⟩)) (by kernel_rfl) (by kernel_rfl) (by kernel_rfl) (fun _ => by kernel_rfl) ?_
  refine d_load 8 16 (.int .i64 line) (by kernel_rfl) (by kernel_rfl) (by kernel_rfl) (load1 (off := 1) (fun _ => by kernel_rfl) (holds_own (.there .here)) (by kernel_rfl)) ?_
  refine d_pure 9 17 (.agg #[.int .i64 (1), .int .i64 node, .int .i64 home, .int .i64 id, .int .i64 line, .int .i64 (0), .int .i64 (0), .bool false, .slice none 0 0]) (by kernel_rfl) (by kernel_rfl) (by kernel_rfl) (fun _ => by kernel_rfl) ?_
  refine d_step 10 7 [] [9, 7, 5, 4, 3, 2, 0] [8, 6, 1] (by kernel_rfl) (by kernel_rfl) (by kernel_rfl) (st_new (T := 38) (cells := #[.int .i64 (0), .int .i64 (0), .int .i64 (0), .int .i64 (0), .int .i64 (0), .int .i64 (0), .int .i64 (0), .bool false, .slice none 0 0]) (fun a => .pointer (some a)) (fun _ => by kernel_rfl)) ?_
  rintro _ _ ⟨b3, rfl, rfl⟩
  refine ⟨(stable_cons 8 16 (.int .i64 line) (by kernel_rfl) (by kernel_rfl) (by kernel_rfl) (load1 (off := 1) (fun _ => by kernel_rfl) (holds_own (.there (.there .here))) (by kernel_rfl)) (stable_cons 6 14 (.int .i64 id) (by kernel_rfl) (by kernel_rfl) (by kernel_rfl) (load1 (off := 2) (fun _ => by kernel_rfl) (holds_own (.there (.there .here))) (by kernel_rfl)) (stable_cons 1 9 (.int .i64 (1)) (by kernel_rfl) (by kernel_rfl) (by kernel_rfl) (load1 (off := 3) (fun _ => by kernel_rfl) (holds_own (.there (.there .here))) (by kernel_rfl)) stable_nil))), ?_⟩
  refine d_do 11 [10, 9, 2, 0, 1, 3, 4, 5, 6, 7, 8] [] [] (by kernel_rfl) (by kernel_rfl) (by kernel_rfl) (st_store (off := 0) (vs := [.int .i64 (1), .int .i64 node, .int .i64 home, .int .i64 id, .int .i64 line, .int .i64 (0), .int .i64 (0), .bool false, .slice none 0 0]) (c' := #[.int .i64 (1), .int .i64 node, .int .i64 home, .int .i64 id, .int .i64 line, .int .i64 (0), .int .i64 (0), .bool false, .slice none 0 0]) (fun _ => by kernel_rfl) .here (by kernel_rfl) (by kernel_rfl) (by kernel_rfl)) ?_
  rintro _ _ ⟨rfl, rfl⟩
  refine ⟨stable_nil, ?_⟩
  refine draw_end (by kernel_rfl) ?_
  refine At.env [(0, .agg #[.int .i64 k, .int .i64 line, .int .i64 id, .int .i64 (1), .int .i64 state, .int .i64 head, .slice a m cap, .int .i64 next, .int .i64 told]), (1, .int .i64 node), (2, .int .i64 home), (3, .pointer (some ⟨b1, 0, none⟩)), (6, .pointer (some ⟨b2, 0, none⟩)), (7, .pointer (some ⟨b3, 0, none⟩))] ⟨by kernel_rfl, by kernel_rfl, by kernel_rfl, by kernel_rfl, by kernel_rfl, by kernel_rfl, trivial⟩ ?_
  refine at_then_normal ?_
  refine at_seq (x := C20 [1, 1, 0]) (y := C20 [1, 1, 1]) (by kernel_rfl) ?_
  refine at_seq (x := C20 [1, 1, 0, 0]) (y := C20 [1, 1, 0, 1]) (by kernel_rfl) ?_
  refine at_region (id := 2) 2 (by kernel_rfl) (by kernel_rfl) ?_
  refine s_pure 18 (.pointer (some ⟨b1, 3, none⟩)) (by kernel_rfl) (by kernel_rfl) (fun _ => by kernel_rfl) ?_
  refine s_load 19 (.int .i64 (1)) (by kernel_rfl) (by kernel_rfl) (load1 (off := 3) (fun _ => by kernel_rfl) (holds_own (.there (.there .here))) (by kernel_rfl)) ?_
  refine ops_end ?_
  refine At.env [(0, .agg #[.int .i64 k, .int .i64 line, .int .i64 id, .int .i64 (1), .int .i64 state, .int .i64 head, .slice a m cap, .int .i64 next, .int .i64 told]), (1, .int .i64 node), (2, .int .i64 home), (3, .pointer (some ⟨b1, 0, none⟩)), (6, .pointer (some ⟨b2, 0, none⟩)), (7, .pointer (some ⟨b3, 0, none⟩)), (19, .int .i64 (1))] ⟨by kernel_rfl, by kernel_rfl, by kernel_rfl, by kernel_rfl, by kernel_rfl, by kernel_rfl, by kernel_rfl, trivial⟩ ?_
  refine at_then_normal ?_
  refine at_block (i := 0) (x := C20 [1, 1, 0, 1, 0]) (by kernel_rfl) ?_
  refine at_seq (x := C20 [1, 1, 0, 1, 0, 0]) (y := C20 [1, 1, 0, 1, 0, 1]) (by kernel_rfl) ?_
  refine at_region (id := 4) 2 (by kernel_rfl) (by kernel_rfl) ?_
  refine s_pure 22 (.bool true) (by kernel_rfl) (by kernel_rfl) (fun _ => by kernel_rfl) ?_
  refine s_pure 21 (.bool true) (by kernel_rfl) (by kernel_rfl) (fun _ => by kernel_rfl) ?_
  refine ops_end ?_
  refine At.env [(0, .agg #[.int .i64 k, .int .i64 line, .int .i64 id, .int .i64 (1), .int .i64 state, .int .i64 head, .slice a m cap, .int .i64 next, .int .i64 told]), (1, .int .i64 node), (2, .int .i64 home), (3, .pointer (some ⟨b1, 0, none⟩)), (6, .pointer (some ⟨b2, 0, none⟩)), (7, .pointer (some ⟨b3, 0, none⟩)), (19, .int .i64 (1)), (21, .bool true)] ⟨by kernel_rfl, by kernel_rfl, by kernel_rfl, by kernel_rfl, by kernel_rfl, by kernel_rfl, by kernel_rfl, by kernel_rfl, trivial⟩ ?_
  refine at_then_normal ?_
  refine at_true (t := true) (x := C20 [1, 1, 0, 1, 0, 1, 0]) (y := C20 [1, 1, 0, 1, 0, 1, 1]) (o := .tmp 21) (by kernel_rfl) (by kernel_rfl) (by kernel_rfl) rfl ?_
  refine at_seq (x := C20 [1, 1, 0, 1, 0, 1, 0, 0]) (y := C20 [1, 1, 0, 1, 0, 1, 0, 1]) (by kernel_rfl) ?_
  refine at_region (id := 5) 2 (by kernel_rfl) (by kernel_rfl) ?_
  refine s_load 23 (.agg #[.int .i64 (1), .int .i64 node, .int .i64 home, .int .i64 id, .int .i64 line, .int .i64 (0), .int .i64 (0), .bool false, .slice none 0 0]) (by kernel_rfl) (by kernel_rfl) (loadN (off := 0) (vs := [.int .i64 (1), .int .i64 node, .int .i64 home, .int .i64 id, .int .i64 line, .int .i64 (0), .int .i64 (0), .bool false, .slice none 0 0]) 9 (fun _ => by kernel_rfl) (holds_own .here) rfl (by exact ⟨rfl, rfl, rfl, rfl, rfl, rfl, rfl, rfl, rfl, trivial⟩)) ?_
  refine s_do (by kernel_rfl) (by kernel_rfl) (st_store (off := 0) (vs := [.int .i64 (1), .int .i64 node, .int .i64 home, .int .i64 id, .int .i64 line, .int .i64 (0), .int .i64 (0), .bool false, .slice none 0 0]) (c' := #[.int .i64 (1), .int .i64 node, .int .i64 home, .int .i64 id, .int .i64 line, .int .i64 (0), .int .i64 (0), .bool false, .slice none 0 0]) (fun _ => by kernel_rfl) (.there .here) (by kernel_rfl) (by kernel_rfl) (by kernel_rfl)) ?_
  rintro _ _ ⟨rfl, rfl⟩
  refine ops_end ?_
  refine At.env [(0, .agg #[.int .i64 k, .int .i64 line, .int .i64 id, .int .i64 (1), .int .i64 state, .int .i64 head, .slice a m cap, .int .i64 next, .int .i64 told]), (1, .int .i64 node), (2, .int .i64 home), (3, .pointer (some ⟨b1, 0, none⟩)), (6, .pointer (some ⟨b2, 0, none⟩)), (7, .pointer (some ⟨b3, 0, none⟩)), (19, .int .i64 (1)), (21, .bool true)] ⟨by kernel_rfl, by kernel_rfl, by kernel_rfl, by kernel_rfl, by kernel_rfl, by kernel_rfl, by kernel_rfl, by kernel_rfl, trivial⟩ ?_
  refine at_then_normal ?_
  refine at_ret (by kernel_rfl) ?_
  refine at_in_ret ?_
  refine at_then_ret ?_
  refine at_backR [.agg #[.int .i64 (1), .int .i64 node, .int .i64 home, .int .i64 id, .int .i64 line, .int .i64 (0), .int .i64 (0), .bool false, .slice none 0 0]] (Γ) (rs := [.cell 6 38]) (by kernel_rfl) (.cons (.cell (by kernel_rfl) (retN (off := 0) (vs := [.int .i64 (1), .int .i64 node, .int .i64 home, .int .i64 id, .int .i64 line, .int .i64 (0), .int .i64 (0), .bool false, .slice none 0 0]) 9 (fun _ => by kernel_rfl) (holds_own .here) rfl (by exact ⟨rfl, rfl, rfl, rfl, rfl, rfl, rfl, rfl, rfl, trivial⟩))) .nil) (fun w hw => hw.less (.drop .here (.drop .here (.drop .here .refl)))) ?_
  exact ⟨rfl, rfl⟩
set_option maxRecDepth 100000 in
theorem Ask_2 {W0 : World} {Γ : List Asn} (k line id state head next told : Int) (a : Option Addr) (m cap : Nat) (node home : Int) : Tr Try.prog 20 #[.agg #[.int .i64 k, .int .i64 line, .int .i64 id, .int .i64 (2), .int .i64 state, .int .i64 head, .slice a m cap, .int .i64 next, .int .i64 told], .int .i64 node, .int .i64 home] W0 (Γ) (fun r Δ => r = .agg #[.int .i64 (3), .int .i64 node, .int .i64 head, .int .i64 id, .int .i64 line, .int .i64 (node), .int .i64 (0), .bool false, .slice none 0 0] ∧ Δ = Γ) := by
  refine Tr.enter (fn := Try.f20) (c := C20 []) (args := [.agg #[.int .i64 k, .int .i64 line, .int .i64 id, .int .i64 (2), .int .i64 state, .int .i64 head, .slice a m cap, .int .i64 next, .int .i64 told], .int .i64 node, .int .i64 home]) 70 Try.func20 (by kernel_rfl) (by kernel_rfl) ?_
  refine At.env [(0, .agg #[.int .i64 k, .int .i64 line, .int .i64 id, .int .i64 (2), .int .i64 state, .int .i64 head, .slice a m cap, .int .i64 next, .int .i64 told]), (1, .int .i64 node), (2, .int .i64 home)] ⟨by kernel_rfl, by kernel_rfl, by kernel_rfl, trivial⟩ ?_
  refine at_seq (x := C20 [0]) (y := C20 [1]) (by kernel_rfl) ?_
  refine at_region (id := 0) 2 (by kernel_rfl) (by kernel_rfl) ?_
  refine s_step 3 (by kernel_rfl) (by kernel_rfl) (st_new (T := 36) (cells := #[.int .i64 k, .int .i64 line, .int .i64 id, .int .i64 (2), .int .i64 state, .int .i64 head, .slice a m cap, .int .i64 next, .int .i64 told]) (fun a => .pointer (some a)) (fun _ => by kernel_rfl)) ?_
  rintro _ _ ⟨b1, rfl, rfl⟩
  refine s_step 6 (by kernel_rfl) (by kernel_rfl) (st_new (T := 38) (cells := #[.int .i64 (0), .int .i64 (0), .int .i64 (0), .int .i64 (0), .int .i64 (0), .int .i64 (0), .int .i64 (0), .bool false, .slice none 0 0]) (fun a => .pointer (some a)) (fun _ => by kernel_rfl)) ?_
  rintro _ _ ⟨b2, rfl, rfl⟩
  refine ops_end ?_
  refine At.env [(0, .agg #[.int .i64 k, .int .i64 line, .int .i64 id, .int .i64 (2), .int .i64 state, .int .i64 head, .slice a m cap, .int .i64 next, .int .i64 told]), (1, .int .i64 node), (2, .int .i64 home), (3, .pointer (some ⟨b1, 0, none⟩)), (6, .pointer (some ⟨b2, 0, none⟩))] ⟨by kernel_rfl, by kernel_rfl, by kernel_rfl, by kernel_rfl, by kernel_rfl, trivial⟩ ?_
  refine at_then_normal ?_
  refine at_seq (x := C20 [1, 0]) (y := C20 [1, 1]) (by kernel_rfl) ?_
  refine at_region_draw (id := 1) (by kernel_rfl) (by kernel_rfl) ?_
  refine d_pure 0 8 (.pointer (some ⟨b1, 3, none⟩)) (by kernel_rfl) (by kernel_rfl) (by kernel_rfl) (fun _ => by kernel_rfl) ?_
  refine d_load 1 9 (.int .i64 (2)) (by kernel_rfl) (by kernel_rfl) (by kernel_rfl) (load1 (off := 3) (fun _ => by kernel_rfl) (holds_own (.there .here)) (by kernel_rfl)) ?_
  refine d_quiet 2 10 (.int .i64 (3)) 43 #[.int .i64 (2)] (by kernel_rfl) (by kernel_rfl) (by kernel_rfl) (fun _ => by kernel_rfl) (fun _ => (Tr.as (Kind_tr (2)) (show Value.int .i64 (kindI (2)) = .int .i64 (3) from by rfl))) ?_
  refine d_pure 3 11 (.int .i64 node) (by kernel_rfl) (by kernel_rfl) (by kernel_rfl) (fun _ => by kernel_rfl) ?_
  refine d_pure 4 12 (.int .i64 home) (by kernel_rfl) (by kernel_rfl) (by kernel_rfl) (fun _ => by kernel_rfl) ?_
  refine d_pure 5 13 (.pointer (some ⟨b1, 2, none⟩)) (by kernel_rfl) (by kernel_rfl) (by kernel_rfl) (fun _ => by kernel_rfl) ?_
  refine d_load 6 14 (.int .i64 id) (by kernel_rfl) (by kernel_rfl) (by kernel_rfl) (load1 (off := 2) (fun _ => by kernel_rfl) (holds_own (.there .here)) (by kernel_rfl)) ?_
  refine d_pure 7 15 (.pointer (some ⟨b1, 1, none⟩)) (by kernel_rfl) (by kernel_rfl) (by kernel_rfl) (fun _ => by kernel_rfl) ?_
  refine d_load 8 16 (.int .i64 line) (by kernel_rfl) (by kernel_rfl) (by kernel_rfl) (load1 (off := 1) (fun _ => by kernel_rfl) (holds_own (.there .here)) (by kernel_rfl)) ?_
  refine d_pure 9 17 (.agg #[.int .i64 (3), .int .i64 node, .int .i64 home, .int .i64 id, .int .i64 line, .int .i64 (0), .int .i64 (0), .bool false, .slice none 0 0]) (by kernel_rfl) (by kernel_rfl) (by kernel_rfl) (fun _ => by kernel_rfl) ?_
  refine d_step 10 7 [] [9, 7, 5, 4, 3, 2, 0] [8, 6, 1] (by kernel_rfl) (by kernel_rfl) (by kernel_rfl) (st_new (T := 38) (cells := #[.int .i64 (0), .int .i64 (0), .int .i64 (0), .int .i64 (0), .int .i64 (0), .int .i64 (0), .int .i64 (0), .bool false, .slice none 0 0]) (fun a => .pointer (some a)) (fun _ => by kernel_rfl)) ?_
  rintro _ _ ⟨b3, rfl, rfl⟩
  refine ⟨(stable_cons 8 16 (.int .i64 line) (by kernel_rfl) (by kernel_rfl) (by kernel_rfl) (load1 (off := 1) (fun _ => by kernel_rfl) (holds_own (.there (.there .here))) (by kernel_rfl)) (stable_cons 6 14 (.int .i64 id) (by kernel_rfl) (by kernel_rfl) (by kernel_rfl) (load1 (off := 2) (fun _ => by kernel_rfl) (holds_own (.there (.there .here))) (by kernel_rfl)) (stable_cons 1 9 (.int .i64 (2)) (by kernel_rfl) (by kernel_rfl) (by kernel_rfl) (load1 (off := 3) (fun _ => by kernel_rfl) (holds_own (.there (.there .here))) (by kernel_rfl)) stable_nil))), ?_⟩
  refine d_do 11 [10, 9, 2, 0, 1, 3, 4, 5, 6, 7, 8] [] [] (by kernel_rfl) (by kernel_rfl) (by kernel_rfl) (st_store (off := 0) (vs := [.int .i64 (3), .int .i64 node, .int .i64 home, .int .i64 id, .int .i64 line, .int .i64 (0), .int .i64 (0), .bool false, .slice none 0 0]) (c' := #[.int .i64 (3), .int .i64 node, .int .i64 home, .int .i64 id, .int .i64 line, .int .i64 (0), .int .i64 (0), .bool false, .slice none 0 0]) (fun _ => by kernel_rfl) .here (by kernel_rfl) (by kernel_rfl) (by kernel_rfl)) ?_
  rintro _ _ ⟨rfl, rfl⟩
  refine ⟨stable_nil, ?_⟩
  refine draw_end (by kernel_rfl) ?_
  refine At.env [(0, .agg #[.int .i64 k, .int .i64 line, .int .i64 id, .int .i64 (2), .int .i64 state, .int .i64 head, .slice a m cap, .int .i64 next, .int .i64 told]), (1, .int .i64 node), (2, .int .i64 home), (3, .pointer (some ⟨b1, 0, none⟩)), (6, .pointer (some ⟨b2, 0, none⟩)), (7, .pointer (some ⟨b3, 0, none⟩))] ⟨by kernel_rfl, by kernel_rfl, by kernel_rfl, by kernel_rfl, by kernel_rfl, by kernel_rfl, trivial⟩ ?_
  refine at_then_normal ?_
  refine at_seq (x := C20 [1, 1, 0]) (y := C20 [1, 1, 1]) (by kernel_rfl) ?_
  refine at_seq (x := C20 [1, 1, 0, 0]) (y := C20 [1, 1, 0, 1]) (by kernel_rfl) ?_
  refine at_region (id := 2) 2 (by kernel_rfl) (by kernel_rfl) ?_
  refine s_pure 18 (.pointer (some ⟨b1, 3, none⟩)) (by kernel_rfl) (by kernel_rfl) (fun _ => by kernel_rfl) ?_
  refine s_load 19 (.int .i64 (2)) (by kernel_rfl) (by kernel_rfl) (load1 (off := 3) (fun _ => by kernel_rfl) (holds_own (.there (.there .here))) (by kernel_rfl)) ?_
  refine ops_end ?_
  refine At.env [(0, .agg #[.int .i64 k, .int .i64 line, .int .i64 id, .int .i64 (2), .int .i64 state, .int .i64 head, .slice a m cap, .int .i64 next, .int .i64 told]), (1, .int .i64 node), (2, .int .i64 home), (3, .pointer (some ⟨b1, 0, none⟩)), (6, .pointer (some ⟨b2, 0, none⟩)), (7, .pointer (some ⟨b3, 0, none⟩)), (19, .int .i64 (2))] ⟨by kernel_rfl, by kernel_rfl, by kernel_rfl, by kernel_rfl, by kernel_rfl, by kernel_rfl, by kernel_rfl, trivial⟩ ?_
  refine at_then_normal ?_
  refine at_block (i := 0) (x := C20 [1, 1, 0, 1, 0]) (by kernel_rfl) ?_
  refine at_seq (x := C20 [1, 1, 0, 1, 0, 0]) (y := C20 [1, 1, 0, 1, 0, 1]) (by kernel_rfl) ?_
  refine at_region (id := 4) 2 (by kernel_rfl) (by kernel_rfl) ?_
  refine s_pure 22 (.bool false) (by kernel_rfl) (by kernel_rfl) (fun _ => by kernel_rfl) ?_
  refine s_pure 21 (.bool false) (by kernel_rfl) (by kernel_rfl) (fun _ => by kernel_rfl) ?_
  refine ops_end ?_
  refine At.env [(0, .agg #[.int .i64 k, .int .i64 line, .int .i64 id, .int .i64 (2), .int .i64 state, .int .i64 head, .slice a m cap, .int .i64 next, .int .i64 told]), (1, .int .i64 node), (2, .int .i64 home), (3, .pointer (some ⟨b1, 0, none⟩)), (6, .pointer (some ⟨b2, 0, none⟩)), (7, .pointer (some ⟨b3, 0, none⟩)), (19, .int .i64 (2)), (21, .bool false)] ⟨by kernel_rfl, by kernel_rfl, by kernel_rfl, by kernel_rfl, by kernel_rfl, by kernel_rfl, by kernel_rfl, by kernel_rfl, trivial⟩ ?_
  refine at_then_normal ?_
  refine at_false (t := false) (x := C20 [1, 1, 0, 1, 0, 1, 0]) (y := C20 [1, 1, 0, 1, 0, 1, 1]) (o := .tmp 21) (by kernel_rfl) (by kernel_rfl) (by kernel_rfl) rfl ?_
  refine at_seq (x := C20 [1, 1, 0, 1, 0, 1, 1, 0]) (y := C20 [1, 1, 0, 1, 0, 1, 1, 1]) (by kernel_rfl) ?_
  refine at_region (id := 6) 2 (by kernel_rfl) (by kernel_rfl) ?_
  refine s_pure 25 (.bool true) (by kernel_rfl) (by kernel_rfl) (fun _ => by kernel_rfl) ?_
  refine s_pure 24 (.bool true) (by kernel_rfl) (by kernel_rfl) (fun _ => by kernel_rfl) ?_
  refine ops_end ?_
  refine At.env [(0, .agg #[.int .i64 k, .int .i64 line, .int .i64 id, .int .i64 (2), .int .i64 state, .int .i64 head, .slice a m cap, .int .i64 next, .int .i64 told]), (1, .int .i64 node), (2, .int .i64 home), (3, .pointer (some ⟨b1, 0, none⟩)), (6, .pointer (some ⟨b2, 0, none⟩)), (7, .pointer (some ⟨b3, 0, none⟩)), (19, .int .i64 (2)), (21, .bool false), (24, .bool true)] ⟨by kernel_rfl, by kernel_rfl, by kernel_rfl, by kernel_rfl, by kernel_rfl, by kernel_rfl, by kernel_rfl, by kernel_rfl, by kernel_rfl, trivial⟩ ?_
  refine at_then_normal ?_
  refine at_true (t := true) (x := C20 [1, 1, 0, 1, 0, 1, 1, 1, 0]) (y := C20 [1, 1, 0, 1, 0, 1, 1, 1, 1]) (o := .tmp 24) (by kernel_rfl) (by kernel_rfl) (by kernel_rfl) rfl ?_
  refine at_region (id := 7) 7 (by kernel_rfl) (by kernel_rfl) ?_
  refine s_pure 26 (.pointer (some ⟨b1, 5, none⟩)) (by kernel_rfl) (by kernel_rfl) (fun _ => by kernel_rfl) ?_
  refine s_load 27 (.int .i64 head) (by kernel_rfl) (by kernel_rfl) (load1 (off := 5) (fun _ => by kernel_rfl) (holds_own (.there (.there .here))) (by kernel_rfl)) ?_
  refine s_pure 28 (.int .i64 node) (by kernel_rfl) (by kernel_rfl) (fun _ => by kernel_rfl) ?_
  refine s_pure 29 (.pointer (some ⟨b3, 2, none⟩)) (by kernel_rfl) (by kernel_rfl) (fun _ => by kernel_rfl) ?_
  refine s_do (by kernel_rfl) (by kernel_rfl) (st_store (off := 2) (vs := [.int .i64 head]) (c' := #[.int .i64 (3), .int .i64 node, .int .i64 head, .int .i64 id, .int .i64 line, .int .i64 (0), .int .i64 (0), .bool false, .slice none 0 0]) (fun _ => by kernel_rfl) .here (by kernel_rfl) (by kernel_rfl) (by kernel_rfl)) ?_
  rintro _ _ ⟨rfl, rfl⟩
  refine s_pure 30 (.pointer (some ⟨b3, 5, none⟩)) (by kernel_rfl) (by kernel_rfl) (fun _ => by kernel_rfl) ?_
  refine s_do (by kernel_rfl) (by kernel_rfl) (st_store (off := 5) (vs := [.int .i64 node]) (c' := #[.int .i64 (3), .int .i64 node, .int .i64 head, .int .i64 id, .int .i64 line, .int .i64 node, .int .i64 (0), .bool false, .slice none 0 0]) (fun _ => by kernel_rfl) .here (by kernel_rfl) (by kernel_rfl) (by kernel_rfl)) ?_
  rintro _ _ ⟨rfl, rfl⟩
  refine ops_end ?_
  refine At.env [(0, .agg #[.int .i64 k, .int .i64 line, .int .i64 id, .int .i64 (2), .int .i64 state, .int .i64 head, .slice a m cap, .int .i64 next, .int .i64 told]), (1, .int .i64 node), (2, .int .i64 home), (3, .pointer (some ⟨b1, 0, none⟩)), (6, .pointer (some ⟨b2, 0, none⟩)), (7, .pointer (some ⟨b3, 0, none⟩)), (19, .int .i64 (2)), (21, .bool false), (24, .bool true)] ⟨by kernel_rfl, by kernel_rfl, by kernel_rfl, by kernel_rfl, by kernel_rfl, by kernel_rfl, by kernel_rfl, by kernel_rfl, by kernel_rfl, trivial⟩ ?_
  refine at_in_normal ?_
  refine at_then_normal ?_
  refine at_seq (x := C20 [1, 1, 1, 0]) (y := C20 [1, 1, 1, 1]) (by kernel_rfl) ?_
  refine at_region (id := 16) 2 (by kernel_rfl) (by kernel_rfl) ?_
  refine s_load 69 (.agg #[.int .i64 (3), .int .i64 node, .int .i64 head, .int .i64 id, .int .i64 line, .int .i64 node, .int .i64 (0), .bool false, .slice none 0 0]) (by kernel_rfl) (by kernel_rfl) (loadN (off := 0) (vs := [.int .i64 (3), .int .i64 node, .int .i64 head, .int .i64 id, .int .i64 line, .int .i64 node, .int .i64 (0), .bool false, .slice none 0 0]) 9 (fun _ => by kernel_rfl) (holds_own .here) rfl (by exact ⟨rfl, rfl, rfl, rfl, rfl, rfl, rfl, rfl, rfl, trivial⟩)) ?_
  refine s_do (by kernel_rfl) (by kernel_rfl) (st_store (off := 0) (vs := [.int .i64 (3), .int .i64 node, .int .i64 head, .int .i64 id, .int .i64 line, .int .i64 node, .int .i64 (0), .bool false, .slice none 0 0]) (c' := #[.int .i64 (3), .int .i64 node, .int .i64 head, .int .i64 id, .int .i64 line, .int .i64 node, .int .i64 (0), .bool false, .slice none 0 0]) (fun _ => by kernel_rfl) (.there .here) (by kernel_rfl) (by kernel_rfl) (by kernel_rfl)) ?_
  rintro _ _ ⟨rfl, rfl⟩
  refine ops_end ?_
  refine At.env [(0, .agg #[.int .i64 k, .int .i64 line, .int .i64 id, .int .i64 (2), .int .i64 state, .int .i64 head, .slice a m cap, .int .i64 next, .int .i64 told]), (1, .int .i64 node), (2, .int .i64 home), (3, .pointer (some ⟨b1, 0, none⟩)), (6, .pointer (some ⟨b2, 0, none⟩)), (7, .pointer (some ⟨b3, 0, none⟩)), (19, .int .i64 (2)), (21, .bool false), (24, .bool true)] ⟨by kernel_rfl, by kernel_rfl, by kernel_rfl, by kernel_rfl, by kernel_rfl, by kernel_rfl, by kernel_rfl, by kernel_rfl, by kernel_rfl, trivial⟩ ?_
  refine at_then_normal ?_
  refine at_ret (by kernel_rfl) ?_
  refine at_backR [.agg #[.int .i64 (3), .int .i64 node, .int .i64 head, .int .i64 id, .int .i64 line, .int .i64 node, .int .i64 (0), .bool false, .slice none 0 0]] (Γ) (rs := [.cell 6 38]) (by kernel_rfl) (.cons (.cell (by kernel_rfl) (retN (off := 0) (vs := [.int .i64 (3), .int .i64 node, .int .i64 head, .int .i64 id, .int .i64 line, .int .i64 node, .int .i64 (0), .bool false, .slice none 0 0]) 9 (fun _ => by kernel_rfl) (holds_own .here) rfl (by exact ⟨rfl, rfl, rfl, rfl, rfl, rfl, rfl, rfl, rfl, trivial⟩))) .nil) (fun w hw => hw.less (.drop .here (.drop .here (.drop .here .refl)))) ?_
  exact ⟨rfl, rfl⟩
set_option maxRecDepth 100000 in
theorem Ask_3 {W0 : World} {Γ : List Asn} (k line id state head next told : Int) (a : Option Addr) (m cap : Nat) (node home : Int) : Tr Try.prog 20 #[.agg #[.int .i64 k, .int .i64 line, .int .i64 id, .int .i64 (3), .int .i64 state, .int .i64 head, .slice a m cap, .int .i64 next, .int .i64 told], .int .i64 node, .int .i64 home] W0 (Γ) (fun r Δ => r = .agg #[.int .i64 (6), .int .i64 node, .int .i64 next, .int .i64 id, .int .i64 line, .int .i64 (0), .int .i64 (0), .bool false, .slice none 0 0] ∧ Δ = Γ) := by
  refine Tr.enter (fn := Try.f20) (c := C20 []) (args := [.agg #[.int .i64 k, .int .i64 line, .int .i64 id, .int .i64 (3), .int .i64 state, .int .i64 head, .slice a m cap, .int .i64 next, .int .i64 told], .int .i64 node, .int .i64 home]) 70 Try.func20 (by kernel_rfl) (by kernel_rfl) ?_
  refine At.env [(0, .agg #[.int .i64 k, .int .i64 line, .int .i64 id, .int .i64 (3), .int .i64 state, .int .i64 head, .slice a m cap, .int .i64 next, .int .i64 told]), (1, .int .i64 node), (2, .int .i64 home)] ⟨by kernel_rfl, by kernel_rfl, by kernel_rfl, trivial⟩ ?_
  refine at_seq (x := C20 [0]) (y := C20 [1]) (by kernel_rfl) ?_
  refine at_region (id := 0) 2 (by kernel_rfl) (by kernel_rfl) ?_
  refine s_step 3 (by kernel_rfl) (by kernel_rfl) (st_new (T := 36) (cells := #[.int .i64 k, .int .i64 line, .int .i64 id, .int .i64 (3), .int .i64 state, .int .i64 head, .slice a m cap, .int .i64 next, .int .i64 told]) (fun a => .pointer (some a)) (fun _ => by kernel_rfl)) ?_
  rintro _ _ ⟨b1, rfl, rfl⟩
  refine s_step 6 (by kernel_rfl) (by kernel_rfl) (st_new (T := 38) (cells := #[.int .i64 (0), .int .i64 (0), .int .i64 (0), .int .i64 (0), .int .i64 (0), .int .i64 (0), .int .i64 (0), .bool false, .slice none 0 0]) (fun a => .pointer (some a)) (fun _ => by kernel_rfl)) ?_
  rintro _ _ ⟨b2, rfl, rfl⟩
  refine ops_end ?_
  refine At.env [(0, .agg #[.int .i64 k, .int .i64 line, .int .i64 id, .int .i64 (3), .int .i64 state, .int .i64 head, .slice a m cap, .int .i64 next, .int .i64 told]), (1, .int .i64 node), (2, .int .i64 home), (3, .pointer (some ⟨b1, 0, none⟩)), (6, .pointer (some ⟨b2, 0, none⟩))] ⟨by kernel_rfl, by kernel_rfl, by kernel_rfl, by kernel_rfl, by kernel_rfl, trivial⟩ ?_
  refine at_then_normal ?_
  refine at_seq (x := C20 [1, 0]) (y := C20 [1, 1]) (by kernel_rfl) ?_
  refine at_region_draw (id := 1) (by kernel_rfl) (by kernel_rfl) ?_
  refine d_pure 0 8 (.pointer (some ⟨b1, 3, none⟩)) (by kernel_rfl) (by kernel_rfl) (by kernel_rfl) (fun _ => by kernel_rfl) ?_
  refine d_load 1 9 (.int .i64 (3)) (by kernel_rfl) (by kernel_rfl) (by kernel_rfl) (load1 (off := 3) (fun _ => by kernel_rfl) (holds_own (.there .here)) (by kernel_rfl)) ?_
  refine d_quiet 2 10 (.int .i64 (6)) 43 #[.int .i64 (3)] (by kernel_rfl) (by kernel_rfl) (by kernel_rfl) (fun _ => by kernel_rfl) (fun _ => (Tr.as (Kind_tr (3)) (show Value.int .i64 (kindI (3)) = .int .i64 (6) from by rfl))) ?_
  refine d_pure 3 11 (.int .i64 node) (by kernel_rfl) (by kernel_rfl) (by kernel_rfl) (fun _ => by kernel_rfl) ?_
  refine d_pure 4 12 (.int .i64 home) (by kernel_rfl) (by kernel_rfl) (by kernel_rfl) (fun _ => by kernel_rfl) ?_
  refine d_pure 5 13 (.pointer (some ⟨b1, 2, none⟩)) (by kernel_rfl) (by kernel_rfl) (by kernel_rfl) (fun _ => by kernel_rfl) ?_
  refine d_load 6 14 (.int .i64 id) (by kernel_rfl) (by kernel_rfl) (by kernel_rfl) (load1 (off := 2) (fun _ => by kernel_rfl) (holds_own (.there .here)) (by kernel_rfl)) ?_
  refine d_pure 7 15 (.pointer (some ⟨b1, 1, none⟩)) (by kernel_rfl) (by kernel_rfl) (by kernel_rfl) (fun _ => by kernel_rfl) ?_
  refine d_load 8 16 (.int .i64 line) (by kernel_rfl) (by kernel_rfl) (by kernel_rfl) (load1 (off := 1) (fun _ => by kernel_rfl) (holds_own (.there .here)) (by kernel_rfl)) ?_
  refine d_pure 9 17 (.agg #[.int .i64 (6), .int .i64 node, .int .i64 home, .int .i64 id, .int .i64 line, .int .i64 (0), .int .i64 (0), .bool false, .slice none 0 0]) (by kernel_rfl) (by kernel_rfl) (by kernel_rfl) (fun _ => by kernel_rfl) ?_
  refine d_step 10 7 [] [9, 7, 5, 4, 3, 2, 0] [8, 6, 1] (by kernel_rfl) (by kernel_rfl) (by kernel_rfl) (st_new (T := 38) (cells := #[.int .i64 (0), .int .i64 (0), .int .i64 (0), .int .i64 (0), .int .i64 (0), .int .i64 (0), .int .i64 (0), .bool false, .slice none 0 0]) (fun a => .pointer (some a)) (fun _ => by kernel_rfl)) ?_
  rintro _ _ ⟨b3, rfl, rfl⟩
  refine ⟨(stable_cons 8 16 (.int .i64 line) (by kernel_rfl) (by kernel_rfl) (by kernel_rfl) (load1 (off := 1) (fun _ => by kernel_rfl) (holds_own (.there (.there .here))) (by kernel_rfl)) (stable_cons 6 14 (.int .i64 id) (by kernel_rfl) (by kernel_rfl) (by kernel_rfl) (load1 (off := 2) (fun _ => by kernel_rfl) (holds_own (.there (.there .here))) (by kernel_rfl)) (stable_cons 1 9 (.int .i64 (3)) (by kernel_rfl) (by kernel_rfl) (by kernel_rfl) (load1 (off := 3) (fun _ => by kernel_rfl) (holds_own (.there (.there .here))) (by kernel_rfl)) stable_nil))), ?_⟩
  refine d_do 11 [10, 9, 2, 0, 1, 3, 4, 5, 6, 7, 8] [] [] (by kernel_rfl) (by kernel_rfl) (by kernel_rfl) (st_store (off := 0) (vs := [.int .i64 (6), .int .i64 node, .int .i64 home, .int .i64 id, .int .i64 line, .int .i64 (0), .int .i64 (0), .bool false, .slice none 0 0]) (c' := #[.int .i64 (6), .int .i64 node, .int .i64 home, .int .i64 id, .int .i64 line, .int .i64 (0), .int .i64 (0), .bool false, .slice none 0 0]) (fun _ => by kernel_rfl) .here (by kernel_rfl) (by kernel_rfl) (by kernel_rfl)) ?_
  rintro _ _ ⟨rfl, rfl⟩
  refine ⟨stable_nil, ?_⟩
  refine draw_end (by kernel_rfl) ?_
  refine At.env [(0, .agg #[.int .i64 k, .int .i64 line, .int .i64 id, .int .i64 (3), .int .i64 state, .int .i64 head, .slice a m cap, .int .i64 next, .int .i64 told]), (1, .int .i64 node), (2, .int .i64 home), (3, .pointer (some ⟨b1, 0, none⟩)), (6, .pointer (some ⟨b2, 0, none⟩)), (7, .pointer (some ⟨b3, 0, none⟩))] ⟨by kernel_rfl, by kernel_rfl, by kernel_rfl, by kernel_rfl, by kernel_rfl, by kernel_rfl, trivial⟩ ?_
  refine at_then_normal ?_
  refine at_seq (x := C20 [1, 1, 0]) (y := C20 [1, 1, 1]) (by kernel_rfl) ?_
  refine at_seq (x := C20 [1, 1, 0, 0]) (y := C20 [1, 1, 0, 1]) (by kernel_rfl) ?_
  refine at_region (id := 2) 2 (by kernel_rfl) (by kernel_rfl) ?_
  refine s_pure 18 (.pointer (some ⟨b1, 3, none⟩)) (by kernel_rfl) (by kernel_rfl) (fun _ => by kernel_rfl) ?_
  refine s_load 19 (.int .i64 (3)) (by kernel_rfl) (by kernel_rfl) (load1 (off := 3) (fun _ => by kernel_rfl) (holds_own (.there (.there .here))) (by kernel_rfl)) ?_
  refine ops_end ?_
  refine At.env [(0, .agg #[.int .i64 k, .int .i64 line, .int .i64 id, .int .i64 (3), .int .i64 state, .int .i64 head, .slice a m cap, .int .i64 next, .int .i64 told]), (1, .int .i64 node), (2, .int .i64 home), (3, .pointer (some ⟨b1, 0, none⟩)), (6, .pointer (some ⟨b2, 0, none⟩)), (7, .pointer (some ⟨b3, 0, none⟩)), (19, .int .i64 (3))] ⟨by kernel_rfl, by kernel_rfl, by kernel_rfl, by kernel_rfl, by kernel_rfl, by kernel_rfl, by kernel_rfl, trivial⟩ ?_
  refine at_then_normal ?_
  refine at_block (i := 0) (x := C20 [1, 1, 0, 1, 0]) (by kernel_rfl) ?_
  refine at_seq (x := C20 [1, 1, 0, 1, 0, 0]) (y := C20 [1, 1, 0, 1, 0, 1]) (by kernel_rfl) ?_
  refine at_region (id := 4) 2 (by kernel_rfl) (by kernel_rfl) ?_
  refine s_pure 22 (.bool false) (by kernel_rfl) (by kernel_rfl) (fun _ => by kernel_rfl) ?_
  refine s_pure 21 (.bool false) (by kernel_rfl) (by kernel_rfl) (fun _ => by kernel_rfl) ?_
  refine ops_end ?_
  refine At.env [(0, .agg #[.int .i64 k, .int .i64 line, .int .i64 id, .int .i64 (3), .int .i64 state, .int .i64 head, .slice a m cap, .int .i64 next, .int .i64 told]), (1, .int .i64 node), (2, .int .i64 home), (3, .pointer (some ⟨b1, 0, none⟩)), (6, .pointer (some ⟨b2, 0, none⟩)), (7, .pointer (some ⟨b3, 0, none⟩)), (19, .int .i64 (3)), (21, .bool false)] ⟨by kernel_rfl, by kernel_rfl, by kernel_rfl, by kernel_rfl, by kernel_rfl, by kernel_rfl, by kernel_rfl, by kernel_rfl, trivial⟩ ?_
  refine at_then_normal ?_
  refine at_false (t := false) (x := C20 [1, 1, 0, 1, 0, 1, 0]) (y := C20 [1, 1, 0, 1, 0, 1, 1]) (o := .tmp 21) (by kernel_rfl) (by kernel_rfl) (by kernel_rfl) rfl ?_
  refine at_seq (x := C20 [1, 1, 0, 1, 0, 1, 1, 0]) (y := C20 [1, 1, 0, 1, 0, 1, 1, 1]) (by kernel_rfl) ?_
  refine at_region (id := 6) 2 (by kernel_rfl) (by kernel_rfl) ?_
  refine s_pure 25 (.bool false) (by kernel_rfl) (by kernel_rfl) (fun _ => by kernel_rfl) ?_
  refine s_pure 24 (.bool false) (by kernel_rfl) (by kernel_rfl) (fun _ => by kernel_rfl) ?_
  refine ops_end ?_
  refine At.env [(0, .agg #[.int .i64 k, .int .i64 line, .int .i64 id, .int .i64 (3), .int .i64 state, .int .i64 head, .slice a m cap, .int .i64 next, .int .i64 told]), (1, .int .i64 node), (2, .int .i64 home), (3, .pointer (some ⟨b1, 0, none⟩)), (6, .pointer (some ⟨b2, 0, none⟩)), (7, .pointer (some ⟨b3, 0, none⟩)), (19, .int .i64 (3)), (21, .bool false), (24, .bool false)] ⟨by kernel_rfl, by kernel_rfl, by kernel_rfl, by kernel_rfl, by kernel_rfl, by kernel_rfl, by kernel_rfl, by kernel_rfl, by kernel_rfl, trivial⟩ ?_
  refine at_then_normal ?_
  refine at_false (t := false) (x := C20 [1, 1, 0, 1, 0, 1, 1, 1, 0]) (y := C20 [1, 1, 0, 1, 0, 1, 1, 1, 1]) (o := .tmp 24) (by kernel_rfl) (by kernel_rfl) (by kernel_rfl) rfl ?_
  refine at_seq (x := C20 [1, 1, 0, 1, 0, 1, 1, 1, 1, 0]) (y := C20 [1, 1, 0, 1, 0, 1, 1, 1, 1, 1]) (by kernel_rfl) ?_
  refine at_region (id := 8) 2 (by kernel_rfl) (by kernel_rfl) ?_
  refine s_pure 32 (.bool true) (by kernel_rfl) (by kernel_rfl) (fun _ => by kernel_rfl) ?_
  refine s_pure 31 (.bool true) (by kernel_rfl) (by kernel_rfl) (fun _ => by kernel_rfl) ?_
  refine ops_end ?_
  refine At.env [(0, .agg #[.int .i64 k, .int .i64 line, .int .i64 id, .int .i64 (3), .int .i64 state, .int .i64 head, .slice a m cap, .int .i64 next, .int .i64 told]), (1, .int .i64 node), (2, .int .i64 home), (3, .pointer (some ⟨b1, 0, none⟩)), (6, .pointer (some ⟨b2, 0, none⟩)), (7, .pointer (some ⟨b3, 0, none⟩)), (19, .int .i64 (3)), (21, .bool false), (24, .bool false), (31, .bool true)] ⟨by kernel_rfl, by kernel_rfl, by kernel_rfl, by kernel_rfl, by kernel_rfl, by kernel_rfl, by kernel_rfl, by kernel_rfl, by kernel_rfl, by kernel_rfl, trivial⟩ ?_
  refine at_then_normal ?_
  refine at_true (t := true) (x := C20 [1, 1, 0, 1, 0, 1, 1, 1, 1, 1, 0]) (y := C20 [1, 1, 0, 1, 0, 1, 1, 1, 1, 1, 1]) (o := .tmp 31) (by kernel_rfl) (by kernel_rfl) (by kernel_rfl) rfl ?_
  refine at_region (id := 9) 4 (by kernel_rfl) (by kernel_rfl) ?_
  refine s_pure 33 (.pointer (some ⟨b1, 7, none⟩)) (by kernel_rfl) (by kernel_rfl) (fun _ => by kernel_rfl) ?_
  refine s_load 34 (.int .i64 next) (by kernel_rfl) (by kernel_rfl) (load1 (off := 7) (fun _ => by kernel_rfl) (holds_own (.there (.there .here))) (by kernel_rfl)) ?_
  refine s_pure 35 (.pointer (some ⟨b3, 2, none⟩)) (by kernel_rfl) (by kernel_rfl) (fun _ => by kernel_rfl) ?_
  refine s_do (by kernel_rfl) (by kernel_rfl) (st_store (off := 2) (vs := [.int .i64 next]) (c' := #[.int .i64 (6), .int .i64 node, .int .i64 next, .int .i64 id, .int .i64 line, .int .i64 (0), .int .i64 (0), .bool false, .slice none 0 0]) (fun _ => by kernel_rfl) .here (by kernel_rfl) (by kernel_rfl) (by kernel_rfl)) ?_
  rintro _ _ ⟨rfl, rfl⟩
  refine ops_end ?_
  refine At.env [(0, .agg #[.int .i64 k, .int .i64 line, .int .i64 id, .int .i64 (3), .int .i64 state, .int .i64 head, .slice a m cap, .int .i64 next, .int .i64 told]), (1, .int .i64 node), (2, .int .i64 home), (3, .pointer (some ⟨b1, 0, none⟩)), (6, .pointer (some ⟨b2, 0, none⟩)), (7, .pointer (some ⟨b3, 0, none⟩)), (19, .int .i64 (3)), (21, .bool false), (24, .bool false), (31, .bool true)] ⟨by kernel_rfl, by kernel_rfl, by kernel_rfl, by kernel_rfl, by kernel_rfl, by kernel_rfl, by kernel_rfl, by kernel_rfl, by kernel_rfl, by kernel_rfl, trivial⟩ ?_
  refine at_in_normal ?_
  refine at_then_normal ?_
  refine at_seq (x := C20 [1, 1, 1, 0]) (y := C20 [1, 1, 1, 1]) (by kernel_rfl) ?_
  refine at_region (id := 16) 2 (by kernel_rfl) (by kernel_rfl) ?_
  refine s_load 69 (.agg #[.int .i64 (6), .int .i64 node, .int .i64 next, .int .i64 id, .int .i64 line, .int .i64 (0), .int .i64 (0), .bool false, .slice none 0 0]) (by kernel_rfl) (by kernel_rfl) (loadN (off := 0) (vs := [.int .i64 (6), .int .i64 node, .int .i64 next, .int .i64 id, .int .i64 line, .int .i64 (0), .int .i64 (0), .bool false, .slice none 0 0]) 9 (fun _ => by kernel_rfl) (holds_own .here) rfl (by exact ⟨rfl, rfl, rfl, rfl, rfl, rfl, rfl, rfl, rfl, trivial⟩)) ?_
  refine s_do (by kernel_rfl) (by kernel_rfl) (st_store (off := 0) (vs := [.int .i64 (6), .int .i64 node, .int .i64 next, .int .i64 id, .int .i64 line, .int .i64 (0), .int .i64 (0), .bool false, .slice none 0 0]) (c' := #[.int .i64 (6), .int .i64 node, .int .i64 next, .int .i64 id, .int .i64 line, .int .i64 (0), .int .i64 (0), .bool false, .slice none 0 0]) (fun _ => by kernel_rfl) (.there .here) (by kernel_rfl) (by kernel_rfl) (by kernel_rfl)) ?_
  rintro _ _ ⟨rfl, rfl⟩
  refine ops_end ?_
  refine At.env [(0, .agg #[.int .i64 k, .int .i64 line, .int .i64 id, .int .i64 (3), .int .i64 state, .int .i64 head, .slice a m cap, .int .i64 next, .int .i64 told]), (1, .int .i64 node), (2, .int .i64 home), (3, .pointer (some ⟨b1, 0, none⟩)), (6, .pointer (some ⟨b2, 0, none⟩)), (7, .pointer (some ⟨b3, 0, none⟩)), (19, .int .i64 (3)), (21, .bool false), (24, .bool false), (31, .bool true)] ⟨by kernel_rfl, by kernel_rfl, by kernel_rfl, by kernel_rfl, by kernel_rfl, by kernel_rfl, by kernel_rfl, by kernel_rfl, by kernel_rfl, by kernel_rfl, trivial⟩ ?_
  refine at_then_normal ?_
  refine at_ret (by kernel_rfl) ?_
  refine at_backR [.agg #[.int .i64 (6), .int .i64 node, .int .i64 next, .int .i64 id, .int .i64 line, .int .i64 (0), .int .i64 (0), .bool false, .slice none 0 0]] (Γ) (rs := [.cell 6 38]) (by kernel_rfl) (.cons (.cell (by kernel_rfl) (retN (off := 0) (vs := [.int .i64 (6), .int .i64 node, .int .i64 next, .int .i64 id, .int .i64 line, .int .i64 (0), .int .i64 (0), .bool false, .slice none 0 0]) 9 (fun _ => by kernel_rfl) (holds_own .here) rfl (by exact ⟨rfl, rfl, rfl, rfl, rfl, rfl, rfl, rfl, rfl, trivial⟩))) .nil) (fun w hw => hw.less (.drop .here (.drop .here (.drop .here .refl)))) ?_
  exact ⟨rfl, rfl⟩
set_option maxRecDepth 100000 in
theorem Ask_4 {W0 : World} {Γ : List Asn} (k line id state head next told : Int) (a : Option Addr) (m cap : Nat) (node home : Int) : Tr Try.prog 20 #[.agg #[.int .i64 k, .int .i64 line, .int .i64 id, .int .i64 (4), .int .i64 state, .int .i64 head, .slice a m cap, .int .i64 next, .int .i64 told], .int .i64 node, .int .i64 home] W0 (Γ) (fun r Δ => r = .agg #[.int .i64 (4), .int .i64 node, .int .i64 head, .int .i64 id, .int .i64 line, .int .i64 (next), .int .i64 (0), .bool false, .slice none 0 0] ∧ Δ = Γ) := by
  refine Tr.enter (fn := Try.f20) (c := C20 []) (args := [.agg #[.int .i64 k, .int .i64 line, .int .i64 id, .int .i64 (4), .int .i64 state, .int .i64 head, .slice a m cap, .int .i64 next, .int .i64 told], .int .i64 node, .int .i64 home]) 70 Try.func20 (by kernel_rfl) (by kernel_rfl) ?_
  refine At.env [(0, .agg #[.int .i64 k, .int .i64 line, .int .i64 id, .int .i64 (4), .int .i64 state, .int .i64 head, .slice a m cap, .int .i64 next, .int .i64 told]), (1, .int .i64 node), (2, .int .i64 home)] ⟨by kernel_rfl, by kernel_rfl, by kernel_rfl, trivial⟩ ?_
  refine at_seq (x := C20 [0]) (y := C20 [1]) (by kernel_rfl) ?_
  refine at_region (id := 0) 2 (by kernel_rfl) (by kernel_rfl) ?_
  refine s_step 3 (by kernel_rfl) (by kernel_rfl) (st_new (T := 36) (cells := #[.int .i64 k, .int .i64 line, .int .i64 id, .int .i64 (4), .int .i64 state, .int .i64 head, .slice a m cap, .int .i64 next, .int .i64 told]) (fun a => .pointer (some a)) (fun _ => by kernel_rfl)) ?_
  rintro _ _ ⟨b1, rfl, rfl⟩
  refine s_step 6 (by kernel_rfl) (by kernel_rfl) (st_new (T := 38) (cells := #[.int .i64 (0), .int .i64 (0), .int .i64 (0), .int .i64 (0), .int .i64 (0), .int .i64 (0), .int .i64 (0), .bool false, .slice none 0 0]) (fun a => .pointer (some a)) (fun _ => by kernel_rfl)) ?_
  rintro _ _ ⟨b2, rfl, rfl⟩
  refine ops_end ?_
  refine At.env [(0, .agg #[.int .i64 k, .int .i64 line, .int .i64 id, .int .i64 (4), .int .i64 state, .int .i64 head, .slice a m cap, .int .i64 next, .int .i64 told]), (1, .int .i64 node), (2, .int .i64 home), (3, .pointer (some ⟨b1, 0, none⟩)), (6, .pointer (some ⟨b2, 0, none⟩))] ⟨by kernel_rfl, by kernel_rfl, by kernel_rfl, by kernel_rfl, by kernel_rfl, trivial⟩ ?_
  refine at_then_normal ?_
  refine at_seq (x := C20 [1, 0]) (y := C20 [1, 1]) (by kernel_rfl) ?_
  refine at_region_draw (id := 1) (by kernel_rfl) (by kernel_rfl) ?_
  refine d_pure 0 8 (.pointer (some ⟨b1, 3, none⟩)) (by kernel_rfl) (by kernel_rfl) (by kernel_rfl) (fun _ => by kernel_rfl) ?_
  refine d_load 1 9 (.int .i64 (4)) (by kernel_rfl) (by kernel_rfl) (by kernel_rfl) (load1 (off := 3) (fun _ => by kernel_rfl) (holds_own (.there .here)) (by kernel_rfl)) ?_
  refine d_quiet 2 10 (.int .i64 (4)) 43 #[.int .i64 (4)] (by kernel_rfl) (by kernel_rfl) (by kernel_rfl) (fun _ => by kernel_rfl) (fun _ => (Tr.as (Kind_tr (4)) (show Value.int .i64 (kindI (4)) = .int .i64 (4) from by rfl))) ?_
  refine d_pure 3 11 (.int .i64 node) (by kernel_rfl) (by kernel_rfl) (by kernel_rfl) (fun _ => by kernel_rfl) ?_
  refine d_pure 4 12 (.int .i64 home) (by kernel_rfl) (by kernel_rfl) (by kernel_rfl) (fun _ => by kernel_rfl) ?_
  refine d_pure 5 13 (.pointer (some ⟨b1, 2, none⟩)) (by kernel_rfl) (by kernel_rfl) (by kernel_rfl) (fun _ => by kernel_rfl) ?_
  refine d_load 6 14 (.int .i64 id) (by kernel_rfl) (by kernel_rfl) (by kernel_rfl) (load1 (off := 2) (fun _ => by kernel_rfl) (holds_own (.there .here)) (by kernel_rfl)) ?_
  refine d_pure 7 15 (.pointer (some ⟨b1, 1, none⟩)) (by kernel_rfl) (by kernel_rfl) (by kernel_rfl) (fun _ => by kernel_rfl) ?_
  refine d_load 8 16 (.int .i64 line) (by kernel_rfl) (by kernel_rfl) (by kernel_rfl) (load1 (off := 1) (fun _ => by kernel_rfl) (holds_own (.there .here)) (by kernel_rfl)) ?_
  refine d_pure 9 17 (.agg #[.int .i64 (4), .int .i64 node, .int .i64 home, .int .i64 id, .int .i64 line, .int .i64 (0), .int .i64 (0), .bool false, .slice none 0 0]) (by kernel_rfl) (by kernel_rfl) (by kernel_rfl) (fun _ => by kernel_rfl) ?_
  refine d_step 10 7 [] [9, 7, 5, 4, 3, 2, 0] [8, 6, 1] (by kernel_rfl) (by kernel_rfl) (by kernel_rfl) (st_new (T := 38) (cells := #[.int .i64 (0), .int .i64 (0), .int .i64 (0), .int .i64 (0), .int .i64 (0), .int .i64 (0), .int .i64 (0), .bool false, .slice none 0 0]) (fun a => .pointer (some a)) (fun _ => by kernel_rfl)) ?_
  rintro _ _ ⟨b3, rfl, rfl⟩
  refine ⟨(stable_cons 8 16 (.int .i64 line) (by kernel_rfl) (by kernel_rfl) (by kernel_rfl) (load1 (off := 1) (fun _ => by kernel_rfl) (holds_own (.there (.there .here))) (by kernel_rfl)) (stable_cons 6 14 (.int .i64 id) (by kernel_rfl) (by kernel_rfl) (by kernel_rfl) (load1 (off := 2) (fun _ => by kernel_rfl) (holds_own (.there (.there .here))) (by kernel_rfl)) (stable_cons 1 9 (.int .i64 (4)) (by kernel_rfl) (by kernel_rfl) (by kernel_rfl) (load1 (off := 3) (fun _ => by kernel_rfl) (holds_own (.there (.there .here))) (by kernel_rfl)) stable_nil))), ?_⟩
  refine d_do 11 [10, 9, 2, 0, 1, 3, 4, 5, 6, 7, 8] [] [] (by kernel_rfl) (by kernel_rfl) (by kernel_rfl) (st_store (off := 0) (vs := [.int .i64 (4), .int .i64 node, .int .i64 home, .int .i64 id, .int .i64 line, .int .i64 (0), .int .i64 (0), .bool false, .slice none 0 0]) (c' := #[.int .i64 (4), .int .i64 node, .int .i64 home, .int .i64 id, .int .i64 line, .int .i64 (0), .int .i64 (0), .bool false, .slice none 0 0]) (fun _ => by kernel_rfl) .here (by kernel_rfl) (by kernel_rfl) (by kernel_rfl)) ?_
  rintro _ _ ⟨rfl, rfl⟩
  refine ⟨stable_nil, ?_⟩
  refine draw_end (by kernel_rfl) ?_
  refine At.env [(0, .agg #[.int .i64 k, .int .i64 line, .int .i64 id, .int .i64 (4), .int .i64 state, .int .i64 head, .slice a m cap, .int .i64 next, .int .i64 told]), (1, .int .i64 node), (2, .int .i64 home), (3, .pointer (some ⟨b1, 0, none⟩)), (6, .pointer (some ⟨b2, 0, none⟩)), (7, .pointer (some ⟨b3, 0, none⟩))] ⟨by kernel_rfl, by kernel_rfl, by kernel_rfl, by kernel_rfl, by kernel_rfl, by kernel_rfl, trivial⟩ ?_
  refine at_then_normal ?_
  refine at_seq (x := C20 [1, 1, 0]) (y := C20 [1, 1, 1]) (by kernel_rfl) ?_
  refine at_seq (x := C20 [1, 1, 0, 0]) (y := C20 [1, 1, 0, 1]) (by kernel_rfl) ?_
  refine at_region (id := 2) 2 (by kernel_rfl) (by kernel_rfl) ?_
  refine s_pure 18 (.pointer (some ⟨b1, 3, none⟩)) (by kernel_rfl) (by kernel_rfl) (fun _ => by kernel_rfl) ?_
  refine s_load 19 (.int .i64 (4)) (by kernel_rfl) (by kernel_rfl) (load1 (off := 3) (fun _ => by kernel_rfl) (holds_own (.there (.there .here))) (by kernel_rfl)) ?_
  refine ops_end ?_
  refine At.env [(0, .agg #[.int .i64 k, .int .i64 line, .int .i64 id, .int .i64 (4), .int .i64 state, .int .i64 head, .slice a m cap, .int .i64 next, .int .i64 told]), (1, .int .i64 node), (2, .int .i64 home), (3, .pointer (some ⟨b1, 0, none⟩)), (6, .pointer (some ⟨b2, 0, none⟩)), (7, .pointer (some ⟨b3, 0, none⟩)), (19, .int .i64 (4))] ⟨by kernel_rfl, by kernel_rfl, by kernel_rfl, by kernel_rfl, by kernel_rfl, by kernel_rfl, by kernel_rfl, trivial⟩ ?_
  refine at_then_normal ?_
  refine at_block (i := 0) (x := C20 [1, 1, 0, 1, 0]) (by kernel_rfl) ?_
  refine at_seq (x := C20 [1, 1, 0, 1, 0, 0]) (y := C20 [1, 1, 0, 1, 0, 1]) (by kernel_rfl) ?_
  refine at_region (id := 4) 2 (by kernel_rfl) (by kernel_rfl) ?_
  refine s_pure 22 (.bool false) (by kernel_rfl) (by kernel_rfl) (fun _ => by kernel_rfl) ?_
  refine s_pure 21 (.bool false) (by kernel_rfl) (by kernel_rfl) (fun _ => by kernel_rfl) ?_
  refine ops_end ?_
  refine At.env [(0, .agg #[.int .i64 k, .int .i64 line, .int .i64 id, .int .i64 (4), .int .i64 state, .int .i64 head, .slice a m cap, .int .i64 next, .int .i64 told]), (1, .int .i64 node), (2, .int .i64 home), (3, .pointer (some ⟨b1, 0, none⟩)), (6, .pointer (some ⟨b2, 0, none⟩)), (7, .pointer (some ⟨b3, 0, none⟩)), (19, .int .i64 (4)), (21, .bool false)] ⟨by kernel_rfl, by kernel_rfl, by kernel_rfl, by kernel_rfl, by kernel_rfl, by kernel_rfl, by kernel_rfl, by kernel_rfl, trivial⟩ ?_
  refine at_then_normal ?_
  refine at_false (t := false) (x := C20 [1, 1, 0, 1, 0, 1, 0]) (y := C20 [1, 1, 0, 1, 0, 1, 1]) (o := .tmp 21) (by kernel_rfl) (by kernel_rfl) (by kernel_rfl) rfl ?_
  refine at_seq (x := C20 [1, 1, 0, 1, 0, 1, 1, 0]) (y := C20 [1, 1, 0, 1, 0, 1, 1, 1]) (by kernel_rfl) ?_
  refine at_region (id := 6) 2 (by kernel_rfl) (by kernel_rfl) ?_
  refine s_pure 25 (.bool false) (by kernel_rfl) (by kernel_rfl) (fun _ => by kernel_rfl) ?_
  refine s_pure 24 (.bool false) (by kernel_rfl) (by kernel_rfl) (fun _ => by kernel_rfl) ?_
  refine ops_end ?_
  refine At.env [(0, .agg #[.int .i64 k, .int .i64 line, .int .i64 id, .int .i64 (4), .int .i64 state, .int .i64 head, .slice a m cap, .int .i64 next, .int .i64 told]), (1, .int .i64 node), (2, .int .i64 home), (3, .pointer (some ⟨b1, 0, none⟩)), (6, .pointer (some ⟨b2, 0, none⟩)), (7, .pointer (some ⟨b3, 0, none⟩)), (19, .int .i64 (4)), (21, .bool false), (24, .bool false)] ⟨by kernel_rfl, by kernel_rfl, by kernel_rfl, by kernel_rfl, by kernel_rfl, by kernel_rfl, by kernel_rfl, by kernel_rfl, by kernel_rfl, trivial⟩ ?_
  refine at_then_normal ?_
  refine at_false (t := false) (x := C20 [1, 1, 0, 1, 0, 1, 1, 1, 0]) (y := C20 [1, 1, 0, 1, 0, 1, 1, 1, 1]) (o := .tmp 24) (by kernel_rfl) (by kernel_rfl) (by kernel_rfl) rfl ?_
  refine at_seq (x := C20 [1, 1, 0, 1, 0, 1, 1, 1, 1, 0]) (y := C20 [1, 1, 0, 1, 0, 1, 1, 1, 1, 1]) (by kernel_rfl) ?_
  refine at_region (id := 8) 2 (by kernel_rfl) (by kernel_rfl) ?_
  refine s_pure 32 (.bool false) (by kernel_rfl) (by kernel_rfl) (fun _ => by kernel_rfl) ?_
  refine s_pure 31 (.bool false) (by kernel_rfl) (by kernel_rfl) (fun _ => by kernel_rfl) ?_
  refine ops_end ?_
  refine At.env [(0, .agg #[.int .i64 k, .int .i64 line, .int .i64 id, .int .i64 (4), .int .i64 state, .int .i64 head, .slice a m cap, .int .i64 next, .int .i64 told]), (1, .int .i64 node), (2, .int .i64 home), (3, .pointer (some ⟨b1, 0, none⟩)), (6, .pointer (some ⟨b2, 0, none⟩)), (7, .pointer (some ⟨b3, 0, none⟩)), (19, .int .i64 (4)), (21, .bool false), (24, .bool false), (31, .bool false)] ⟨by kernel_rfl, by kernel_rfl, by kernel_rfl, by kernel_rfl, by kernel_rfl, by kernel_rfl, by kernel_rfl, by kernel_rfl, by kernel_rfl, by kernel_rfl, trivial⟩ ?_
  refine at_then_normal ?_
  refine at_false (t := false) (x := C20 [1, 1, 0, 1, 0, 1, 1, 1, 1, 1, 0]) (y := C20 [1, 1, 0, 1, 0, 1, 1, 1, 1, 1, 1]) (o := .tmp 31) (by kernel_rfl) (by kernel_rfl) (by kernel_rfl) rfl ?_
  refine at_seq (x := C20 [1, 1, 0, 1, 0, 1, 1, 1, 1, 1, 1, 0]) (y := C20 [1, 1, 0, 1, 0, 1, 1, 1, 1, 1, 1, 1]) (by kernel_rfl) ?_
  refine at_region (id := 10) 2 (by kernel_rfl) (by kernel_rfl) ?_
  refine s_pure 37 (.bool true) (by kernel_rfl) (by kernel_rfl) (fun _ => by kernel_rfl) ?_
  refine s_pure 36 (.bool true) (by kernel_rfl) (by kernel_rfl) (fun _ => by kernel_rfl) ?_
  refine ops_end ?_
  refine At.env [(0, .agg #[.int .i64 k, .int .i64 line, .int .i64 id, .int .i64 (4), .int .i64 state, .int .i64 head, .slice a m cap, .int .i64 next, .int .i64 told]), (1, .int .i64 node), (2, .int .i64 home), (3, .pointer (some ⟨b1, 0, none⟩)), (6, .pointer (some ⟨b2, 0, none⟩)), (7, .pointer (some ⟨b3, 0, none⟩)), (19, .int .i64 (4)), (21, .bool false), (24, .bool false), (31, .bool false), (36, .bool true)] ⟨by kernel_rfl, by kernel_rfl, by kernel_rfl, by kernel_rfl, by kernel_rfl, by kernel_rfl, by kernel_rfl, by kernel_rfl, by kernel_rfl, by kernel_rfl, by kernel_rfl, trivial⟩ ?_
  refine at_then_normal ?_
  refine at_true (t := true) (x := C20 [1, 1, 0, 1, 0, 1, 1, 1, 1, 1, 1, 1, 0]) (y := C20 [1, 1, 0, 1, 0, 1, 1, 1, 1, 1, 1, 1, 1]) (o := .tmp 36) (by kernel_rfl) (by kernel_rfl) (by kernel_rfl) rfl ?_
  refine at_region_draw (id := 11) (by kernel_rfl) (by kernel_rfl) ?_
  refine d_pure 0 38 (.pointer (some ⟨b1, 5, none⟩)) (by kernel_rfl) (by kernel_rfl) (by kernel_rfl) (fun _ => by kernel_rfl) ?_
  refine d_load 1 39 (.int .i64 head) (by kernel_rfl) (by kernel_rfl) (by kernel_rfl) (load1 (off := 5) (fun _ => by kernel_rfl) (holds_own (.there (.there .here))) (by kernel_rfl)) ?_
  refine d_pure 2 40 (.pointer (some ⟨b1, 7, none⟩)) (by kernel_rfl) (by kernel_rfl) (by kernel_rfl) (fun _ => by kernel_rfl) ?_
  refine d_load 3 41 (.int .i64 next) (by kernel_rfl) (by kernel_rfl) (by kernel_rfl) (load1 (off := 7) (fun _ => by kernel_rfl) (holds_own (.there (.there .here))) (by kernel_rfl)) ?_
  refine d_pure 4 42 (.pointer (some ⟨b3, 2, none⟩)) (by kernel_rfl) (by kernel_rfl) (by kernel_rfl) (fun _ => by kernel_rfl) ?_
  refine d_do 5 [4, 1, 0] [2] [3] (by kernel_rfl) (by kernel_rfl) (by kernel_rfl) (st_store (off := 2) (vs := [.int .i64 head]) (c' := #[.int .i64 (4), .int .i64 node, .int .i64 head, .int .i64 id, .int .i64 line, .int .i64 (0), .int .i64 (0), .bool false, .slice none 0 0]) (fun _ => by kernel_rfl) .here (by kernel_rfl) (by kernel_rfl) (by kernel_rfl)) ?_
  rintro _ _ ⟨rfl, rfl⟩
  refine ⟨(stable_cons 3 41 (.int .i64 next) (by kernel_rfl) (by kernel_rfl) (by kernel_rfl) (load1 (off := 7) (fun _ => by kernel_rfl) (holds_own (.there (.there .here))) (by kernel_rfl)) stable_nil), ?_⟩
  refine d_pure 6 43 (.pointer (some ⟨b3, 5, none⟩)) (by kernel_rfl) (by kernel_rfl) (by kernel_rfl) (fun _ => by kernel_rfl) ?_
  refine d_do 7 [6, 3, 5, 0, 1, 2, 4] [] [] (by kernel_rfl) (by kernel_rfl) (by kernel_rfl) (st_store (off := 5) (vs := [.int .i64 next]) (c' := #[.int .i64 (4), .int .i64 node, .int .i64 head, .int .i64 id, .int .i64 line, .int .i64 next, .int .i64 (0), .bool false, .slice none 0 0]) (fun _ => by kernel_rfl) .here (by kernel_rfl) (by kernel_rfl) (by kernel_rfl)) ?_
  rintro _ _ ⟨rfl, rfl⟩
  refine ⟨stable_nil, ?_⟩
  refine draw_end (by kernel_rfl) ?_
  refine At.env [(0, .agg #[.int .i64 k, .int .i64 line, .int .i64 id, .int .i64 (4), .int .i64 state, .int .i64 head, .slice a m cap, .int .i64 next, .int .i64 told]), (1, .int .i64 node), (2, .int .i64 home), (3, .pointer (some ⟨b1, 0, none⟩)), (6, .pointer (some ⟨b2, 0, none⟩)), (7, .pointer (some ⟨b3, 0, none⟩)), (19, .int .i64 (4)), (21, .bool false), (24, .bool false), (31, .bool false), (36, .bool true)] ⟨by kernel_rfl, by kernel_rfl, by kernel_rfl, by kernel_rfl, by kernel_rfl, by kernel_rfl, by kernel_rfl, by kernel_rfl, by kernel_rfl, by kernel_rfl, by kernel_rfl, trivial⟩ ?_
  refine at_in_normal ?_
  refine at_then_normal ?_
  refine at_seq (x := C20 [1, 1, 1, 0]) (y := C20 [1, 1, 1, 1]) (by kernel_rfl) ?_
  refine at_region (id := 16) 2 (by kernel_rfl) (by kernel_rfl) ?_
  refine s_load 69 (.agg #[.int .i64 (4), .int .i64 node, .int .i64 head, .int .i64 id, .int .i64 line, .int .i64 next, .int .i64 (0), .bool false, .slice none 0 0]) (by kernel_rfl) (by kernel_rfl) (loadN (off := 0) (vs := [.int .i64 (4), .int .i64 node, .int .i64 head, .int .i64 id, .int .i64 line, .int .i64 next, .int .i64 (0), .bool false, .slice none 0 0]) 9 (fun _ => by kernel_rfl) (holds_own .here) rfl (by exact ⟨rfl, rfl, rfl, rfl, rfl, rfl, rfl, rfl, rfl, trivial⟩)) ?_
  refine s_do (by kernel_rfl) (by kernel_rfl) (st_store (off := 0) (vs := [.int .i64 (4), .int .i64 node, .int .i64 head, .int .i64 id, .int .i64 line, .int .i64 next, .int .i64 (0), .bool false, .slice none 0 0]) (c' := #[.int .i64 (4), .int .i64 node, .int .i64 head, .int .i64 id, .int .i64 line, .int .i64 next, .int .i64 (0), .bool false, .slice none 0 0]) (fun _ => by kernel_rfl) (.there .here) (by kernel_rfl) (by kernel_rfl) (by kernel_rfl)) ?_
  rintro _ _ ⟨rfl, rfl⟩
  refine ops_end ?_
  refine At.env [(0, .agg #[.int .i64 k, .int .i64 line, .int .i64 id, .int .i64 (4), .int .i64 state, .int .i64 head, .slice a m cap, .int .i64 next, .int .i64 told]), (1, .int .i64 node), (2, .int .i64 home), (3, .pointer (some ⟨b1, 0, none⟩)), (6, .pointer (some ⟨b2, 0, none⟩)), (7, .pointer (some ⟨b3, 0, none⟩)), (19, .int .i64 (4)), (21, .bool false), (24, .bool false), (31, .bool false), (36, .bool true)] ⟨by kernel_rfl, by kernel_rfl, by kernel_rfl, by kernel_rfl, by kernel_rfl, by kernel_rfl, by kernel_rfl, by kernel_rfl, by kernel_rfl, by kernel_rfl, by kernel_rfl, trivial⟩ ?_
  refine at_then_normal ?_
  refine at_ret (by kernel_rfl) ?_
  refine at_backR [.agg #[.int .i64 (4), .int .i64 node, .int .i64 head, .int .i64 id, .int .i64 line, .int .i64 next, .int .i64 (0), .bool false, .slice none 0 0]] (Γ) (rs := [.cell 6 38]) (by kernel_rfl) (.cons (.cell (by kernel_rfl) (retN (off := 0) (vs := [.int .i64 (4), .int .i64 node, .int .i64 head, .int .i64 id, .int .i64 line, .int .i64 next, .int .i64 (0), .bool false, .slice none 0 0]) 9 (fun _ => by kernel_rfl) (holds_own .here) rfl (by exact ⟨rfl, rfl, rfl, rfl, rfl, rfl, rfl, rfl, rfl, trivial⟩))) .nil) (fun w hw => hw.less (.drop .here (.drop .here (.drop .here .refl)))) ?_
  exact ⟨rfl, rfl⟩
set_option maxRecDepth 100000 in
theorem Ask_5 {W0 : World} {Γ : List Asn} (k line id state head next told : Int) (a : Option Addr) (m cap : Nat) (node home : Int) : Tr Try.prog 20 #[.agg #[.int .i64 k, .int .i64 line, .int .i64 id, .int .i64 (5), .int .i64 state, .int .i64 head, .slice a m cap, .int .i64 next, .int .i64 told], .int .i64 node, .int .i64 home] W0 (Γ) (fun r Δ => r = .agg #[.int .i64 (5), .int .i64 node, .int .i64 next, .int .i64 id, .int .i64 line, .int .i64 (head), .int .i64 (0), .bool false, .slice none 0 0] ∧ Δ = Γ) := by
  refine Tr.enter (fn := Try.f20) (c := C20 []) (args := [.agg #[.int .i64 k, .int .i64 line, .int .i64 id, .int .i64 (5), .int .i64 state, .int .i64 head, .slice a m cap, .int .i64 next, .int .i64 told], .int .i64 node, .int .i64 home]) 70 Try.func20 (by kernel_rfl) (by kernel_rfl) ?_
  refine At.env [(0, .agg #[.int .i64 k, .int .i64 line, .int .i64 id, .int .i64 (5), .int .i64 state, .int .i64 head, .slice a m cap, .int .i64 next, .int .i64 told]), (1, .int .i64 node), (2, .int .i64 home)] ⟨by kernel_rfl, by kernel_rfl, by kernel_rfl, trivial⟩ ?_
  refine at_seq (x := C20 [0]) (y := C20 [1]) (by kernel_rfl) ?_
  refine at_region (id := 0) 2 (by kernel_rfl) (by kernel_rfl) ?_
  refine s_step 3 (by kernel_rfl) (by kernel_rfl) (st_new (T := 36) (cells := #[.int .i64 k, .int .i64 line, .int .i64 id, .int .i64 (5), .int .i64 state, .int .i64 head, .slice a m cap, .int .i64 next, .int .i64 told]) (fun a => .pointer (some a)) (fun _ => by kernel_rfl)) ?_
  rintro _ _ ⟨b1, rfl, rfl⟩
  refine s_step 6 (by kernel_rfl) (by kernel_rfl) (st_new (T := 38) (cells := #[.int .i64 (0), .int .i64 (0), .int .i64 (0), .int .i64 (0), .int .i64 (0), .int .i64 (0), .int .i64 (0), .bool false, .slice none 0 0]) (fun a => .pointer (some a)) (fun _ => by kernel_rfl)) ?_
  rintro _ _ ⟨b2, rfl, rfl⟩
  refine ops_end ?_
  refine At.env [(0, .agg #[.int .i64 k, .int .i64 line, .int .i64 id, .int .i64 (5), .int .i64 state, .int .i64 head, .slice a m cap, .int .i64 next, .int .i64 told]), (1, .int .i64 node), (2, .int .i64 home), (3, .pointer (some ⟨b1, 0, none⟩)), (6, .pointer (some ⟨b2, 0, none⟩))] ⟨by kernel_rfl, by kernel_rfl, by kernel_rfl, by kernel_rfl, by kernel_rfl, trivial⟩ ?_
  refine at_then_normal ?_
  refine at_seq (x := C20 [1, 0]) (y := C20 [1, 1]) (by kernel_rfl) ?_
  refine at_region_draw (id := 1) (by kernel_rfl) (by kernel_rfl) ?_
  refine d_pure 0 8 (.pointer (some ⟨b1, 3, none⟩)) (by kernel_rfl) (by kernel_rfl) (by kernel_rfl) (fun _ => by kernel_rfl) ?_
  refine d_load 1 9 (.int .i64 (5)) (by kernel_rfl) (by kernel_rfl) (by kernel_rfl) (load1 (off := 3) (fun _ => by kernel_rfl) (holds_own (.there .here)) (by kernel_rfl)) ?_
  refine d_quiet 2 10 (.int .i64 (5)) 43 #[.int .i64 (5)] (by kernel_rfl) (by kernel_rfl) (by kernel_rfl) (fun _ => by kernel_rfl) (fun _ => (Tr.as (Kind_tr (5)) (show Value.int .i64 (kindI (5)) = .int .i64 (5) from by rfl))) ?_
  refine d_pure 3 11 (.int .i64 node) (by kernel_rfl) (by kernel_rfl) (by kernel_rfl) (fun _ => by kernel_rfl) ?_
  refine d_pure 4 12 (.int .i64 home) (by kernel_rfl) (by kernel_rfl) (by kernel_rfl) (fun _ => by kernel_rfl) ?_
  refine d_pure 5 13 (.pointer (some ⟨b1, 2, none⟩)) (by kernel_rfl) (by kernel_rfl) (by kernel_rfl) (fun _ => by kernel_rfl) ?_
  refine d_load 6 14 (.int .i64 id) (by kernel_rfl) (by kernel_rfl) (by kernel_rfl) (load1 (off := 2) (fun _ => by kernel_rfl) (holds_own (.there .here)) (by kernel_rfl)) ?_
  refine d_pure 7 15 (.pointer (some ⟨b1, 1, none⟩)) (by kernel_rfl) (by kernel_rfl) (by kernel_rfl) (fun _ => by kernel_rfl) ?_
  refine d_load 8 16 (.int .i64 line) (by kernel_rfl) (by kernel_rfl) (by kernel_rfl) (load1 (off := 1) (fun _ => by kernel_rfl) (holds_own (.there .here)) (by kernel_rfl)) ?_
  refine d_pure 9 17 (.agg #[.int .i64 (5), .int .i64 node, .int .i64 home, .int .i64 id, .int .i64 line, .int .i64 (0), .int .i64 (0), .bool false, .slice none 0 0]) (by kernel_rfl) (by kernel_rfl) (by kernel_rfl) (fun _ => by kernel_rfl) ?_
  refine d_step 10 7 [] [9, 7, 5, 4, 3, 2, 0] [8, 6, 1] (by kernel_rfl) (by kernel_rfl) (by kernel_rfl) (st_new (T := 38) (cells := #[.int .i64 (0), .int .i64 (0), .int .i64 (0), .int .i64 (0), .int .i64 (0), .int .i64 (0), .int .i64 (0), .bool false, .slice none 0 0]) (fun a => .pointer (some a)) (fun _ => by kernel_rfl)) ?_
  rintro _ _ ⟨b3, rfl, rfl⟩
  refine ⟨(stable_cons 8 16 (.int .i64 line) (by kernel_rfl) (by kernel_rfl) (by kernel_rfl) (load1 (off := 1) (fun _ => by kernel_rfl) (holds_own (.there (.there .here))) (by kernel_rfl)) (stable_cons 6 14 (.int .i64 id) (by kernel_rfl) (by kernel_rfl) (by kernel_rfl) (load1 (off := 2) (fun _ => by kernel_rfl) (holds_own (.there (.there .here))) (by kernel_rfl)) (stable_cons 1 9 (.int .i64 (5)) (by kernel_rfl) (by kernel_rfl) (by kernel_rfl) (load1 (off := 3) (fun _ => by kernel_rfl) (holds_own (.there (.there .here))) (by kernel_rfl)) stable_nil))), ?_⟩
  refine d_do 11 [10, 9, 2, 0, 1, 3, 4, 5, 6, 7, 8] [] [] (by kernel_rfl) (by kernel_rfl) (by kernel_rfl) (st_store (off := 0) (vs := [.int .i64 (5), .int .i64 node, .int .i64 home, .int .i64 id, .int .i64 line, .int .i64 (0), .int .i64 (0), .bool false, .slice none 0 0]) (c' := #[.int .i64 (5), .int .i64 node, .int .i64 home, .int .i64 id, .int .i64 line, .int .i64 (0), .int .i64 (0), .bool false, .slice none 0 0]) (fun _ => by kernel_rfl) .here (by kernel_rfl) (by kernel_rfl) (by kernel_rfl)) ?_
  rintro _ _ ⟨rfl, rfl⟩
  refine ⟨stable_nil, ?_⟩
  refine draw_end (by kernel_rfl) ?_
  refine At.env [(0, .agg #[.int .i64 k, .int .i64 line, .int .i64 id, .int .i64 (5), .int .i64 state, .int .i64 head, .slice a m cap, .int .i64 next, .int .i64 told]), (1, .int .i64 node), (2, .int .i64 home), (3, .pointer (some ⟨b1, 0, none⟩)), (6, .pointer (some ⟨b2, 0, none⟩)), (7, .pointer (some ⟨b3, 0, none⟩))] ⟨by kernel_rfl, by kernel_rfl, by kernel_rfl, by kernel_rfl, by kernel_rfl, by kernel_rfl, trivial⟩ ?_
  refine at_then_normal ?_
  refine at_seq (x := C20 [1, 1, 0]) (y := C20 [1, 1, 1]) (by kernel_rfl) ?_
  refine at_seq (x := C20 [1, 1, 0, 0]) (y := C20 [1, 1, 0, 1]) (by kernel_rfl) ?_
  refine at_region (id := 2) 2 (by kernel_rfl) (by kernel_rfl) ?_
  refine s_pure 18 (.pointer (some ⟨b1, 3, none⟩)) (by kernel_rfl) (by kernel_rfl) (fun _ => by kernel_rfl) ?_
  refine s_load 19 (.int .i64 (5)) (by kernel_rfl) (by kernel_rfl) (load1 (off := 3) (fun _ => by kernel_rfl) (holds_own (.there (.there .here))) (by kernel_rfl)) ?_
  refine ops_end ?_
  refine At.env [(0, .agg #[.int .i64 k, .int .i64 line, .int .i64 id, .int .i64 (5), .int .i64 state, .int .i64 head, .slice a m cap, .int .i64 next, .int .i64 told]), (1, .int .i64 node), (2, .int .i64 home), (3, .pointer (some ⟨b1, 0, none⟩)), (6, .pointer (some ⟨b2, 0, none⟩)), (7, .pointer (some ⟨b3, 0, none⟩)), (19, .int .i64 (5))] ⟨by kernel_rfl, by kernel_rfl, by kernel_rfl, by kernel_rfl, by kernel_rfl, by kernel_rfl, by kernel_rfl, trivial⟩ ?_
  refine at_then_normal ?_
  refine at_block (i := 0) (x := C20 [1, 1, 0, 1, 0]) (by kernel_rfl) ?_
  refine at_seq (x := C20 [1, 1, 0, 1, 0, 0]) (y := C20 [1, 1, 0, 1, 0, 1]) (by kernel_rfl) ?_
  refine at_region (id := 4) 2 (by kernel_rfl) (by kernel_rfl) ?_
  refine s_pure 22 (.bool false) (by kernel_rfl) (by kernel_rfl) (fun _ => by kernel_rfl) ?_
  refine s_pure 21 (.bool false) (by kernel_rfl) (by kernel_rfl) (fun _ => by kernel_rfl) ?_
  refine ops_end ?_
  refine At.env [(0, .agg #[.int .i64 k, .int .i64 line, .int .i64 id, .int .i64 (5), .int .i64 state, .int .i64 head, .slice a m cap, .int .i64 next, .int .i64 told]), (1, .int .i64 node), (2, .int .i64 home), (3, .pointer (some ⟨b1, 0, none⟩)), (6, .pointer (some ⟨b2, 0, none⟩)), (7, .pointer (some ⟨b3, 0, none⟩)), (19, .int .i64 (5)), (21, .bool false)] ⟨by kernel_rfl, by kernel_rfl, by kernel_rfl, by kernel_rfl, by kernel_rfl, by kernel_rfl, by kernel_rfl, by kernel_rfl, trivial⟩ ?_
  refine at_then_normal ?_
  refine at_false (t := false) (x := C20 [1, 1, 0, 1, 0, 1, 0]) (y := C20 [1, 1, 0, 1, 0, 1, 1]) (o := .tmp 21) (by kernel_rfl) (by kernel_rfl) (by kernel_rfl) rfl ?_
  refine at_seq (x := C20 [1, 1, 0, 1, 0, 1, 1, 0]) (y := C20 [1, 1, 0, 1, 0, 1, 1, 1]) (by kernel_rfl) ?_
  refine at_region (id := 6) 2 (by kernel_rfl) (by kernel_rfl) ?_
  refine s_pure 25 (.bool false) (by kernel_rfl) (by kernel_rfl) (fun _ => by kernel_rfl) ?_
  refine s_pure 24 (.bool false) (by kernel_rfl) (by kernel_rfl) (fun _ => by kernel_rfl) ?_
  refine ops_end ?_
  refine At.env [(0, .agg #[.int .i64 k, .int .i64 line, .int .i64 id, .int .i64 (5), .int .i64 state, .int .i64 head, .slice a m cap, .int .i64 next, .int .i64 told]), (1, .int .i64 node), (2, .int .i64 home), (3, .pointer (some ⟨b1, 0, none⟩)), (6, .pointer (some ⟨b2, 0, none⟩)), (7, .pointer (some ⟨b3, 0, none⟩)), (19, .int .i64 (5)), (21, .bool false), (24, .bool false)] ⟨by kernel_rfl, by kernel_rfl, by kernel_rfl, by kernel_rfl, by kernel_rfl, by kernel_rfl, by kernel_rfl, by kernel_rfl, by kernel_rfl, trivial⟩ ?_
  refine at_then_normal ?_
  refine at_false (t := false) (x := C20 [1, 1, 0, 1, 0, 1, 1, 1, 0]) (y := C20 [1, 1, 0, 1, 0, 1, 1, 1, 1]) (o := .tmp 24) (by kernel_rfl) (by kernel_rfl) (by kernel_rfl) rfl ?_
  refine at_seq (x := C20 [1, 1, 0, 1, 0, 1, 1, 1, 1, 0]) (y := C20 [1, 1, 0, 1, 0, 1, 1, 1, 1, 1]) (by kernel_rfl) ?_
  refine at_region (id := 8) 2 (by kernel_rfl) (by kernel_rfl) ?_
  refine s_pure 32 (.bool false) (by kernel_rfl) (by kernel_rfl) (fun _ => by kernel_rfl) ?_
  refine s_pure 31 (.bool false) (by kernel_rfl) (by kernel_rfl) (fun _ => by kernel_rfl) ?_
  refine ops_end ?_
  refine At.env [(0, .agg #[.int .i64 k, .int .i64 line, .int .i64 id, .int .i64 (5), .int .i64 state, .int .i64 head, .slice a m cap, .int .i64 next, .int .i64 told]), (1, .int .i64 node), (2, .int .i64 home), (3, .pointer (some ⟨b1, 0, none⟩)), (6, .pointer (some ⟨b2, 0, none⟩)), (7, .pointer (some ⟨b3, 0, none⟩)), (19, .int .i64 (5)), (21, .bool false), (24, .bool false), (31, .bool false)] ⟨by kernel_rfl, by kernel_rfl, by kernel_rfl, by kernel_rfl, by kernel_rfl, by kernel_rfl, by kernel_rfl, by kernel_rfl, by kernel_rfl, by kernel_rfl, trivial⟩ ?_
  refine at_then_normal ?_
  refine at_false (t := false) (x := C20 [1, 1, 0, 1, 0, 1, 1, 1, 1, 1, 0]) (y := C20 [1, 1, 0, 1, 0, 1, 1, 1, 1, 1, 1]) (o := .tmp 31) (by kernel_rfl) (by kernel_rfl) (by kernel_rfl) rfl ?_
  refine at_seq (x := C20 [1, 1, 0, 1, 0, 1, 1, 1, 1, 1, 1, 0]) (y := C20 [1, 1, 0, 1, 0, 1, 1, 1, 1, 1, 1, 1]) (by kernel_rfl) ?_
  refine at_region (id := 10) 2 (by kernel_rfl) (by kernel_rfl) ?_
  refine s_pure 37 (.bool false) (by kernel_rfl) (by kernel_rfl) (fun _ => by kernel_rfl) ?_
  refine s_pure 36 (.bool false) (by kernel_rfl) (by kernel_rfl) (fun _ => by kernel_rfl) ?_
  refine ops_end ?_
  refine At.env [(0, .agg #[.int .i64 k, .int .i64 line, .int .i64 id, .int .i64 (5), .int .i64 state, .int .i64 head, .slice a m cap, .int .i64 next, .int .i64 told]), (1, .int .i64 node), (2, .int .i64 home), (3, .pointer (some ⟨b1, 0, none⟩)), (6, .pointer (some ⟨b2, 0, none⟩)), (7, .pointer (some ⟨b3, 0, none⟩)), (19, .int .i64 (5)), (21, .bool false), (24, .bool false), (31, .bool false), (36, .bool false)] ⟨by kernel_rfl, by kernel_rfl, by kernel_rfl, by kernel_rfl, by kernel_rfl, by kernel_rfl, by kernel_rfl, by kernel_rfl, by kernel_rfl, by kernel_rfl, by kernel_rfl, trivial⟩ ?_
  refine at_then_normal ?_
  refine at_false (t := false) (x := C20 [1, 1, 0, 1, 0, 1, 1, 1, 1, 1, 1, 1, 0]) (y := C20 [1, 1, 0, 1, 0, 1, 1, 1, 1, 1, 1, 1, 1]) (o := .tmp 36) (by kernel_rfl) (by kernel_rfl) (by kernel_rfl) rfl ?_
  refine at_seq (x := C20 [1, 1, 0, 1, 0, 1, 1, 1, 1, 1, 1, 1, 1, 0]) (y := C20 [1, 1, 0, 1, 0, 1, 1, 1, 1, 1, 1, 1, 1, 1]) (by kernel_rfl) ?_
  refine at_region (id := 12) 2 (by kernel_rfl) (by kernel_rfl) ?_
  refine s_pure 45 (.bool true) (by kernel_rfl) (by kernel_rfl) (fun _ => by kernel_rfl) ?_
  refine s_pure 44 (.bool true) (by kernel_rfl) (by kernel_rfl) (fun _ => by kernel_rfl) ?_
  refine ops_end ?_
  refine At.env [(0, .agg #[.int .i64 k, .int .i64 line, .int .i64 id, .int .i64 (5), .int .i64 state, .int .i64 head, .slice a m cap, .int .i64 next, .int .i64 told]), (1, .int .i64 node), (2, .int .i64 home), (3, .pointer (some ⟨b1, 0, none⟩)), (6, .pointer (some ⟨b2, 0, none⟩)), (7, .pointer (some ⟨b3, 0, none⟩)), (19, .int .i64 (5)), (21, .bool false), (24, .bool false), (31, .bool false), (36, .bool false), (44, .bool true)] ⟨by kernel_rfl, by kernel_rfl, by kernel_rfl, by kernel_rfl, by kernel_rfl, by kernel_rfl, by kernel_rfl, by kernel_rfl, by kernel_rfl, by kernel_rfl, by kernel_rfl, by kernel_rfl, trivial⟩ ?_
  refine at_then_normal ?_
  refine at_true (t := true) (x := C20 [1, 1, 0, 1, 0, 1, 1, 1, 1, 1, 1, 1, 1, 1, 0]) (y := C20 [1, 1, 0, 1, 0, 1, 1, 1, 1, 1, 1, 1, 1, 1, 1]) (o := .tmp 44) (by kernel_rfl) (by kernel_rfl) (by kernel_rfl) rfl ?_
  refine at_region_draw (id := 13) (by kernel_rfl) (by kernel_rfl) ?_
  refine d_pure 0 46 (.pointer (some ⟨b1, 7, none⟩)) (by kernel_rfl) (by kernel_rfl) (by kernel_rfl) (fun _ => by kernel_rfl) ?_
  refine d_load 1 47 (.int .i64 next) (by kernel_rfl) (by kernel_rfl) (by kernel_rfl) (load1 (off := 7) (fun _ => by kernel_rfl) (holds_own (.there (.there .here))) (by kernel_rfl)) ?_
  refine d_pure 2 48 (.pointer (some ⟨b1, 5, none⟩)) (by kernel_rfl) (by kernel_rfl) (by kernel_rfl) (fun _ => by kernel_rfl) ?_
  refine d_load 3 49 (.int .i64 head) (by kernel_rfl) (by kernel_rfl) (by kernel_rfl) (load1 (off := 5) (fun _ => by kernel_rfl) (holds_own (.there (.there .here))) (by kernel_rfl)) ?_
  refine d_pure 4 50 (.pointer (some ⟨b3, 2, none⟩)) (by kernel_rfl) (by kernel_rfl) (by kernel_rfl) (fun _ => by kernel_rfl) ?_
  refine d_do 5 [4, 1, 0] [2] [3] (by kernel_rfl) (by kernel_rfl) (by kernel_rfl) (st_store (off := 2) (vs := [.int .i64 next]) (c' := #[.int .i64 (5), .int .i64 node, .int .i64 next, .int .i64 id, .int .i64 line, .int .i64 (0), .int .i64 (0), .bool false, .slice none 0 0]) (fun _ => by kernel_rfl) .here (by kernel_rfl) (by kernel_rfl) (by kernel_rfl)) ?_
  rintro _ _ ⟨rfl, rfl⟩
  refine ⟨(stable_cons 3 49 (.int .i64 head) (by kernel_rfl) (by kernel_rfl) (by kernel_rfl) (load1 (off := 5) (fun _ => by kernel_rfl) (holds_own (.there (.there .here))) (by kernel_rfl)) stable_nil), ?_⟩
  refine d_pure 6 51 (.pointer (some ⟨b3, 5, none⟩)) (by kernel_rfl) (by kernel_rfl) (by kernel_rfl) (fun _ => by kernel_rfl) ?_
  refine d_do 7 [6, 3, 5, 0, 1, 2, 4] [] [] (by kernel_rfl) (by kernel_rfl) (by kernel_rfl) (st_store (off := 5) (vs := [.int .i64 head]) (c' := #[.int .i64 (5), .int .i64 node, .int .i64 next, .int .i64 id, .int .i64 line, .int .i64 head, .int .i64 (0), .bool false, .slice none 0 0]) (fun _ => by kernel_rfl) .here (by kernel_rfl) (by kernel_rfl) (by kernel_rfl)) ?_
  rintro _ _ ⟨rfl, rfl⟩
  refine ⟨stable_nil, ?_⟩
  refine draw_end (by kernel_rfl) ?_
  refine At.env [(0, .agg #[.int .i64 k, .int .i64 line, .int .i64 id, .int .i64 (5), .int .i64 state, .int .i64 head, .slice a m cap, .int .i64 next, .int .i64 told]), (1, .int .i64 node), (2, .int .i64 home), (3, .pointer (some ⟨b1, 0, none⟩)), (6, .pointer (some ⟨b2, 0, none⟩)), (7, .pointer (some ⟨b3, 0, none⟩)), (19, .int .i64 (5)), (21, .bool false), (24, .bool false), (31, .bool false), (36, .bool false), (44, .bool true)] ⟨by kernel_rfl, by kernel_rfl, by kernel_rfl, by kernel_rfl, by kernel_rfl, by kernel_rfl, by kernel_rfl, by kernel_rfl, by kernel_rfl, by kernel_rfl, by kernel_rfl, by kernel_rfl, trivial⟩ ?_
  refine at_in_normal ?_
  refine at_then_normal ?_
  refine at_seq (x := C20 [1, 1, 1, 0]) (y := C20 [1, 1, 1, 1]) (by kernel_rfl) ?_
  refine at_region (id := 16) 2 (by kernel_rfl) (by kernel_rfl) ?_
  refine s_load 69 (.agg #[.int .i64 (5), .int .i64 node, .int .i64 next, .int .i64 id, .int .i64 line, .int .i64 head, .int .i64 (0), .bool false, .slice none 0 0]) (by kernel_rfl) (by kernel_rfl) (loadN (off := 0) (vs := [.int .i64 (5), .int .i64 node, .int .i64 next, .int .i64 id, .int .i64 line, .int .i64 head, .int .i64 (0), .bool false, .slice none 0 0]) 9 (fun _ => by kernel_rfl) (holds_own .here) rfl (by exact ⟨rfl, rfl, rfl, rfl, rfl, rfl, rfl, rfl, rfl, trivial⟩)) ?_
  refine s_do (by kernel_rfl) (by kernel_rfl) (st_store (off := 0) (vs := [.int .i64 (5), .int .i64 node, .int .i64 next, .int .i64 id, .int .i64 line, .int .i64 head, .int .i64 (0), .bool false, .slice none 0 0]) (c' := #[.int .i64 (5), .int .i64 node, .int .i64 next, .int .i64 id, .int .i64 line, .int .i64 head, .int .i64 (0), .bool false, .slice none 0 0]) (fun _ => by kernel_rfl) (.there .here) (by kernel_rfl) (by kernel_rfl) (by kernel_rfl)) ?_
  rintro _ _ ⟨rfl, rfl⟩
  refine ops_end ?_
  refine At.env [(0, .agg #[.int .i64 k, .int .i64 line, .int .i64 id, .int .i64 (5), .int .i64 state, .int .i64 head, .slice a m cap, .int .i64 next, .int .i64 told]), (1, .int .i64 node), (2, .int .i64 home), (3, .pointer (some ⟨b1, 0, none⟩)), (6, .pointer (some ⟨b2, 0, none⟩)), (7, .pointer (some ⟨b3, 0, none⟩)), (19, .int .i64 (5)), (21, .bool false), (24, .bool false), (31, .bool false), (36, .bool false), (44, .bool true)] ⟨by kernel_rfl, by kernel_rfl, by kernel_rfl, by kernel_rfl, by kernel_rfl, by kernel_rfl, by kernel_rfl, by kernel_rfl, by kernel_rfl, by kernel_rfl, by kernel_rfl, by kernel_rfl, trivial⟩ ?_
  refine at_then_normal ?_
  refine at_ret (by kernel_rfl) ?_
  refine at_backR [.agg #[.int .i64 (5), .int .i64 node, .int .i64 next, .int .i64 id, .int .i64 line, .int .i64 head, .int .i64 (0), .bool false, .slice none 0 0]] (Γ) (rs := [.cell 6 38]) (by kernel_rfl) (.cons (.cell (by kernel_rfl) (retN (off := 0) (vs := [.int .i64 (5), .int .i64 node, .int .i64 next, .int .i64 id, .int .i64 line, .int .i64 head, .int .i64 (0), .bool false, .slice none 0 0]) 9 (fun _ => by kernel_rfl) (holds_own .here) rfl (by exact ⟨rfl, rfl, rfl, rfl, rfl, rfl, rfl, rfl, rfl, trivial⟩))) .nil) (fun w hw => hw.less (.drop .here (.drop .here (.drop .here .refl)))) ?_
  exact ⟨rfl, rfl⟩
set_option maxRecDepth 100000 in
theorem Ask_6 {W0 : World} {Γ : List Asn} (k line id state head next told : Int) (a : Option Addr) (m cap : Nat) (node home : Int) (xs : List Int) (hm : m = xs.length) (hr : Reads W0 Γ a (ints xs)) (hlx : xs.length ≤ 1099511627776) : Tr Try.prog 20 #[.agg #[.int .i64 k, .int .i64 line, .int .i64 id, .int .i64 (6), .int .i64 state, .int .i64 head, .slice a m cap, .int .i64 next, .int .i64 told], .int .i64 node, .int .i64 home] W0 (Γ) (fun r Δ => ∃ a' cap', r = .agg #[.int .i64 (2), .int .i64 node, .int .i64 home, .int .i64 id, .int .i64 line, .int .i64 (head), .int .i64 (state), .bool (decide ((0 : Int) < ((m : Nat) : Int))), .slice a' m cap'] ∧ Δ = IntsA a' cap' xs :: Γ) := by
  refine Tr.enter (fn := Try.f20) (c := C20 []) (args := [.agg #[.int .i64 k, .int .i64 line, .int .i64 id, .int .i64 (6), .int .i64 state, .int .i64 head, .slice a m cap, .int .i64 next, .int .i64 told], .int .i64 node, .int .i64 home]) 70 Try.func20 (by kernel_rfl) (by kernel_rfl) ?_
  refine At.env [(0, .agg #[.int .i64 k, .int .i64 line, .int .i64 id, .int .i64 (6), .int .i64 state, .int .i64 head, .slice a m cap, .int .i64 next, .int .i64 told]), (1, .int .i64 node), (2, .int .i64 home)] ⟨by kernel_rfl, by kernel_rfl, by kernel_rfl, trivial⟩ ?_
  refine at_seq (x := C20 [0]) (y := C20 [1]) (by kernel_rfl) ?_
  refine at_region (id := 0) 2 (by kernel_rfl) (by kernel_rfl) ?_
  refine s_step 3 (by kernel_rfl) (by kernel_rfl) (st_new (T := 36) (cells := #[.int .i64 k, .int .i64 line, .int .i64 id, .int .i64 (6), .int .i64 state, .int .i64 head, .slice a m cap, .int .i64 next, .int .i64 told]) (fun a => .pointer (some a)) (fun _ => by kernel_rfl)) ?_
  rintro _ _ ⟨b1, rfl, rfl⟩
  refine s_step 6 (by kernel_rfl) (by kernel_rfl) (st_new (T := 38) (cells := #[.int .i64 (0), .int .i64 (0), .int .i64 (0), .int .i64 (0), .int .i64 (0), .int .i64 (0), .int .i64 (0), .bool false, .slice none 0 0]) (fun a => .pointer (some a)) (fun _ => by kernel_rfl)) ?_
  rintro _ _ ⟨b2, rfl, rfl⟩
  refine ops_end ?_
  refine At.env [(0, .agg #[.int .i64 k, .int .i64 line, .int .i64 id, .int .i64 (6), .int .i64 state, .int .i64 head, .slice a m cap, .int .i64 next, .int .i64 told]), (1, .int .i64 node), (2, .int .i64 home), (3, .pointer (some ⟨b1, 0, none⟩)), (6, .pointer (some ⟨b2, 0, none⟩))] ⟨by kernel_rfl, by kernel_rfl, by kernel_rfl, by kernel_rfl, by kernel_rfl, trivial⟩ ?_
  refine at_then_normal ?_
  refine at_seq (x := C20 [1, 0]) (y := C20 [1, 1]) (by kernel_rfl) ?_
  refine at_region_draw (id := 1) (by kernel_rfl) (by kernel_rfl) ?_
  refine d_pure 0 8 (.pointer (some ⟨b1, 3, none⟩)) (by kernel_rfl) (by kernel_rfl) (by kernel_rfl) (fun _ => by kernel_rfl) ?_
  refine d_load 1 9 (.int .i64 (6)) (by kernel_rfl) (by kernel_rfl) (by kernel_rfl) (load1 (off := 3) (fun _ => by kernel_rfl) (holds_own (.there .here)) (by kernel_rfl)) ?_
  refine d_quiet 2 10 (.int .i64 (2)) 43 #[.int .i64 (6)] (by kernel_rfl) (by kernel_rfl) (by kernel_rfl) (fun _ => by kernel_rfl) (fun _ => (Tr.as (Kind_tr (6)) (show Value.int .i64 (kindI (6)) = .int .i64 (2) from by rfl))) ?_
  refine d_pure 3 11 (.int .i64 node) (by kernel_rfl) (by kernel_rfl) (by kernel_rfl) (fun _ => by kernel_rfl) ?_
  refine d_pure 4 12 (.int .i64 home) (by kernel_rfl) (by kernel_rfl) (by kernel_rfl) (fun _ => by kernel_rfl) ?_
  refine d_pure 5 13 (.pointer (some ⟨b1, 2, none⟩)) (by kernel_rfl) (by kernel_rfl) (by kernel_rfl) (fun _ => by kernel_rfl) ?_
  refine d_load 6 14 (.int .i64 id) (by kernel_rfl) (by kernel_rfl) (by kernel_rfl) (load1 (off := 2) (fun _ => by kernel_rfl) (holds_own (.there .here)) (by kernel_rfl)) ?_
  refine d_pure 7 15 (.pointer (some ⟨b1, 1, none⟩)) (by kernel_rfl) (by kernel_rfl) (by kernel_rfl) (fun _ => by kernel_rfl) ?_
  refine d_load 8 16 (.int .i64 line) (by kernel_rfl) (by kernel_rfl) (by kernel_rfl) (load1 (off := 1) (fun _ => by kernel_rfl) (holds_own (.there .here)) (by kernel_rfl)) ?_
  refine d_pure 9 17 (.agg #[.int .i64 (2), .int .i64 node, .int .i64 home, .int .i64 id, .int .i64 line, .int .i64 (0), .int .i64 (0), .bool false, .slice none 0 0]) (by kernel_rfl) (by kernel_rfl) (by kernel_rfl) (fun _ => by kernel_rfl) ?_
  refine d_step 10 7 [] [9, 7, 5, 4, 3, 2, 0] [8, 6, 1] (by kernel_rfl) (by kernel_rfl) (by kernel_rfl) (st_new (T := 38) (cells := #[.int .i64 (0), .int .i64 (0), .int .i64 (0), .int .i64 (0), .int .i64 (0), .int .i64 (0), .int .i64 (0), .bool false, .slice none 0 0]) (fun a => .pointer (some a)) (fun _ => by kernel_rfl)) ?_
  rintro _ _ ⟨b3, rfl, rfl⟩
  refine ⟨(stable_cons 8 16 (.int .i64 line) (by kernel_rfl) (by kernel_rfl) (by kernel_rfl) (load1 (off := 1) (fun _ => by kernel_rfl) (holds_own (.there (.there .here))) (by kernel_rfl)) (stable_cons 6 14 (.int .i64 id) (by kernel_rfl) (by kernel_rfl) (by kernel_rfl) (load1 (off := 2) (fun _ => by kernel_rfl) (holds_own (.there (.there .here))) (by kernel_rfl)) (stable_cons 1 9 (.int .i64 (6)) (by kernel_rfl) (by kernel_rfl) (by kernel_rfl) (load1 (off := 3) (fun _ => by kernel_rfl) (holds_own (.there (.there .here))) (by kernel_rfl)) stable_nil))), ?_⟩
  refine d_do 11 [10, 9, 2, 0, 1, 3, 4, 5, 6, 7, 8] [] [] (by kernel_rfl) (by kernel_rfl) (by kernel_rfl) (st_store (off := 0) (vs := [.int .i64 (2), .int .i64 node, .int .i64 home, .int .i64 id, .int .i64 line, .int .i64 (0), .int .i64 (0), .bool false, .slice none 0 0]) (c' := #[.int .i64 (2), .int .i64 node, .int .i64 home, .int .i64 id, .int .i64 line, .int .i64 (0), .int .i64 (0), .bool false, .slice none 0 0]) (fun _ => by kernel_rfl) .here (by kernel_rfl) (by kernel_rfl) (by kernel_rfl)) ?_
  rintro _ _ ⟨rfl, rfl⟩
  refine ⟨stable_nil, ?_⟩
  refine draw_end (by kernel_rfl) ?_
  refine At.env [(0, .agg #[.int .i64 k, .int .i64 line, .int .i64 id, .int .i64 (6), .int .i64 state, .int .i64 head, .slice a m cap, .int .i64 next, .int .i64 told]), (1, .int .i64 node), (2, .int .i64 home), (3, .pointer (some ⟨b1, 0, none⟩)), (6, .pointer (some ⟨b2, 0, none⟩)), (7, .pointer (some ⟨b3, 0, none⟩))] ⟨by kernel_rfl, by kernel_rfl, by kernel_rfl, by kernel_rfl, by kernel_rfl, by kernel_rfl, trivial⟩ ?_
  refine at_then_normal ?_
  refine at_seq (x := C20 [1, 1, 0]) (y := C20 [1, 1, 1]) (by kernel_rfl) ?_
  refine at_seq (x := C20 [1, 1, 0, 0]) (y := C20 [1, 1, 0, 1]) (by kernel_rfl) ?_
  refine at_region (id := 2) 2 (by kernel_rfl) (by kernel_rfl) ?_
  refine s_pure 18 (.pointer (some ⟨b1, 3, none⟩)) (by kernel_rfl) (by kernel_rfl) (fun _ => by kernel_rfl) ?_
  refine s_load 19 (.int .i64 (6)) (by kernel_rfl) (by kernel_rfl) (load1 (off := 3) (fun _ => by kernel_rfl) (holds_own (.there (.there .here))) (by kernel_rfl)) ?_
  refine ops_end ?_
  refine At.env [(0, .agg #[.int .i64 k, .int .i64 line, .int .i64 id, .int .i64 (6), .int .i64 state, .int .i64 head, .slice a m cap, .int .i64 next, .int .i64 told]), (1, .int .i64 node), (2, .int .i64 home), (3, .pointer (some ⟨b1, 0, none⟩)), (6, .pointer (some ⟨b2, 0, none⟩)), (7, .pointer (some ⟨b3, 0, none⟩)), (19, .int .i64 (6))] ⟨by kernel_rfl, by kernel_rfl, by kernel_rfl, by kernel_rfl, by kernel_rfl, by kernel_rfl, by kernel_rfl, trivial⟩ ?_
  refine at_then_normal ?_
  refine at_block (i := 0) (x := C20 [1, 1, 0, 1, 0]) (by kernel_rfl) ?_
  refine at_seq (x := C20 [1, 1, 0, 1, 0, 0]) (y := C20 [1, 1, 0, 1, 0, 1]) (by kernel_rfl) ?_
  refine at_region (id := 4) 2 (by kernel_rfl) (by kernel_rfl) ?_
  refine s_pure 22 (.bool false) (by kernel_rfl) (by kernel_rfl) (fun _ => by kernel_rfl) ?_
  refine s_pure 21 (.bool false) (by kernel_rfl) (by kernel_rfl) (fun _ => by kernel_rfl) ?_
  refine ops_end ?_
  refine At.env [(0, .agg #[.int .i64 k, .int .i64 line, .int .i64 id, .int .i64 (6), .int .i64 state, .int .i64 head, .slice a m cap, .int .i64 next, .int .i64 told]), (1, .int .i64 node), (2, .int .i64 home), (3, .pointer (some ⟨b1, 0, none⟩)), (6, .pointer (some ⟨b2, 0, none⟩)), (7, .pointer (some ⟨b3, 0, none⟩)), (19, .int .i64 (6)), (21, .bool false)] ⟨by kernel_rfl, by kernel_rfl, by kernel_rfl, by kernel_rfl, by kernel_rfl, by kernel_rfl, by kernel_rfl, by kernel_rfl, trivial⟩ ?_
  refine at_then_normal ?_
  refine at_false (t := false) (x := C20 [1, 1, 0, 1, 0, 1, 0]) (y := C20 [1, 1, 0, 1, 0, 1, 1]) (o := .tmp 21) (by kernel_rfl) (by kernel_rfl) (by kernel_rfl) rfl ?_
  refine at_seq (x := C20 [1, 1, 0, 1, 0, 1, 1, 0]) (y := C20 [1, 1, 0, 1, 0, 1, 1, 1]) (by kernel_rfl) ?_
  refine at_region (id := 6) 2 (by kernel_rfl) (by kernel_rfl) ?_
  refine s_pure 25 (.bool false) (by kernel_rfl) (by kernel_rfl) (fun _ => by kernel_rfl) ?_
  refine s_pure 24 (.bool false) (by kernel_rfl) (by kernel_rfl) (fun _ => by kernel_rfl) ?_
  refine ops_end ?_
  refine At.env [(0, .agg #[.int .i64 k, .int .i64 line, .int .i64 id, .int .i64 (6), .int .i64 state, .int .i64 head, .slice a m cap, .int .i64 next, .int .i64 told]), (1, .int .i64 node), (2, .int .i64 home), (3, .pointer (some ⟨b1, 0, none⟩)), (6, .pointer (some ⟨b2, 0, none⟩)), (7, .pointer (some ⟨b3, 0, none⟩)), (19, .int .i64 (6)), (21, .bool false), (24, .bool false)] ⟨by kernel_rfl, by kernel_rfl, by kernel_rfl, by kernel_rfl, by kernel_rfl, by kernel_rfl, by kernel_rfl, by kernel_rfl, by kernel_rfl, trivial⟩ ?_
  refine at_then_normal ?_
  refine at_false (t := false) (x := C20 [1, 1, 0, 1, 0, 1, 1, 1, 0]) (y := C20 [1, 1, 0, 1, 0, 1, 1, 1, 1]) (o := .tmp 24) (by kernel_rfl) (by kernel_rfl) (by kernel_rfl) rfl ?_
  refine at_seq (x := C20 [1, 1, 0, 1, 0, 1, 1, 1, 1, 0]) (y := C20 [1, 1, 0, 1, 0, 1, 1, 1, 1, 1]) (by kernel_rfl) ?_
  refine at_region (id := 8) 2 (by kernel_rfl) (by kernel_rfl) ?_
  refine s_pure 32 (.bool false) (by kernel_rfl) (by kernel_rfl) (fun _ => by kernel_rfl) ?_
  refine s_pure 31 (.bool false) (by kernel_rfl) (by kernel_rfl) (fun _ => by kernel_rfl) ?_
  refine ops_end ?_
  refine At.env [(0, .agg #[.int .i64 k, .int .i64 line, .int .i64 id, .int .i64 (6), .int .i64 state, .int .i64 head, .slice a m cap, .int .i64 next, .int .i64 told]), (1, .int .i64 node), (2, .int .i64 home), (3, .pointer (some ⟨b1, 0, none⟩)), (6, .pointer (some ⟨b2, 0, none⟩)), (7, .pointer (some ⟨b3, 0, none⟩)), (19, .int .i64 (6)), (21, .bool false), (24, .bool false), (31, .bool false)] ⟨by kernel_rfl, by kernel_rfl, by kernel_rfl, by kernel_rfl, by kernel_rfl, by kernel_rfl, by kernel_rfl, by kernel_rfl, by kernel_rfl, by kernel_rfl, trivial⟩ ?_
  refine at_then_normal ?_
  refine at_false (t := false) (x := C20 [1, 1, 0, 1, 0, 1, 1, 1, 1, 1, 0]) (y := C20 [1, 1, 0, 1, 0, 1, 1, 1, 1, 1, 1]) (o := .tmp 31) (by kernel_rfl) (by kernel_rfl) (by kernel_rfl) rfl ?_
  refine at_seq (x := C20 [1, 1, 0, 1, 0, 1, 1, 1, 1, 1, 1, 0]) (y := C20 [1, 1, 0, 1, 0, 1, 1, 1, 1, 1, 1, 1]) (by kernel_rfl) ?_
  refine at_region (id := 10) 2 (by kernel_rfl) (by kernel_rfl) ?_
  refine s_pure 37 (.bool false) (by kernel_rfl) (by kernel_rfl) (fun _ => by kernel_rfl) ?_
  refine s_pure 36 (.bool false) (by kernel_rfl) (by kernel_rfl) (fun _ => by kernel_rfl) ?_
  refine ops_end ?_
  refine At.env [(0, .agg #[.int .i64 k, .int .i64 line, .int .i64 id, .int .i64 (6), .int .i64 state, .int .i64 head, .slice a m cap, .int .i64 next, .int .i64 told]), (1, .int .i64 node), (2, .int .i64 home), (3, .pointer (some ⟨b1, 0, none⟩)), (6, .pointer (some ⟨b2, 0, none⟩)), (7, .pointer (some ⟨b3, 0, none⟩)), (19, .int .i64 (6)), (21, .bool false), (24, .bool false), (31, .bool false), (36, .bool false)] ⟨by kernel_rfl, by kernel_rfl, by kernel_rfl, by kernel_rfl, by kernel_rfl, by kernel_rfl, by kernel_rfl, by kernel_rfl, by kernel_rfl, by kernel_rfl, by kernel_rfl, trivial⟩ ?_
  refine at_then_normal ?_
  refine at_false (t := false) (x := C20 [1, 1, 0, 1, 0, 1, 1, 1, 1, 1, 1, 1, 0]) (y := C20 [1, 1, 0, 1, 0, 1, 1, 1, 1, 1, 1, 1, 1]) (o := .tmp 36) (by kernel_rfl) (by kernel_rfl) (by kernel_rfl) rfl ?_
  refine at_seq (x := C20 [1, 1, 0, 1, 0, 1, 1, 1, 1, 1, 1, 1, 1, 0]) (y := C20 [1, 1, 0, 1, 0, 1, 1, 1, 1, 1, 1, 1, 1, 1]) (by kernel_rfl) ?_
  refine at_region (id := 12) 2 (by kernel_rfl) (by kernel_rfl) ?_
  refine s_pure 45 (.bool false) (by kernel_rfl) (by kernel_rfl) (fun _ => by kernel_rfl) ?_
  refine s_pure 44 (.bool false) (by kernel_rfl) (by kernel_rfl) (fun _ => by kernel_rfl) ?_
  refine ops_end ?_
  refine At.env [(0, .agg #[.int .i64 k, .int .i64 line, .int .i64 id, .int .i64 (6), .int .i64 state, .int .i64 head, .slice a m cap, .int .i64 next, .int .i64 told]), (1, .int .i64 node), (2, .int .i64 home), (3, .pointer (some ⟨b1, 0, none⟩)), (6, .pointer (some ⟨b2, 0, none⟩)), (7, .pointer (some ⟨b3, 0, none⟩)), (19, .int .i64 (6)), (21, .bool false), (24, .bool false), (31, .bool false), (36, .bool false), (44, .bool false)] ⟨by kernel_rfl, by kernel_rfl, by kernel_rfl, by kernel_rfl, by kernel_rfl, by kernel_rfl, by kernel_rfl, by kernel_rfl, by kernel_rfl, by kernel_rfl, by kernel_rfl, by kernel_rfl, trivial⟩ ?_
  refine at_then_normal ?_
  refine at_false (t := false) (x := C20 [1, 1, 0, 1, 0, 1, 1, 1, 1, 1, 1, 1, 1, 1, 0]) (y := C20 [1, 1, 0, 1, 0, 1, 1, 1, 1, 1, 1, 1, 1, 1, 1]) (o := .tmp 44) (by kernel_rfl) (by kernel_rfl) (by kernel_rfl) rfl ?_
  refine at_seq (x := C20 [1, 1, 0, 1, 0, 1, 1, 1, 1, 1, 1, 1, 1, 1, 1, 0]) (y := C20 [1, 1, 0, 1, 0, 1, 1, 1, 1, 1, 1, 1, 1, 1, 1, 1]) (by kernel_rfl) ?_
  refine at_region (id := 14) 2 (by kernel_rfl) (by kernel_rfl) ?_
  refine s_pure 53 (.bool true) (by kernel_rfl) (by kernel_rfl) (fun _ => by kernel_rfl) ?_
  refine s_pure 52 (.bool true) (by kernel_rfl) (by kernel_rfl) (fun _ => by kernel_rfl) ?_
  refine ops_end ?_
  refine At.env [(0, .agg #[.int .i64 k, .int .i64 line, .int .i64 id, .int .i64 (6), .int .i64 state, .int .i64 head, .slice a m cap, .int .i64 next, .int .i64 told]), (1, .int .i64 node), (2, .int .i64 home), (3, .pointer (some ⟨b1, 0, none⟩)), (6, .pointer (some ⟨b2, 0, none⟩)), (7, .pointer (some ⟨b3, 0, none⟩)), (19, .int .i64 (6)), (21, .bool false), (24, .bool false), (31, .bool false), (36, .bool false), (44, .bool false), (52, .bool true)] ⟨by kernel_rfl, by kernel_rfl, by kernel_rfl, by kernel_rfl, by kernel_rfl, by kernel_rfl, by kernel_rfl, by kernel_rfl, by kernel_rfl, by kernel_rfl, by kernel_rfl, by kernel_rfl, by kernel_rfl, trivial⟩ ?_
  refine at_then_normal ?_
  refine at_true (t := true) (x := C20 [1, 1, 0, 1, 0, 1, 1, 1, 1, 1, 1, 1, 1, 1, 1, 1, 0]) (y := C20 [1, 1, 0, 1, 0, 1, 1, 1, 1, 1, 1, 1, 1, 1, 1, 1, 1]) (o := .tmp 52) (by kernel_rfl) (by kernel_rfl) (by kernel_rfl) rfl ?_
  refine at_region_draw (id := 15) (by kernel_rfl) (by kernel_rfl) ?_
  refine d_pure 0 54 (.pointer (some ⟨b1, 4, none⟩)) (by kernel_rfl) (by kernel_rfl) (by kernel_rfl) (fun _ => by kernel_rfl) ?_
  refine d_load 1 55 (.int .i64 state) (by kernel_rfl) (by kernel_rfl) (by kernel_rfl) (load1 (off := 4) (fun _ => by kernel_rfl) (holds_own (.there (.there .here))) (by kernel_rfl)) ?_
  refine d_pure 2 56 (.pointer (some ⟨b1, 5, none⟩)) (by kernel_rfl) (by kernel_rfl) (by kernel_rfl) (fun _ => by kernel_rfl) ?_
  refine d_load 3 57 (.int .i64 head) (by kernel_rfl) (by kernel_rfl) (by kernel_rfl) (load1 (off := 5) (fun _ => by kernel_rfl) (holds_own (.there (.there .here))) (by kernel_rfl)) ?_
  refine d_pure 4 58 (.pointer (some ⟨b1, 6, none⟩)) (by kernel_rfl) (by kernel_rfl) (by kernel_rfl) (fun _ => by kernel_rfl) ?_
  refine d_load 5 59 (.slice a m cap) (by kernel_rfl) (by kernel_rfl) (by kernel_rfl) (load1 (off := 6) (fun _ => by kernel_rfl) (holds_own (.there (.there .here))) (by kernel_rfl)) ?_
  refine d_pure 6 60 (.int .i64 ((m : Nat) : Int)) (by kernel_rfl) (by kernel_rfl) (by kernel_rfl) (fun _ => by kernel_rfl) ?_
  refine d_pure 7 61 (.bool (decide ((0 : Int) < ((m : Nat) : Int)))) (by kernel_rfl) (by kernel_rfl) (by kernel_rfl) (fun _ => by kernel_rfl) ?_
  refine d_pure 8 62 (.pointer (some ⟨b1, 6, none⟩)) (by kernel_rfl) (by kernel_rfl) (by kernel_rfl) (fun _ => by kernel_rfl) ?_
  refine d_load 9 63 (.slice a m cap) (by kernel_rfl) (by kernel_rfl) (by kernel_rfl) (load1 (off := 6) (fun _ => by kernel_rfl) (holds_own (.there (.there .here))) (by kernel_rfl)) ?_
  refine d_pure 11 65 (.pointer (some ⟨b3, 6, none⟩)) (by kernel_rfl) (by kernel_rfl) (by kernel_rfl) (fun _ => by kernel_rfl) ?_
  refine d_call 10 64 [9, 8] [11, 7, 6, 4, 2, 0] [5, 3, 1] 44 #[.slice a m cap] (by kernel_rfl) (by kernel_rfl) (by kernel_rfl) (fun _ => by kernel_rfl) (Clone_tr a m cap xs (by first | exact hm | simp | (simp; omega) | omega) (Reads.conv (fun w hw => hw.less (.drop .here (.drop .here (.drop .here .refl)))) hr) (hlx)) ?_
  rintro _ _ ⟨a1, c1, rfl, rfl⟩
  refine ⟨(stable_cons 5 59 (.slice a m cap) (by kernel_rfl) (by kernel_rfl) (by kernel_rfl) (load1 (off := 6) (fun _ => by kernel_rfl) (holds_own (.there (.there (.there .here)))) (by kernel_rfl)) (stable_cons 3 57 (.int .i64 head) (by kernel_rfl) (by kernel_rfl) (by kernel_rfl) (load1 (off := 5) (fun _ => by kernel_rfl) (holds_own (.there (.there (.there .here)))) (by kernel_rfl)) (stable_cons 1 55 (.int .i64 state) (by kernel_rfl) (by kernel_rfl) (by kernel_rfl) (load1 (off := 4) (fun _ => by kernel_rfl) (holds_own (.there (.there (.there .here)))) (by kernel_rfl)) stable_nil))), ?_⟩
  refine d_do 12 [11, 1, 10, 0, 9, 8] [7, 6, 4, 2] [5, 3] (by kernel_rfl) (by kernel_rfl) (by kernel_rfl) (st_store (off := 6) (vs := [.int .i64 state]) (c' := #[.int .i64 (2), .int .i64 node, .int .i64 home, .int .i64 id, .int .i64 line, .int .i64 (0), .int .i64 state, .bool false, .slice none 0 0]) (fun _ => by kernel_rfl) (.there .here) (by kernel_rfl) (by kernel_rfl) (by kernel_rfl)) ?_
  rintro _ _ ⟨rfl, rfl⟩
  refine ⟨(stable_cons 5 59 (.slice a m cap) (by kernel_rfl) (by kernel_rfl) (by kernel_rfl) (load1 (off := 6) (fun _ => by kernel_rfl) (holds_own (.there (.there (.there .here)))) (by kernel_rfl)) (stable_cons 3 57 (.int .i64 head) (by kernel_rfl) (by kernel_rfl) (by kernel_rfl) (load1 (off := 5) (fun _ => by kernel_rfl) (holds_own (.there (.there (.there .here)))) (by kernel_rfl)) stable_nil)), ?_⟩
  refine d_pure 13 66 (.pointer (some ⟨b3, 5, none⟩)) (by kernel_rfl) (by kernel_rfl) (by kernel_rfl) (fun _ => by kernel_rfl) ?_
  refine d_do 14 [13, 3, 12, 0, 1, 2, 11, 10, 9, 8] [7, 6, 4] [5] (by kernel_rfl) (by kernel_rfl) (by kernel_rfl) (st_store (off := 5) (vs := [.int .i64 head]) (c' := #[.int .i64 (2), .int .i64 node, .int .i64 home, .int .i64 id, .int .i64 line, .int .i64 head, .int .i64 state, .bool false, .slice none 0 0]) (fun _ => by kernel_rfl) .here (by kernel_rfl) (by kernel_rfl) (by kernel_rfl)) ?_
  rintro _ _ ⟨rfl, rfl⟩
  refine ⟨(stable_cons 5 59 (.slice a m cap) (by kernel_rfl) (by kernel_rfl) (by kernel_rfl) (load1 (off := 6) (fun _ => by kernel_rfl) (holds_own (.there (.there (.there .here)))) (by kernel_rfl)) stable_nil), ?_⟩
  refine d_pure 15 67 (.pointer (some ⟨b3, 7, none⟩)) (by kernel_rfl) (by kernel_rfl) (by kernel_rfl) (fun _ => by kernel_rfl) ?_
  refine d_do 16 [15, 7, 14, 0, 1, 2, 3, 4, 5, 6, 11, 12, 13, 10, 9, 8] [] [] (by kernel_rfl) (by kernel_rfl) (by kernel_rfl) (st_store (off := 7) (vs := [.bool (decide ((0 : Int) < ((m : Nat) : Int)))]) (c' := #[.int .i64 (2), .int .i64 node, .int .i64 home, .int .i64 id, .int .i64 line, .int .i64 head, .int .i64 state, .bool (decide ((0 : Int) < ((m : Nat) : Int))), .slice none 0 0]) (fun _ => by kernel_rfl) .here (by kernel_rfl) (by kernel_rfl) (by kernel_rfl)) ?_
  rintro _ _ ⟨rfl, rfl⟩
  refine ⟨stable_nil, ?_⟩
  refine d_pure 17 68 (.pointer (some ⟨b3, 8, none⟩)) (by kernel_rfl) (by kernel_rfl) (by kernel_rfl) (fun _ => by kernel_rfl) ?_
  refine d_do 18 [17, 10, 16, 0, 1, 2, 3, 4, 5, 6, 7, 8, 9, 11, 12, 13, 14, 15] [] [] (by kernel_rfl) (by kernel_rfl) (by kernel_rfl) (st_store (off := 8) (vs := [.slice a1 m c1]) (c' := #[.int .i64 (2), .int .i64 node, .int .i64 home, .int .i64 id, .int .i64 line, .int .i64 head, .int .i64 state, .bool (decide ((0 : Int) < ((m : Nat) : Int))), .slice a1 m c1]) (fun _ => by kernel_rfl) .here (by kernel_rfl) (by kernel_rfl) (by kernel_rfl)) ?_
  rintro _ _ ⟨rfl, rfl⟩
  refine ⟨stable_nil, ?_⟩
  refine draw_end (by kernel_rfl) ?_
  refine At.env [(0, .agg #[.int .i64 k, .int .i64 line, .int .i64 id, .int .i64 (6), .int .i64 state, .int .i64 head, .slice a m cap, .int .i64 next, .int .i64 told]), (1, .int .i64 node), (2, .int .i64 home), (3, .pointer (some ⟨b1, 0, none⟩)), (6, .pointer (some ⟨b2, 0, none⟩)), (7, .pointer (some ⟨b3, 0, none⟩)), (19, .int .i64 (6)), (21, .bool false), (24, .bool false), (31, .bool false), (36, .bool false), (44, .bool false), (52, .bool true)] ⟨by kernel_rfl, by kernel_rfl, by kernel_rfl, by kernel_rfl, by kernel_rfl, by kernel_rfl, by kernel_rfl, by kernel_rfl, by kernel_rfl, by kernel_rfl, by kernel_rfl, by kernel_rfl, by kernel_rfl, trivial⟩ ?_
  refine at_in_normal ?_
  refine at_then_normal ?_
  refine at_seq (x := C20 [1, 1, 1, 0]) (y := C20 [1, 1, 1, 1]) (by kernel_rfl) ?_
  refine at_region (id := 16) 2 (by kernel_rfl) (by kernel_rfl) ?_
  refine s_load 69 (.agg #[.int .i64 (2), .int .i64 node, .int .i64 home, .int .i64 id, .int .i64 line, .int .i64 head, .int .i64 state, .bool (decide ((0 : Int) < ((m : Nat) : Int))), .slice a1 m c1]) (by kernel_rfl) (by kernel_rfl) (loadN (off := 0) (vs := [.int .i64 (2), .int .i64 node, .int .i64 home, .int .i64 id, .int .i64 line, .int .i64 head, .int .i64 state, .bool (decide ((0 : Int) < ((m : Nat) : Int))), .slice a1 m c1]) 9 (fun _ => by kernel_rfl) (holds_own .here) rfl (by exact ⟨rfl, rfl, rfl, rfl, rfl, rfl, rfl, rfl, rfl, trivial⟩)) ?_
  refine s_do (by kernel_rfl) (by kernel_rfl) (st_store (off := 0) (vs := [.int .i64 (2), .int .i64 node, .int .i64 home, .int .i64 id, .int .i64 line, .int .i64 head, .int .i64 state, .bool (decide ((0 : Int) < ((m : Nat) : Int))), .slice a1 m c1]) (c' := #[.int .i64 (2), .int .i64 node, .int .i64 home, .int .i64 id, .int .i64 line, .int .i64 head, .int .i64 state, .bool (decide ((0 : Int) < ((m : Nat) : Int))), .slice a1 m c1]) (fun _ => by kernel_rfl) (.there (.there .here)) (by kernel_rfl) (by kernel_rfl) (by kernel_rfl)) ?_
  rintro _ _ ⟨rfl, rfl⟩
  refine ops_end ?_
  refine At.env [(0, .agg #[.int .i64 k, .int .i64 line, .int .i64 id, .int .i64 (6), .int .i64 state, .int .i64 head, .slice a m cap, .int .i64 next, .int .i64 told]), (1, .int .i64 node), (2, .int .i64 home), (3, .pointer (some ⟨b1, 0, none⟩)), (6, .pointer (some ⟨b2, 0, none⟩)), (7, .pointer (some ⟨b3, 0, none⟩)), (19, .int .i64 (6)), (21, .bool false), (24, .bool false), (31, .bool false), (36, .bool false), (44, .bool false), (52, .bool true)] ⟨by kernel_rfl, by kernel_rfl, by kernel_rfl, by kernel_rfl, by kernel_rfl, by kernel_rfl, by kernel_rfl, by kernel_rfl, by kernel_rfl, by kernel_rfl, by kernel_rfl, by kernel_rfl, by kernel_rfl, trivial⟩ ?_
  refine at_then_normal ?_
  refine at_ret (by kernel_rfl) ?_
  refine at_backR [.agg #[.int .i64 (2), .int .i64 node, .int .i64 home, .int .i64 id, .int .i64 line, .int .i64 head, .int .i64 state, .bool (decide ((0 : Int) < ((m : Nat) : Int))), .slice a1 m c1]] ((IntsA a1 c1 xs) :: Γ) (rs := [.cell 6 38]) (by kernel_rfl) (.cons (.cell (by kernel_rfl) (retN (off := 0) (vs := [.int .i64 (2), .int .i64 node, .int .i64 home, .int .i64 id, .int .i64 line, .int .i64 head, .int .i64 state, .bool (decide ((0 : Int) < ((m : Nat) : Int))), .slice a1 m c1]) 9 (fun _ => by kernel_rfl) (holds_own .here) rfl (by exact ⟨rfl, rfl, rfl, rfl, rfl, rfl, rfl, rfl, rfl, trivial⟩))) .nil) (fun w hw => hw.less (.take (.there (.there .here)) (.drop .here (.drop .here (.drop .here .refl))))) ?_
  exact ⟨_, _, rfl, rfl⟩
theorem Ask_in {W0 : World} {Γ : List Asn} (s : Int) (h1 : ¬ s < 1) (h6 : ¬ 6 < s) (k line id state head next told : Int) (a : Option Addr) (m cap : Nat) (node home : Int) (xs : List Int) (hm : m = xs.length) (hr : Reads W0 Γ a (ints xs)) (hlx : xs.length ≤ 1099511627776) : Tr Try.prog 20 #[.agg #[.int .i64 k, .int .i64 line, .int .i64 id, .int .i64 s, .int .i64 state, .int .i64 head, .slice a m cap, .int .i64 next, .int .i64 told], .int .i64 node, .int .i64 home] W0 Γ (fun r Δ => ∃ a' m' cap', r = .agg #[.int .i64 (kindI s), .int .i64 node, .int .i64 (toI s home head next), .int .i64 id, .int .i64 line, .int .i64 (ptrI s node head next), .int .i64 (stateI s state), .bool (flagI s xs.length), .slice a' m' cap'] ∧ m' = (dataI s xs).length ∧ Δ = IntsA a' cap' (dataI s xs) :: Γ) := by
  have hs : s = 1 ∨ s = 2 ∨ s = 3 ∨ s = 4 ∨ s = 5 ∨ s = 6 := by omega
  rcases hs with rfl | rfl | rfl | rfl | rfl | rfl
  · refine Tr.conseq (Ask_1 k line id state head next told a m cap node home) ?_
    rintro r Δ ⟨rfl, rfl⟩
    exact ⟨_, ⟨none, 0, 0, rfl, rfl, rfl⟩, fun w hw => RowsA.none_mk hw⟩
  · refine Tr.conseq (Ask_2 k line id state head next told a m cap node home) ?_
    rintro r Δ ⟨rfl, rfl⟩
    exact ⟨_, ⟨none, 0, 0, rfl, rfl, rfl⟩, fun w hw => RowsA.none_mk hw⟩
  · refine Tr.conseq (Ask_3 k line id state head next told a m cap node home) ?_
    rintro r Δ ⟨rfl, rfl⟩
    exact ⟨_, ⟨none, 0, 0, rfl, rfl, rfl⟩, fun w hw => RowsA.none_mk hw⟩
  · refine Tr.conseq (Ask_4 k line id state head next told a m cap node home) ?_
    rintro r Δ ⟨rfl, rfl⟩
    exact ⟨_, ⟨none, 0, 0, rfl, rfl, rfl⟩, fun w hw => RowsA.none_mk hw⟩
  · refine Tr.conseq (Ask_5 k line id state head next told a m cap node home) ?_
    rintro r Δ ⟨rfl, rfl⟩
    exact ⟨_, ⟨none, 0, 0, rfl, rfl, rfl⟩, fun w hw => RowsA.none_mk hw⟩
  · refine Tr.mono (Ask_6 k line id state head next told a m cap node home xs hm hr hlx) ?_
    rintro r Δ ⟨a', cap', rfl, rfl⟩
    refine ⟨a', m, cap', ?_, hm, rfl⟩
    subst hm
    have : decide ((0 : Int) < ((xs.length : Nat) : Int)) = flagI 6 xs.length := by simp [flagI]
    rw [this]; rfl
theorem Ask_6_flag {W0 : World} {Γ : List Asn} {f : FuncId} {args : Array Value} {line id state head node home : Int} {xs : List Int} {b b' : Bool} {n : Nat} (hb : b' = b)
    (h : Tr Try.prog f args W0 Γ (fun r Δ => ∃ a' cap', r = .agg #[.int .i64 (2), .int .i64 node, .int .i64 home, .int .i64 id, .int .i64 line, .int .i64 (head), .int .i64 (state), .bool b', .slice a' n cap'] ∧ Δ = IntsA a' cap' xs :: Γ)) :
    Tr Try.prog f args W0 Γ (fun r Δ => ∃ a' cap', r = .agg #[.int .i64 (2), .int .i64 node, .int .i64 home, .int .i64 id, .int .i64 line, .int .i64 (head), .int .i64 (state), .bool b, .slice a' n cap'] ∧ Δ = IntsA a' cap' xs :: Γ) := by
  subst hb; exact h
noncomputable def C27 (p : List Nat) : Code := codeAt (bodyOf Try.f27) p
set_option maxRecDepth 100000 in
theorem Fits_tr {W0 : World} {Γ : List Asn} (s : Int) (k line id state head next told : Int) (a : Option Addr) (m cap : Nat) (pk pf pt pid pl pp ps : Int) (pfl : Bool) (pa : Option Addr) (pm pc : Nat)  : Tr Try.prog 27 #[.agg #[.int .i64 k, .int .i64 line, .int .i64 id, .int .i64 s, .int .i64 state, .int .i64 head, .slice a m cap, .int .i64 next, .int .i64 told], .agg #[.int .i64 pk, .int .i64 pf, .int .i64 pt, .int .i64 pid, .int .i64 pl, .int .i64 pp, .int .i64 ps, .bool pfl, .slice pa pm pc]] W0 (Γ) (fun r Δ => r = .bool (fitsB s id line pk pid pl) ∧ Δ = Γ) := by
  refine Tr.enter (fn := Try.f27) (c := C27 []) (args := [.agg #[.int .i64 k, .int .i64 line, .int .i64 id, .int .i64 s, .int .i64 state, .int .i64 head, .slice a m cap, .int .i64 next, .int .i64 told], .agg #[.int .i64 pk, .int .i64 pf, .int .i64 pt, .int .i64 pid, .int .i64 pl, .int .i64 pp, .int .i64 ps, .bool pfl, .slice pa pm pc]]) 32 Try.func27 (by kernel_rfl) (by kernel_rfl) ?_
  refine At.env [(0, .agg #[.int .i64 k, .int .i64 line, .int .i64 id, .int .i64 s, .int .i64 state, .int .i64 head, .slice a m cap, .int .i64 next, .int .i64 told]), (1, .agg #[.int .i64 pk, .int .i64 pf, .int .i64 pt, .int .i64 pid, .int .i64 pl, .int .i64 pp, .int .i64 ps, .bool pfl, .slice pa pm pc])] ⟨by kernel_rfl, by kernel_rfl, trivial⟩ ?_
  refine at_seq (x := C27 [0]) (y := C27 [1]) (by kernel_rfl) ?_
  refine at_region (id := 0) 3 (by kernel_rfl) (by kernel_rfl) ?_
  refine s_step 2 (by kernel_rfl) (by kernel_rfl) (st_new (T := 36) (cells := #[.int .i64 k, .int .i64 line, .int .i64 id, .int .i64 s, .int .i64 state, .int .i64 head, .slice a m cap, .int .i64 next, .int .i64 told]) (fun a => .pointer (some a)) (fun _ => by kernel_rfl)) ?_
  rintro _ _ ⟨b1, rfl, rfl⟩
  refine s_step 3 (by kernel_rfl) (by kernel_rfl) (st_new (T := 38) (cells := #[.int .i64 pk, .int .i64 pf, .int .i64 pt, .int .i64 pid, .int .i64 pl, .int .i64 pp, .int .i64 ps, .bool pfl, .slice pa pm pc]) (fun a => .pointer (some a)) (fun _ => by kernel_rfl)) ?_
  rintro _ _ ⟨b2, rfl, rfl⟩
  refine s_pure 4 (.bool false) (by kernel_rfl) (by kernel_rfl) (fun _ => by kernel_rfl) ?_
  refine ops_end ?_
  refine At.env [(0, .agg #[.int .i64 k, .int .i64 line, .int .i64 id, .int .i64 s, .int .i64 state, .int .i64 head, .slice a m cap, .int .i64 next, .int .i64 told]), (1, .agg #[.int .i64 pk, .int .i64 pf, .int .i64 pt, .int .i64 pid, .int .i64 pl, .int .i64 pp, .int .i64 ps, .bool pfl, .slice pa pm pc]), (2, .pointer (some ⟨b1, 0, none⟩)), (3, .pointer (some ⟨b2, 0, none⟩)), (4, .bool false)] ⟨by kernel_rfl, by kernel_rfl, by kernel_rfl, by kernel_rfl, by kernel_rfl, trivial⟩ ?_
  refine at_then_normal ?_
  refine at_seq (x := C27 [1, 0]) (y := C27 [1, 1]) (by kernel_rfl) ?_
  refine at_region (id := 1) 5 (by kernel_rfl) (by kernel_rfl) ?_
  refine s_pure 6 (.pointer (some ⟨b1, 3, none⟩)) (by kernel_rfl) (by kernel_rfl) (fun _ => by kernel_rfl) ?_
  refine s_load 7 (.int .i64 s) (by kernel_rfl) (by kernel_rfl) (load1 (off := 3) (fun _ => by kernel_rfl) (holds_own (.there .here)) (by kernel_rfl)) ?_
  refine s_quiet 8 (.int .i64 (kindI s)) 43 #[.int .i64 s] (by kernel_rfl) (by kernel_rfl) (fun _ => by kernel_rfl) (Kind_tr s) ?_
  refine s_quiet 9 (.int .i64 (answerI (kindI s))) 45 #[.int .i64 (kindI s)] (by kernel_rfl) (by kernel_rfl) (fun _ => by kernel_rfl) (Answer_tr (kindI s)) ?_
  refine s_pure 5 (.int .i64 (answerI (kindI s))) (by kernel_rfl) (by kernel_rfl) (fun _ => by kernel_rfl) ?_
  refine ops_end ?_
  refine At.env [(0, .agg #[.int .i64 k, .int .i64 line, .int .i64 id, .int .i64 s, .int .i64 state, .int .i64 head, .slice a m cap, .int .i64 next, .int .i64 told]), (1, .agg #[.int .i64 pk, .int .i64 pf, .int .i64 pt, .int .i64 pid, .int .i64 pl, .int .i64 pp, .int .i64 ps, .bool pfl, .slice pa pm pc]), (2, .pointer (some ⟨b1, 0, none⟩)), (3, .pointer (some ⟨b2, 0, none⟩)), (4, .bool false), (5, .int .i64 (answerI (kindI s)))] ⟨by kernel_rfl, by kernel_rfl, by kernel_rfl, by kernel_rfl, by kernel_rfl, by kernel_rfl, trivial⟩ ?_
  refine at_then_normal ?_
  refine at_seq (x := C27 [1, 1, 0]) (y := C27 [1, 1, 1]) (by kernel_rfl) ?_
  refine at_region (id := 2) 23 (by kernel_rfl) (by kernel_rfl) ?_
  refine s_pure 10 (.int .i64 (answerI (kindI s))) (by kernel_rfl) (by kernel_rfl) (fun _ => by kernel_rfl) ?_
  rcases Decidable.em ((answerI (kindI s)) = (0 : Int)) with h1 | h1
  · refine s_pure 11 (.bool false) (by kernel_rfl) (by kernel_rfl) (run_eq (v := .bool (!(decide ((answerI (kindI s)) = (0 : Int))))) (fun _ => by kernel_rfl) (congrArg Value.bool (by rw [decide_eq_true h1]; rfl))) ?_
    refine s_pure 12 (.bool false) (by kernel_rfl) (by kernel_rfl) (fun _ => by kernel_rfl) ?_
    refine s_pass 13 (by kernel_rfl) (by kernel_rfl) ?_
    refine s_pass 14 (by kernel_rfl) (by kernel_rfl) ?_
    refine s_pass 15 (by kernel_rfl) (by kernel_rfl) ?_
    refine s_pass 16 (by kernel_rfl) (by kernel_rfl) ?_
    refine s_pure 17 (.bool false) (by kernel_rfl) (by kernel_rfl) (fun _ => by kernel_rfl) ?_
    refine s_pure 18 (.bool false) (by kernel_rfl) (by kernel_rfl) (fun _ => by kernel_rfl) ?_
    refine s_pass 19 (by kernel_rfl) (by kernel_rfl) ?_
    refine s_pass 20 (by kernel_rfl) (by kernel_rfl) ?_
    refine s_pass 21 (by kernel_rfl) (by kernel_rfl) ?_
    refine s_pass 22 (by kernel_rfl) (by kernel_rfl) ?_
    refine s_pass 23 (by kernel_rfl) (by kernel_rfl) ?_
    refine s_pure 24 (.bool false) (by kernel_rfl) (by kernel_rfl) (fun _ => by kernel_rfl) ?_
    refine s_pure 25 (.bool false) (by kernel_rfl) (by kernel_rfl) (fun _ => by kernel_rfl) ?_
    refine s_pass 26 (by kernel_rfl) (by kernel_rfl) ?_
    refine s_pass 27 (by kernel_rfl) (by kernel_rfl) ?_
    refine s_pass 28 (by kernel_rfl) (by kernel_rfl) ?_
    refine s_pass 29 (by kernel_rfl) (by kernel_rfl) ?_
    refine s_pass 30 (by kernel_rfl) (by kernel_rfl) ?_
    refine s_pure 31 (.bool false) (by kernel_rfl) (by kernel_rfl) (fun _ => by kernel_rfl) ?_
    refine s_pure 4 (.bool false) (by kernel_rfl) (by kernel_rfl) (fun _ => by kernel_rfl) ?_
    refine ops_end ?_
    refine At.env [(0, .agg #[.int .i64 k, .int .i64 line, .int .i64 id, .int .i64 s, .int .i64 state, .int .i64 head, .slice a m cap, .int .i64 next, .int .i64 told]), (1, .agg #[.int .i64 pk, .int .i64 pf, .int .i64 pt, .int .i64 pid, .int .i64 pl, .int .i64 pp, .int .i64 ps, .bool pfl, .slice pa pm pc]), (2, .pointer (some ⟨b1, 0, none⟩)), (3, .pointer (some ⟨b2, 0, none⟩)), (4, .bool false), (5, .int .i64 (answerI (kindI s)))] ⟨by kernel_rfl, by kernel_rfl, by kernel_rfl, by kernel_rfl, by kernel_rfl, by kernel_rfl, trivial⟩ ?_
    refine at_then_normal ?_
    refine at_ret (by kernel_rfl) ?_
    refine at_backR [.bool false] (Γ) (rs := [.tmp 4]) (by kernel_rfl) (.cons (.tmp (by kernel_rfl)) .nil) (fun w hw => hw.less (.drop .here (.drop .here .refl))) ?_
    exact ⟨congrArg Value.bool (by simp [fitsB, wantI, *]), rfl⟩
  · refine s_pure 11 (.bool true) (by kernel_rfl) (by kernel_rfl) (run_eq (v := .bool (!(decide ((answerI (kindI s)) = (0 : Int))))) (fun _ => by kernel_rfl) (congrArg Value.bool (by rw [decide_eq_false h1]; rfl))) ?_
    refine s_pure 12 (.bool true) (by kernel_rfl) (by kernel_rfl) (fun _ => by kernel_rfl) ?_
    refine s_pure 13 (.pointer (some ⟨b2, 0, none⟩)) (by kernel_rfl) (by kernel_rfl) (fun _ => by kernel_rfl) ?_
    refine s_load 14 (.int .i64 pk) (by kernel_rfl) (by kernel_rfl) (load1 (off := 0) (fun _ => by kernel_rfl) (holds_own .here) (by kernel_rfl)) ?_
    refine s_pure 15 (.int .i64 (answerI (kindI s))) (by kernel_rfl) (by kernel_rfl) (fun _ => by kernel_rfl) ?_
    rcases Decidable.em (pk = (answerI (kindI s))) with h2 | h2
    · refine s_pure 16 (.bool true) (by kernel_rfl) (by kernel_rfl) (run_eq (v := .bool (decide (pk = (answerI (kindI s))))) (fun _ => by kernel_rfl) (congrArg Value.bool (by rw [decide_eq_true h2]))) ?_
      refine s_pure 17 (.bool true) (by kernel_rfl) (by kernel_rfl) (fun _ => by kernel_rfl) ?_
      refine s_pure 18 (.bool true) (by kernel_rfl) (by kernel_rfl) (fun _ => by kernel_rfl) ?_
      refine s_pure 19 (.pointer (some ⟨b2, 3, none⟩)) (by kernel_rfl) (by kernel_rfl) (fun _ => by kernel_rfl) ?_
      refine s_load 20 (.int .i64 pid) (by kernel_rfl) (by kernel_rfl) (load1 (off := 3) (fun _ => by kernel_rfl) (holds_own .here) (by kernel_rfl)) ?_
      refine s_pure 21 (.pointer (some ⟨b1, 2, none⟩)) (by kernel_rfl) (by kernel_rfl) (fun _ => by kernel_rfl) ?_
      refine s_load 22 (.int .i64 id) (by kernel_rfl) (by kernel_rfl) (load1 (off := 2) (fun _ => by kernel_rfl) (holds_own (.there .here)) (by kernel_rfl)) ?_
      rcases Decidable.em (pid = id) with h3 | h3
      · refine s_pure 23 (.bool true) (by kernel_rfl) (by kernel_rfl) (run_eq (v := .bool (decide (pid = id))) (fun _ => by kernel_rfl) (congrArg Value.bool (by rw [decide_eq_true h3]))) ?_
        refine s_pure 24 (.bool true) (by kernel_rfl) (by kernel_rfl) (fun _ => by kernel_rfl) ?_
        refine s_pure 25 (.bool true) (by kernel_rfl) (by kernel_rfl) (fun _ => by kernel_rfl) ?_
        refine s_pure 26 (.pointer (some ⟨b2, 4, none⟩)) (by kernel_rfl) (by kernel_rfl) (fun _ => by kernel_rfl) ?_
        refine s_load 27 (.int .i64 pl) (by kernel_rfl) (by kernel_rfl) (load1 (off := 4) (fun _ => by kernel_rfl) (holds_own .here) (by kernel_rfl)) ?_
        refine s_pure 28 (.pointer (some ⟨b1, 1, none⟩)) (by kernel_rfl) (by kernel_rfl) (fun _ => by kernel_rfl) ?_
        refine s_load 29 (.int .i64 line) (by kernel_rfl) (by kernel_rfl) (load1 (off := 1) (fun _ => by kernel_rfl) (holds_own (.there .here)) (by kernel_rfl)) ?_
        rcases Decidable.em (pl = line) with h4 | h4
        · refine s_pure 30 (.bool true) (by kernel_rfl) (by kernel_rfl) (run_eq (v := .bool (decide (pl = line))) (fun _ => by kernel_rfl) (congrArg Value.bool (by rw [decide_eq_true h4]))) ?_
          refine s_pure 31 (.bool true) (by kernel_rfl) (by kernel_rfl) (fun _ => by kernel_rfl) ?_
          refine s_pure 4 (.bool true) (by kernel_rfl) (by kernel_rfl) (fun _ => by kernel_rfl) ?_
          refine ops_end ?_
          refine At.env [(0, .agg #[.int .i64 k, .int .i64 line, .int .i64 id, .int .i64 s, .int .i64 state, .int .i64 head, .slice a m cap, .int .i64 next, .int .i64 told]), (1, .agg #[.int .i64 pk, .int .i64 pf, .int .i64 pt, .int .i64 pid, .int .i64 pl, .int .i64 pp, .int .i64 ps, .bool pfl, .slice pa pm pc]), (2, .pointer (some ⟨b1, 0, none⟩)), (3, .pointer (some ⟨b2, 0, none⟩)), (4, .bool true), (5, .int .i64 (answerI (kindI s)))] ⟨by kernel_rfl, by kernel_rfl, by kernel_rfl, by kernel_rfl, by kernel_rfl, by kernel_rfl, trivial⟩ ?_
          refine at_then_normal ?_
          refine at_ret (by kernel_rfl) ?_
          refine at_backR [.bool true] (Γ) (rs := [.tmp 4]) (by kernel_rfl) (.cons (.tmp (by kernel_rfl)) .nil) (fun w hw => hw.less (.drop .here (.drop .here .refl))) ?_
          exact ⟨congrArg Value.bool (by simp [fitsB, wantI, *]), rfl⟩
        · refine s_pure 30 (.bool false) (by kernel_rfl) (by kernel_rfl) (run_eq (v := .bool (decide (pl = line))) (fun _ => by kernel_rfl) (congrArg Value.bool (by rw [decide_eq_false h4]))) ?_
          refine s_pure 31 (.bool false) (by kernel_rfl) (by kernel_rfl) (fun _ => by kernel_rfl) ?_
          refine s_pure 4 (.bool false) (by kernel_rfl) (by kernel_rfl) (fun _ => by kernel_rfl) ?_
          refine ops_end ?_
          refine At.env [(0, .agg #[.int .i64 k, .int .i64 line, .int .i64 id, .int .i64 s, .int .i64 state, .int .i64 head, .slice a m cap, .int .i64 next, .int .i64 told]), (1, .agg #[.int .i64 pk, .int .i64 pf, .int .i64 pt, .int .i64 pid, .int .i64 pl, .int .i64 pp, .int .i64 ps, .bool pfl, .slice pa pm pc]), (2, .pointer (some ⟨b1, 0, none⟩)), (3, .pointer (some ⟨b2, 0, none⟩)), (4, .bool false), (5, .int .i64 (answerI (kindI s)))] ⟨by kernel_rfl, by kernel_rfl, by kernel_rfl, by kernel_rfl, by kernel_rfl, by kernel_rfl, trivial⟩ ?_
          refine at_then_normal ?_
          refine at_ret (by kernel_rfl) ?_
          refine at_backR [.bool false] (Γ) (rs := [.tmp 4]) (by kernel_rfl) (.cons (.tmp (by kernel_rfl)) .nil) (fun w hw => hw.less (.drop .here (.drop .here .refl))) ?_
          exact ⟨congrArg Value.bool (by simp [fitsB, wantI, *]), rfl⟩
      · refine s_pure 23 (.bool false) (by kernel_rfl) (by kernel_rfl) (run_eq (v := .bool (decide (pid = id))) (fun _ => by kernel_rfl) (congrArg Value.bool (by rw [decide_eq_false h3]))) ?_
        refine s_pure 24 (.bool false) (by kernel_rfl) (by kernel_rfl) (fun _ => by kernel_rfl) ?_
        refine s_pure 25 (.bool false) (by kernel_rfl) (by kernel_rfl) (fun _ => by kernel_rfl) ?_
        refine s_pass 26 (by kernel_rfl) (by kernel_rfl) ?_
        refine s_pass 27 (by kernel_rfl) (by kernel_rfl) ?_
        refine s_pass 28 (by kernel_rfl) (by kernel_rfl) ?_
        refine s_pass 29 (by kernel_rfl) (by kernel_rfl) ?_
        refine s_pass 30 (by kernel_rfl) (by kernel_rfl) ?_
        refine s_pure 31 (.bool false) (by kernel_rfl) (by kernel_rfl) (fun _ => by kernel_rfl) ?_
        refine s_pure 4 (.bool false) (by kernel_rfl) (by kernel_rfl) (fun _ => by kernel_rfl) ?_
        refine ops_end ?_
        refine At.env [(0, .agg #[.int .i64 k, .int .i64 line, .int .i64 id, .int .i64 s, .int .i64 state, .int .i64 head, .slice a m cap, .int .i64 next, .int .i64 told]), (1, .agg #[.int .i64 pk, .int .i64 pf, .int .i64 pt, .int .i64 pid, .int .i64 pl, .int .i64 pp, .int .i64 ps, .bool pfl, .slice pa pm pc]), (2, .pointer (some ⟨b1, 0, none⟩)), (3, .pointer (some ⟨b2, 0, none⟩)), (4, .bool false), (5, .int .i64 (answerI (kindI s)))] ⟨by kernel_rfl, by kernel_rfl, by kernel_rfl, by kernel_rfl, by kernel_rfl, by kernel_rfl, trivial⟩ ?_
        refine at_then_normal ?_
        refine at_ret (by kernel_rfl) ?_
        refine at_backR [.bool false] (Γ) (rs := [.tmp 4]) (by kernel_rfl) (.cons (.tmp (by kernel_rfl)) .nil) (fun w hw => hw.less (.drop .here (.drop .here .refl))) ?_
        exact ⟨congrArg Value.bool (by simp [fitsB, wantI, *]), rfl⟩
    · refine s_pure 16 (.bool false) (by kernel_rfl) (by kernel_rfl) (run_eq (v := .bool (decide (pk = (answerI (kindI s))))) (fun _ => by kernel_rfl) (congrArg Value.bool (by rw [decide_eq_false h2]))) ?_
      refine s_pure 17 (.bool false) (by kernel_rfl) (by kernel_rfl) (fun _ => by kernel_rfl) ?_
      refine s_pure 18 (.bool false) (by kernel_rfl) (by kernel_rfl) (fun _ => by kernel_rfl) ?_
      refine s_pass 19 (by kernel_rfl) (by kernel_rfl) ?_
      refine s_pass 20 (by kernel_rfl) (by kernel_rfl) ?_
      refine s_pass 21 (by kernel_rfl) (by kernel_rfl) ?_
      refine s_pass 22 (by kernel_rfl) (by kernel_rfl) ?_
      refine s_pass 23 (by kernel_rfl) (by kernel_rfl) ?_
      refine s_pure 24 (.bool false) (by kernel_rfl) (by kernel_rfl) (fun _ => by kernel_rfl) ?_
      refine s_pure 25 (.bool false) (by kernel_rfl) (by kernel_rfl) (fun _ => by kernel_rfl) ?_
      refine s_pass 26 (by kernel_rfl) (by kernel_rfl) ?_
      refine s_pass 27 (by kernel_rfl) (by kernel_rfl) ?_
      refine s_pass 28 (by kernel_rfl) (by kernel_rfl) ?_
      refine s_pass 29 (by kernel_rfl) (by kernel_rfl) ?_
      refine s_pass 30 (by kernel_rfl) (by kernel_rfl) ?_
      refine s_pure 31 (.bool false) (by kernel_rfl) (by kernel_rfl) (fun _ => by kernel_rfl) ?_
      refine s_pure 4 (.bool false) (by kernel_rfl) (by kernel_rfl) (fun _ => by kernel_rfl) ?_
      refine ops_end ?_
      refine At.env [(0, .agg #[.int .i64 k, .int .i64 line, .int .i64 id, .int .i64 s, .int .i64 state, .int .i64 head, .slice a m cap, .int .i64 next, .int .i64 told]), (1, .agg #[.int .i64 pk, .int .i64 pf, .int .i64 pt, .int .i64 pid, .int .i64 pl, .int .i64 pp, .int .i64 ps, .bool pfl, .slice pa pm pc]), (2, .pointer (some ⟨b1, 0, none⟩)), (3, .pointer (some ⟨b2, 0, none⟩)), (4, .bool false), (5, .int .i64 (answerI (kindI s)))] ⟨by kernel_rfl, by kernel_rfl, by kernel_rfl, by kernel_rfl, by kernel_rfl, by kernel_rfl, trivial⟩ ?_
      refine at_then_normal ?_
      refine at_ret (by kernel_rfl) ?_
      refine at_backR [.bool false] (Γ) (rs := [.tmp 4]) (by kernel_rfl) (.cons (.tmp (by kernel_rfl)) .nil) (fun w hw => hw.less (.drop .here (.drop .here .refl))) ?_
      exact ⟨congrArg Value.bool (by simp [fitsB, wantI, *]), rfl⟩
noncomputable def C22 (p : List Nat) : Code := codeAt (bodyOf Try.f22) p
set_option maxRecDepth 100000 in
theorem Wakes_tr {W0 : World} {Γ : List Asn}   : Tr Try.prog 22 #[] W0 (Γ) (fun r Δ => r = .bool true ∧ Δ = Γ) := by
  refine Tr.enter (fn := Try.f22) (c := C22 []) (args := []) 27 Try.func22 (by kernel_rfl) (by kernel_rfl) ?_
  refine At.env [] trivial ?_
  refine at_seq (x := C22 [0]) (y := C22 [1]) (by kernel_rfl) ?_
  refine at_region (id := 0) 1 (by kernel_rfl) (by kernel_rfl) ?_
  refine s_pure 0 (.bool false) (by kernel_rfl) (by kernel_rfl) (fun _ => by kernel_rfl) ?_
  refine ops_end ?_
  refine At.env [(0, .bool false)] ⟨by kernel_rfl, trivial⟩ ?_
  refine at_then_normal ?_
  refine at_seq (x := C22 [1, 0]) (y := C22 [1, 1]) (by kernel_rfl) ?_
  refine at_region (id := 1) 4 (by kernel_rfl) (by kernel_rfl) ?_
  refine s_quiet 2 (.agg #[.int .i64 (1), .int .i64 (3), .int .i64 (1), .int .i64 (1), .int .i64 (0), .int .i64 (-1), .slice none 0 0, .int .i64 (-1), .int .i64 (-1)]) 30 #[.int .i64 (1), .int .i64 (3), .int .i64 (1)] (by kernel_rfl) (by kernel_rfl) (fun _ => by kernel_rfl) (Begin_tr (1) (3) (1)) ?_
  refine s_quiet 3 (.agg #[.int .i64 (1), .int .i64 (2), .int .i64 (1), .int .i64 (1), .int .i64 (3), .int .i64 (0), .int .i64 (0), .bool false, .slice none 0 0]) 20 #[.agg #[.int .i64 (1), .int .i64 (3), .int .i64 (1), .int .i64 (1), .int .i64 (0), .int .i64 (-1), .slice none 0 0, .int .i64 (-1), .int .i64 (-1)], .int .i64 (2), .int .i64 (1)] (by kernel_rfl) (by kernel_rfl) (fun _ => by kernel_rfl) (Ask_1 (1) (3) (1) (0) ((-1)) ((-1)) ((-1)) none 0 0 (2) (1)) ?_
  refine s_step 1 (by kernel_rfl) (by kernel_rfl) (st_new (T := 38) (cells := #[.int .i64 (0), .int .i64 (0), .int .i64 (0), .int .i64 (0), .int .i64 (0), .int .i64 (0), .int .i64 (0), .bool false, .slice none 0 0]) (fun a => .pointer (some a)) (fun _ => by kernel_rfl)) ?_
  rintro _ _ ⟨b1, rfl, rfl⟩
  refine s_do (by kernel_rfl) (by kernel_rfl) (st_store (off := 0) (vs := [.int .i64 (1), .int .i64 (2), .int .i64 (1), .int .i64 (1), .int .i64 (3), .int .i64 (0), .int .i64 (0), .bool false, .slice none 0 0]) (c' := #[.int .i64 (1), .int .i64 (2), .int .i64 (1), .int .i64 (1), .int .i64 (3), .int .i64 (0), .int .i64 (0), .bool false, .slice none 0 0]) (fun _ => by kernel_rfl) .here (by kernel_rfl) (by kernel_rfl) (by kernel_rfl)) ?_
  rintro _ _ ⟨rfl, rfl⟩
  refine ops_end ?_
  refine At.env [(0, .bool false), (1, .pointer (some ⟨b1, 0, none⟩))] ⟨by kernel_rfl, by kernel_rfl, trivial⟩ ?_
  refine at_then_normal ?_
  refine at_seq (x := C22 [1, 1, 0]) (y := C22 [1, 1, 1]) (by kernel_rfl) ?_
  refine at_region (id := 2) 24 (by kernel_rfl) (by kernel_rfl) ?_
  refine s_pure 4 (.pointer (some ⟨b1, 0, none⟩)) (by kernel_rfl) (by kernel_rfl) (fun _ => by kernel_rfl) ?_
  refine s_load 5 (.int .i64 (1)) (by kernel_rfl) (by kernel_rfl) (load1 (off := 0) (fun _ => by kernel_rfl) (holds_own .here) (by kernel_rfl)) ?_
  refine s_pure 6 (.bool true) (by kernel_rfl) (by kernel_rfl) (fun _ => by kernel_rfl) ?_
  refine s_pure 7 (.bool true) (by kernel_rfl) (by kernel_rfl) (fun _ => by kernel_rfl) ?_
  refine s_pure 8 (.pointer (some ⟨b1, 1, none⟩)) (by kernel_rfl) (by kernel_rfl) (fun _ => by kernel_rfl) ?_
  refine s_load 9 (.int .i64 (2)) (by kernel_rfl) (by kernel_rfl) (load1 (off := 1) (fun _ => by kernel_rfl) (holds_own .here) (by kernel_rfl)) ?_
  refine s_pure 10 (.bool true) (by kernel_rfl) (by kernel_rfl) (fun _ => by kernel_rfl) ?_
  refine s_pure 11 (.bool true) (by kernel_rfl) (by kernel_rfl) (fun _ => by kernel_rfl) ?_
  refine s_pure 12 (.bool true) (by kernel_rfl) (by kernel_rfl) (fun _ => by kernel_rfl) ?_
  refine s_pure 13 (.pointer (some ⟨b1, 2, none⟩)) (by kernel_rfl) (by kernel_rfl) (fun _ => by kernel_rfl) ?_
  refine s_load 14 (.int .i64 (1)) (by kernel_rfl) (by kernel_rfl) (load1 (off := 2) (fun _ => by kernel_rfl) (holds_own .here) (by kernel_rfl)) ?_
  refine s_pure 15 (.bool true) (by kernel_rfl) (by kernel_rfl) (fun _ => by kernel_rfl) ?_
  refine s_pure 16 (.bool true) (by kernel_rfl) (by kernel_rfl) (fun _ => by kernel_rfl) ?_
  refine s_pure 17 (.bool true) (by kernel_rfl) (by kernel_rfl) (fun _ => by kernel_rfl) ?_
  refine s_pure 18 (.pointer (some ⟨b1, 4, none⟩)) (by kernel_rfl) (by kernel_rfl) (fun _ => by kernel_rfl) ?_
  refine s_load 19 (.int .i64 (3)) (by kernel_rfl) (by kernel_rfl) (load1 (off := 4) (fun _ => by kernel_rfl) (holds_own .here) (by kernel_rfl)) ?_
  refine s_pure 20 (.bool true) (by kernel_rfl) (by kernel_rfl) (fun _ => by kernel_rfl) ?_
  refine s_pure 21 (.bool true) (by kernel_rfl) (by kernel_rfl) (fun _ => by kernel_rfl) ?_
  refine s_pure 22 (.bool true) (by kernel_rfl) (by kernel_rfl) (fun _ => by kernel_rfl) ?_
  refine s_pure 23 (.pointer (some ⟨b1, 3, none⟩)) (by kernel_rfl) (by kernel_rfl) (fun _ => by kernel_rfl) ?_
  refine s_load 24 (.int .i64 (1)) (by kernel_rfl) (by kernel_rfl) (load1 (off := 3) (fun _ => by kernel_rfl) (holds_own .here) (by kernel_rfl)) ?_
  refine s_pure 25 (.bool true) (by kernel_rfl) (by kernel_rfl) (fun _ => by kernel_rfl) ?_
  refine s_pure 26 (.bool true) (by kernel_rfl) (by kernel_rfl) (fun _ => by kernel_rfl) ?_
  refine s_pure 0 (.bool true) (by kernel_rfl) (by kernel_rfl) (fun _ => by kernel_rfl) ?_
  refine ops_end ?_
  refine At.env [(0, .bool true), (1, .pointer (some ⟨b1, 0, none⟩))] ⟨by kernel_rfl, by kernel_rfl, trivial⟩ ?_
  refine at_then_normal ?_
  refine at_ret (by kernel_rfl) ?_
  refine at_backR [.bool true] (Γ) (rs := [.tmp 0]) (by kernel_rfl) (.cons (.tmp (by kernel_rfl)) .nil) (fun w hw => hw.less (.drop .here .refl)) ?_
  exact ⟨rfl, rfl⟩
end Go.Proofs.Ytpcffplbedbpkaa
