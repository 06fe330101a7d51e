/- Deals and what they ask for; packets alike. -/
import Derived.Test.YtpcffplbedbpkaaKsA
namespace Go.Proofs.Ytpcffplbedbpkaa
open Go Go.RowKit
set_option linter.unusedVariables false
set_option linter.unusedSimpArgs false
def pansS (k : Int) : Option (Int) :=
  (bif decide (k = (1 : Int)) then some (7 : Int) else (bif decide (k = (2 : Int)) then (bif decide (k = (2 : Int)) then some (8 : Int) else (bif decide (k = (3 : Int)) then (bif decide (k = (3 : Int)) then some (9 : Int) else some (0 : Int)) else (bif decide (k = (6 : Int)) then some (9 : Int) else some (0 : Int)))) else (bif decide (k = (4 : Int)) then (bif decide (k = (4 : Int)) then some (8 : Int) else (bif decide (k = (3 : Int)) then (bif decide (k = (3 : Int)) then some (9 : Int) else some (0 : Int)) else (bif decide (k = (6 : Int)) then some (9 : Int) else some (0 : Int)))) else (bif decide (k = (5 : Int)) then some (8 : Int) else (bif decide (k = (3 : Int)) then (bif decide (k = (3 : Int)) then some (9 : Int) else some (0 : Int)) else (bif decide (k = (6 : Int)) then some (9 : Int) else some (0 : Int)))))))
noncomputable def C45 (p : List Nat) : Code := codeAt (bodyOf Try.f45) p
set_option maxRecDepth 100000 in
set_option maxHeartbeats 8000000 in
theorem PAnsF_tr {W0 : World} {Γ : List Asn} (k : Int)  (y : Int) (H : pansS k = some y) : Tr Try.prog 45 #[.int .i64 k] W0 (Γ) (fun r Δ => r = .int .i64 y ∧ Δ = Γ) := by
  unfold pansS at H
  refine Tr.enter (fn := Try.f45) (c := C45 []) (args := [.int .i64 k]) 13 Try.func45 (by kernel_rfl) (by kernel_rfl) ?_
  refine At.env [(0, .int .i64 k)] ⟨by kernel_rfl, trivial⟩ ?_
  refine at_seq (x := C45 [0]) (y := C45 [1]) (by kernel_rfl) ?_
  refine at_region (id := 0) 1 (by kernel_rfl) (by kernel_rfl) ?_
  refine s_pure 2 (.int .i64 (0)) (by kernel_rfl) (by kernel_rfl) (fun _ => by kernel_rfl) ?_
  refine ops_end ?_
  refine At.env [(0, .int .i64 k)] ⟨by kernel_rfl, trivial⟩ ?_
  refine at_then_normal ?_
  refine at_seq (x := C45 [1,0]) (y := C45 [1,1]) (by kernel_rfl) ?_
  refine at_seq (x := C45 [1,0,0]) (y := C45 [1,0,1]) (by kernel_rfl) ?_
  refine at_region (id := 1) 1 (by kernel_rfl) (by kernel_rfl) ?_
  refine s_pure 3 (.int .i64 k) (by kernel_rfl) (by kernel_rfl) (fun _ => by kernel_rfl) ?_
  refine ops_end ?_
  refine At.env [(3, .int .i64 k)] ⟨by kernel_rfl, trivial⟩ ?_
  refine at_then_normal ?_
  refine at_block (i := 0) (x := C45 [1,0,1,0]) (by kernel_rfl) ?_
  refine at_seq (x := C45 [1,0,1,0,0]) (y := C45 [1,0,1,0,1]) (by kernel_rfl) ?_
  refine at_region (id := 2) 2 (by kernel_rfl) (by kernel_rfl) ?_
  refine s_pure 5 (.bool (decide (k = (1 : Int)))) (by kernel_rfl) (by kernel_rfl) (fun _ => by kernel_rfl) ?_
  refine s_pure 4 (.bool (decide (k = (1 : Int)))) (by kernel_rfl) (by kernel_rfl) (fun _ => by kernel_rfl) ?_
  refine ops_end ?_
  refine At.env [(3, .int .i64 k), (4, .bool (decide (k = (1 : Int))))] ⟨by kernel_rfl, by kernel_rfl, trivial⟩ ?_
  refine at_then_normal ?_
  rcases Bool.eq_false_or_eq_true (decide (k = (1 : Int))) with h1 | h1
  · replace H := bifT H h1
    refine at_true (t := decide (k = (1 : Int))) (x := C45 [1,0,1,0,1,0]) (y := C45 [1,0,1,0,1,1]) (o := .tmp 4) (by kernel_rfl) (by kernel_rfl) (by kernel_rfl) h1 ?_
    refine at_seq (x := C45 [1,0,1,0,1,0,0]) (y := C45 [1,0,1,0,1,0,1]) (by kernel_rfl) ?_
    refine at_region (id := 3) 1 (by kernel_rfl) (by kernel_rfl) ?_
    refine s_pure 2 (.int .i64 (7)) (by kernel_rfl) (by kernel_rfl) (fun _ => by kernel_rfl) ?_
    refine ops_end ?_
    refine At.env [(2, .int .i64 (7))] ⟨by kernel_rfl, trivial⟩ ?_
    refine at_then_normal ?_
    refine at_ret (by kernel_rfl) ?_
    refine at_in_ret ?_
    refine at_then_ret ?_
    obtain rfl := someE H
    refine at_backR [.int .i64 (7)] (Γ) (rs := [.tmp 2]) (by kernel_rfl) (.cons (.tmp (by kernel_rfl)) .nil) (fun w hw => (Sat.less .refl hw)) ?_
    exact ⟨rfl, rfl⟩
  · replace H := bifF H h1
    refine at_false (t := decide (k = (1 : Int))) (x := C45 [1,0,1,0,1,0]) (y := C45 [1,0,1,0,1,1]) (o := .tmp 4) (by kernel_rfl) (by kernel_rfl) (by kernel_rfl) h1 ?_
    refine at_seq (x := C45 [1,0,1,0,1,1,0]) (y := C45 [1,0,1,0,1,1,1]) (by kernel_rfl) ?_
    refine at_seq (x := C45 [1,0,1,0,1,1,0,0]) (y := C45 [1,0,1,0,1,1,0,1]) (by kernel_rfl) ?_
    refine at_region (id := 4) 2 (by kernel_rfl) (by kernel_rfl) ?_
    refine s_pure 7 (.bool (decide (k = (2 : Int)))) (by kernel_rfl) (by kernel_rfl) (fun _ => by kernel_rfl) ?_
    refine s_pure 6 (.bool (decide (k = (2 : Int)))) (by kernel_rfl) (by kernel_rfl) (fun _ => by kernel_rfl) ?_
    refine ops_end ?_
    refine At.env [(3, .int .i64 k), (6, .bool (decide (k = (2 : Int))))] ⟨by kernel_rfl, by kernel_rfl, trivial⟩ ?_
    refine at_then_normal ?_
    rcases Bool.eq_false_or_eq_true (decide (k = (2 : Int))) with h2 | h2
    · replace H := bifT H h2
      refine at_true (t := decide (k = (2 : Int))) (x := C45 [1,0,1,0,1,1,0,1,0]) (y := C45 [1,0,1,0,1,1,0,1,1]) (o := .tmp 6) (by kernel_rfl) (by kernel_rfl) (by kernel_rfl) h2 ?_
      refine at_skip (by kernel_rfl) ?_
      refine at_then_normal ?_
      rcases Bool.eq_false_or_eq_true (decide (k = (2 : Int))) with h3 | h3
      · replace H := bifT H h3
        refine at_true (t := decide (k = (2 : Int))) (x := C45 [1,0,1,0,1,1,1,0]) (y := C45 [1,0,1,0,1,1,1,1]) (o := .tmp 6) (by kernel_rfl) (by kernel_rfl) (by kernel_rfl) h3 ?_
        refine at_seq (x := C45 [1,0,1,0,1,1,1,0,0]) (y := C45 [1,0,1,0,1,1,1,0,1]) (by kernel_rfl) ?_
        refine at_region (id := 7) 1 (by kernel_rfl) (by kernel_rfl) ?_
        refine s_pure 2 (.int .i64 (8)) (by kernel_rfl) (by kernel_rfl) (fun _ => by kernel_rfl) ?_
        refine ops_end ?_
        refine At.env [(2, .int .i64 (8))] ⟨by kernel_rfl, trivial⟩ ?_
        refine at_then_normal ?_
        refine at_ret (by kernel_rfl) ?_
        refine at_in_ret ?_
        refine at_then_ret ?_
        obtain rfl := someE H
        refine at_backR [.int .i64 (8)] (Γ) (rs := [.tmp 2]) (by kernel_rfl) (.cons (.tmp (by kernel_rfl)) .nil) (fun w hw => (Sat.less .refl hw)) ?_
        exact ⟨rfl, rfl⟩
      · replace H := bifF H h3
        refine at_false (t := decide (k = (2 : Int))) (x := C45 [1,0,1,0,1,1,1,0]) (y := C45 [1,0,1,0,1,1,1,1]) (o := .tmp 6) (by kernel_rfl) (by kernel_rfl) (by kernel_rfl) h3 ?_
        refine at_seq (x := C45 [1,0,1,0,1,1,1,1,0]) (y := C45 [1,0,1,0,1,1,1,1,1]) (by kernel_rfl) ?_
        refine at_seq (x := C45 [1,0,1,0,1,1,1,1,0,0]) (y := C45 [1,0,1,0,1,1,1,1,0,1]) (by kernel_rfl) ?_
        refine at_region (id := 8) 2 (by kernel_rfl) (by kernel_rfl) ?_
        refine s_pure 11 (.bool (decide (k = (3 : Int)))) (by kernel_rfl) (by kernel_rfl) (fun _ => by kernel_rfl) ?_
        refine s_pure 10 (.bool (decide (k = (3 : Int)))) (by kernel_rfl) (by kernel_rfl) (fun _ => by kernel_rfl) ?_
        refine ops_end ?_
        refine At.env [(3, .int .i64 k), (10, .bool (decide (k = (3 : Int))))] ⟨by kernel_rfl, by kernel_rfl, trivial⟩ ?_
        refine at_then_normal ?_
        rcases Bool.eq_false_or_eq_true (decide (k = (3 : Int))) with h4 | h4
        · replace H := bifT H h4
          refine at_true (t := decide (k = (3 : Int))) (x := C45 [1,0,1,0,1,1,1,1,0,1,0]) (y := C45 [1,0,1,0,1,1,1,1,0,1,1]) (o := .tmp 10) (by kernel_rfl) (by kernel_rfl) (by kernel_rfl) h4 ?_
          refine at_skip (by kernel_rfl) ?_
          refine at_then_normal ?_
          rcases Bool.eq_false_or_eq_true (decide (k = (3 : Int))) with h5 | h5
          · replace H := bifT H h5
            refine at_true (t := decide (k = (3 : Int))) (x := C45 [1,0,1,0,1,1,1,1,1,0]) (y := C45 [1,0,1,0,1,1,1,1,1,1]) (o := .tmp 10) (by kernel_rfl) (by kernel_rfl) (by kernel_rfl) h5 ?_
            refine at_seq (x := C45 [1,0,1,0,1,1,1,1,1,0,0]) (y := C45 [1,0,1,0,1,1,1,1,1,0,1]) (by kernel_rfl) ?_
            refine at_region (id := 10) 1 (by kernel_rfl) (by kernel_rfl) ?_
            refine s_pure 2 (.int .i64 (9)) (by kernel_rfl) (by kernel_rfl) (fun _ => by kernel_rfl) ?_
            refine ops_end ?_
            refine At.env [(2, .int .i64 (9))] ⟨by kernel_rfl, trivial⟩ ?_
            refine at_then_normal ?_
            refine at_ret (by kernel_rfl) ?_
            refine at_in_ret ?_
            refine at_then_ret ?_
            obtain rfl := someE H
            refine at_backR [.int .i64 (9)] (Γ) (rs := [.tmp 2]) (by kernel_rfl) (.cons (.tmp (by kernel_rfl)) .nil) (fun w hw => (Sat.less .refl hw)) ?_
            exact ⟨rfl, rfl⟩
          · replace H := bifF H h5
            refine at_false (t := decide (k = (3 : Int))) (x := C45 [1,0,1,0,1,1,1,1,1,0]) (y := C45 [1,0,1,0,1,1,1,1,1,1]) (o := .tmp 10) (by kernel_rfl) (by kernel_rfl) (by kernel_rfl) h5 ?_
            refine at_skip (by kernel_rfl) ?_
            refine at_in_normal ?_
            refine at_then_normal ?_
            refine at_seq (x := C45 [1,1,0]) (y := C45 [1,1,1]) (by kernel_rfl) ?_
            refine at_region (id := 11) 1 (by kernel_rfl) (by kernel_rfl) ?_
            refine s_pure 2 (.int .i64 (0)) (by kernel_rfl) (by kernel_rfl) (fun _ => by kernel_rfl) ?_
            refine ops_end ?_
            refine At.env [(2, .int .i64 (0))] ⟨by kernel_rfl, trivial⟩ ?_
            refine at_then_normal ?_
            refine at_ret (by kernel_rfl) ?_
            obtain rfl := someE H
            refine at_backR [.int .i64 (0)] (Γ) (rs := [.tmp 2]) (by kernel_rfl) (.cons (.tmp (by kernel_rfl)) .nil) (fun w hw => (Sat.less .refl hw)) ?_
            exact ⟨rfl, rfl⟩
        · replace H := bifF H h4
          refine at_false (t := decide (k = (3 : Int))) (x := C45 [1,0,1,0,1,1,1,1,0,1,0]) (y := C45 [1,0,1,0,1,1,1,1,0,1,1]) (o := .tmp 10) (by kernel_rfl) (by kernel_rfl) (by kernel_rfl) h4 ?_
          refine at_region (id := 9) 2 (by kernel_rfl) (by kernel_rfl) ?_
          refine s_pure 12 (.bool (decide (k = (6 : Int)))) (by kernel_rfl) (by kernel_rfl) (fun _ => by kernel_rfl) ?_
          refine s_pure 10 (.bool (decide (k = (6 : Int)))) (by kernel_rfl) (by kernel_rfl) (fun _ => by kernel_rfl) ?_
          refine ops_end ?_
          refine At.env [(10, .bool (decide (k = (6 : Int))))] ⟨by kernel_rfl, trivial⟩ ?_
          refine at_then_normal ?_
          rcases Bool.eq_false_or_eq_true (decide (k = (6 : Int))) with h6 | h6
          · replace H := bifT H h6
            refine at_true (t := decide (k = (6 : Int))) (x := C45 [1,0,1,0,1,1,1,1,1,0]) (y := C45 [1,0,1,0,1,1,1,1,1,1]) (o := .tmp 10) (by kernel_rfl) (by kernel_rfl) (by kernel_rfl) h6 ?_
            refine at_seq (x := C45 [1,0,1,0,1,1,1,1,1,0,0]) (y := C45 [1,0,1,0,1,1,1,1,1,0,1]) (by kernel_rfl) ?_
            refine at_region (id := 10) 1 (by kernel_rfl) (by kernel_rfl) ?_
            refine s_pure 2 (.int .i64 (9)) (by kernel_rfl) (by kernel_rfl) (fun _ => by kernel_rfl) ?_
            refine ops_end ?_
            refine At.env [(2, .int .i64 (9))] ⟨by kernel_rfl, trivial⟩ ?_
            refine at_then_normal ?_
            refine at_ret (by kernel_rfl) ?_
            refine at_in_ret ?_
            refine at_then_ret ?_
            obtain rfl := someE H
            refine at_backR [.int .i64 (9)] (Γ) (rs := [.tmp 2]) (by kernel_rfl) (.cons (.tmp (by kernel_rfl)) .nil) (fun w hw => (Sat.less .refl hw)) ?_
            exact ⟨rfl, rfl⟩
          · replace H := bifF H h6
            refine at_false (t := decide (k = (6 : Int))) (x := C45 [1,0,1,0,1,1,1,1,1,0]) (y := C45 [1,0,1,0,1,1,1,1,1,1]) (o := .tmp 10) (by kernel_rfl) (by kernel_rfl) (by kernel_rfl) h6 ?_
            refine at_skip (by kernel_rfl) ?_
            refine at_in_normal ?_
            refine at_then_normal ?_
            refine at_seq (x := C45 [1,1,0]) (y := C45 [1,1,1]) (by kernel_rfl) ?_
            refine at_region (id := 11) 1 (by kernel_rfl) (by kernel_rfl) ?_
            refine s_pure 2 (.int .i64 (0)) (by kernel_rfl) (by kernel_rfl) (fun _ => by kernel_rfl) ?_
            refine ops_end ?_
            refine At.env [(2, .int .i64 (0))] ⟨by kernel_rfl, trivial⟩ ?_
            refine at_then_normal ?_
            refine at_ret (by kernel_rfl) ?_
            obtain rfl := someE H
            refine at_backR [.int .i64 (0)] (Γ) (rs := [.tmp 2]) (by kernel_rfl) (.cons (.tmp (by kernel_rfl)) .nil) (fun w hw => (Sat.less .refl hw)) ?_
            exact ⟨rfl, rfl⟩
    · replace H := bifF H h2
      refine at_false (t := decide (k = (2 : Int))) (x := C45 [1,0,1,0,1,1,0,1,0]) (y := C45 [1,0,1,0,1,1,0,1,1]) (o := .tmp 6) (by kernel_rfl) (by kernel_rfl) (by kernel_rfl) h2 ?_
      refine at_seq (x := C45 [1,0,1,0,1,1,0,1,1,0]) (y := C45 [1,0,1,0,1,1,0,1,1,1]) (by kernel_rfl) ?_
      refine at_region (id := 5) 2 (by kernel_rfl) (by kernel_rfl) ?_
      refine s_pure 8 (.bool (decide (k = (4 : Int)))) (by kernel_rfl) (by kernel_rfl) (fun _ => by kernel_rfl) ?_
      refine s_pure 6 (.bool (decide (k = (4 : Int)))) (by kernel_rfl) (by kernel_rfl) (fun _ => by kernel_rfl) ?_
      refine ops_end ?_
      refine At.env [(3, .int .i64 k), (6, .bool (decide (k = (4 : Int))))] ⟨by kernel_rfl, by kernel_rfl, trivial⟩ ?_
      refine at_then_normal ?_
      rcases Bool.eq_false_or_eq_true (decide (k = (4 : Int))) with h7 | h7
      · replace H := bifT H h7
        refine at_true (t := decide (k = (4 : Int))) (x := C45 [1,0,1,0,1,1,0,1,1,1,0]) (y := C45 [1,0,1,0,1,1,0,1,1,1,1]) (o := .tmp 6) (by kernel_rfl) (by kernel_rfl) (by kernel_rfl) h7 ?_
        refine at_skip (by kernel_rfl) ?_
        refine at_then_normal ?_
        rcases Bool.eq_false_or_eq_true (decide (k = (4 : Int))) with h8 | h8
        · replace H := bifT H h8
          refine at_true (t := decide (k = (4 : Int))) (x := C45 [1,0,1,0,1,1,1,0]) (y := C45 [1,0,1,0,1,1,1,1]) (o := .tmp 6) (by kernel_rfl) (by kernel_rfl) (by kernel_rfl) h8 ?_
          refine at_seq (x := C45 [1,0,1,0,1,1,1,0,0]) (y := C45 [1,0,1,0,1,1,1,0,1]) (by kernel_rfl) ?_
          refine at_region (id := 7) 1 (by kernel_rfl) (by kernel_rfl) ?_
          refine s_pure 2 (.int .i64 (8)) (by kernel_rfl) (by kernel_rfl) (fun _ => by kernel_rfl) ?_
          refine ops_end ?_
          refine At.env [(2, .int .i64 (8))] ⟨by kernel_rfl, trivial⟩ ?_
          refine at_then_normal ?_
          refine at_ret (by kernel_rfl) ?_
          refine at_in_ret ?_
          refine at_then_ret ?_
          obtain rfl := someE H
          refine at_backR [.int .i64 (8)] (Γ) (rs := [.tmp 2]) (by kernel_rfl) (.cons (.tmp (by kernel_rfl)) .nil) (fun w hw => (Sat.less .refl hw)) ?_
          exact ⟨rfl, rfl⟩
        · replace H := bifF H h8
          refine at_false (t := decide (k = (4 : Int))) (x := C45 [1,0,1,0,1,1,1,0]) (y := C45 [1,0,1,0,1,1,1,1]) (o := .tmp 6) (by kernel_rfl) (by kernel_rfl) (by kernel_rfl) h8 ?_
          refine at_seq (x := C45 [1,0,1,0,1,1,1,1,0]) (y := C45 [1,0,1,0,1,1,1,1,1]) (by kernel_rfl) ?_
          refine at_seq (x := C45 [1,0,1,0,1,1,1,1,0,0]) (y := C45 [1,0,1,0,1,1,1,1,0,1]) (by kernel_rfl) ?_
          refine at_region (id := 8) 2 (by kernel_rfl) (by kernel_rfl) ?_
          refine s_pure 11 (.bool (decide (k = (3 : Int)))) (by kernel_rfl) (by kernel_rfl) (fun _ => by kernel_rfl) ?_
          refine s_pure 10 (.bool (decide (k = (3 : Int)))) (by kernel_rfl) (by kernel_rfl) (fun _ => by kernel_rfl) ?_
          refine ops_end ?_
          refine At.env [(3, .int .i64 k), (10, .bool (decide (k = (3 : Int))))] ⟨by kernel_rfl, by kernel_rfl, trivial⟩ ?_
          refine at_then_normal ?_
          rcases Bool.eq_false_or_eq_true (decide (k = (3 : Int))) with h9 | h9
          · replace H := bifT H h9
            refine at_true (t := decide (k = (3 : Int))) (x := C45 [1,0,1,0,1,1,1,1,0,1,0]) (y := C45 [1,0,1,0,1,1,1,1,0,1,1]) (o := .tmp 10) (by kernel_rfl) (by kernel_rfl) (by kernel_rfl) h9 ?_
            refine at_skip (by kernel_rfl) ?_
            refine at_then_normal ?_
            rcases Bool.eq_false_or_eq_true (decide (k = (3 : Int))) with h10 | h10
            · replace H := bifT H h10
              refine at_true (t := decide (k = (3 : Int))) (x := C45 [1,0,1,0,1,1,1,1,1,0]) (y := C45 [1,0,1,0,1,1,1,1,1,1]) (o := .tmp 10) (by kernel_rfl) (by kernel_rfl) (by kernel_rfl) h10 ?_
              refine at_seq (x := C45 [1,0,1,0,1,1,1,1,1,0,0]) (y := C45 [1,0,1,0,1,1,1,1,1,0,1]) (by kernel_rfl) ?_
              refine at_region (id := 10) 1 (by kernel_rfl) (by kernel_rfl) ?_
              refine s_pure 2 (.int .i64 (9)) (by kernel_rfl) (by kernel_rfl) (fun _ => by kernel_rfl) ?_
              refine ops_end ?_
              refine At.env [(2, .int .i64 (9))] ⟨by kernel_rfl, trivial⟩ ?_
              refine at_then_normal ?_
              refine at_ret (by kernel_rfl) ?_
              refine at_in_ret ?_
              refine at_then_ret ?_
              obtain rfl := someE H
              refine at_backR [.int .i64 (9)] (Γ) (rs := [.tmp 2]) (by kernel_rfl) (.cons (.tmp (by kernel_rfl)) .nil) (fun w hw => (Sat.less .refl hw)) ?_
              exact ⟨rfl, rfl⟩
            · replace H := bifF H h10
              refine at_false (t := decide (k = (3 : Int))) (x := C45 [1,0,1,0,1,1,1,1,1,0]) (y := C45 [1,0,1,0,1,1,1,1,1,1]) (o := .tmp 10) (by kernel_rfl) (by kernel_rfl) (by kernel_rfl) h10 ?_
              refine at_skip (by kernel_rfl) ?_
              refine at_in_normal ?_
              refine at_then_normal ?_
              refine at_seq (x := C45 [1,1,0]) (y := C45 [1,1,1]) (by kernel_rfl) ?_
              refine at_region (id := 11) 1 (by kernel_rfl) (by kernel_rfl) ?_
              refine s_pure 2 (.int .i64 (0)) (by kernel_rfl) (by kernel_rfl) (fun _ => by kernel_rfl) ?_
              refine ops_end ?_
              refine At.env [(2, .int .i64 (0))] ⟨by kernel_rfl, trivial⟩ ?_
              refine at_then_normal ?_
              refine at_ret (by kernel_rfl) ?_
              obtain rfl := someE H
              refine at_backR [.int .i64 (0)] (Γ) (rs := [.tmp 2]) (by kernel_rfl) (.cons (.tmp (by kernel_rfl)) .nil) (fun w hw => (Sat.less .refl hw)) ?_
              exact ⟨rfl, rfl⟩
          · replace H := bifF H h9
            refine at_false (t := decide (k = (3 : Int))) (x := C45 [1,0,1,0,1,1,1,1,0,1,0]) (y := C45 [1,0,1,0,1,1,1,1,0,1,1]) (o := .tmp 10) (by kernel_rfl) (by kernel_rfl) (by kernel_rfl) h9 ?_
            refine at_region (id := 9) 2 (by kernel_rfl) (by kernel_rfl) ?_
            refine s_pure 12 (.bool (decide (k = (6 : Int)))) (by kernel_rfl) (by kernel_rfl) (fun _ => by kernel_rfl) ?_
            refine s_pure 10 (.bool (decide (k = (6 : Int)))) (by kernel_rfl) (by kernel_rfl) (fun _ => by kernel_rfl) ?_
            refine ops_end ?_
            refine At.env [(10, .bool (decide (k = (6 : Int))))] ⟨by kernel_rfl, trivial⟩ ?_
            refine at_then_normal ?_
            rcases Bool.eq_false_or_eq_true (decide (k = (6 : Int))) with h11 | h11
            · replace H := bifT H h11
              refine at_true (t := decide (k = (6 : Int))) (x := C45 [1,0,1,0,1,1,1,1,1,0]) (y := C45 [1,0,1,0,1,1,1,1,1,1]) (o := .tmp 10) (by kernel_rfl) (by kernel_rfl) (by kernel_rfl) h11 ?_
              refine at_seq (x := C45 [1,0,1,0,1,1,1,1,1,0,0]) (y := C45 [1,0,1,0,1,1,1,1,1,0,1]) (by kernel_rfl) ?_
              refine at_region (id := 10) 1 (by kernel_rfl) (by kernel_rfl) ?_
              refine s_pure 2 (.int .i64 (9)) (by kernel_rfl) (by kernel_rfl) (fun _ => by kernel_rfl) ?_
              refine ops_end ?_
              refine At.env [(2, .int .i64 (9))] ⟨by kernel_rfl, trivial⟩ ?_
              refine at_then_normal ?_
              refine at_ret (by kernel_rfl) ?_
              refine at_in_ret ?_
              refine at_then_ret ?_
              obtain rfl := someE H
              refine at_backR [.int .i64 (9)] (Γ) (rs := [.tmp 2]) (by kernel_rfl) (.cons (.tmp (by kernel_rfl)) .nil) (fun w hw => (Sat.less .refl hw)) ?_
              exact ⟨rfl, rfl⟩
            · replace H := bifF H h11
              refine at_false (t := decide (k = (6 : Int))) (x := C45 [1,0,1,0,1,1,1,1,1,0]) (y := C45 [1,0,1,0,1,1,1,1,1,1]) (o := .tmp 10) (by kernel_rfl) (by kernel_rfl) (by kernel_rfl) h11 ?_
              refine at_skip (by kernel_rfl) ?_
              refine at_in_normal ?_
              refine at_then_normal ?_
              refine at_seq (x := C45 [1,1,0]) (y := C45 [1,1,1]) (by kernel_rfl) ?_
              refine at_region (id := 11) 1 (by kernel_rfl) (by kernel_rfl) ?_
              refine s_pure 2 (.int .i64 (0)) (by kernel_rfl) (by kernel_rfl) (fun _ => by kernel_rfl) ?_
              refine ops_end ?_
              refine At.env [(2, .int .i64 (0))] ⟨by kernel_rfl, trivial⟩ ?_
              refine at_then_normal ?_
              refine at_ret (by kernel_rfl) ?_
              obtain rfl := someE H
              refine at_backR [.int .i64 (0)] (Γ) (rs := [.tmp 2]) (by kernel_rfl) (.cons (.tmp (by kernel_rfl)) .nil) (fun w hw => (Sat.less .refl hw)) ?_
              exact ⟨rfl, rfl⟩
      · replace H := bifF H h7
        refine at_false (t := decide (k = (4 : Int))) (x := C45 [1,0,1,0,1,1,0,1,1,1,0]) (y := C45 [1,0,1,0,1,1,0,1,1,1,1]) (o := .tmp 6) (by kernel_rfl) (by kernel_rfl) (by kernel_rfl) h7 ?_
        refine at_region (id := 6) 2 (by kernel_rfl) (by kernel_rfl) ?_
        refine s_pure 9 (.bool (decide (k = (5 : Int)))) (by kernel_rfl) (by kernel_rfl) (fun _ => by kernel_rfl) ?_
        refine s_pure 6 (.bool (decide (k = (5 : Int)))) (by kernel_rfl) (by kernel_rfl) (fun _ => by kernel_rfl) ?_
        refine ops_end ?_
        refine At.env [(3, .int .i64 k), (6, .bool (decide (k = (5 : Int))))] ⟨by kernel_rfl, by kernel_rfl, trivial⟩ ?_
        refine at_then_normal ?_
        rcases Bool.eq_false_or_eq_true (decide (k = (5 : Int))) with h12 | h12
        · replace H := bifT H h12
          refine at_true (t := decide (k = (5 : Int))) (x := C45 [1,0,1,0,1,1,1,0]) (y := C45 [1,0,1,0,1,1,1,1]) (o := .tmp 6) (by kernel_rfl) (by kernel_rfl) (by kernel_rfl) h12 ?_
          refine at_seq (x := C45 [1,0,1,0,1,1,1,0,0]) (y := C45 [1,0,1,0,1,1,1,0,1]) (by kernel_rfl) ?_
          refine at_region (id := 7) 1 (by kernel_rfl) (by kernel_rfl) ?_
          refine s_pure 2 (.int .i64 (8)) (by kernel_rfl) (by kernel_rfl) (fun _ => by kernel_rfl) ?_
          refine ops_end ?_
          refine At.env [(2, .int .i64 (8))] ⟨by kernel_rfl, trivial⟩ ?_
          refine at_then_normal ?_
          refine at_ret (by kernel_rfl) ?_
          refine at_in_ret ?_
          refine at_then_ret ?_
          obtain rfl := someE H
          refine at_backR [.int .i64 (8)] (Γ) (rs := [.tmp 2]) (by kernel_rfl) (.cons (.tmp (by kernel_rfl)) .nil) (fun w hw => (Sat.less .refl hw)) ?_
          exact ⟨rfl, rfl⟩
        · replace H := bifF H h12
          refine at_false (t := decide (k = (5 : Int))) (x := C45 [1,0,1,0,1,1,1,0]) (y := C45 [1,0,1,0,1,1,1,1]) (o := .tmp 6) (by kernel_rfl) (by kernel_rfl) (by kernel_rfl) h12 ?_
          refine at_seq (x := C45 [1,0,1,0,1,1,1,1,0]) (y := C45 [1,0,1,0,1,1,1,1,1]) (by kernel_rfl) ?_
          refine at_seq (x := C45 [1,0,1,0,1,1,1,1,0,0]) (y := C45 [1,0,1,0,1,1,1,1,0,1]) (by kernel_rfl) ?_
          refine at_region (id := 8) 2 (by kernel_rfl) (by kernel_rfl) ?_
          refine s_pure 11 (.bool (decide (k = (3 : Int)))) (by kernel_rfl) (by kernel_rfl) (fun _ => by kernel_rfl) ?_
          refine s_pure 10 (.bool (decide (k = (3 : Int)))) (by kernel_rfl) (by kernel_rfl) (fun _ => by kernel_rfl) ?_
          refine ops_end ?_
          refine At.env [(3, .int .i64 k), (10, .bool (decide (k = (3 : Int))))] ⟨by kernel_rfl, by kernel_rfl, trivial⟩ ?_
          refine at_then_normal ?_
          rcases Bool.eq_false_or_eq_true (decide (k = (3 : Int))) with h13 | h13
          · replace H := bifT H h13
            refine at_true (t := decide (k = (3 : Int))) (x := C45 [1,0,1,0,1,1,1,1,0,1,0]) (y := C45 [1,0,1,0,1,1,1,1,0,1,1]) (o := .tmp 10) (by kernel_rfl) (by kernel_rfl) (by kernel_rfl) h13 ?_
            refine at_skip (by kernel_rfl) ?_
            refine at_then_normal ?_
            rcases Bool.eq_false_or_eq_true (decide (k = (3 : Int))) with h14 | h14
            · replace H := bifT H h14
              refine at_true (t := decide (k = (3 : Int))) (x := C45 [1,0,1,0,1,1,1,1,1,0]) (y := C45 [1,0,1,0,1,1,1,1,1,1]) (o := .tmp 10) (by kernel_rfl) (by kernel_rfl) (by kernel_rfl) h14 ?_
              refine at_seq (x := C45 [1,0,1,0,1,1,1,1,1,0,0]) (y := C45 [1,0,1,0,1,1,1,1,1,0,1]) (by kernel_rfl) ?_
              refine at_region (id := 10) 1 (by kernel_rfl) (by kernel_rfl) ?_
              refine s_pure 2 (.int .i64 (9)) (by kernel_rfl) (by kernel_rfl) (fun _ => by kernel_rfl) ?_
              refine ops_end ?_
              refine At.env [(2, .int .i64 (9))] ⟨by kernel_rfl, trivial⟩ ?_
              refine at_then_normal ?_
              refine at_ret (by kernel_rfl) ?_
              refine at_in_ret ?_
              refine at_then_ret ?_
              obtain rfl := someE H
              refine at_backR [.int .i64 (9)] (Γ) (rs := [.tmp 2]) (by kernel_rfl) (.cons (.tmp (by kernel_rfl)) .nil) (fun w hw => (Sat.less .refl hw)) ?_
              exact ⟨rfl, rfl⟩
            · replace H := bifF H h14
              refine at_false (t := decide (k = (3 : Int))) (x := C45 [1,0,1,0,1,1,1,1,1,0]) (y := C45 [1,0,1,0,1,1,1,1,1,1]) (o := .tmp 10) (by kernel_rfl) (by kernel_rfl) (by kernel_rfl) h14 ?_
              refine at_skip (by kernel_rfl) ?_
              refine at_in_normal ?_
              refine at_then_normal ?_
              refine at_seq (x := C45 [1,1,0]) (y := C45 [1,1,1]) (by kernel_rfl) ?_
              refine at_region (id := 11) 1 (by kernel_rfl) (by kernel_rfl) ?_
              refine s_pure 2 (.int .i64 (0)) (by kernel_rfl) (by kernel_rfl) (fun _ => by kernel_rfl) ?_
              refine ops_end ?_
              refine At.env [(2, .int .i64 (0))] ⟨by kernel_rfl, trivial⟩ ?_
              refine at_then_normal ?_
              refine at_ret (by kernel_rfl) ?_
              obtain rfl := someE H
              refine at_backR [.int .i64 (0)] (Γ) (rs := [.tmp 2]) (by kernel_rfl) (.cons (.tmp (by kernel_rfl)) .nil) (fun w hw => (Sat.less .refl hw)) ?_
              exact ⟨rfl, rfl⟩
          · replace H := bifF H h13
            refine at_false (t := decide (k = (3 : Int))) (x := C45 [1,0,1,0,1,1,1,1,0,1,0]) (y := C45 [1,0,1,0,1,1,1,1,0,1,1]) (o := .tmp 10) (by kernel_rfl) (by kernel_rfl) (by kernel_rfl) h13 ?_
            refine at_region (id := 9) 2 (by kernel_rfl) (by kernel_rfl) ?_
            refine s_pure 12 (.bool (decide (k = (6 : Int)))) (by kernel_rfl) (by kernel_rfl) (fun _ => by kernel_rfl) ?_
            refine s_pure 10 (.bool (decide (k = (6 : Int)))) (by kernel_rfl) (by kernel_rfl) (fun _ => by kernel_rfl) ?_
            refine ops_end ?_
            refine At.env [(10, .bool (decide (k = (6 : Int))))] ⟨by kernel_rfl, trivial⟩ ?_
            refine at_then_normal ?_
            rcases Bool.eq_false_or_eq_true (decide (k = (6 : Int))) with h15 | h15
            · replace H := bifT H h15
              refine at_true (t := decide (k = (6 : Int))) (x := C45 [1,0,1,0,1,1,1,1,1,0]) (y := C45 [1,0,1,0,1,1,1,1,1,1]) (o := .tmp 10) (by kernel_rfl) (by kernel_rfl) (by kernel_rfl) h15 ?_
              refine at_seq (x := C45 [1,0,1,0,1,1,1,1,1,0,0]) (y := C45 [1,0,1,0,1,1,1,1,1,0,1]) (by kernel_rfl) ?_
              refine at_region (id := 10) 1 (by kernel_rfl) (by kernel_rfl) ?_
              refine s_pure 2 (.int .i64 (9)) (by kernel_rfl) (by kernel_rfl) (fun _ => by kernel_rfl) ?_
              refine ops_end ?_
              refine At.env [(2, .int .i64 (9))] ⟨by kernel_rfl, trivial⟩ ?_
              refine at_then_normal ?_
              refine at_ret (by kernel_rfl) ?_
              refine at_in_ret ?_
              refine at_then_ret ?_
              obtain rfl := someE H
              refine at_backR [.int .i64 (9)] (Γ) (rs := [.tmp 2]) (by kernel_rfl) (.cons (.tmp (by kernel_rfl)) .nil) (fun w hw => (Sat.less .refl hw)) ?_
              exact ⟨rfl, rfl⟩
            · replace H := bifF H h15
              refine at_false (t := decide (k = (6 : Int))) (x := C45 [1,0,1,0,1,1,1,1,1,0]) (y := C45 [1,0,1,0,1,1,1,1,1,1]) (o := .tmp 10) (by kernel_rfl) (by kernel_rfl) (by kernel_rfl) h15 ?_
              refine at_skip (by kernel_rfl) ?_
              refine at_in_normal ?_
              refine at_then_normal ?_
              refine at_seq (x := C45 [1,1,0]) (y := C45 [1,1,1]) (by kernel_rfl) ?_
              refine at_region (id := 11) 1 (by kernel_rfl) (by kernel_rfl) ?_
              refine s_pure 2 (.int .i64 (0)) (by kernel_rfl) (by kernel_rfl) (fun _ => by kernel_rfl) ?_
              refine ops_end ?_
              refine At.env [(2, .int .i64 (0))] ⟨by kernel_rfl, trivial⟩ ?_
              refine at_then_normal ?_
              refine at_ret (by kernel_rfl) ?_
              obtain rfl := someE H
              refine at_backR [.int .i64 (0)] (Γ) (rs := [.tmp 2]) (by kernel_rfl) (.cons (.tmp (by kernel_rfl)) .nil) (fun w hw => (Sat.less .refl hw)) ?_
              exact ⟨rfl, rfl⟩
def dkindS (s : Int) : Option (Int) :=
  (bif decide (s = (1 : Int)) then some (1 : Int) else (bif decide (s = (2 : Int)) then some (3 : Int) else (bif decide (s = (3 : Int)) then some (6 : Int) else (bif decide (s = (4 : Int)) then some (4 : Int) else (bif decide (s = (5 : Int)) then some (5 : Int) else (bif decide (s = (6 : Int)) then some (2 : Int) else some (0 : Int)))))))
noncomputable def C43 (p : List Nat) : Code := codeAt (bodyOf Try.f43) p
set_option maxRecDepth 100000 in
set_option maxHeartbeats 8000000 in
theorem DKindF_tr {W0 : World} {Γ : List Asn} (s : Int)  (y : Int) (H : dkindS s = some y) : Tr Try.prog 43 #[.int .i64 s] W0 (Γ) (fun r Δ => r = .int .i64 y ∧ Δ = Γ) := by
  unfold dkindS at H
  refine Tr.enter (fn := Try.f43) (c := C43 []) (args := [.int .i64 s]) 16 Try.func43 (by kernel_rfl) (by kernel_rfl) ?_
  refine At.env [(0, .int .i64 s)] ⟨by kernel_rfl, trivial⟩ ?_
  refine at_seq (x := C43 [0]) (y := C43 [1]) (by kernel_rfl) ?_
  refine at_region (id := 0) 1 (by kernel_rfl) (by kernel_rfl) ?_
  refine s_pure 2 (.int .i64 (0)) (by kernel_rfl) (by kernel_rfl) (fun _ => by kernel_rfl) ?_
  refine ops_end ?_
  refine At.env [(0, .int .i64 s)] ⟨by kernel_rfl, trivial⟩ ?_
  refine at_then_normal ?_
  refine at_seq (x := C43 [1,0]) (y := C43 [1,1]) (by kernel_rfl) ?_
  refine at_seq (x := C43 [1,0,0]) (y := C43 [1,0,1]) (by kernel_rfl) ?_
  refine at_region (id := 1) 1 (by kernel_rfl) (by kernel_rfl) ?_
  refine s_pure 3 (.int .i64 s) (by kernel_rfl) (by kernel_rfl) (fun _ => by kernel_rfl) ?_
  refine ops_end ?_
  refine At.env [(3, .int .i64 s)] ⟨by kernel_rfl, trivial⟩ ?_
  refine at_then_normal ?_
  refine at_block (i := 0) (x := C43 [1,0,1,0]) (by kernel_rfl) ?_
  refine at_seq (x := C43 [1,0,1,0,0]) (y := C43 [1,0,1,0,1]) (by kernel_rfl) ?_
  refine at_region (id := 2) 2 (by kernel_rfl) (by kernel_rfl) ?_
  refine s_pure 5 (.bool (decide (s = (1 : Int)))) (by kernel_rfl) (by kernel_rfl) (fun _ => by kernel_rfl) ?_
  refine s_pure 4 (.bool (decide (s = (1 : Int)))) (by kernel_rfl) (by kernel_rfl) (fun _ => by kernel_rfl) ?_
  refine ops_end ?_
  refine At.env [(3, .int .i64 s), (4, .bool (decide (s = (1 : Int))))] ⟨by kernel_rfl, by kernel_rfl, trivial⟩ ?_
  refine at_then_normal ?_
  rcases Bool.eq_false_or_eq_true (decide (s = (1 : Int))) with h1 | h1
  · replace H := bifT H h1
    refine at_true (t := decide (s = (1 : Int))) (x := C43 [1,0,1,0,1,0]) (y := C43 [1,0,1,0,1,1]) (o := .tmp 4) (by kernel_rfl) (by kernel_rfl) (by kernel_rfl) h1 ?_
    refine at_seq (x := C43 [1,0,1,0,1,0,0]) (y := C43 [1,0,1,0,1,0,1]) (by kernel_rfl) ?_
    refine at_region (id := 3) 1 (by kernel_rfl) (by kernel_rfl) ?_
    refine s_pure 2 (.int .i64 (1)) (by kernel_rfl) (by kernel_rfl) (fun _ => by kernel_rfl) ?_
    refine ops_end ?_
    refine At.env [(2, .int .i64 (1))] ⟨by kernel_rfl, trivial⟩ ?_
    refine at_then_normal ?_
    refine at_ret (by kernel_rfl) ?_
    refine at_in_ret ?_
    refine at_then_ret ?_
    obtain rfl := someE H
    refine at_backR [.int .i64 (1)] (Γ) (rs := [.tmp 2]) (by kernel_rfl) (.cons (.tmp (by kernel_rfl)) .nil) (fun w hw => (Sat.less .refl hw)) ?_
    exact ⟨rfl, rfl⟩
  · replace H := bifF H h1
    refine at_false (t := decide (s = (1 : Int))) (x := C43 [1,0,1,0,1,0]) (y := C43 [1,0,1,0,1,1]) (o := .tmp 4) (by kernel_rfl) (by kernel_rfl) (by kernel_rfl) h1 ?_
    refine at_seq (x := C43 [1,0,1,0,1,1,0]) (y := C43 [1,0,1,0,1,1,1]) (by kernel_rfl) ?_
    refine at_region (id := 4) 2 (by kernel_rfl) (by kernel_rfl) ?_
    refine s_pure 7 (.bool (decide (s = (2 : Int)))) (by kernel_rfl) (by kernel_rfl) (fun _ => by kernel_rfl) ?_
    refine s_pure 6 (.bool (decide (s = (2 : Int)))) (by kernel_rfl) (by kernel_rfl) (fun _ => by kernel_rfl) ?_
    refine ops_end ?_
    refine At.env [(3, .int .i64 s), (6, .bool (decide (s = (2 : Int))))] ⟨by kernel_rfl, by kernel_rfl, trivial⟩ ?_
    refine at_then_normal ?_
    rcases Bool.eq_false_or_eq_true (decide (s = (2 : Int))) with h2 | h2
    · replace H := bifT H h2
      refine at_true (t := decide (s = (2 : Int))) (x := C43 [1,0,1,0,1,1,1,0]) (y := C43 [1,0,1,0,1,1,1,1]) (o := .tmp 6) (by kernel_rfl) (by kernel_rfl) (by kernel_rfl) h2 ?_
      refine at_seq (x := C43 [1,0,1,0,1,1,1,0,0]) (y := C43 [1,0,1,0,1,1,1,0,1]) (by kernel_rfl) ?_
      refine at_region (id := 5) 1 (by kernel_rfl) (by kernel_rfl) ?_
      refine s_pure 2 (.int .i64 (3)) (by kernel_rfl) (by kernel_rfl) (fun _ => by kernel_rfl) ?_
      refine ops_end ?_
      refine At.env [(2, .int .i64 (3))] ⟨by kernel_rfl, trivial⟩ ?_
      refine at_then_normal ?_
      refine at_ret (by kernel_rfl) ?_
      refine at_in_ret ?_
      refine at_then_ret ?_
      obtain rfl := someE H
      refine at_backR [.int .i64 (3)] (Γ) (rs := [.tmp 2]) (by kernel_rfl) (.cons (.tmp (by kernel_rfl)) .nil) (fun w hw => (Sat.less .refl hw)) ?_
      exact ⟨rfl, rfl⟩
    · replace H := bifF H h2
      refine at_false (t := decide (s = (2 : Int))) (x := C43 [1,0,1,0,1,1,1,0]) (y := C43 [1,0,1,0,1,1,1,1]) (o := .tmp 6) (by kernel_rfl) (by kernel_rfl) (by kernel_rfl) h2 ?_
      refine at_seq (x := C43 [1,0,1,0,1,1,1,1,0]) (y := C43 [1,0,1,0,1,1,1,1,1]) (by kernel_rfl) ?_
      refine at_region (id := 6) 2 (by kernel_rfl) (by kernel_rfl) ?_
      refine s_pure 9 (.bool (decide (s = (3 : Int)))) (by kernel_rfl) (by kernel_rfl) (fun _ => by kernel_rfl) ?_
      refine s_pure 8 (.bool (decide (s = (3 : Int)))) (by kernel_rfl) (by kernel_rfl) (fun _ => by kernel_rfl) ?_
      refine ops_end ?_
      refine At.env [(3, .int .i64 s), (8, .bool (decide (s = (3 : Int))))] ⟨by kernel_rfl, by kernel_rfl, trivial⟩ ?_
      refine at_then_normal ?_
      rcases Bool.eq_false_or_eq_true (decide (s = (3 : Int))) with h3 | h3
      · replace H := bifT H h3
        refine at_true (t := decide (s = (3 : Int))) (x := C43 [1,0,1,0,1,1,1,1,1,0]) (y := C43 [1,0,1,0,1,1,1,1,1,1]) (o := .tmp 8) (by kernel_rfl) (by kernel_rfl) (by kernel_rfl) h3 ?_
        refine at_seq (x := C43 [1,0,1,0,1,1,1,1,1,0,0]) (y := C43 [1,0,1,0,1,1,1,1,1,0,1]) (by kernel_rfl) ?_
        refine at_region (id := 7) 1 (by kernel_rfl) (by kernel_rfl) ?_
        refine s_pure 2 (.int .i64 (6)) (by kernel_rfl) (by kernel_rfl) (fun _ => by kernel_rfl) ?_
        refine ops_end ?_
        refine At.env [(2, .int .i64 (6))] ⟨by kernel_rfl, trivial⟩ ?_
        refine at_then_normal ?_
        refine at_ret (by kernel_rfl) ?_
        refine at_in_ret ?_
        refine at_then_ret ?_
        obtain rfl := someE H
        refine at_backR [.int .i64 (6)] (Γ) (rs := [.tmp 2]) (by kernel_rfl) (.cons (.tmp (by kernel_rfl)) .nil) (fun w hw => (Sat.less .refl hw)) ?_
        exact ⟨rfl, rfl⟩
      · replace H := bifF H h3
        refine at_false (t := decide (s = (3 : Int))) (x := C43 [1,0,1,0,1,1,1,1,1,0]) (y := C43 [1,0,1,0,1,1,1,1,1,1]) (o := .tmp 8) (by kernel_rfl) (by kernel_rfl) (by kernel_rfl) h3 ?_
        refine at_seq (x := C43 [1,0,1,0,1,1,1,1,1,1,0]) (y := C43 [1,0,1,0,1,1,1,1,1,1,1]) (by kernel_rfl) ?_
        refine at_region (id := 8) 2 (by kernel_rfl) (by kernel_rfl) ?_
        refine s_pure 11 (.bool (decide (s = (4 : Int)))) (by kernel_rfl) (by kernel_rfl) (fun _ => by kernel_rfl) ?_
        refine s_pure 10 (.bool (decide (s = (4 : Int)))) (by kernel_rfl) (by kernel_rfl) (fun _ => by kernel_rfl) ?_
        refine ops_end ?_
        refine At.env [(3, .int .i64 s), (10, .bool (decide (s = (4 : Int))))] ⟨by kernel_rfl, by kernel_rfl, trivial⟩ ?_
        refine at_then_normal ?_
        rcases Bool.eq_false_or_eq_true (decide (s = (4 : Int))) with h4 | h4
        · replace H := bifT H h4
          refine at_true (t := decide (s = (4 : Int))) (x := C43 [1,0,1,0,1,1,1,1,1,1,1,0]) (y := C43 [1,0,1,0,1,1,1,1,1,1,1,1]) (o := .tmp 10) (by kernel_rfl) (by kernel_rfl) (by kernel_rfl) h4 ?_
          refine at_seq (x := C43 [1,0,1,0,1,1,1,1,1,1,1,0,0]) (y := C43 [1,0,1,0,1,1,1,1,1,1,1,0,1]) (by kernel_rfl) ?_
          refine at_region (id := 9) 1 (by kernel_rfl) (by kernel_rfl) ?_
          refine s_pure 2 (.int .i64 (4)) (by kernel_rfl) (by kernel_rfl) (fun _ => by kernel_rfl) ?_
          refine ops_end ?_
          refine At.env [(2, .int .i64 (4))] ⟨by kernel_rfl, trivial⟩ ?_
          refine at_then_normal ?_
          refine at_ret (by kernel_rfl) ?_
          refine at_in_ret ?_
          refine at_then_ret ?_
          obtain rfl := someE H
          refine at_backR [.int .i64 (4)] (Γ) (rs := [.tmp 2]) (by kernel_rfl) (.cons (.tmp (by kernel_rfl)) .nil) (fun w hw => (Sat.less .refl hw)) ?_
          exact ⟨rfl, rfl⟩
        · replace H := bifF H h4
          refine at_false (t := decide (s = (4 : Int))) (x := C43 [1,0,1,0,1,1,1,1,1,1,1,0]) (y := C43 [1,0,1,0,1,1,1,1,1,1,1,1]) (o := .tmp 10) (by kernel_rfl) (by kernel_rfl) (by kernel_rfl) h4 ?_
          refine at_seq (x := C43 [1,0,1,0,1,1,1,1,1,1,1,1,0]) (y := C43 [1,0,1,0,1,1,1,1,1,1,1,1,1]) (by kernel_rfl) ?_
          refine at_region (id := 10) 2 (by kernel_rfl) (by kernel_rfl) ?_
          refine s_pure 13 (.bool (decide (s = (5 : Int)))) (by kernel_rfl) (by kernel_rfl) (fun _ => by kernel_rfl) ?_
          refine s_pure 12 (.bool (decide (s = (5 : Int)))) (by kernel_rfl) (by kernel_rfl) (fun _ => by kernel_rfl) ?_
          refine ops_end ?_
          refine At.env [(3, .int .i64 s), (12, .bool (decide (s = (5 : Int))))] ⟨by kernel_rfl, by kernel_rfl, trivial⟩ ?_
          refine at_then_normal ?_
          rcases Bool.eq_false_or_eq_true (decide (s = (5 : Int))) with h5 | h5
          · replace H := bifT H h5
            refine at_true (t := decide (s = (5 : Int))) (x := C43 [1,0,1,0,1,1,1,1,1,1,1,1,1,0]) (y := C43 [1,0,1,0,1,1,1,1,1,1,1,1,1,1]) (o := .tmp 12) (by kernel_rfl) (by kernel_rfl) (by kernel_rfl) h5 ?_
            refine at_seq (x := C43 [1,0,1,0,1,1,1,1,1,1,1,1,1,0,0]) (y := C43 [1,0,1,0,1,1,1,1,1,1,1,1,1,0,1]) (by kernel_rfl) ?_
            refine at_region (id := 11) 1 (by kernel_rfl) (by kernel_rfl) ?_
            refine s_pure 2 (.int .i64 (5)) (by kernel_rfl) (by kernel_rfl) (fun _ => by kernel_rfl) ?_
            refine ops_end ?_
            refine At.env [(2, .int .i64 (5))] ⟨by kernel_rfl, trivial⟩ ?_
            refine at_then_normal ?_
            refine at_ret (by kernel_rfl) ?_
            refine at_in_ret ?_
            refine at_then_ret ?_
            obtain rfl := someE H
            refine at_backR [.int .i64 (5)] (Γ) (rs := [.tmp 2]) (by kernel_rfl) (.cons (.tmp (by kernel_rfl)) .nil) (fun w hw => (Sat.less .refl hw)) ?_
            exact ⟨rfl, rfl⟩
          · replace H := bifF H h5
            refine at_false (t := decide (s = (5 : Int))) (x := C43 [1,0,1,0,1,1,1,1,1,1,1,1,1,0]) (y := C43 [1,0,1,0,1,1,1,1,1,1,1,1,1,1]) (o := .tmp 12) (by kernel_rfl) (by kernel_rfl) (by kernel_rfl) h5 ?_
            refine at_seq (x := C43 [1,0,1,0,1,1,1,1,1,1,1,1,1,1,0]) (y := C43 [1,0,1,0,1,1,1,1,1,1,1,1,1,1,1]) (by kernel_rfl) ?_
            refine at_region (id := 12) 2 (by kernel_rfl) (by kernel_rfl) ?_
            refine s_pure 15 (.bool (decide (s = (6 : Int)))) (by kernel_rfl) (by kernel_rfl) (fun _ => by kernel_rfl) ?_
            refine s_pure 14 (.bool (decide (s = (6 : Int)))) (by kernel_rfl) (by kernel_rfl) (fun _ => by kernel_rfl) ?_
            refine ops_end ?_
            refine At.env [(14, .bool (decide (s = (6 : Int))))] ⟨by kernel_rfl, trivial⟩ ?_
            refine at_then_normal ?_
            rcases Bool.eq_false_or_eq_true (decide (s = (6 : Int))) with h6 | h6
            · replace H := bifT H h6
              refine at_true (t := decide (s = (6 : Int))) (x := C43 [1,0,1,0,1,1,1,1,1,1,1,1,1,1,1,0]) (y := C43 [1,0,1,0,1,1,1,1,1,1,1,1,1,1,1,1]) (o := .tmp 14) (by kernel_rfl) (by kernel_rfl) (by kernel_rfl) h6 ?_
              refine at_seq (x := C43 [1,0,1,0,1,1,1,1,1,1,1,1,1,1,1,0,0]) (y := C43 [1,0,1,0,1,1,1,1,1,1,1,1,1,1,1,0,1]) (by kernel_rfl) ?_
              refine at_region (id := 13) 1 (by kernel_rfl) (by kernel_rfl) ?_
              refine s_pure 2 (.int .i64 (2)) (by kernel_rfl) (by kernel_rfl) (fun _ => by kernel_rfl) ?_
              refine ops_end ?_
              refine At.env [(2, .int .i64 (2))] ⟨by kernel_rfl, trivial⟩ ?_
              refine at_then_normal ?_
              refine at_ret (by kernel_rfl) ?_
              refine at_in_ret ?_
              refine at_then_ret ?_
              obtain rfl := someE H
              refine at_backR [.int .i64 (2)] (Γ) (rs := [.tmp 2]) (by kernel_rfl) (.cons (.tmp (by kernel_rfl)) .nil) (fun w hw => (Sat.less .refl hw)) ?_
              exact ⟨rfl, rfl⟩
            · replace H := bifF H h6
              refine at_false (t := decide (s = (6 : Int))) (x := C43 [1,0,1,0,1,1,1,1,1,1,1,1,1,1,1,0]) (y := C43 [1,0,1,0,1,1,1,1,1,1,1,1,1,1,1,1]) (o := .tmp 14) (by kernel_rfl) (by kernel_rfl) (by kernel_rfl) h6 ?_
              refine at_skip (by kernel_rfl) ?_
              refine at_in_normal ?_
              refine at_then_normal ?_
              refine at_seq (x := C43 [1,1,0]) (y := C43 [1,1,1]) (by kernel_rfl) ?_
              refine at_region (id := 14) 1 (by kernel_rfl) (by kernel_rfl) ?_
              refine s_pure 2 (.int .i64 (0)) (by kernel_rfl) (by kernel_rfl) (fun _ => by kernel_rfl) ?_
              refine ops_end ?_
              refine At.env [(2, .int .i64 (0))] ⟨by kernel_rfl, trivial⟩ ?_
              refine at_then_normal ?_
              refine at_ret (by kernel_rfl) ?_
              obtain rfl := someE H
              refine at_backR [.int .i64 (0)] (Γ) (rs := [.tmp 2]) (by kernel_rfl) (.cons (.tmp (by kernel_rfl)) .nil) (fun w hw => (Sat.less .refl hw)) ?_
              exact ⟨rfl, rfl⟩
def dbeginS (k : Int) (line : Int) (id : Int) : Option (DealS) :=
  some (⟨k, line, id, 1, 0, (-1), ([] : List Int), (-1), (-1)⟩ : DealS)
noncomputable def C30 (p : List Nat) : Code := codeAt (bodyOf Try.f30) p
set_option maxRecDepth 100000 in
set_option maxHeartbeats 8000000 in
theorem DBeginF_tr {W0 : World} {Γ : List Asn} (k : Int) (line : Int) (id : Int)  (y : DealS) (H : dbeginS k line id = some y) : Tr Try.prog 30 #[.int .i64 k, .int .i64 line, .int .i64 id] W0 (Γ) (fun r Δ => ∃ (a0_0 : Option Addr) (c0_0 : Nat), r = .agg #[.int .i64 y.kind, .int .i64 y.line, .int .i64 y.id, .int .i64 y.step, .int .i64 y.state, .int .i64 y.head, .slice a0_0 (List.length y.data) c0_0, .int .i64 y.next, .int .i64 y.told] ∧ Δ = (ImmI a0_0 y.data) :: Γ) := by
  unfold dbeginS at H
  refine Tr.enter (fn := Try.f30) (c := C30 []) (args := [.int .i64 k, .int .i64 line, .int .i64 id]) 11 Try.func30 (by kernel_rfl) (by kernel_rfl) ?_
  refine At.env [(0, .int .i64 k), (1, .int .i64 line), (2, .int .i64 id)] ⟨by kernel_rfl, by kernel_rfl, by kernel_rfl, trivial⟩ ?_
  refine at_seq (x := C30 [0]) (y := C30 [1]) (by kernel_rfl) ?_
  refine at_region (id := 0) 1 (by kernel_rfl) (by kernel_rfl) ?_
  refine s_step 6 (by kernel_rfl) (by kernel_rfl) (st_new (T := 36) (cells := #[.int .i64 (0), .int .i64 (0), .int .i64 (0), .int .i64 (0), .int .i64 (0), .int .i64 (0), .slice none 0 0, .int .i64 (0), .int .i64 (0)]) (fun a => .pointer (some a)) (fun _ => by kernel_rfl)) ?_
  rintro _ _ ⟨b0_0, rfl, rfl⟩
  refine ops_end ?_
  refine At.env [(0, .int .i64 k), (1, .int .i64 line), (2, .int .i64 id), (6, .pointer (some ⟨b0_0, 0, none⟩))] ⟨by kernel_rfl, by kernel_rfl, by kernel_rfl, by kernel_rfl, trivial⟩ ?_
  refine at_then_normal ?_
  refine at_seq (x := C30 [1,0]) (y := C30 [1,1]) (by kernel_rfl) ?_
  refine at_region (id := 1) 5 (by kernel_rfl) (by kernel_rfl) ?_
  refine s_pure 7 (.int .i64 k) (by kernel_rfl) (by kernel_rfl) (fun _ => by kernel_rfl) ?_
  refine s_pure 8 (.int .i64 line) (by kernel_rfl) (by kernel_rfl) (fun _ => by kernel_rfl) ?_
  refine s_pure 9 (.int .i64 id) (by kernel_rfl) (by kernel_rfl) (fun _ => by kernel_rfl) ?_
  refine s_pure 10 (.agg #[.int .i64 k, .int .i64 line, .int .i64 id, .int .i64 (1), .int .i64 (0), .int .i64 (-1), .slice none 0 0, .int .i64 (-1), .int .i64 (-1)]) (by kernel_rfl) (by kernel_rfl) (fun _ => by kernel_rfl) ?_
  refine s_do (by kernel_rfl) (by kernel_rfl) (st_store (off := 0) (vs := [.int .i64 k, .int .i64 line, .int .i64 id, .int .i64 (1), .int .i64 (0), .int .i64 (-1), .slice none 0 0, .int .i64 (-1), .int .i64 (-1)]) (c' := #[.int .i64 k, .int .i64 line, .int .i64 id, .int .i64 (1), .int .i64 (0), .int .i64 (-1), .slice none 0 0, .int .i64 (-1), .int .i64 (-1)]) (fun _ => by kernel_rfl) .here (by kernel_rfl) (by kernel_rfl) (by kernel_rfl)) ?_
  rintro _ _ ⟨rfl, rfl⟩
  refine ops_end ?_
  refine At.env [(6, .pointer (some ⟨b0_0, 0, none⟩))] ⟨by kernel_rfl, trivial⟩ ?_
  refine at_then_normal ?_
  refine at_ret (by kernel_rfl) ?_
  obtain rfl := someE H
  refine at_backR [.agg #[.int .i64 k, .int .i64 line, .int .i64 id, .int .i64 (1), .int .i64 (0), .int .i64 (-1), .slice none 0 0, .int .i64 (-1), .int .i64 (-1)]] ((ImmI none ([] : List Int)) :: Γ) (rs := [.cell 6 36]) (by kernel_rfl) (.cons (.cell (by kernel_rfl) (retN (off := 0) (vs := [.int .i64 k, .int .i64 line, .int .i64 id, .int .i64 (1), .int .i64 (0), .int .i64 (-1), .slice none 0 0, .int .i64 (-1), .int .i64 (-1)]) 9 (fun _ => by kernel_rfl) (holds_own .here) rfl (by exact ⟨rfl, rfl, rfl, rfl, rfl, rfl, rfl, rfl, rfl, trivial⟩))) .nil) (fun w hw => (Sat.less (.take .here (.drop .here .refl)) (ImmR.nil_mk (k := 1) (a := none) hw))) ?_
  exact ⟨none, 0, rfl, rfl⟩
def daskS (d : DealS) (node : Int) (home : Int) : Option (PktS) :=
  (dkindS d.step).bind fun y1_2 => (bif decide (d.step = (1 : Int)) then some (⟨y1_2, node, home, d.id, d.line, 0, 0, false, ([] : List Int)⟩ : PktS) else (bif decide (d.step = (2 : Int)) then some (⟨y1_2, node, d.head, d.id, d.line, node, 0, false, ([] : List Int)⟩ : PktS) else (bif decide (d.step = (3 : Int)) then some (⟨y1_2, node, d.next, d.id, d.line, 0, 0, false, ([] : List Int)⟩ : PktS) else (bif decide (d.step = (4 : Int)) then some (⟨y1_2, node, d.head, d.id, d.line, d.next, 0, false, ([] : List Int)⟩ : PktS) else (bif decide (d.step = (5 : Int)) then some (⟨y1_2, node, d.next, d.id, d.line, d.head, 0, false, ([] : List Int)⟩ : PktS) else (bif decide (d.step = (6 : Int)) then (copyS d.data).bind fun y15_10 => some (⟨y1_2, node, home, d.id, d.line, d.head, d.state, decide ((0 : Int) < (((List.length d.data) : Nat) : Int)), y15_10⟩ : PktS) else some (⟨0, 0, 0, 0, 0, 0, 0, false, ([] : List Int)⟩ : PktS)))))))
noncomputable def C20 (p : List Nat) : Code := codeAt (bodyOf Try.f20) p
set_option maxRecDepth 100000 in
set_option maxHeartbeats 8000000 in
theorem DAskF_tr {W0 : World} {Γ : List Asn} (da : Option Addr) (dcap : Nat) (d : DealS) (node : Int) (home : Int) (hrda : Reads W0 Γ da (ints d.data)) (y : PktS) (H : daskS d node home = some y) : Tr Try.prog 20 #[.agg #[.int .i64 d.kind, .int .i64 d.line, .int .i64 d.id, .int .i64 d.step, .int .i64 d.state, .int .i64 d.head, .slice da (List.length d.data) dcap, .int .i64 d.next, .int .i64 d.told], .int .i64 node, .int .i64 home] W0 (Γ) (fun r Δ => ∃ (a0_0 : Option Addr) (c0_0 : Nat), r = .agg #[.int .i64 y.kind, .int .i64 y.src, .int .i64 y.dst, .int .i64 y.id, .int .i64 y.line, .int .i64 y.ptr, .int .i64 y.state, .bool y.flag, .slice a0_0 (List.length y.data) c0_0] ∧ Δ = (IntsA a0_0 c0_0 y.data) :: Γ) := by
  unfold daskS at H
  refine Tr.enter (fn := Try.f20) (c := C20 []) (args := [.agg #[.int .i64 d.kind, .int .i64 d.line, .int .i64 d.id, .int .i64 d.step, .int .i64 d.state, .int .i64 d.head, .slice da (List.length d.data) dcap, .int .i64 d.next, .int .i64 d.told], .int .i64 node, .int .i64 home]) 70 Try.func20 (by kernel_rfl) (by kernel_rfl) ?_
  refine At.env [(0, .agg #[.int .i64 d.kind, .int .i64 d.line, .int .i64 d.id, .int .i64 d.step, .int .i64 d.state, .int .i64 d.head, .slice da (List.length d.data) dcap, .int .i64 d.next, .int .i64 d.told]), (1, .int .i64 node), (2, .int .i64 home)] ⟨by kernel_rfl, by kernel_rfl, by kernel_rfl, trivial⟩ ?_
  refine at_seq (x := C20 [0]) (y := C20 [1]) (by kernel_rfl) ?_
  refine at_region (id := 0) 2 (by kernel_rfl) (by kernel_rfl) ?_
  refine s_step 3 (by kernel_rfl) (by kernel_rfl) (st_new (T := 36) (cells := #[.int .i64 d.kind, .int .i64 d.line, .int .i64 d.id, .int .i64 d.step, .int .i64 d.state, .int .i64 d.head, .slice da (List.length d.data) dcap, .int .i64 d.next, .int .i64 d.told]) (fun a => .pointer (some a)) (fun _ => by kernel_rfl)) ?_
  rintro _ _ ⟨b0_0, rfl, rfl⟩
  refine s_step 6 (by kernel_rfl) (by kernel_rfl) (st_new (T := 38) (cells := #[.int .i64 (0), .int .i64 (0), .int .i64 (0), .int .i64 (0), .int .i64 (0), .int .i64 (0), .int .i64 (0), .bool false, .slice none 0 0]) (fun a => .pointer (some a)) (fun _ => by kernel_rfl)) ?_
  rintro _ _ ⟨b0_1, rfl, rfl⟩
  refine ops_end ?_
  refine At.env [(1, .int .i64 node), (2, .int .i64 home), (3, .pointer (some ⟨b0_0, 0, none⟩)), (6, .pointer (some ⟨b0_1, 0, none⟩))] ⟨by kernel_rfl, by kernel_rfl, by kernel_rfl, by kernel_rfl, trivial⟩ ?_
  refine at_then_normal ?_
  refine at_seq (x := C20 [1,0]) (y := C20 [1,1]) (by kernel_rfl) ?_
  refine at_region_draw (id := 1) (by kernel_rfl) (by kernel_rfl) ?_
  refine d_pure 0 8 (.pointer (some ⟨b0_0, 3, none⟩)) (by kernel_rfl) (by kernel_rfl) (by kernel_rfl) (fun _ => by kernel_rfl) ?_
  refine d_load 1 9 (.int .i64 d.step) (by kernel_rfl) (by kernel_rfl) (by kernel_rfl) (load1 (off := 3) (fun _ => by kernel_rfl) (holds_own (.there .here)) (by kernel_rfl)) ?_
  obtain ⟨y1_2, hy1_2, H⟩ := bindE H
  refine d_quiet 2 10 (.int .i64 y1_2) 43 #[.int .i64 d.step] (by kernel_rfl) (by kernel_rfl) (by kernel_rfl) (fun _ => by kernel_rfl) (fun _ => (DKindF_tr d.step y1_2 hy1_2)) ?_
  refine d_pure 3 11 (.int .i64 node) (by kernel_rfl) (by kernel_rfl) (by kernel_rfl) (fun _ => by kernel_rfl) ?_
  refine d_pure 4 12 (.int .i64 home) (by kernel_rfl) (by kernel_rfl) (by kernel_rfl) (fun _ => by kernel_rfl) ?_
  refine d_pure 5 13 (.pointer (some ⟨b0_0, 2, none⟩)) (by kernel_rfl) (by kernel_rfl) (by kernel_rfl) (fun _ => by kernel_rfl) ?_
  refine d_load 6 14 (.int .i64 d.id) (by kernel_rfl) (by kernel_rfl) (by kernel_rfl) (load1 (off := 2) (fun _ => by kernel_rfl) (holds_own (.there .here)) (by kernel_rfl)) ?_
  refine d_pure 7 15 (.pointer (some ⟨b0_0, 1, none⟩)) (by kernel_rfl) (by kernel_rfl) (by kernel_rfl) (fun _ => by kernel_rfl) ?_
  refine d_load 8 16 (.int .i64 d.line) (by kernel_rfl) (by kernel_rfl) (by kernel_rfl) (load1 (off := 1) (fun _ => by kernel_rfl) (holds_own (.there .here)) (by kernel_rfl)) ?_
  refine d_pure 9 17 (.agg #[.int .i64 y1_2, .int .i64 node, .int .i64 home, .int .i64 d.id, .int .i64 d.line, .int .i64 (0), .int .i64 (0), .bool false, .slice none 0 0]) (by kernel_rfl) (by kernel_rfl) (by kernel_rfl) (fun _ => by kernel_rfl) ?_
  refine d_step 10 7 [] [9, 7, 5, 4, 3, 2, 0] [8, 6, 1] (by kernel_rfl) (by kernel_rfl) (by kernel_rfl) (st_new (T := 38) (cells := #[.int .i64 (0), .int .i64 (0), .int .i64 (0), .int .i64 (0), .int .i64 (0), .int .i64 (0), .int .i64 (0), .bool false, .slice none 0 0]) (fun a => .pointer (some a)) (fun _ => by kernel_rfl)) ?_
  rintro _ _ ⟨b1_10, rfl, rfl⟩
  refine ⟨(stable_cons 8 16 (.int .i64 d.line) (by kernel_rfl) (by kernel_rfl) (by kernel_rfl) (load1 (off := 1) (fun _ => by kernel_rfl) (holds_own (.there (.there .here))) (by kernel_rfl)) (stable_cons 6 14 (.int .i64 d.id) (by kernel_rfl) (by kernel_rfl) (by kernel_rfl) (load1 (off := 2) (fun _ => by kernel_rfl) (holds_own (.there (.there .here))) (by kernel_rfl)) (stable_cons 1 9 (.int .i64 d.step) (by kernel_rfl) (by kernel_rfl) (by kernel_rfl) (load1 (off := 3) (fun _ => by kernel_rfl) (holds_own (.there (.there .here))) (by kernel_rfl)) stable_nil))), ?_⟩
  refine d_do 11 [10, 9, 2, 0, 1, 3, 4, 5, 6, 7, 8] [] [] (by kernel_rfl) (by kernel_rfl) (by kernel_rfl) (st_store (off := 0) (vs := [.int .i64 y1_2, .int .i64 node, .int .i64 home, .int .i64 d.id, .int .i64 d.line, .int .i64 (0), .int .i64 (0), .bool false, .slice none 0 0]) (c' := #[.int .i64 y1_2, .int .i64 node, .int .i64 home, .int .i64 d.id, .int .i64 d.line, .int .i64 (0), .int .i64 (0), .bool false, .slice none 0 0]) (fun _ => by kernel_rfl) .here (by kernel_rfl) (by kernel_rfl) (by kernel_rfl)) ?_
  rintro _ _ ⟨rfl, rfl⟩
  refine ⟨stable_nil, ?_⟩
  refine draw_end (by kernel_rfl) ?_
  refine At.env [(1, .int .i64 node), (3, .pointer (some ⟨b0_0, 0, none⟩)), (6, .pointer (some ⟨b0_1, 0, none⟩)), (7, .pointer (some ⟨b1_10, 0, none⟩))] ⟨by kernel_rfl, by kernel_rfl, by kernel_rfl, by kernel_rfl, trivial⟩ ?_
  refine at_then_normal ?_
  refine at_seq (x := C20 [1,1,0]) (y := C20 [1,1,1]) (by kernel_rfl) ?_
  refine at_seq (x := C20 [1,1,0,0]) (y := C20 [1,1,0,1]) (by kernel_rfl) ?_
  refine at_region (id := 2) 2 (by kernel_rfl) (by kernel_rfl) ?_
  refine s_pure 18 (.pointer (some ⟨b0_0, 3, none⟩)) (by kernel_rfl) (by kernel_rfl) (fun _ => by kernel_rfl) ?_
  refine s_load 19 (.int .i64 d.step) (by kernel_rfl) (by kernel_rfl) (load1 (off := 3) (fun _ => by kernel_rfl) (holds_own (.there (.there .here))) (by kernel_rfl)) ?_
  refine ops_end ?_
  refine At.env [(1, .int .i64 node), (3, .pointer (some ⟨b0_0, 0, none⟩)), (6, .pointer (some ⟨b0_1, 0, none⟩)), (7, .pointer (some ⟨b1_10, 0, none⟩)), (19, .int .i64 d.step)] ⟨by kernel_rfl, by kernel_rfl, by kernel_rfl, by kernel_rfl, by kernel_rfl, trivial⟩ ?_
  refine at_then_normal ?_
  refine at_block (i := 0) (x := C20 [1,1,0,1,0]) (by kernel_rfl) ?_
  refine at_seq (x := C20 [1,1,0,1,0,0]) (y := C20 [1,1,0,1,0,1]) (by kernel_rfl) ?_
  refine at_region (id := 4) 2 (by kernel_rfl) (by kernel_rfl) ?_
  refine s_pure 22 (.bool (decide (d.step = (1 : Int)))) (by kernel_rfl) (by kernel_rfl) (fun _ => by kernel_rfl) ?_
  refine s_pure 21 (.bool (decide (d.step = (1 : Int)))) (by kernel_rfl) (by kernel_rfl) (fun _ => by kernel_rfl) ?_
  refine ops_end ?_
  refine At.env [(1, .int .i64 node), (3, .pointer (some ⟨b0_0, 0, none⟩)), (6, .pointer (some ⟨b0_1, 0, none⟩)), (7, .pointer (some ⟨b1_10, 0, none⟩)), (19, .int .i64 d.step), (21, .bool (decide (d.step = (1 : Int))))] ⟨by kernel_rfl, by kernel_rfl, by kernel_rfl, by kernel_rfl, by kernel_rfl, by kernel_rfl, trivial⟩ ?_
  refine at_then_normal ?_
  rcases Bool.eq_false_or_eq_true (decide (d.step = (1 : Int))) with h1 | h1
  · replace H := bifT H h1
    refine at_true (t := decide (d.step = (1 : Int))) (x := C20 [1,1,0,1,0,1,0]) (y := C20 [1,1,0,1,0,1,1]) (o := .tmp 21) (by kernel_rfl) (by kernel_rfl) (by kernel_rfl) h1 ?_
    refine at_seq (x := C20 [1,1,0,1,0,1,0,0]) (y := C20 [1,1,0,1,0,1,0,1]) (by kernel_rfl) ?_
    refine at_region (id := 5) 2 (by kernel_rfl) (by kernel_rfl) ?_
    refine s_load 23 (.agg #[.int .i64 y1_2, .int .i64 node, .int .i64 home, .int .i64 d.id, .int .i64 d.line, .int .i64 (0), .int .i64 (0), .bool false, .slice none 0 0]) (by kernel_rfl) (by kernel_rfl) (loadN (off := 0) (vs := [.int .i64 y1_2, .int .i64 node, .int .i64 home, .int .i64 d.id, .int .i64 d.line, .int .i64 (0), .int .i64 (0), .bool false, .slice none 0 0]) 9 (fun _ => by kernel_rfl) (holds_own .here) rfl (by exact ⟨rfl, rfl, rfl, rfl, rfl, rfl, rfl, rfl, rfl, trivial⟩)) ?_
    refine s_do (by kernel_rfl) (by kernel_rfl) (st_store (off := 0) (vs := [.int .i64 y1_2, .int .i64 node, .int .i64 home, .int .i64 d.id, .int .i64 d.line, .int .i64 (0), .int .i64 (0), .bool false, .slice none 0 0]) (c' := #[.int .i64 y1_2, .int .i64 node, .int .i64 home, .int .i64 d.id, .int .i64 d.line, .int .i64 (0), .int .i64 (0), .bool false, .slice none 0 0]) (fun _ => by kernel_rfl) (.there .here) (by kernel_rfl) (by kernel_rfl) (by kernel_rfl)) ?_
    rintro _ _ ⟨rfl, rfl⟩
    refine ops_end ?_
    refine At.env [(6, .pointer (some ⟨b0_1, 0, none⟩))] ⟨by kernel_rfl, trivial⟩ ?_
    refine at_then_normal ?_
    refine at_ret (by kernel_rfl) ?_
    refine at_in_ret ?_
    refine at_then_ret ?_
    obtain rfl := someE H
    refine at_backR [.agg #[.int .i64 y1_2, .int .i64 node, .int .i64 home, .int .i64 d.id, .int .i64 d.line, .int .i64 (0), .int .i64 (0), .bool false, .slice none 0 0]] ((IntsA none 0 ([] : List Int)) :: Γ) (rs := [.cell 6 38]) (by kernel_rfl) (.cons (.cell (by kernel_rfl) (retN (off := 0) (vs := [.int .i64 y1_2, .int .i64 node, .int .i64 home, .int .i64 d.id, .int .i64 d.line, .int .i64 (0), .int .i64 (0), .bool false, .slice none 0 0]) 9 (fun _ => by kernel_rfl) (holds_own .here) rfl (by exact ⟨rfl, rfl, rfl, rfl, rfl, rfl, rfl, rfl, rfl, trivial⟩))) .nil) (fun w hw => (Sat.less (.take .here (.drop .here (.drop .here (.drop .here .refl)))) (RowsA.none_mk (k := 1) (a := none) hw))) ?_
    exact ⟨none, 0, rfl, rfl⟩
  · replace H := bifF H h1
    refine at_false (t := decide (d.step = (1 : Int))) (x := C20 [1,1,0,1,0,1,0]) (y := C20 [1,1,0,1,0,1,1]) (o := .tmp 21) (by kernel_rfl) (by kernel_rfl) (by kernel_rfl) h1 ?_
    refine at_seq (x := C20 [1,1,0,1,0,1,1,0]) (y := C20 [1,1,0,1,0,1,1,1]) (by kernel_rfl) ?_
    refine at_region (id := 6) 2 (by kernel_rfl) (by kernel_rfl) ?_
    refine s_pure 25 (.bool (decide (d.step = (2 : Int)))) (by kernel_rfl) (by kernel_rfl) (fun _ => by kernel_rfl) ?_
    refine s_pure 24 (.bool (decide (d.step = (2 : Int)))) (by kernel_rfl) (by kernel_rfl) (fun _ => by kernel_rfl) ?_
    refine ops_end ?_
    refine At.env [(1, .int .i64 node), (3, .pointer (some ⟨b0_0, 0, none⟩)), (6, .pointer (some ⟨b0_1, 0, none⟩)), (7, .pointer (some ⟨b1_10, 0, none⟩)), (19, .int .i64 d.step), (24, .bool (decide (d.step = (2 : Int))))] ⟨by kernel_rfl, by kernel_rfl, by kernel_rfl, by kernel_rfl, by kernel_rfl, by kernel_rfl, trivial⟩ ?_
    refine at_then_normal ?_
    rcases Bool.eq_false_or_eq_true (decide (d.step = (2 : Int))) with h2 | h2
    · replace H := bifT H h2
      refine at_true (t := decide (d.step = (2 : Int))) (x := C20 [1,1,0,1,0,1,1,1,0]) (y := C20 [1,1,0,1,0,1,1,1,1]) (o := .tmp 24) (by kernel_rfl) (by kernel_rfl) (by kernel_rfl) h2 ?_
      refine at_region (id := 7) 7 (by kernel_rfl) (by kernel_rfl) ?_
      refine s_pure 26 (.pointer (some ⟨b0_0, 5, none⟩)) (by kernel_rfl) (by kernel_rfl) (fun _ => by kernel_rfl) ?_
      refine s_load 27 (.int .i64 d.head) (by kernel_rfl) (by kernel_rfl) (load1 (off := 5) (fun _ => by kernel_rfl) (holds_own (.there (.there .here))) (by kernel_rfl)) ?_
      refine s_pure 28 (.int .i64 node) (by kernel_rfl) (by kernel_rfl) (fun _ => by kernel_rfl) ?_
      refine s_pure 29 (.pointer (some ⟨b1_10, 2, none⟩)) (by kernel_rfl) (by kernel_rfl) (fun _ => by kernel_rfl) ?_
      refine s_do (by kernel_rfl) (by kernel_rfl) (st_store (off := 2) (vs := [.int .i64 d.head]) (c' := #[.int .i64 y1_2, .int .i64 node, .int .i64 d.head, .int .i64 d.id, .int .i64 d.line, .int .i64 (0), .int .i64 (0), .bool false, .slice none 0 0]) (fun _ => by kernel_rfl) .here (by kernel_rfl) (by kernel_rfl) (by kernel_rfl)) ?_
      rintro _ _ ⟨rfl, rfl⟩
      refine s_pure 30 (.pointer (some ⟨b1_10, 5, none⟩)) (by kernel_rfl) (by kernel_rfl) (fun _ => by kernel_rfl) ?_
      refine s_do (by kernel_rfl) (by kernel_rfl) (st_store (off := 5) (vs := [.int .i64 node]) (c' := #[.int .i64 y1_2, .int .i64 node, .int .i64 d.head, .int .i64 d.id, .int .i64 d.line, .int .i64 node, .int .i64 (0), .bool false, .slice none 0 0]) (fun _ => by kernel_rfl) .here (by kernel_rfl) (by kernel_rfl) (by kernel_rfl)) ?_
      rintro _ _ ⟨rfl, rfl⟩
      refine ops_end ?_
      refine At.env [(6, .pointer (some ⟨b0_1, 0, none⟩)), (7, .pointer (some ⟨b1_10, 0, none⟩))] ⟨by kernel_rfl, by kernel_rfl, trivial⟩ ?_
      refine at_in_normal ?_
      refine at_then_normal ?_
      refine at_seq (x := C20 [1,1,1,0]) (y := C20 [1,1,1,1]) (by kernel_rfl) ?_
      refine at_region (id := 16) 2 (by kernel_rfl) (by kernel_rfl) ?_
      refine s_load 69 (.agg #[.int .i64 y1_2, .int .i64 node, .int .i64 d.head, .int .i64 d.id, .int .i64 d.line, .int .i64 node, .int .i64 (0), .bool false, .slice none 0 0]) (by kernel_rfl) (by kernel_rfl) (loadN (off := 0) (vs := [.int .i64 y1_2, .int .i64 node, .int .i64 d.head, .int .i64 d.id, .int .i64 d.line, .int .i64 node, .int .i64 (0), .bool false, .slice none 0 0]) 9 (fun _ => by kernel_rfl) (holds_own .here) rfl (by exact ⟨rfl, rfl, rfl, rfl, rfl, rfl, rfl, rfl, rfl, trivial⟩)) ?_
      refine s_do (by kernel_rfl) (by kernel_rfl) (st_store (off := 0) (vs := [.int .i64 y1_2, .int .i64 node, .int .i64 d.head, .int .i64 d.id, .int .i64 d.line, .int .i64 node, .int .i64 (0), .bool false, .slice none 0 0]) (c' := #[.int .i64 y1_2, .int .i64 node, .int .i64 d.head, .int .i64 d.id, .int .i64 d.line, .int .i64 node, .int .i64 (0), .bool false, .slice none 0 0]) (fun _ => by kernel_rfl) (.there .here) (by kernel_rfl) (by kernel_rfl) (by kernel_rfl)) ?_
      rintro _ _ ⟨rfl, rfl⟩
      refine ops_end ?_
      refine At.env [(6, .pointer (some ⟨b0_1, 0, none⟩))] ⟨by kernel_rfl, trivial⟩ ?_
      refine at_then_normal ?_
      refine at_ret (by kernel_rfl) ?_
      obtain rfl := someE H
      refine at_backR [.agg #[.int .i64 y1_2, .int .i64 node, .int .i64 d.head, .int .i64 d.id, .int .i64 d.line, .int .i64 node, .int .i64 (0), .bool false, .slice none 0 0]] ((IntsA none 0 ([] : List Int)) :: Γ) (rs := [.cell 6 38]) (by kernel_rfl) (.cons (.cell (by kernel_rfl) (retN (off := 0) (vs := [.int .i64 y1_2, .int .i64 node, .int .i64 d.head, .int .i64 d.id, .int .i64 d.line, .int .i64 node, .int .i64 (0), .bool false, .slice none 0 0]) 9 (fun _ => by kernel_rfl) (holds_own .here) rfl (by exact ⟨rfl, rfl, rfl, rfl, rfl, rfl, rfl, rfl, rfl, trivial⟩))) .nil) (fun w hw => (Sat.less (.take .here (.drop .here (.drop .here (.drop .here .refl)))) (RowsA.none_mk (k := 1) (a := none) hw))) ?_
      exact ⟨none, 0, rfl, rfl⟩
    · replace H := bifF H h2
      refine at_false (t := decide (d.step = (2 : Int))) (x := C20 [1,1,0,1,0,1,1,1,0]) (y := C20 [1,1,0,1,0,1,1,1,1]) (o := .tmp 24) (by kernel_rfl) (by kernel_rfl) (by kernel_rfl) h2 ?_
      refine at_seq (x := C20 [1,1,0,1,0,1,1,1,1,0]) (y := C20 [1,1,0,1,0,1,1,1,1,1]) (by kernel_rfl) ?_
      refine at_region (id := 8) 2 (by kernel_rfl) (by kernel_rfl) ?_
      refine s_pure 32 (.bool (decide (d.step = (3 : Int)))) (by kernel_rfl) (by kernel_rfl) (fun _ => by kernel_rfl) ?_
      refine s_pure 31 (.bool (decide (d.step = (3 : Int)))) (by kernel_rfl) (by kernel_rfl) (fun _ => by kernel_rfl) ?_
      refine ops_end ?_
      refine At.env [(3, .pointer (some ⟨b0_0, 0, none⟩)), (6, .pointer (some ⟨b0_1, 0, none⟩)), (7, .pointer (some ⟨b1_10, 0, none⟩)), (19, .int .i64 d.step), (31, .bool (decide (d.step = (3 : Int))))] ⟨by kernel_rfl, by kernel_rfl, by kernel_rfl, by kernel_rfl, by kernel_rfl, trivial⟩ ?_
      refine at_then_normal ?_
      rcases Bool.eq_false_or_eq_true (decide (d.step = (3 : Int))) with h3 | h3
      · replace H := bifT H h3
        refine at_true (t := decide (d.step = (3 : Int))) (x := C20 [1,1,0,1,0,1,1,1,1,1,0]) (y := C20 [1,1,0,1,0,1,1,1,1,1,1]) (o := .tmp 31) (by kernel_rfl) (by kernel_rfl) (by kernel_rfl) h3 ?_
        refine at_region (id := 9) 4 (by kernel_rfl) (by kernel_rfl) ?_
        refine s_pure 33 (.pointer (some ⟨b0_0, 7, none⟩)) (by kernel_rfl) (by kernel_rfl) (fun _ => by kernel_rfl) ?_
        refine s_load 34 (.int .i64 d.next) (by kernel_rfl) (by kernel_rfl) (load1 (off := 7) (fun _ => by kernel_rfl) (holds_own (.there (.there .here))) (by kernel_rfl)) ?_
        refine s_pure 35 (.pointer (some ⟨b1_10, 2, none⟩)) (by kernel_rfl) (by kernel_rfl) (fun _ => by kernel_rfl) ?_
        refine s_do (by kernel_rfl) (by kernel_rfl) (st_store (off := 2) (vs := [.int .i64 d.next]) (c' := #[.int .i64 y1_2, .int .i64 node, .int .i64 d.next, .int .i64 d.id, .int .i64 d.line, .int .i64 (0), .int .i64 (0), .bool false, .slice none 0 0]) (fun _ => by kernel_rfl) .here (by kernel_rfl) (by kernel_rfl) (by kernel_rfl)) ?_
        rintro _ _ ⟨rfl, rfl⟩
        refine ops_end ?_
        refine At.env [(6, .pointer (some ⟨b0_1, 0, none⟩)), (7, .pointer (some ⟨b1_10, 0, none⟩))] ⟨by kernel_rfl, by kernel_rfl, trivial⟩ ?_
        refine at_in_normal ?_
        refine at_then_normal ?_
        refine at_seq (x := C20 [1,1,1,0]) (y := C20 [1,1,1,1]) (by kernel_rfl) ?_
        refine at_region (id := 16) 2 (by kernel_rfl) (by kernel_rfl) ?_
        refine s_load 69 (.agg #[.int .i64 y1_2, .int .i64 node, .int .i64 d.next, .int .i64 d.id, .int .i64 d.line, .int .i64 (0), .int .i64 (0), .bool false, .slice none 0 0]) (by kernel_rfl) (by kernel_rfl) (loadN (off := 0) (vs := [.int .i64 y1_2, .int .i64 node, .int .i64 d.next, .int .i64 d.id, .int .i64 d.line, .int .i64 (0), .int .i64 (0), .bool false, .slice none 0 0]) 9 (fun _ => by kernel_rfl) (holds_own .here) rfl (by exact ⟨rfl, rfl, rfl, rfl, rfl, rfl, rfl, rfl, rfl, trivial⟩)) ?_
        refine s_do (by kernel_rfl) (by kernel_rfl) (st_store (off := 0) (vs := [.int .i64 y1_2, .int .i64 node, .int .i64 d.next, .int .i64 d.id, .int .i64 d.line, .int .i64 (0), .int .i64 (0), .bool false, .slice none 0 0]) (c' := #[.int .i64 y1_2, .int .i64 node, .int .i64 d.next, .int .i64 d.id, .int .i64 d.line, .int .i64 (0), .int .i64 (0), .bool false, .slice none 0 0]) (fun _ => by kernel_rfl) (.there .here) (by kernel_rfl) (by kernel_rfl) (by kernel_rfl)) ?_
        rintro _ _ ⟨rfl, rfl⟩
        refine ops_end ?_
        refine At.env [(6, .pointer (some ⟨b0_1, 0, none⟩))] ⟨by kernel_rfl, trivial⟩ ?_
        refine at_then_normal ?_
        refine at_ret (by kernel_rfl) ?_
        obtain rfl := someE H
        refine at_backR [.agg #[.int .i64 y1_2, .int .i64 node, .int .i64 d.next, .int .i64 d.id, .int .i64 d.line, .int .i64 (0), .int .i64 (0), .bool false, .slice none 0 0]] ((IntsA none 0 ([] : List Int)) :: Γ) (rs := [.cell 6 38]) (by kernel_rfl) (.cons (.cell (by kernel_rfl) (retN (off := 0) (vs := [.int .i64 y1_2, .int .i64 node, .int .i64 d.next, .int .i64 d.id, .int .i64 d.line, .int .i64 (0), .int .i64 (0), .bool false, .slice none 0 0]) 9 (fun _ => by kernel_rfl) (holds_own .here) rfl (by exact ⟨rfl, rfl, rfl, rfl, rfl, rfl, rfl, rfl, rfl, trivial⟩))) .nil) (fun w hw => (Sat.less (.take .here (.drop .here (.drop .here (.drop .here .refl)))) (RowsA.none_mk (k := 1) (a := none) hw))) ?_
        exact ⟨none, 0, rfl, rfl⟩
      · replace H := bifF H h3
        refine at_false (t := decide (d.step = (3 : Int))) (x := C20 [1,1,0,1,0,1,1,1,1,1,0]) (y := C20 [1,1,0,1,0,1,1,1,1,1,1]) (o := .tmp 31) (by kernel_rfl) (by kernel_rfl) (by kernel_rfl) h3 ?_
        refine at_seq (x := C20 [1,1,0,1,0,1,1,1,1,1,1,0]) (y := C20 [1,1,0,1,0,1,1,1,1,1,1,1]) (by kernel_rfl) ?_
        refine at_region (id := 10) 2 (by kernel_rfl) (by kernel_rfl) ?_
        refine s_pure 37 (.bool (decide (d.step = (4 : Int)))) (by kernel_rfl) (by kernel_rfl) (fun _ => by kernel_rfl) ?_
        refine s_pure 36 (.bool (decide (d.step = (4 : Int)))) (by kernel_rfl) (by kernel_rfl) (fun _ => by kernel_rfl) ?_
        refine ops_end ?_
        refine At.env [(3, .pointer (some ⟨b0_0, 0, none⟩)), (6, .pointer (some ⟨b0_1, 0, none⟩)), (7, .pointer (some ⟨b1_10, 0, none⟩)), (19, .int .i64 d.step), (36, .bool (decide (d.step = (4 : Int))))] ⟨by kernel_rfl, by kernel_rfl, by kernel_rfl, by kernel_rfl, by kernel_rfl, trivial⟩ ?_
        refine at_then_normal ?_
        rcases Bool.eq_false_or_eq_true (decide (d.step = (4 : Int))) with h4 | h4
        · replace H := bifT H h4
          refine at_true (t := decide (d.step = (4 : Int))) (x := C20 [1,1,0,1,0,1,1,1,1,1,1,1,0]) (y := C20 [1,1,0,1,0,1,1,1,1,1,1,1,1]) (o := .tmp 36) (by kernel_rfl) (by kernel_rfl) (by kernel_rfl) h4 ?_
          refine at_region_draw (id := 11) (by kernel_rfl) (by kernel_rfl) ?_
          refine d_pure 0 38 (.pointer (some ⟨b0_0, 5, none⟩)) (by kernel_rfl) (by kernel_rfl) (by kernel_rfl) (fun _ => by kernel_rfl) ?_
          refine d_load 1 39 (.int .i64 d.head) (by kernel_rfl) (by kernel_rfl) (by kernel_rfl) (load1 (off := 5) (fun _ => by kernel_rfl) (holds_own (.there (.there .here))) (by kernel_rfl)) ?_
          refine d_pure 2 40 (.pointer (some ⟨b0_0, 7, none⟩)) (by kernel_rfl) (by kernel_rfl) (by kernel_rfl) (fun _ => by kernel_rfl) ?_
          refine d_load 3 41 (.int .i64 d.next) (by kernel_rfl) (by kernel_rfl) (by kernel_rfl) (load1 (off := 7) (fun _ => by kernel_rfl) (holds_own (.there (.there .here))) (by kernel_rfl)) ?_
          refine d_pure 4 42 (.pointer (some ⟨b1_10, 2, none⟩)) (by kernel_rfl) (by kernel_rfl) (by kernel_rfl) (fun _ => by kernel_rfl) ?_
          refine d_do 5 [4, 1, 0] [2] [3] (by kernel_rfl) (by kernel_rfl) (by kernel_rfl) (st_store (off := 2) (vs := [.int .i64 d.head]) (c' := #[.int .i64 y1_2, .int .i64 node, .int .i64 d.head, .int .i64 d.id, .int .i64 d.line, .int .i64 (0), .int .i64 (0), .bool false, .slice none 0 0]) (fun _ => by kernel_rfl) .here (by kernel_rfl) (by kernel_rfl) (by kernel_rfl)) ?_
          rintro _ _ ⟨rfl, rfl⟩
          refine ⟨(stable_cons 3 41 (.int .i64 d.next) (by kernel_rfl) (by kernel_rfl) (by kernel_rfl) (load1 (off := 7) (fun _ => by kernel_rfl) (holds_own (.there (.there .here))) (by kernel_rfl)) stable_nil), ?_⟩
          refine d_pure 6 43 (.pointer (some ⟨b1_10, 5, none⟩)) (by kernel_rfl) (by kernel_rfl) (by kernel_rfl) (fun _ => by kernel_rfl) ?_
          refine d_do 7 [6, 3, 5, 0, 1, 2, 4] [] [] (by kernel_rfl) (by kernel_rfl) (by kernel_rfl) (st_store (off := 5) (vs := [.int .i64 d.next]) (c' := #[.int .i64 y1_2, .int .i64 node, .int .i64 d.head, .int .i64 d.id, .int .i64 d.line, .int .i64 d.next, .int .i64 (0), .bool false, .slice none 0 0]) (fun _ => by kernel_rfl) .here (by kernel_rfl) (by kernel_rfl) (by kernel_rfl)) ?_
          rintro _ _ ⟨rfl, rfl⟩
          refine ⟨stable_nil, ?_⟩
          refine draw_end (by kernel_rfl) ?_
          refine At.env [(6, .pointer (some ⟨b0_1, 0, none⟩)), (7, .pointer (some ⟨b1_10, 0, none⟩))] ⟨by kernel_rfl, by kernel_rfl, trivial⟩ ?_
          refine at_in_normal ?_
          refine at_then_normal ?_
          refine at_seq (x := C20 [1,1,1,0]) (y := C20 [1,1,1,1]) (by kernel_rfl) ?_
          refine at_region (id := 16) 2 (by kernel_rfl) (by kernel_rfl) ?_
          refine s_load 69 (.agg #[.int .i64 y1_2, .int .i64 node, .int .i64 d.head, .int .i64 d.id, .int .i64 d.line, .int .i64 d.next, .int .i64 (0), .bool false, .slice none 0 0]) (by kernel_rfl) (by kernel_rfl) (loadN (off := 0) (vs := [.int .i64 y1_2, .int .i64 node, .int .i64 d.head, .int .i64 d.id, .int .i64 d.line, .int .i64 d.next, .int .i64 (0), .bool false, .slice none 0 0]) 9 (fun _ => by kernel_rfl) (holds_own .here) rfl (by exact ⟨rfl, rfl, rfl, rfl, rfl, rfl, rfl, rfl, rfl, trivial⟩)) ?_
          refine s_do (by kernel_rfl) (by kernel_rfl) (st_store (off := 0) (vs := [.int .i64 y1_2, .int .i64 node, .int .i64 d.head, .int .i64 d.id, .int .i64 d.line, .int .i64 d.next, .int .i64 (0), .bool false, .slice none 0 0]) (c' := #[.int .i64 y1_2, .int .i64 node, .int .i64 d.head, .int .i64 d.id, .int .i64 d.line, .int .i64 d.next, .int .i64 (0), .bool false, .slice none 0 0]) (fun _ => by kernel_rfl) (.there .here) (by kernel_rfl) (by kernel_rfl) (by kernel_rfl)) ?_
          rintro _ _ ⟨rfl, rfl⟩
          refine ops_end ?_
          refine At.env [(6, .pointer (some ⟨b0_1, 0, none⟩))] ⟨by kernel_rfl, trivial⟩ ?_
          refine at_then_normal ?_
          refine at_ret (by kernel_rfl) ?_
          obtain rfl := someE H
          refine at_backR [.agg #[.int .i64 y1_2, .int .i64 node, .int .i64 d.head, .int .i64 d.id, .int .i64 d.line, .int .i64 d.next, .int .i64 (0), .bool false, .slice none 0 0]] ((IntsA none 0 ([] : List Int)) :: Γ) (rs := [.cell 6 38]) (by kernel_rfl) (.cons (.cell (by kernel_rfl) (retN (off := 0) (vs := [.int .i64 y1_2, .int .i64 node, .int .i64 d.head, .int .i64 d.id, .int .i64 d.line, .int .i64 d.next, .int .i64 (0), .bool false, .slice none 0 0]) 9 (fun _ => by kernel_rfl) (holds_own .here) rfl (by exact ⟨rfl, rfl, rfl, rfl, rfl, rfl, rfl, rfl, rfl, trivial⟩))) .nil) (fun w hw => (Sat.less (.take .here (.drop .here (.drop .here (.drop .here .refl)))) (RowsA.none_mk (k := 1) (a := none) hw))) ?_
          exact ⟨none, 0, rfl, rfl⟩
        · replace H := bifF H h4
          refine at_false (t := decide (d.step = (4 : Int))) (x := C20 [1,1,0,1,0,1,1,1,1,1,1,1,0]) (y := C20 [1,1,0,1,0,1,1,1,1,1,1,1,1]) (o := .tmp 36) (by kernel_rfl) (by kernel_rfl) (by kernel_rfl) h4 ?_
          refine at_seq (x := C20 [1,1,0,1,0,1,1,1,1,1,1,1,1,0]) (y := C20 [1,1,0,1,0,1,1,1,1,1,1,1,1,1]) (by kernel_rfl) ?_
          refine at_region (id := 12) 2 (by kernel_rfl) (by kernel_rfl) ?_
          refine s_pure 45 (.bool (decide (d.step = (5 : Int)))) (by kernel_rfl) (by kernel_rfl) (fun _ => by kernel_rfl) ?_
          refine s_pure 44 (.bool (decide (d.step = (5 : Int)))) (by kernel_rfl) (by kernel_rfl) (fun _ => by kernel_rfl) ?_
          refine ops_end ?_
          refine At.env [(3, .pointer (some ⟨b0_0, 0, none⟩)), (6, .pointer (some ⟨b0_1, 0, none⟩)), (7, .pointer (some ⟨b1_10, 0, none⟩)), (19, .int .i64 d.step), (44, .bool (decide (d.step = (5 : Int))))] ⟨by kernel_rfl, by kernel_rfl, by kernel_rfl, by kernel_rfl, by kernel_rfl, trivial⟩ ?_
          refine at_then_normal ?_
          rcases Bool.eq_false_or_eq_true (decide (d.step = (5 : Int))) with h5 | h5
          · replace H := bifT H h5
            refine at_true (t := decide (d.step = (5 : Int))) (x := C20 [1,1,0,1,0,1,1,1,1,1,1,1,1,1,0]) (y := C20 [1,1,0,1,0,1,1,1,1,1,1,1,1,1,1]) (o := .tmp 44) (by kernel_rfl) (by kernel_rfl) (by kernel_rfl) h5 ?_
            refine at_region_draw (id := 13) (by kernel_rfl) (by kernel_rfl) ?_
            refine d_pure 0 46 (.pointer (some ⟨b0_0, 7, none⟩)) (by kernel_rfl) (by kernel_rfl) (by kernel_rfl) (fun _ => by kernel_rfl) ?_
            refine d_load 1 47 (.int .i64 d.next) (by kernel_rfl) (by kernel_rfl) (by kernel_rfl) (load1 (off := 7) (fun _ => by kernel_rfl) (holds_own (.there (.there .here))) (by kernel_rfl)) ?_
            refine d_pure 2 48 (.pointer (some ⟨b0_0, 5, none⟩)) (by kernel_rfl) (by kernel_rfl) (by kernel_rfl) (fun _ => by kernel_rfl) ?_
            refine d_load 3 49 (.int .i64 d.head) (by kernel_rfl) (by kernel_rfl) (by kernel_rfl) (load1 (off := 5) (fun _ => by kernel_rfl) (holds_own (.there (.there .here))) (by kernel_rfl)) ?_
            refine d_pure 4 50 (.pointer (some ⟨b1_10, 2, none⟩)) (by kernel_rfl) (by kernel_rfl) (by kernel_rfl) (fun _ => by kernel_rfl) ?_
            refine d_do 5 [4, 1, 0] [2] [3] (by kernel_rfl) (by kernel_rfl) (by kernel_rfl) (st_store (off := 2) (vs := [.int .i64 d.next]) (c' := #[.int .i64 y1_2, .int .i64 node, .int .i64 d.next, .int .i64 d.id, .int .i64 d.line, .int .i64 (0), .int .i64 (0), .bool false, .slice none 0 0]) (fun _ => by kernel_rfl) .here (by kernel_rfl) (by kernel_rfl) (by kernel_rfl)) ?_
            rintro _ _ ⟨rfl, rfl⟩
            refine ⟨(stable_cons 3 49 (.int .i64 d.head) (by kernel_rfl) (by kernel_rfl) (by kernel_rfl) (load1 (off := 5) (fun _ => by kernel_rfl) (holds_own (.there (.there .here))) (by kernel_rfl)) stable_nil), ?_⟩
            refine d_pure 6 51 (.pointer (some ⟨b1_10, 5, none⟩)) (by kernel_rfl) (by kernel_rfl) (by kernel_rfl) (fun _ => by kernel_rfl) ?_
            refine d_do 7 [6, 3, 5, 0, 1, 2, 4] [] [] (by kernel_rfl) (by kernel_rfl) (by kernel_rfl) (st_store (off := 5) (vs := [.int .i64 d.head]) (c' := #[.int .i64 y1_2, .int .i64 node, .int .i64 d.next, .int .i64 d.id, .int .i64 d.line, .int .i64 d.head, .int .i64 (0), .bool false, .slice none 0 0]) (fun _ => by kernel_rfl) .here (by kernel_rfl) (by kernel_rfl) (by kernel_rfl)) ?_
            rintro _ _ ⟨rfl, rfl⟩
            refine ⟨stable_nil, ?_⟩
            refine draw_end (by kernel_rfl) ?_
            refine At.env [(6, .pointer (some ⟨b0_1, 0, none⟩)), (7, .pointer (some ⟨b1_10, 0, none⟩))] ⟨by kernel_rfl, by kernel_rfl, trivial⟩ ?_
            refine at_in_normal ?_
            refine at_then_normal ?_
            refine at_seq (x := C20 [1,1,1,0]) (y := C20 [1,1,1,1]) (by kernel_rfl) ?_
            refine at_region (id := 16) 2 (by kernel_rfl) (by kernel_rfl) ?_
            refine s_load 69 (.agg #[.int .i64 y1_2, .int .i64 node, .int .i64 d.next, .int .i64 d.id, .int .i64 d.line, .int .i64 d.head, .int .i64 (0), .bool false, .slice none 0 0]) (by kernel_rfl) (by kernel_rfl) (loadN (off := 0) (vs := [.int .i64 y1_2, .int .i64 node, .int .i64 d.next, .int .i64 d.id, .int .i64 d.line, .int .i64 d.head, .int .i64 (0), .bool false, .slice none 0 0]) 9 (fun _ => by kernel_rfl) (holds_own .here) rfl (by exact ⟨rfl, rfl, rfl, rfl, rfl, rfl, rfl, rfl, rfl, trivial⟩)) ?_
            refine s_do (by kernel_rfl) (by kernel_rfl) (st_store (off := 0) (vs := [.int .i64 y1_2, .int .i64 node, .int .i64 d.next, .int .i64 d.id, .int .i64 d.line, .int .i64 d.head, .int .i64 (0), .bool false, .slice none 0 0]) (c' := #[.int .i64 y1_2, .int .i64 node, .int .i64 d.next, .int .i64 d.id, .int .i64 d.line, .int .i64 d.head, .int .i64 (0), .bool false, .slice none 0 0]) (fun _ => by kernel_rfl) (.there .here) (by kernel_rfl) (by kernel_rfl) (by kernel_rfl)) ?_
            rintro _ _ ⟨rfl, rfl⟩
            refine ops_end ?_
            refine At.env [(6, .pointer (some ⟨b0_1, 0, none⟩))] ⟨by kernel_rfl, trivial⟩ ?_
            refine at_then_normal ?_
            refine at_ret (by kernel_rfl) ?_
            obtain rfl := someE H
            refine at_backR [.agg #[.int .i64 y1_2, .int .i64 node, .int .i64 d.next, .int .i64 d.id, .int .i64 d.line, .int .i64 d.head, .int .i64 (0), .bool false, .slice none 0 0]] ((IntsA none 0 ([] : List Int)) :: Γ) (rs := [.cell 6 38]) (by kernel_rfl) (.cons (.cell (by kernel_rfl) (retN (off := 0) (vs := [.int .i64 y1_2, .int .i64 node, .int .i64 d.next, .int .i64 d.id, .int .i64 d.line, .int .i64 d.head, .int .i64 (0), .bool false, .slice none 0 0]) 9 (fun _ => by kernel_rfl) (holds_own .here) rfl (by exact ⟨rfl, rfl, rfl, rfl, rfl, rfl, rfl, rfl, rfl, trivial⟩))) .nil) (fun w hw => (Sat.less (.take .here (.drop .here (.drop .here (.drop .here .refl)))) (RowsA.none_mk (k := 1) (a := none) hw))) ?_
            exact ⟨none, 0, rfl, rfl⟩
          · replace H := bifF H h5
            refine at_false (t := decide (d.step = (5 : Int))) (x := C20 [1,1,0,1,0,1,1,1,1,1,1,1,1,1,0]) (y := C20 [1,1,0,1,0,1,1,1,1,1,1,1,1,1,1]) (o := .tmp 44) (by kernel_rfl) (by kernel_rfl) (by kernel_rfl) h5 ?_
            refine at_seq (x := C20 [1,1,0,1,0,1,1,1,1,1,1,1,1,1,1,0]) (y := C20 [1,1,0,1,0,1,1,1,1,1,1,1,1,1,1,1]) (by kernel_rfl) ?_
            refine at_region (id := 14) 2 (by kernel_rfl) (by kernel_rfl) ?_
            refine s_pure 53 (.bool (decide (d.step = (6 : Int)))) (by kernel_rfl) (by kernel_rfl) (fun _ => by kernel_rfl) ?_
            refine s_pure 52 (.bool (decide (d.step = (6 : Int)))) (by kernel_rfl) (by kernel_rfl) (fun _ => by kernel_rfl) ?_
            refine ops_end ?_
            refine At.env [(3, .pointer (some ⟨b0_0, 0, none⟩)), (6, .pointer (some ⟨b0_1, 0, none⟩)), (7, .pointer (some ⟨b1_10, 0, none⟩)), (52, .bool (decide (d.step = (6 : Int))))] ⟨by kernel_rfl, by kernel_rfl, by kernel_rfl, by kernel_rfl, trivial⟩ ?_
            refine at_then_normal ?_
            rcases Bool.eq_false_or_eq_true (decide (d.step = (6 : Int))) with h6 | h6
            · replace H := bifT H h6
              refine at_true (t := decide (d.step = (6 : Int))) (x := C20 [1,1,0,1,0,1,1,1,1,1,1,1,1,1,1,1,0]) (y := C20 [1,1,0,1,0,1,1,1,1,1,1,1,1,1,1,1,1]) (o := .tmp 52) (by kernel_rfl) (by kernel_rfl) (by kernel_rfl) h6 ?_
              refine at_region_draw (id := 15) (by kernel_rfl) (by kernel_rfl) ?_
              refine d_pure 0 54 (.pointer (some ⟨b0_0, 4, none⟩)) (by kernel_rfl) (by kernel_rfl) (by kernel_rfl) (fun _ => by kernel_rfl) ?_
              refine d_load 1 55 (.int .i64 d.state) (by kernel_rfl) (by kernel_rfl) (by kernel_rfl) (load1 (off := 4) (fun _ => by kernel_rfl) (holds_own (.there (.there .here))) (by kernel_rfl)) ?_
              refine d_pure 2 56 (.pointer (some ⟨b0_0, 5, none⟩)) (by kernel_rfl) (by kernel_rfl) (by kernel_rfl) (fun _ => by kernel_rfl) ?_
              refine d_load 3 57 (.int .i64 d.head) (by kernel_rfl) (by kernel_rfl) (by kernel_rfl) (load1 (off := 5) (fun _ => by kernel_rfl) (holds_own (.there (.there .here))) (by kernel_rfl)) ?_
              refine d_pure 4 58 (.pointer (some ⟨b0_0, 6, none⟩)) (by kernel_rfl) (by kernel_rfl) (by kernel_rfl) (fun _ => by kernel_rfl) ?_
              refine d_load 5 59 (.slice da (List.length d.data) dcap) (by kernel_rfl) (by kernel_rfl) (by kernel_rfl) (load1 (off := 6) (fun _ => by kernel_rfl) (holds_own (.there (.there .here))) (by kernel_rfl)) ?_
              refine d_pure 6 60 (.int .i64 (((List.length d.data) : Nat) : Int)) (by kernel_rfl) (by kernel_rfl) (by kernel_rfl) (fun _ => by kernel_rfl) ?_
              refine d_pure 7 61 (.bool (decide ((0 : Int) < (((List.length d.data) : Nat) : Int)))) (by kernel_rfl) (by kernel_rfl) (by kernel_rfl) (fun _ => by kernel_rfl) ?_
              refine d_pure 8 62 (.pointer (some ⟨b0_0, 6, none⟩)) (by kernel_rfl) (by kernel_rfl) (by kernel_rfl) (fun _ => by kernel_rfl) ?_
              refine d_load 9 63 (.slice da (List.length d.data) dcap) (by kernel_rfl) (by kernel_rfl) (by kernel_rfl) (load1 (off := 6) (fun _ => by kernel_rfl) (holds_own (.there (.there .here))) (by kernel_rfl)) ?_
              refine d_pure 11 65 (.pointer (some ⟨b1_10, 6, none⟩)) (by kernel_rfl) (by kernel_rfl) (by kernel_rfl) (fun _ => by kernel_rfl) ?_
              obtain ⟨y15_10, hy15_10, H⟩ := bindE H
              refine d_call 10 64 [9, 8] [11, 7, 6, 4, 2, 0] [5, 3, 1] 44 #[.slice da (List.length d.data) dcap] (by kernel_rfl) (by kernel_rfl) (by kernel_rfl) (fun _ => by kernel_rfl) (CloneF_tr da dcap d.data (Reads.conv (fun w hw => hw.less (.drop .here (.drop .here (.drop .here .refl)))) hrda) y15_10 hy15_10) ?_
              rintro _ _ ⟨a15_10_00, c15_10_00, rfl, rfl⟩
              refine ⟨(stable_cons 5 59 (.slice da (List.length d.data) dcap) (by kernel_rfl) (by kernel_rfl) (by kernel_rfl) (load1 (off := 6) (fun _ => by kernel_rfl) (holds_own (.there (.there (.there .here)))) (by kernel_rfl)) (stable_cons 3 57 (.int .i64 d.head) (by kernel_rfl) (by kernel_rfl) (by kernel_rfl) (load1 (off := 5) (fun _ => by kernel_rfl) (holds_own (.there (.there (.there .here)))) (by kernel_rfl)) (stable_cons 1 55 (.int .i64 d.state) (by kernel_rfl) (by kernel_rfl) (by kernel_rfl) (load1 (off := 4) (fun _ => by kernel_rfl) (holds_own (.there (.there (.there .here)))) (by kernel_rfl)) stable_nil))), ?_⟩
              refine d_do 12 [11, 1, 10, 0, 9, 8] [7, 6, 4, 2] [5, 3] (by kernel_rfl) (by kernel_rfl) (by kernel_rfl) (st_store (off := 6) (vs := [.int .i64 d.state]) (c' := #[.int .i64 y1_2, .int .i64 node, .int .i64 home, .int .i64 d.id, .int .i64 d.line, .int .i64 (0), .int .i64 d.state, .bool false, .slice none 0 0]) (fun _ => by kernel_rfl) (.there .here) (by kernel_rfl) (by kernel_rfl) (by kernel_rfl)) ?_
              rintro _ _ ⟨rfl, rfl⟩
              refine ⟨(stable_cons 5 59 (.slice da (List.length d.data) dcap) (by kernel_rfl) (by kernel_rfl) (by kernel_rfl) (load1 (off := 6) (fun _ => by kernel_rfl) (holds_own (.there (.there (.there .here)))) (by kernel_rfl)) (stable_cons 3 57 (.int .i64 d.head) (by kernel_rfl) (by kernel_rfl) (by kernel_rfl) (load1 (off := 5) (fun _ => by kernel_rfl) (holds_own (.there (.there (.there .here)))) (by kernel_rfl)) stable_nil)), ?_⟩
              refine d_pure 13 66 (.pointer (some ⟨b1_10, 5, none⟩)) (by kernel_rfl) (by kernel_rfl) (by kernel_rfl) (fun _ => by kernel_rfl) ?_
              refine d_do 14 [13, 3, 12, 0, 1, 2, 11, 10, 9, 8] [7, 6, 4] [5] (by kernel_rfl) (by kernel_rfl) (by kernel_rfl) (st_store (off := 5) (vs := [.int .i64 d.head]) (c' := #[.int .i64 y1_2, .int .i64 node, .int .i64 home, .int .i64 d.id, .int .i64 d.line, .int .i64 d.head, .int .i64 d.state, .bool false, .slice none 0 0]) (fun _ => by kernel_rfl) .here (by kernel_rfl) (by kernel_rfl) (by kernel_rfl)) ?_
              rintro _ _ ⟨rfl, rfl⟩
              refine ⟨(stable_cons 5 59 (.slice da (List.length d.data) dcap) (by kernel_rfl) (by kernel_rfl) (by kernel_rfl) (load1 (off := 6) (fun _ => by kernel_rfl) (holds_own (.there (.there (.there .here)))) (by kernel_rfl)) stable_nil), ?_⟩
              refine d_pure 15 67 (.pointer (some ⟨b1_10, 7, none⟩)) (by kernel_rfl) (by kernel_rfl) (by kernel_rfl) (fun _ => by kernel_rfl) ?_
              refine d_do 16 [15, 7, 14, 0, 1, 2, 3, 4, 5, 6, 11, 12, 13, 10, 9, 8] [] [] (by kernel_rfl) (by kernel_rfl) (by kernel_rfl) (st_store (off := 7) (vs := [.bool (decide ((0 : Int) < (((List.length d.data) : Nat) : Int)))]) (c' := #[.int .i64 y1_2, .int .i64 node, .int .i64 home, .int .i64 d.id, .int .i64 d.line, .int .i64 d.head, .int .i64 d.state, .bool (decide ((0 : Int) < (((List.length d.data) : Nat) : Int))), .slice none 0 0]) (fun _ => by kernel_rfl) .here (by kernel_rfl) (by kernel_rfl) (by kernel_rfl)) ?_
              rintro _ _ ⟨rfl, rfl⟩
              refine ⟨stable_nil, ?_⟩
              refine d_pure 17 68 (.pointer (some ⟨b1_10, 8, none⟩)) (by kernel_rfl) (by kernel_rfl) (by kernel_rfl) (fun _ => by kernel_rfl) ?_
              refine d_do 18 [17, 10, 16, 0, 1, 2, 3, 4, 5, 6, 7, 8, 9, 11, 12, 13, 14, 15] [] [] (by kernel_rfl) (by kernel_rfl) (by kernel_rfl) (st_store (off := 8) (vs := [.slice a15_10_00 (List.length y15_10) c15_10_00]) (c' := #[.int .i64 y1_2, .int .i64 node, .int .i64 home, .int .i64 d.id, .int .i64 d.line, .int .i64 d.head, .int .i64 d.state, .bool (decide ((0 : Int) < (((List.length d.data) : Nat) : Int))), .slice a15_10_00 (List.length y15_10) c15_10_00]) (fun _ => by kernel_rfl) .here (by kernel_rfl) (by kernel_rfl) (by kernel_rfl)) ?_
              rintro _ _ ⟨rfl, rfl⟩
              refine ⟨stable_nil, ?_⟩
              refine draw_end (by kernel_rfl) ?_
              refine At.env [(6, .pointer (some ⟨b0_1, 0, none⟩)), (7, .pointer (some ⟨b1_10, 0, none⟩))] ⟨by kernel_rfl, by kernel_rfl, trivial⟩ ?_
              refine at_in_normal ?_
              refine at_then_normal ?_
              refine at_seq (x := C20 [1,1,1,0]) (y := C20 [1,1,1,1]) (by kernel_rfl) ?_
              refine at_region (id := 16) 2 (by kernel_rfl) (by kernel_rfl) ?_
              refine s_load 69 (.agg #[.int .i64 y1_2, .int .i64 node, .int .i64 home, .int .i64 d.id, .int .i64 d.line, .int .i64 d.head, .int .i64 d.state, .bool (decide ((0 : Int) < (((List.length d.data) : Nat) : Int))), .slice a15_10_00 (List.length y15_10) c15_10_00]) (by kernel_rfl) (by kernel_rfl) (loadN (off := 0) (vs := [.int .i64 y1_2, .int .i64 node, .int .i64 home, .int .i64 d.id, .int .i64 d.line, .int .i64 d.head, .int .i64 d.state, .bool (decide ((0 : Int) < (((List.length d.data) : Nat) : Int))), .slice a15_10_00 (List.length y15_10) c15_10_00]) 9 (fun _ => by kernel_rfl) (holds_own .here) rfl (by exact ⟨rfl, rfl, rfl, rfl, rfl, rfl, rfl, rfl, rfl, trivial⟩)) ?_
              refine s_do (by kernel_rfl) (by kernel_rfl) (st_store (off := 0) (vs := [.int .i64 y1_2, .int .i64 node, .int .i64 home, .int .i64 d.id, .int .i64 d.line, .int .i64 d.head, .int .i64 d.state, .bool (decide ((0 : Int) < (((List.length d.data) : Nat) : Int))), .slice a15_10_00 (List.length y15_10) c15_10_00]) (c' := #[.int .i64 y1_2, .int .i64 node, .int .i64 home, .int .i64 d.id, .int .i64 d.line, .int .i64 d.head, .int .i64 d.state, .bool (decide ((0 : Int) < (((List.length d.data) : Nat) : Int))), .slice a15_10_00 (List.length y15_10) c15_10_00]) (fun _ => by kernel_rfl) (.there (.there .here)) (by kernel_rfl) (by kernel_rfl) (by kernel_rfl)) ?_
              rintro _ _ ⟨rfl, rfl⟩
              refine ops_end ?_
              refine At.env [(6, .pointer (some ⟨b0_1, 0, none⟩))] ⟨by kernel_rfl, trivial⟩ ?_
              refine at_then_normal ?_
              refine at_ret (by kernel_rfl) ?_
              obtain rfl := someE H
              refine at_backR [.agg #[.int .i64 y1_2, .int .i64 node, .int .i64 home, .int .i64 d.id, .int .i64 d.line, .int .i64 d.head, .int .i64 d.state, .bool (decide ((0 : Int) < (((List.length d.data) : Nat) : Int))), .slice a15_10_00 (List.length y15_10) c15_10_00]] ((IntsA a15_10_00 c15_10_00 y15_10) :: Γ) (rs := [.cell 6 38]) (by kernel_rfl) (.cons (.cell (by kernel_rfl) (retN (off := 0) (vs := [.int .i64 y1_2, .int .i64 node, .int .i64 home, .int .i64 d.id, .int .i64 d.line, .int .i64 d.head, .int .i64 d.state, .bool (decide ((0 : Int) < (((List.length d.data) : Nat) : Int))), .slice a15_10_00 (List.length y15_10) c15_10_00]) 9 (fun _ => by kernel_rfl) (holds_own .here) rfl (by exact ⟨rfl, rfl, rfl, rfl, rfl, rfl, rfl, rfl, rfl, trivial⟩))) .nil) (fun w hw => (Sat.less (.take (.there (.there .here)) (.drop .here (.drop .here (.drop .here .refl)))) hw)) ?_
              exact ⟨a15_10_00, c15_10_00, rfl, rfl⟩
            · replace H := bifF H h6
              refine at_false (t := decide (d.step = (6 : Int))) (x := C20 [1,1,0,1,0,1,1,1,1,1,1,1,1,1,1,1,0]) (y := C20 [1,1,0,1,0,1,1,1,1,1,1,1,1,1,1,1,1]) (o := .tmp 52) (by kernel_rfl) (by kernel_rfl) (by kernel_rfl) h6 ?_
              refine at_seq (x := C20 [1,1,0,1,0,1,1,1,1,1,1,1,1,1,1,1,1,0]) (y := C20 [1,1,0,1,0,1,1,1,1,1,1,1,1,1,1,1,1,1]) (by kernel_rfl) ?_
              refine at_region (id := 3) 2 (by kernel_rfl) (by kernel_rfl) ?_
              refine s_pure 20 (.agg #[.int .i64 (0), .int .i64 (0), .int .i64 (0), .int .i64 (0), .int .i64 (0), .int .i64 (0), .int .i64 (0), .bool false, .slice none 0 0]) (by kernel_rfl) (by kernel_rfl) (fun _ => by kernel_rfl) ?_
              refine s_do (by kernel_rfl) (by kernel_rfl) (st_store (off := 0) (vs := [.int .i64 (0), .int .i64 (0), .int .i64 (0), .int .i64 (0), .int .i64 (0), .int .i64 (0), .int .i64 (0), .bool false, .slice none 0 0]) (c' := #[.int .i64 (0), .int .i64 (0), .int .i64 (0), .int .i64 (0), .int .i64 (0), .int .i64 (0), .int .i64 (0), .bool false, .slice none 0 0]) (fun _ => by kernel_rfl) (.there .here) (by kernel_rfl) (by kernel_rfl) (by kernel_rfl)) ?_
              rintro _ _ ⟨rfl, rfl⟩
              refine ops_end ?_
              refine At.env [(6, .pointer (some ⟨b0_1, 0, none⟩))] ⟨by kernel_rfl, trivial⟩ ?_
              refine at_then_normal ?_
              refine at_ret (by kernel_rfl) ?_
              refine at_in_ret ?_
              refine at_then_ret ?_
              obtain rfl := someE H
              refine at_backR [.agg #[.int .i64 (0), .int .i64 (0), .int .i64 (0), .int .i64 (0), .int .i64 (0), .int .i64 (0), .int .i64 (0), .bool false, .slice none 0 0]] ((IntsA none 0 ([] : List Int)) :: Γ) (rs := [.cell 6 38]) (by kernel_rfl) (.cons (.cell (by kernel_rfl) (retN (off := 0) (vs := [.int .i64 (0), .int .i64 (0), .int .i64 (0), .int .i64 (0), .int .i64 (0), .int .i64 (0), .int .i64 (0), .bool false, .slice none 0 0]) 9 (fun _ => by kernel_rfl) (holds_own .here) rfl (by exact ⟨rfl, rfl, rfl, rfl, rfl, rfl, rfl, rfl, rfl, trivial⟩))) .nil) (fun w hw => (Sat.less (.take .here (.drop .here (.drop .here (.drop .here .refl)))) (RowsA.none_mk (k := 1) (a := none) hw))) ?_
              exact ⟨none, 0, rfl, rfl⟩
def dfitsS (d : DealS) (p : PktS) : Option (Bool) :=
  (dkindS d.step).bind fun y1_2 => (pansS y1_2).bind fun y1_3 => (bif !(decide (y1_3 = (0 : Int))) then (bif decide (p.kind = y1_3) then (bif decide (p.id = d.id) then some (decide (p.line = d.line)) else some false) else some false) else some false)
noncomputable def C27 (p : List Nat) : Code := codeAt (bodyOf Try.f27) p
set_option maxRecDepth 100000 in
set_option maxHeartbeats 8000000 in
theorem DFitsF_tr {W0 : World} {Γ : List Asn} (da : Option Addr) (dcap : Nat) (d : DealS) (pa : Option Addr) (pcap : Nat) (p : PktS) (hrda : Reads W0 Γ da (ints d.data)) (hrpa : Reads W0 Γ pa (ints p.data)) (y : Bool) (H : dfitsS d p = some y) : Tr Try.prog 27 #[.agg #[.int .i64 d.kind, .int .i64 d.line, .int .i64 d.id, .int .i64 d.step, .int .i64 d.state, .int .i64 d.head, .slice da (List.length d.data) dcap, .int .i64 d.next, .int .i64 d.told], .agg #[.int .i64 p.kind, .int .i64 p.src, .int .i64 p.dst, .int .i64 p.id, .int .i64 p.line, .int .i64 p.ptr, .int .i64 p.state, .bool p.flag, .slice pa (List.length p.data) pcap]] W0 (Γ) (fun r Δ => r = .bool y ∧ Δ = Γ) := by
  unfold dfitsS at H
  refine Tr.enter (fn := Try.f27) (c := C27 []) (args := [.agg #[.int .i64 d.kind, .int .i64 d.line, .int .i64 d.id, .int .i64 d.step, .int .i64 d.state, .int .i64 d.head, .slice da (List.length d.data) dcap, .int .i64 d.next, .int .i64 d.told], .agg #[.int .i64 p.kind, .int .i64 p.src, .int .i64 p.dst, .int .i64 p.id, .int .i64 p.line, .int .i64 p.ptr, .int .i64 p.state, .bool p.flag, .slice pa (List.length p.data) pcap]]) 32 Try.func27 (by kernel_rfl) (by kernel_rfl) ?_
  refine At.env [(0, .agg #[.int .i64 d.kind, .int .i64 d.line, .int .i64 d.id, .int .i64 d.step, .int .i64 d.state, .int .i64 d.head, .slice da (List.length d.data) dcap, .int .i64 d.next, .int .i64 d.told]), (1, .agg #[.int .i64 p.kind, .int .i64 p.src, .int .i64 p.dst, .int .i64 p.id, .int .i64 p.line, .int .i64 p.ptr, .int .i64 p.state, .bool p.flag, .slice pa (List.length p.data) pcap])] ⟨by kernel_rfl, by kernel_rfl, trivial⟩ ?_
  refine at_seq (x := C27 [0]) (y := C27 [1]) (by kernel_rfl) ?_
  refine at_region (id := 0) 3 (by kernel_rfl) (by kernel_rfl) ?_
  refine s_step 2 (by kernel_rfl) (by kernel_rfl) (st_new (T := 36) (cells := #[.int .i64 d.kind, .int .i64 d.line, .int .i64 d.id, .int .i64 d.step, .int .i64 d.state, .int .i64 d.head, .slice da (List.length d.data) dcap, .int .i64 d.next, .int .i64 d.told]) (fun a => .pointer (some a)) (fun _ => by kernel_rfl)) ?_
  rintro _ _ ⟨b0_0, rfl, rfl⟩
  refine s_step 3 (by kernel_rfl) (by kernel_rfl) (st_new (T := 38) (cells := #[.int .i64 p.kind, .int .i64 p.src, .int .i64 p.dst, .int .i64 p.id, .int .i64 p.line, .int .i64 p.ptr, .int .i64 p.state, .bool p.flag, .slice pa (List.length p.data) pcap]) (fun a => .pointer (some a)) (fun _ => by kernel_rfl)) ?_
  rintro _ _ ⟨b0_1, rfl, rfl⟩
  refine s_pure 4 (.bool false) (by kernel_rfl) (by kernel_rfl) (fun _ => by kernel_rfl) ?_
  refine ops_end ?_
  refine At.env [(2, .pointer (some ⟨b0_0, 0, none⟩)), (3, .pointer (some ⟨b0_1, 0, none⟩))] ⟨by kernel_rfl, by kernel_rfl, trivial⟩ ?_
  refine at_then_normal ?_
  refine at_seq (x := C27 [1,0]) (y := C27 [1,1]) (by kernel_rfl) ?_
  refine at_region (id := 1) 5 (by kernel_rfl) (by kernel_rfl) ?_
  refine s_pure 6 (.pointer (some ⟨b0_0, 3, none⟩)) (by kernel_rfl) (by kernel_rfl) (fun _ => by kernel_rfl) ?_
  refine s_load 7 (.int .i64 d.step) (by kernel_rfl) (by kernel_rfl) (load1 (off := 3) (fun _ => by kernel_rfl) (holds_own (.there .here)) (by kernel_rfl)) ?_
  obtain ⟨y1_2, hy1_2, H⟩ := bindE H
  refine s_quiet 8 (.int .i64 y1_2) 43 #[.int .i64 d.step] (by kernel_rfl) (by kernel_rfl) (fun _ => by kernel_rfl) (DKindF_tr d.step y1_2 hy1_2) ?_
  obtain ⟨y1_3, hy1_3, H⟩ := bindE H
  refine s_quiet 9 (.int .i64 y1_3) 45 #[.int .i64 y1_2] (by kernel_rfl) (by kernel_rfl) (fun _ => by kernel_rfl) (PAnsF_tr y1_2 y1_3 hy1_3) ?_
  refine s_pure 5 (.int .i64 y1_3) (by kernel_rfl) (by kernel_rfl) (fun _ => by kernel_rfl) ?_
  refine ops_end ?_
  refine At.env [(2, .pointer (some ⟨b0_0, 0, none⟩)), (3, .pointer (some ⟨b0_1, 0, none⟩)), (5, .int .i64 y1_3)] ⟨by kernel_rfl, by kernel_rfl, by kernel_rfl, trivial⟩ ?_
  refine at_then_normal ?_
  refine at_seq (x := C27 [1,1,0]) (y := C27 [1,1,1]) (by kernel_rfl) ?_
  refine at_region (id := 2) 23 (by kernel_rfl) (by kernel_rfl) ?_
  refine s_pure 10 (.int .i64 y1_3) (by kernel_rfl) (by kernel_rfl) (fun _ => by kernel_rfl) ?_
  refine s_pure 11 (.bool (!(decide (y1_3 = (0 : Int))))) (by kernel_rfl) (by kernel_rfl) (fun _ => by kernel_rfl) ?_
  rcases Bool.eq_false_or_eq_true (!(decide (y1_3 = (0 : Int)))) with h1 | h1
  · replace H := bifT H h1
    refine s_pure 12 (.bool true) (by kernel_rfl) (by kernel_rfl) (run_eq (v := .bool (!(decide (y1_3 = (0 : Int))))) (fun _ => by kernel_rfl) (congrArg Value.bool h1)) ?_
    refine s_pure 13 (.pointer (some ⟨b0_1, 0, none⟩)) (by kernel_rfl) (by kernel_rfl) (fun _ => by kernel_rfl) ?_
    refine s_load 14 (.int .i64 p.kind) (by kernel_rfl) (by kernel_rfl) (load1 (off := 0) (fun _ => by kernel_rfl) (holds_own .here) (by kernel_rfl)) ?_
    refine s_pure 15 (.int .i64 y1_3) (by kernel_rfl) (by kernel_rfl) (fun _ => by kernel_rfl) ?_
    refine s_pure 16 (.bool (decide (p.kind = y1_3))) (by kernel_rfl) (by kernel_rfl) (fun _ => by kernel_rfl) ?_
    refine s_pure 17 (.bool (decide (p.kind = y1_3))) (by kernel_rfl) (by kernel_rfl) (fun _ => by kernel_rfl) ?_
    rcases Bool.eq_false_or_eq_true (decide (p.kind = y1_3)) with h2 | h2
    · replace H := bifT H h2
      refine s_pure 18 (.bool true) (by kernel_rfl) (by kernel_rfl) (run_eq (v := .bool (decide (p.kind = y1_3))) (fun _ => by kernel_rfl) (congrArg Value.bool h2)) ?_
      refine s_pure 19 (.pointer (some ⟨b0_1, 3, none⟩)) (by kernel_rfl) (by kernel_rfl) (fun _ => by kernel_rfl) ?_
      refine s_load 20 (.int .i64 p.id) (by kernel_rfl) (by kernel_rfl) (load1 (off := 3) (fun _ => by kernel_rfl) (holds_own .here) (by kernel_rfl)) ?_
      refine s_pure 21 (.pointer (some ⟨b0_0, 2, none⟩)) (by kernel_rfl) (by kernel_rfl) (fun _ => by kernel_rfl) ?_
      refine s_load 22 (.int .i64 d.id) (by kernel_rfl) (by kernel_rfl) (load1 (off := 2) (fun _ => by kernel_rfl) (holds_own (.there .here)) (by kernel_rfl)) ?_
      refine s_pure 23 (.bool (decide (p.id = d.id))) (by kernel_rfl) (by kernel_rfl) (fun _ => by kernel_rfl) ?_
      refine s_pure 24 (.bool (decide (p.id = d.id))) (by kernel_rfl) (by kernel_rfl) (fun _ => by kernel_rfl) ?_
      rcases Bool.eq_false_or_eq_true (decide (p.id = d.id)) with h3 | h3
      · replace H := bifT H h3
        refine s_pure 25 (.bool true) (by kernel_rfl) (by kernel_rfl) (run_eq (v := .bool (decide (p.id = d.id))) (fun _ => by kernel_rfl) (congrArg Value.bool h3)) ?_
        refine s_pure 26 (.pointer (some ⟨b0_1, 4, none⟩)) (by kernel_rfl) (by kernel_rfl) (fun _ => by kernel_rfl) ?_
        refine s_load 27 (.int .i64 p.line) (by kernel_rfl) (by kernel_rfl) (load1 (off := 4) (fun _ => by kernel_rfl) (holds_own .here) (by kernel_rfl)) ?_
        refine s_pure 28 (.pointer (some ⟨b0_0, 1, none⟩)) (by kernel_rfl) (by kernel_rfl) (fun _ => by kernel_rfl) ?_
        refine s_load 29 (.int .i64 d.line) (by kernel_rfl) (by kernel_rfl) (load1 (off := 1) (fun _ => by kernel_rfl) (holds_own (.there .here)) (by kernel_rfl)) ?_
        refine s_pure 30 (.bool (decide (p.line = d.line))) (by kernel_rfl) (by kernel_rfl) (fun _ => by kernel_rfl) ?_
        refine s_pure 31 (.bool (decide (p.line = d.line))) (by kernel_rfl) (by kernel_rfl) (fun _ => by kernel_rfl) ?_
        refine s_pure 4 (.bool (decide (p.line = d.line))) (by kernel_rfl) (by kernel_rfl) (fun _ => by kernel_rfl) ?_
        refine ops_end ?_
        refine At.env [(4, .bool (decide (p.line = d.line)))] ⟨by kernel_rfl, trivial⟩ ?_
        refine at_then_normal ?_
        refine at_ret (by kernel_rfl) ?_
        obtain rfl := someE H
        refine at_backR [.bool (decide (p.line = d.line))] (Γ) (rs := [.tmp 4]) (by kernel_rfl) (.cons (.tmp (by kernel_rfl)) .nil) (fun w hw => (Sat.less (.drop .here (.drop .here .refl)) hw)) ?_
        exact ⟨rfl, rfl⟩
      · replace H := bifF H h3
        refine s_pure 25 (.bool false) (by kernel_rfl) (by kernel_rfl) (run_eq (v := .bool (decide (p.id = d.id))) (fun _ => by kernel_rfl) (congrArg Value.bool h3)) ?_
        refine s_pass 26 (by kernel_rfl) (by kernel_rfl) ?_
        refine s_pass 27 (by kernel_rfl) (by kernel_rfl) ?_
        refine s_pass 28 (by kernel_rfl) (by kernel_rfl) ?_
        refine s_pass 29 (by kernel_rfl) (by kernel_rfl) ?_
        refine s_pass 30 (by kernel_rfl) (by kernel_rfl) ?_
        refine s_pure 31 (.bool false) (by kernel_rfl) (by kernel_rfl) (fun _ => by kernel_rfl) ?_
        refine s_pure 4 (.bool false) (by kernel_rfl) (by kernel_rfl) (fun _ => by kernel_rfl) ?_
        refine ops_end ?_
        refine At.env [(4, .bool false)] ⟨by kernel_rfl, trivial⟩ ?_
        refine at_then_normal ?_
        refine at_ret (by kernel_rfl) ?_
        obtain rfl := someE H
        refine at_backR [.bool false] (Γ) (rs := [.tmp 4]) (by kernel_rfl) (.cons (.tmp (by kernel_rfl)) .nil) (fun w hw => (Sat.less (.drop .here (.drop .here .refl)) hw)) ?_
        exact ⟨rfl, rfl⟩
    · replace H := bifF H h2
      refine s_pure 18 (.bool false) (by kernel_rfl) (by kernel_rfl) (run_eq (v := .bool (decide (p.kind = y1_3))) (fun _ => by kernel_rfl) (congrArg Value.bool h2)) ?_
      refine s_pass 19 (by kernel_rfl) (by kernel_rfl) ?_
      refine s_pass 20 (by kernel_rfl) (by kernel_rfl) ?_
      refine s_pass 21 (by kernel_rfl) (by kernel_rfl) ?_
      refine s_pass 22 (by kernel_rfl) (by kernel_rfl) ?_
      refine s_pass 23 (by kernel_rfl) (by kernel_rfl) ?_
      refine s_pure 24 (.bool false) (by kernel_rfl) (by kernel_rfl) (fun _ => by kernel_rfl) ?_
      refine s_pure 25 (.bool false) (by kernel_rfl) (by kernel_rfl) (fun _ => by kernel_rfl) ?_
      refine s_pass 26 (by kernel_rfl) (by kernel_rfl) ?_
      refine s_pass 27 (by kernel_rfl) (by kernel_rfl) ?_
      refine s_pass 28 (by kernel_rfl) (by kernel_rfl) ?_
      refine s_pass 29 (by kernel_rfl) (by kernel_rfl) ?_
      refine s_pass 30 (by kernel_rfl) (by kernel_rfl) ?_
      refine s_pure 31 (.bool false) (by kernel_rfl) (by kernel_rfl) (fun _ => by kernel_rfl) ?_
      refine s_pure 4 (.bool false) (by kernel_rfl) (by kernel_rfl) (fun _ => by kernel_rfl) ?_
      refine ops_end ?_
      refine At.env [(4, .bool false)] ⟨by kernel_rfl, trivial⟩ ?_
      refine at_then_normal ?_
      refine at_ret (by kernel_rfl) ?_
      obtain rfl := someE H
      refine at_backR [.bool false] (Γ) (rs := [.tmp 4]) (by kernel_rfl) (.cons (.tmp (by kernel_rfl)) .nil) (fun w hw => (Sat.less (.drop .here (.drop .here .refl)) hw)) ?_
      exact ⟨rfl, rfl⟩
  · replace H := bifF H h1
    refine s_pure 12 (.bool false) (by kernel_rfl) (by kernel_rfl) (run_eq (v := .bool (!(decide (y1_3 = (0 : Int))))) (fun _ => by kernel_rfl) (congrArg Value.bool h1)) ?_
    refine s_pass 13 (by kernel_rfl) (by kernel_rfl) ?_
    refine s_pass 14 (by kernel_rfl) (by kernel_rfl) ?_
    refine s_pass 15 (by kernel_rfl) (by kernel_rfl) ?_
    refine s_pass 16 (by kernel_rfl) (by kernel_rfl) ?_
    refine s_pure 17 (.bool false) (by kernel_rfl) (by kernel_rfl) (fun _ => by kernel_rfl) ?_
    refine s_pure 18 (.bool false) (by kernel_rfl) (by kernel_rfl) (fun _ => by kernel_rfl) ?_
    refine s_pass 19 (by kernel_rfl) (by kernel_rfl) ?_
    refine s_pass 20 (by kernel_rfl) (by kernel_rfl) ?_
    refine s_pass 21 (by kernel_rfl) (by kernel_rfl) ?_
    refine s_pass 22 (by kernel_rfl) (by kernel_rfl) ?_
    refine s_pass 23 (by kernel_rfl) (by kernel_rfl) ?_
    refine s_pure 24 (.bool false) (by kernel_rfl) (by kernel_rfl) (fun _ => by kernel_rfl) ?_
    refine s_pure 25 (.bool false) (by kernel_rfl) (by kernel_rfl) (fun _ => by kernel_rfl) ?_
    refine s_pass 26 (by kernel_rfl) (by kernel_rfl) ?_
    refine s_pass 27 (by kernel_rfl) (by kernel_rfl) ?_
    refine s_pass 28 (by kernel_rfl) (by kernel_rfl) ?_
    refine s_pass 29 (by kernel_rfl) (by kernel_rfl) ?_
    refine s_pass 30 (by kernel_rfl) (by kernel_rfl) ?_
    refine s_pure 31 (.bool false) (by kernel_rfl) (by kernel_rfl) (fun _ => by kernel_rfl) ?_
    refine s_pure 4 (.bool false) (by kernel_rfl) (by kernel_rfl) (fun _ => by kernel_rfl) ?_
    refine ops_end ?_
    refine At.env [(4, .bool false)] ⟨by kernel_rfl, trivial⟩ ?_
    refine at_then_normal ?_
    refine at_ret (by kernel_rfl) ?_
    obtain rfl := someE H
    refine at_backR [.bool false] (Γ) (rs := [.tmp 4]) (by kernel_rfl) (.cons (.tmp (by kernel_rfl)) .nil) (fun w hw => (Sat.less (.drop .here (.drop .here .refl)) hw)) ?_
    exact ⟨rfl, rfl⟩
def rsameS_k1 (e1_72 : Int) : Option (Bool) :=
  some true
def rsameS_l1 (p : PktS) (q : PktS) (k1 : Int → Option (Bool)) : Nat → Int → Option (Bool)
  | 0 => fun _ => none
  | m + 1 => fun v1_72 => (bif decide (v1_72 < (((List.length p.data) : Nat) : Int)) then chk (0 ≤ v1_72 ∧ v1_72 < ((p.data.length : Nat) : Int)) (chk (0 ≤ v1_72 ∧ v1_72 < ((q.data.length : Nat) : Int)) ((bif !(decide ((nth p.data v1_72) = (nth q.data v1_72))) then some false else chk (inR (v1_72 + (1 : Int))) ((rsameS_l1 p q k1 m) (v1_72 + (1 : Int)))))) else k1 v1_72)
def rsameS_j0 (p : PktS) (q : PktS) (e0_68 : Bool) : Option (Bool) :=
  (bif e0_68 then some false else rsameS_l1 p q (rsameS_k1 ) 64 0)
def rsameS (p : PktS) (q : PktS) : Option (Bool) :=
  (bif !(decide (p.kind = q.kind)) then rsameS_j0 p q true else (bif !(decide (p.src = q.src)) then rsameS_j0 p q true else (bif !(decide (p.dst = q.dst)) then rsameS_j0 p q true else (bif !(decide (p.id = q.id)) then rsameS_j0 p q true else (bif !(decide (p.line = q.line)) then rsameS_j0 p q true else (bif !(decide (p.ptr = q.ptr)) then rsameS_j0 p q true else (bif !(decide (p.state = q.state)) then rsameS_j0 p q true else (bif !(p.flag == q.flag) then rsameS_j0 p q true else rsameS_j0 p q (!(decide ((((List.length p.data) : Nat) : Int) = (((List.length q.data) : Nat) : Int))))))))))))
noncomputable def C21 (p : List Nat) : Code := codeAt (bodyOf Try.f21) p
set_option maxRecDepth 100000 in
set_option maxHeartbeats 8000000 in
theorem RSameF_tr {W0 : World} {Γ : List Asn} (pa : Option Addr) (pcap : Nat) (p : PktS) (qa : Option Addr) (qcap : Nat) (q : PktS) (hrpa : Reads W0 Γ pa (ints p.data)) (hrqa : Reads W0 Γ qa (ints q.data)) (y : Bool) (H : rsameS p q = some y) : Tr Try.prog 21 #[.agg #[.int .i64 p.kind, .int .i64 p.src, .int .i64 p.dst, .int .i64 p.id, .int .i64 p.line, .int .i64 p.ptr, .int .i64 p.state, .bool p.flag, .slice pa (List.length p.data) pcap], .agg #[.int .i64 q.kind, .int .i64 q.src, .int .i64 q.dst, .int .i64 q.id, .int .i64 q.line, .int .i64 q.ptr, .int .i64 q.state, .bool q.flag, .slice qa (List.length q.data) qcap]] W0 (Γ) (fun r Δ => r = .bool y ∧ Δ = Γ) := by
  unfold rsameS at H
  refine Tr.enter (fn := Try.f21) (c := C21 []) (args := [.agg #[.int .i64 p.kind, .int .i64 p.src, .int .i64 p.dst, .int .i64 p.id, .int .i64 p.line, .int .i64 p.ptr, .int .i64 p.state, .bool p.flag, .slice pa (List.length p.data) pcap], .agg #[.int .i64 q.kind, .int .i64 q.src, .int .i64 q.dst, .int .i64 q.id, .int .i64 q.line, .int .i64 q.ptr, .int .i64 q.state, .bool q.flag, .slice qa (List.length q.data) qcap]]) 87 Try.func21 (by kernel_rfl) (by kernel_rfl) ?_
  refine At.env [(0, .agg #[.int .i64 p.kind, .int .i64 p.src, .int .i64 p.dst, .int .i64 p.id, .int .i64 p.line, .int .i64 p.ptr, .int .i64 p.state, .bool p.flag, .slice pa (List.length p.data) pcap]), (1, .agg #[.int .i64 q.kind, .int .i64 q.src, .int .i64 q.dst, .int .i64 q.id, .int .i64 q.line, .int .i64 q.ptr, .int .i64 q.state, .bool q.flag, .slice qa (List.length q.data) qcap])] ⟨by kernel_rfl, by kernel_rfl, trivial⟩ ?_
  refine at_seq (x := C21 [0]) (y := C21 [1]) (by kernel_rfl) ?_
  refine at_region (id := 0) 3 (by kernel_rfl) (by kernel_rfl) ?_
  refine s_step 2 (by kernel_rfl) (by kernel_rfl) (st_new (T := 38) (cells := #[.int .i64 p.kind, .int .i64 p.src, .int .i64 p.dst, .int .i64 p.id, .int .i64 p.line, .int .i64 p.ptr, .int .i64 p.state, .bool p.flag, .slice pa (List.length p.data) pcap]) (fun a => .pointer (some a)) (fun _ => by kernel_rfl)) ?_
  rintro _ _ ⟨b0_0, rfl, rfl⟩
  refine s_step 3 (by kernel_rfl) (by kernel_rfl) (st_new (T := 38) (cells := #[.int .i64 q.kind, .int .i64 q.src, .int .i64 q.dst, .int .i64 q.id, .int .i64 q.line, .int .i64 q.ptr, .int .i64 q.state, .bool q.flag, .slice qa (List.length q.data) qcap]) (fun a => .pointer (some a)) (fun _ => by kernel_rfl)) ?_
  rintro _ _ ⟨b0_1, rfl, rfl⟩
  refine s_pure 4 (.bool false) (by kernel_rfl) (by kernel_rfl) (fun _ => by kernel_rfl) ?_
  refine ops_end ?_
  refine At.env [(2, .pointer (some ⟨b0_0, 0, none⟩)), (3, .pointer (some ⟨b0_1, 0, none⟩))] ⟨by kernel_rfl, by kernel_rfl, trivial⟩ ?_
  refine at_then_normal ?_
  refine at_seq (x := C21 [1,0]) (y := C21 [1,1]) (by kernel_rfl) ?_
  refine at_seq_join (x := C21 [1,0,0]) (y := C21 [1,0,1]) (fun ff ΔΔ => ∃ (e0_68 : Bool), rsameS_j0 p q e0_68 = some y ∧ ff = [(2, .pointer (some ⟨b0_0, 0, none⟩)), (3, .pointer (some ⟨b0_1, 0, none⟩)), (68, .bool e0_68)] ∧ (Asn.own b0_1 (.cells #[.int .i64 q.kind, .int .i64 q.src, .int .i64 q.dst, .int .i64 q.id, .int .i64 q.line, .int .i64 q.ptr, .int .i64 q.state, .bool q.flag, .slice qa (List.length q.data) qcap] 38 (0, 0))) :: (Asn.own b0_0 (.cells #[.int .i64 p.kind, .int .i64 p.src, .int .i64 p.dst, .int .i64 p.id, .int .i64 p.line, .int .i64 p.ptr, .int .i64 p.state, .bool p.flag, .slice pa (List.length p.data) pcap] 38 (0, 0))) :: Γ = ΔΔ) (by kernel_rfl) ?_ ?_
  · rintro _ _ ⟨e0_68, H, rfl, rfl⟩
    rw [rsameS_j0] at H
    rcases Bool.eq_false_or_eq_true (e0_68) with h1 | h1
    · replace H := bifT H h1
      refine at_true (t := e0_68) (x := C21 [1,0,1,0]) (y := C21 [1,0,1,1]) (o := .tmp 68) (by kernel_rfl) (by kernel_rfl) (by kernel_rfl) h1 ?_
      refine at_seq (x := C21 [1,0,1,0,0]) (y := C21 [1,0,1,0,1]) (by kernel_rfl) ?_
      refine at_region (id := 2) 1 (by kernel_rfl) (by kernel_rfl) ?_
      refine s_pure 4 (.bool false) (by kernel_rfl) (by kernel_rfl) (fun _ => by kernel_rfl) ?_
      refine ops_end ?_
      refine At.env [(4, .bool false)] ⟨by kernel_rfl, trivial⟩ ?_
      refine at_then_normal ?_
      refine at_ret (by kernel_rfl) ?_
      refine at_then_ret ?_
      obtain rfl := someE H
      refine at_backR [.bool false] (Γ) (rs := [.tmp 4]) (by kernel_rfl) (.cons (.tmp (by kernel_rfl)) .nil) (fun w hw => (Sat.less (.drop .here (.drop .here .refl)) hw)) ?_
      exact ⟨rfl, rfl⟩
    · replace H := bifF H h1
      refine at_false (t := e0_68) (x := C21 [1,0,1,0]) (y := C21 [1,0,1,1]) (o := .tmp 68) (by kernel_rfl) (by kernel_rfl) (by kernel_rfl) h1 ?_
      refine at_skip (by kernel_rfl) ?_
      refine at_then_normal ?_
      refine at_seq (x := C21 [1,1,0]) (y := C21 [1,1,1]) (by kernel_rfl) ?_
      refine at_seq (x := C21 [1,1,0,0]) (y := C21 [1,1,0,1]) (by kernel_rfl) ?_
      refine at_region (id := 3) 4 (by kernel_rfl) (by kernel_rfl) ?_
      refine s_pure 69 (.pointer (some ⟨b0_0, 8, none⟩)) (by kernel_rfl) (by kernel_rfl) (fun _ => by kernel_rfl) ?_
      refine s_load 70 (.slice pa (List.length p.data) pcap) (by kernel_rfl) (by kernel_rfl) (load1 (off := 8) (fun _ => by kernel_rfl) (holds_own (.there .here)) (by kernel_rfl)) ?_
      refine s_pure 71 (.int .i64 (((List.length p.data) : Nat) : Int)) (by kernel_rfl) (by kernel_rfl) (fun _ => by kernel_rfl) ?_
      refine s_pure 72 (.int .i64 (0)) (by kernel_rfl) (by kernel_rfl) (fun _ => by kernel_rfl) ?_
      refine ops_end ?_
      refine At.env [(2, .pointer (some ⟨b0_0, 0, none⟩)), (3, .pointer (some ⟨b0_1, 0, none⟩)), (71, .int .i64 (((List.length p.data) : Nat) : Int)), (72, .int .i64 (0))] ⟨by kernel_rfl, by kernel_rfl, by kernel_rfl, by kernel_rfl, trivial⟩ ?_
      refine at_then_normal ?_
      refine at_block (i := 0) (x := C21 [1,1,0,1,0]) (by kernel_rfl) ?_
      refine At.conv (Γ' := (Asn.own b0_1 (.cells #[.int .i64 q.kind, .int .i64 q.src, .int .i64 q.dst, .int .i64 q.id, .int .i64 q.line, .int .i64 q.ptr, .int .i64 q.state, .bool q.flag, .slice qa (List.length q.data) qcap] 38 (0, 0))) :: (Asn.own b0_0 (.cells #[.int .i64 p.kind, .int .i64 p.src, .int .i64 p.dst, .int .i64 p.id, .int .i64 p.line, .int .i64 p.ptr, .int .i64 p.state, .bool p.flag, .slice pa (List.length p.data) pcap] 38 (0, 0))) :: Γ) (fun w hw => (Sat.less (.take .here (.take .here .refl)) hw)) ?_
      refine at_loopR (x := C21 [1,1,0,1,0,0]) (fun mm ff ΔΔ => ∃ (fuel : Nat) (v1_72 : Int), rsameS_l1 p q (rsameS_k1 ) fuel v1_72 = some y ∧ fuel = mm ∧ ff = [(2, .pointer (some ⟨b0_0, 0, none⟩)), (3, .pointer (some ⟨b0_1, 0, none⟩)), (71, .int .i64 (((List.length p.data) : Nat) : Int)), (72, .int .i64 v1_72)] ∧ (Asn.own b0_1 (.cells #[.int .i64 q.kind, .int .i64 q.src, .int .i64 q.dst, .int .i64 q.id, .int .i64 q.line, .int .i64 q.ptr, .int .i64 q.state, .bool q.flag, .slice qa (List.length q.data) qcap] 38 (0, 0))) :: (Asn.own b0_0 (.cells #[.int .i64 p.kind, .int .i64 p.src, .int .i64 p.dst, .int .i64 p.id, .int .i64 p.line, .int .i64 p.ptr, .int .i64 p.state, .bool p.flag, .slice pa (List.length p.data) pcap] 38 (0, 0))) :: Γ = ΔΔ) (64) (by kernel_rfl) [(2, .pointer (some ⟨b0_0, 0, none⟩)), (3, .pointer (some ⟨b0_1, 0, none⟩)), (71, .int .i64 (((List.length p.data) : Nat) : Int)), (72, .int .i64 0)] ⟨by kernel_rfl, by kernel_rfl, by kernel_rfl, by kernel_rfl, trivial⟩ ⟨64, 0, H, rfl, rfl, rfl⟩ ?_
      rintro _ _ _ ⟨fuel1, v1_72, H, rfl, rfl, rfl⟩
      rcases fuel1 with _ | fuel1
      · exact (noneE H).elim
      rw [rsameS_l1] at H
      refine at_seq (x := C21 [1,1,0,1,0,0,0]) (y := C21 [1,1,0,1,0,0,1]) (by kernel_rfl) ?_
      refine at_region (id := 4) 1 (by kernel_rfl) (by kernel_rfl) ?_
      refine s_pure 73 (.bool (decide (v1_72 < (((List.length p.data) : Nat) : Int)))) (by kernel_rfl) (by kernel_rfl) (fun _ => by kernel_rfl) ?_
      refine ops_end ?_
      refine At.env [(2, .pointer (some ⟨b0_0, 0, none⟩)), (3, .pointer (some ⟨b0_1, 0, none⟩)), (71, .int .i64 (((List.length p.data) : Nat) : Int)), (72, .int .i64 v1_72), (73, .bool (decide (v1_72 < (((List.length p.data) : Nat) : Int))))] ⟨by kernel_rfl, by kernel_rfl, by kernel_rfl, by kernel_rfl, by kernel_rfl, trivial⟩ ?_
      refine at_then_normal ?_
      refine at_seq (x := C21 [1,1,0,1,0,0,1,0]) (y := C21 [1,1,0,1,0,0,1,1]) (by kernel_rfl) ?_
      rcases Bool.eq_false_or_eq_true (decide (v1_72 < (((List.length p.data) : Nat) : Int))) with h2 | h2
      · replace H := bifT H h2
        refine at_true (t := decide (v1_72 < (((List.length p.data) : Nat) : Int))) (x := C21 [1,1,0,1,0,0,1,0,0]) (y := C21 [1,1,0,1,0,0,1,0,1]) (o := .tmp 73) (by kernel_rfl) (by kernel_rfl) (by kernel_rfl) h2 ?_
        refine at_skip (by kernel_rfl) ?_
        refine at_then_normal ?_
        refine at_seq (x := C21 [1,1,0,1,0,0,1,1,0]) (y := C21 [1,1,0,1,0,0,1,1,1]) (by kernel_rfl) ?_
        refine at_block (i := 1) (x := C21 [1,1,0,1,0,0,1,1,0,0]) (by kernel_rfl) ?_
        refine at_seq (x := C21 [1,1,0,1,0,0,1,1,0,0,0]) (y := C21 [1,1,0,1,0,0,1,1,0,0,1]) (by kernel_rfl) ?_
        refine at_region (id := 5) 2 (by kernel_rfl) (by kernel_rfl) ?_
        refine s_pure 74 (.int .i64 v1_72) (by kernel_rfl) (by kernel_rfl) (fun _ => by kernel_rfl) ?_
        refine s_pure 5 (.int .i64 v1_72) (by kernel_rfl) (by kernel_rfl) (fun _ => by kernel_rfl) ?_
        refine ops_end ?_
        refine At.env [(2, .pointer (some ⟨b0_0, 0, none⟩)), (3, .pointer (some ⟨b0_1, 0, none⟩)), (5, .int .i64 v1_72), (71, .int .i64 (((List.length p.data) : Nat) : Int)), (72, .int .i64 v1_72)] ⟨by kernel_rfl, by kernel_rfl, by kernel_rfl, by kernel_rfl, by kernel_rfl, trivial⟩ ?_
        refine at_then_normal ?_
        refine at_seq (x := C21 [1,1,0,1,0,0,1,1,0,0,1,0]) (y := C21 [1,1,0,1,0,0,1,1,0,0,1,1]) (by kernel_rfl) ?_
        refine at_region_draw (id := 6) (by kernel_rfl) (by kernel_rfl) ?_
        refine d_pure 0 75 (.pointer (some ⟨b0_0, 8, none⟩)) (by kernel_rfl) (by kernel_rfl) (by kernel_rfl) (fun _ => by kernel_rfl) ?_
        refine d_load 1 76 (.slice pa (List.length p.data) pcap) (by kernel_rfl) (by kernel_rfl) (by kernel_rfl) (load1 (off := 8) (fun _ => by kernel_rfl) (holds_own (.there .here)) (by kernel_rfl)) ?_
        refine d_pure 2 77 (.int .i64 v1_72) (by kernel_rfl) (by kernel_rfl) (by kernel_rfl) (fun _ => by kernel_rfl) ?_
        obtain ⟨hc6_3_0, H⟩ := chkE H
        refine reads_at_draw (Reads.conv (fun w hw => hw.less (.drop .here (.drop .here .refl))) hrpa) (by have := hc6_3_0; omega) ?_
        intro bb1 oo1 ha1
        refine d_pure 3 78 (.pointer (some ⟨bb1, oo1 + ((v1_72).toNat * 1 + 0), none⟩)) (by kernel_rfl) (by kernel_rfl) (by kernel_rfl) (index_at (t := 22) (sz := 1) (E := 3) (a := pa) (m := (List.length p.data)) (c := pcap) (b := bb1) (off := oo1) (i := (v1_72).toNat) (tinfo 3) (fun _ => by kernel_rfl) (by kernel_rfl) (by kernel_rfl) (by kernel_rfl) ha1 (idx_cast hc6_3_0) (idx_nat hc6_3_0) rfl) ?_
        refine d_load 4 79 (.int .i64 (nth p.data v1_72)) (by kernel_rfl) (by kernel_rfl) (by kernel_rfl) (load1_at (off := oo1 + ((v1_72).toNat * 1 + 0)) (v := .int .i64 (nth p.data v1_72)) (fun _ => by kernel_rfl) rfl (reads_cell (k := 1) (Reads.conv (fun w hw => hw.less (.drop .here (.drop .here .refl))) hrpa) (ints_rows _) ha1 (nth_row hc6_3_0) (show [(.int .i64 (nth p.data v1_72) : Value)][0]? = some _ from rfl))) ?_
        refine d_pure 5 80 (.pointer (some ⟨b0_1, 8, none⟩)) (by kernel_rfl) (by kernel_rfl) (by kernel_rfl) (fun _ => by kernel_rfl) ?_
        refine d_load 6 81 (.slice qa (List.length q.data) qcap) (by kernel_rfl) (by kernel_rfl) (by kernel_rfl) (load1 (off := 8) (fun _ => by kernel_rfl) (holds_own .here) (by kernel_rfl)) ?_
        refine d_pure 7 82 (.int .i64 v1_72) (by kernel_rfl) (by kernel_rfl) (by kernel_rfl) (fun _ => by kernel_rfl) ?_
        obtain ⟨hc6_8_0, H⟩ := chkE H
        refine reads_at_draw (Reads.conv (fun w hw => hw.less (.drop .here (.drop .here .refl))) hrqa) (by have := hc6_8_0; omega) ?_
        intro bb2 oo2 ha2
        refine d_pure 8 83 (.pointer (some ⟨bb2, oo2 + ((v1_72).toNat * 1 + 0), none⟩)) (by kernel_rfl) (by kernel_rfl) (by kernel_rfl) (index_at (t := 22) (sz := 1) (E := 3) (a := qa) (m := (List.length q.data)) (c := qcap) (b := bb2) (off := oo2) (i := (v1_72).toNat) (tinfo 3) (fun _ => by kernel_rfl) (by kernel_rfl) (by kernel_rfl) (by kernel_rfl) ha2 (idx_cast hc6_8_0) (idx_nat hc6_8_0) rfl) ?_
        refine d_load 9 84 (.int .i64 (nth q.data v1_72)) (by kernel_rfl) (by kernel_rfl) (by kernel_rfl) (load1_at (off := oo2 + ((v1_72).toNat * 1 + 0)) (v := .int .i64 (nth q.data v1_72)) (fun _ => by kernel_rfl) rfl (reads_cell (k := 1) (Reads.conv (fun w hw => hw.less (.drop .here (.drop .here .refl))) hrqa) (ints_rows _) ha2 (nth_row hc6_8_0) (show [(.int .i64 (nth q.data v1_72) : Value)][0]? = some _ from rfl))) ?_
        refine d_pure 10 85 (.bool (!(decide ((nth p.data v1_72) = (nth q.data v1_72))))) (by kernel_rfl) (by kernel_rfl) (by kernel_rfl) (fun _ => by kernel_rfl) ?_
        refine draw_end (by kernel_rfl) ?_
        refine At.env [(2, .pointer (some ⟨b0_0, 0, none⟩)), (3, .pointer (some ⟨b0_1, 0, none⟩)), (71, .int .i64 (((List.length p.data) : Nat) : Int)), (72, .int .i64 v1_72), (75, .pointer (some ⟨b0_0, 8, none⟩)), (76, .slice pa (List.length p.data) pcap), (77, .int .i64 v1_72), (78, .pointer (some ⟨bb1, oo1 + ((v1_72).toNat * 1 + 0), none⟩)), (79, .int .i64 (nth p.data v1_72)), (80, .pointer (some ⟨b0_1, 8, none⟩)), (81, .slice qa (List.length q.data) qcap), (82, .int .i64 v1_72), (83, .pointer (some ⟨bb2, oo2 + ((v1_72).toNat * 1 + 0), none⟩)), (84, .int .i64 (nth q.data v1_72)), (85, .bool (!(decide ((nth p.data v1_72) = (nth q.data v1_72)))))] ⟨by kernel_rfl, by kernel_rfl, by kernel_rfl, by kernel_rfl, by kernel_rfl, by kernel_rfl, by kernel_rfl, by kernel_rfl, by kernel_rfl, by kernel_rfl, by kernel_rfl, by kernel_rfl, by kernel_rfl, by kernel_rfl, by kernel_rfl, trivial⟩ ?_
        refine at_then_normal ?_
        rcases Bool.eq_false_or_eq_true (!(decide ((nth p.data v1_72) = (nth q.data v1_72)))) with h3 | h3
        · replace H := bifT H h3
          refine at_true (t := !(decide ((nth p.data v1_72) = (nth q.data v1_72)))) (x := C21 [1,1,0,1,0,0,1,1,0,0,1,1,0]) (y := C21 [1,1,0,1,0,0,1,1,0,0,1,1,1]) (o := .tmp 85) (by kernel_rfl) (by kernel_rfl) (by kernel_rfl) h3 ?_
          refine at_seq (x := C21 [1,1,0,1,0,0,1,1,0,0,1,1,0,0]) (y := C21 [1,1,0,1,0,0,1,1,0,0,1,1,0,1]) (by kernel_rfl) ?_
          refine at_region (id := 7) 1 (by kernel_rfl) (by kernel_rfl) ?_
          refine s_pure 4 (.bool false) (by kernel_rfl) (by kernel_rfl) (fun _ => by kernel_rfl) ?_
          refine ops_end ?_
          refine At.env [(4, .bool false)] ⟨by kernel_rfl, trivial⟩ ?_
          refine at_then_normal ?_
          refine at_ret (by kernel_rfl) ?_
          refine at_in_ret ?_
          refine at_then_ret ?_
          refine at_then_ret ?_
          refine at_in_ret ?_
          refine at_then_ret ?_
          obtain rfl := someE H
          refine at_backR [.bool false] (Γ) (rs := [.tmp 4]) (by kernel_rfl) (.cons (.tmp (by kernel_rfl)) .nil) (fun w hw => (Sat.less (.drop .here (.drop .here .refl)) hw)) ?_
          exact ⟨rfl, rfl⟩
        · replace H := bifF H h3
          refine at_false (t := !(decide ((nth p.data v1_72) = (nth q.data v1_72)))) (x := C21 [1,1,0,1,0,0,1,1,0,0,1,1,0]) (y := C21 [1,1,0,1,0,0,1,1,0,0,1,1,1]) (o := .tmp 85) (by kernel_rfl) (by kernel_rfl) (by kernel_rfl) h3 ?_
          refine at_skip (by kernel_rfl) ?_
          refine at_in_normal ?_
          refine at_then_normal ?_
          refine at_region (id := 8) 2 (by kernel_rfl) (by kernel_rfl) ?_
          obtain ⟨hc8_0_0, H⟩ := chkE H
          refine s_pure 86 (.int .i64 (v1_72 + (1 : Int))) (by kernel_rfl) (by kernel_rfl) (run_eq (v := .int .i64 (IntKind.i64.wrap (v1_72 + (1 : Int)))) (fun _ => by kernel_rfl) (by rw [inR.wrap hc8_0_0])) ?_
          refine s_pure 72 (.int .i64 (v1_72 + (1 : Int))) (by kernel_rfl) (by kernel_rfl) (fun _ => by kernel_rfl) ?_
          refine ops_end ?_
          refine At.env [(2, .pointer (some ⟨b0_0, 0, none⟩)), (3, .pointer (some ⟨b0_1, 0, none⟩)), (71, .int .i64 (((List.length p.data) : Nat) : Int)), (72, .int .i64 (v1_72 + (1 : Int))), (75, .pointer (some ⟨b0_0, 8, none⟩)), (76, .slice pa (List.length p.data) pcap), (77, .int .i64 v1_72), (78, .pointer (some ⟨bb1, oo1 + ((v1_72).toNat * 1 + 0), none⟩)), (79, .int .i64 (nth p.data v1_72)), (80, .pointer (some ⟨b0_1, 8, none⟩)), (81, .slice qa (List.length q.data) qcap), (82, .int .i64 v1_72), (83, .pointer (some ⟨bb2, oo2 + ((v1_72).toNat * 1 + 0), none⟩)), (84, .int .i64 (nth q.data v1_72))] ⟨by kernel_rfl, by kernel_rfl, by kernel_rfl, by kernel_rfl, by kernel_rfl, by kernel_rfl, by kernel_rfl, by kernel_rfl, by kernel_rfl, by kernel_rfl, by kernel_rfl, by kernel_rfl, by kernel_rfl, by kernel_rfl, trivial⟩ ?_
          refine at_round_normal ?_
          exact at_roundR fuel1 [(2, .pointer (some ⟨b0_0, 0, none⟩)), (3, .pointer (some ⟨b0_1, 0, none⟩)), (71, .int .i64 (((List.length p.data) : Nat) : Int)), (72, .int .i64 (v1_72 + (1 : Int)))] ((Asn.own b0_1 (.cells #[.int .i64 q.kind, .int .i64 q.src, .int .i64 q.dst, .int .i64 q.id, .int .i64 q.line, .int .i64 q.ptr, .int .i64 q.state, .bool q.flag, .slice qa (List.length q.data) qcap] 38 (0, 0))) :: (Asn.own b0_0 (.cells #[.int .i64 p.kind, .int .i64 p.src, .int .i64 p.dst, .int .i64 p.id, .int .i64 p.line, .int .i64 p.ptr, .int .i64 p.state, .bool p.flag, .slice pa (List.length p.data) pcap] 38 (0, 0))) :: Γ) (Nat.lt_succ_self _) ⟨by kernel_rfl, by kernel_rfl, by kernel_rfl, by kernel_rfl, trivial⟩ (fun w hw => (Sat.less (.take .here (.take .here .refl)) hw)) ⟨fuel1, v1_72 + (1 : Int), H, rfl, rfl, rfl⟩
      · replace H := bifF H h2
        refine at_false (t := decide (v1_72 < (((List.length p.data) : Nat) : Int))) (x := C21 [1,1,0,1,0,0,1,0,0]) (y := C21 [1,1,0,1,0,0,1,0,1]) (o := .tmp 73) (by kernel_rfl) (by kernel_rfl) (by kernel_rfl) h2 ?_
        refine at_exit (i := 0) (by kernel_rfl) ?_
        refine at_then_exit ?_
        refine at_then_exit ?_
        rw [rsameS_k1] at H
        refine At.env [(2, .pointer (some ⟨b0_0, 0, none⟩)), (3, .pointer (some ⟨b0_1, 0, none⟩)), (71, .int .i64 (((List.length p.data) : Nat) : Int)), (72, .int .i64 v1_72)] ⟨by kernel_rfl, by kernel_rfl, by kernel_rfl, by kernel_rfl, trivial⟩ ?_
        refine At.conv (Γ' := (Asn.own b0_1 (.cells #[.int .i64 q.kind, .int .i64 q.src, .int .i64 q.dst, .int .i64 q.id, .int .i64 q.line, .int .i64 q.ptr, .int .i64 q.state, .bool q.flag, .slice qa (List.length q.data) qcap] 38 (0, 0))) :: (Asn.own b0_0 (.cells #[.int .i64 p.kind, .int .i64 p.src, .int .i64 p.dst, .int .i64 p.id, .int .i64 p.line, .int .i64 p.ptr, .int .i64 p.state, .bool p.flag, .slice pa (List.length p.data) pcap] 38 (0, 0))) :: Γ) (fun w hw => (Sat.less (.take .here (.take .here .refl)) hw)) ?_
        refine at_in_here ?_
        refine at_then_normal ?_
        refine at_seq (x := C21 [1,1,1,0]) (y := C21 [1,1,1,1]) (by kernel_rfl) ?_
        refine at_region (id := 9) 1 (by kernel_rfl) (by kernel_rfl) ?_
        refine s_pure 4 (.bool true) (by kernel_rfl) (by kernel_rfl) (fun _ => by kernel_rfl) ?_
        refine ops_end ?_
        refine At.env [(4, .bool true)] ⟨by kernel_rfl, trivial⟩ ?_
        refine at_then_normal ?_
        refine at_ret (by kernel_rfl) ?_
        obtain rfl := someE H
        refine at_backR [.bool true] (Γ) (rs := [.tmp 4]) (by kernel_rfl) (.cons (.tmp (by kernel_rfl)) .nil) (fun w hw => (Sat.less (.drop .here (.drop .here .refl)) hw)) ?_
        exact ⟨rfl, rfl⟩
  · refine at_region (id := 1) 63 (by kernel_rfl) (by kernel_rfl) ?_
    refine s_pure 6 (.pointer (some ⟨b0_0, 0, none⟩)) (by kernel_rfl) (by kernel_rfl) (fun _ => by kernel_rfl) ?_
    refine s_load 7 (.int .i64 p.kind) (by kernel_rfl) (by kernel_rfl) (load1 (off := 0) (fun _ => by kernel_rfl) (holds_own (.there .here)) (by kernel_rfl)) ?_
    refine s_pure 8 (.pointer (some ⟨b0_1, 0, none⟩)) (by kernel_rfl) (by kernel_rfl) (fun _ => by kernel_rfl) ?_
    refine s_load 9 (.int .i64 q.kind) (by kernel_rfl) (by kernel_rfl) (load1 (off := 0) (fun _ => by kernel_rfl) (holds_own .here) (by kernel_rfl)) ?_
    refine s_pure 10 (.bool (!(decide (p.kind = q.kind)))) (by kernel_rfl) (by kernel_rfl) (fun _ => by kernel_rfl) ?_
    rcases Bool.eq_false_or_eq_true (!(decide (p.kind = q.kind))) with h4 | h4
    · replace H := bifT H h4
      refine s_pure 11 (.bool true) (by kernel_rfl) (by kernel_rfl) (run_eq (v := .bool (!(decide (p.kind = q.kind)))) (fun _ => by kernel_rfl) (congrArg Value.bool h4)) ?_
      refine s_pass 12 (by kernel_rfl) (by kernel_rfl) ?_
      refine s_pass 13 (by kernel_rfl) (by kernel_rfl) ?_
      refine s_pass 14 (by kernel_rfl) (by kernel_rfl) ?_
      refine s_pass 15 (by kernel_rfl) (by kernel_rfl) ?_
      refine s_pass 16 (by kernel_rfl) (by kernel_rfl) ?_
      refine s_pure 17 (.bool true) (by kernel_rfl) (by kernel_rfl) (fun _ => by kernel_rfl) ?_
      refine s_pure 18 (.bool true) (by kernel_rfl) (by kernel_rfl) (fun _ => by kernel_rfl) ?_
      refine s_pass 19 (by kernel_rfl) (by kernel_rfl) ?_
      refine s_pass 20 (by kernel_rfl) (by kernel_rfl) ?_
      refine s_pass 21 (by kernel_rfl) (by kernel_rfl) ?_
      refine s_pass 22 (by kernel_rfl) (by kernel_rfl) ?_
      refine s_pass 23 (by kernel_rfl) (by kernel_rfl) ?_
      refine s_pure 24 (.bool true) (by kernel_rfl) (by kernel_rfl) (fun _ => by kernel_rfl) ?_
      refine s_pure 25 (.bool true) (by kernel_rfl) (by kernel_rfl) (fun _ => by kernel_rfl) ?_
      refine s_pass 26 (by kernel_rfl) (by kernel_rfl) ?_
      refine s_pass 27 (by kernel_rfl) (by kernel_rfl) ?_
      refine s_pass 28 (by kernel_rfl) (by kernel_rfl) ?_
      refine s_pass 29 (by kernel_rfl) (by kernel_rfl) ?_
      refine s_pass 30 (by kernel_rfl) (by kernel_rfl) ?_
      refine s_pure 31 (.bool true) (by kernel_rfl) (by kernel_rfl) (fun _ => by kernel_rfl) ?_
      refine s_pure 32 (.bool true) (by kernel_rfl) (by kernel_rfl) (fun _ => by kernel_rfl) ?_
      refine s_pass 33 (by kernel_rfl) (by kernel_rfl) ?_
      refine s_pass 34 (by kernel_rfl) (by kernel_rfl) ?_
      refine s_pass 35 (by kernel_rfl) (by kernel_rfl) ?_
      refine s_pass 36 (by kernel_rfl) (by kernel_rfl) ?_
      refine s_pass 37 (by kernel_rfl) (by kernel_rfl) ?_
      refine s_pure 38 (.bool true) (by kernel_rfl) (by kernel_rfl) (fun _ => by kernel_rfl) ?_
      refine s_pure 39 (.bool true) (by kernel_rfl) (by kernel_rfl) (fun _ => by kernel_rfl) ?_
      refine s_pass 40 (by kernel_rfl) (by kernel_rfl) ?_
      refine s_pass 41 (by kernel_rfl) (by kernel_rfl) ?_
      refine s_pass 42 (by kernel_rfl) (by kernel_rfl) ?_
      refine s_pass 43 (by kernel_rfl) (by kernel_rfl) ?_
      refine s_pass 44 (by kernel_rfl) (by kernel_rfl) ?_
      refine s_pure 45 (.bool true) (by kernel_rfl) (by kernel_rfl) (fun _ => by kernel_rfl) ?_
      refine s_pure 46 (.bool true) (by kernel_rfl) (by kernel_rfl) (fun _ => by kernel_rfl) ?_
      refine s_pass 47 (by kernel_rfl) (by kernel_rfl) ?_
      refine s_pass 48 (by kernel_rfl) (by kernel_rfl) ?_
      refine s_pass 49 (by kernel_rfl) (by kernel_rfl) ?_
      refine s_pass 50 (by kernel_rfl) (by kernel_rfl) ?_
      refine s_pass 51 (by kernel_rfl) (by kernel_rfl) ?_
      refine s_pure 52 (.bool true) (by kernel_rfl) (by kernel_rfl) (fun _ => by kernel_rfl) ?_
      refine s_pure 53 (.bool true) (by kernel_rfl) (by kernel_rfl) (fun _ => by kernel_rfl) ?_
      refine s_pass 54 (by kernel_rfl) (by kernel_rfl) ?_
      refine s_pass 55 (by kernel_rfl) (by kernel_rfl) ?_
      refine s_pass 56 (by kernel_rfl) (by kernel_rfl) ?_
      refine s_pass 57 (by kernel_rfl) (by kernel_rfl) ?_
      refine s_pass 58 (by kernel_rfl) (by kernel_rfl) ?_
      refine s_pure 59 (.bool true) (by kernel_rfl) (by kernel_rfl) (fun _ => by kernel_rfl) ?_
      refine s_pure 60 (.bool true) (by kernel_rfl) (by kernel_rfl) (fun _ => by kernel_rfl) ?_
      refine s_pass 61 (by kernel_rfl) (by kernel_rfl) ?_
      refine s_pass 62 (by kernel_rfl) (by kernel_rfl) ?_
      refine s_pass 63 (by kernel_rfl) (by kernel_rfl) ?_
      refine s_pass 64 (by kernel_rfl) (by kernel_rfl) ?_
      refine s_pass 65 (by kernel_rfl) (by kernel_rfl) ?_
      refine s_pass 66 (by kernel_rfl) (by kernel_rfl) ?_
      refine s_pass 67 (by kernel_rfl) (by kernel_rfl) ?_
      refine s_pure 68 (.bool true) (by kernel_rfl) (by kernel_rfl) (fun _ => by kernel_rfl) ?_
      refine ops_end ?_
      refine At.env [(2, .pointer (some ⟨b0_0, 0, none⟩)), (3, .pointer (some ⟨b0_1, 0, none⟩)), (68, .bool true)] ⟨by kernel_rfl, by kernel_rfl, by kernel_rfl, trivial⟩ ?_
      refine at_round_normal ?_
      exact at_join_mk [(2, .pointer (some ⟨b0_0, 0, none⟩)), (3, .pointer (some ⟨b0_1, 0, none⟩)), (68, .bool true)] ((Asn.own b0_1 (.cells #[.int .i64 q.kind, .int .i64 q.src, .int .i64 q.dst, .int .i64 q.id, .int .i64 q.line, .int .i64 q.ptr, .int .i64 q.state, .bool q.flag, .slice qa (List.length q.data) qcap] 38 (0, 0))) :: (Asn.own b0_0 (.cells #[.int .i64 p.kind, .int .i64 p.src, .int .i64 p.dst, .int .i64 p.id, .int .i64 p.line, .int .i64 p.ptr, .int .i64 p.state, .bool p.flag, .slice pa (List.length p.data) pcap] 38 (0, 0))) :: Γ) ⟨by kernel_rfl, by kernel_rfl, by kernel_rfl, trivial⟩ (fun w hw => (Sat.less (.take .here (.take .here .refl)) hw)) ⟨true, H, rfl, rfl⟩
    · replace H := bifF H h4
      refine s_pure 11 (.bool false) (by kernel_rfl) (by kernel_rfl) (run_eq (v := .bool (!(decide (p.kind = q.kind)))) (fun _ => by kernel_rfl) (congrArg Value.bool h4)) ?_
      refine s_pure 12 (.pointer (some ⟨b0_0, 1, none⟩)) (by kernel_rfl) (by kernel_rfl) (fun _ => by kernel_rfl) ?_
      refine s_load 13 (.int .i64 p.src) (by kernel_rfl) (by kernel_rfl) (load1 (off := 1) (fun _ => by kernel_rfl) (holds_own (.there .here)) (by kernel_rfl)) ?_
      refine s_pure 14 (.pointer (some ⟨b0_1, 1, none⟩)) (by kernel_rfl) (by kernel_rfl) (fun _ => by kernel_rfl) ?_
      refine s_load 15 (.int .i64 q.src) (by kernel_rfl) (by kernel_rfl) (load1 (off := 1) (fun _ => by kernel_rfl) (holds_own .here) (by kernel_rfl)) ?_
      refine s_pure 16 (.bool (!(decide (p.src = q.src)))) (by kernel_rfl) (by kernel_rfl) (fun _ => by kernel_rfl) ?_
      refine s_pure 17 (.bool (!(decide (p.src = q.src)))) (by kernel_rfl) (by kernel_rfl) (fun _ => by kernel_rfl) ?_
      rcases Bool.eq_false_or_eq_true (!(decide (p.src = q.src))) with h5 | h5
      · replace H := bifT H h5
        refine s_pure 18 (.bool true) (by kernel_rfl) (by kernel_rfl) (run_eq (v := .bool (!(decide (p.src = q.src)))) (fun _ => by kernel_rfl) (congrArg Value.bool h5)) ?_
        refine s_pass 19 (by kernel_rfl) (by kernel_rfl) ?_
        refine s_pass 20 (by kernel_rfl) (by kernel_rfl) ?_
        refine s_pass 21 (by kernel_rfl) (by kernel_rfl) ?_
        refine s_pass 22 (by kernel_rfl) (by kernel_rfl) ?_
        refine s_pass 23 (by kernel_rfl) (by kernel_rfl) ?_
        refine s_pure 24 (.bool true) (by kernel_rfl) (by kernel_rfl) (fun _ => by kernel_rfl) ?_
        refine s_pure 25 (.bool true) (by kernel_rfl) (by kernel_rfl) (fun _ => by kernel_rfl) ?_
        refine s_pass 26 (by kernel_rfl) (by kernel_rfl) ?_
        refine s_pass 27 (by kernel_rfl) (by kernel_rfl) ?_
        refine s_pass 28 (by kernel_rfl) (by kernel_rfl) ?_
        refine s_pass 29 (by kernel_rfl) (by kernel_rfl) ?_
        refine s_pass 30 (by kernel_rfl) (by kernel_rfl) ?_
        refine s_pure 31 (.bool true) (by kernel_rfl) (by kernel_rfl) (fun _ => by kernel_rfl) ?_
        refine s_pure 32 (.bool true) (by kernel_rfl) (by kernel_rfl) (fun _ => by kernel_rfl) ?_
        refine s_pass 33 (by kernel_rfl) (by kernel_rfl) ?_
        refine s_pass 34 (by kernel_rfl) (by kernel_rfl) ?_
        refine s_pass 35 (by kernel_rfl) (by kernel_rfl) ?_
        refine s_pass 36 (by kernel_rfl) (by kernel_rfl) ?_
        refine s_pass 37 (by kernel_rfl) (by kernel_rfl) ?_
        refine s_pure 38 (.bool true) (by kernel_rfl) (by kernel_rfl) (fun _ => by kernel_rfl) ?_
        refine s_pure 39 (.bool true) (by kernel_rfl) (by kernel_rfl) (fun _ => by kernel_rfl) ?_
        refine s_pass 40 (by kernel_rfl) (by kernel_rfl) ?_
        refine s_pass 41 (by kernel_rfl) (by kernel_rfl) ?_
        refine s_pass 42 (by kernel_rfl) (by kernel_rfl) ?_
        refine s_pass 43 (by kernel_rfl) (by kernel_rfl) ?_
        refine s_pass 44 (by kernel_rfl) (by kernel_rfl) ?_
        refine s_pure 45 (.bool true) (by kernel_rfl) (by kernel_rfl) (fun _ => by kernel_rfl) ?_
        refine s_pure 46 (.bool true) (by kernel_rfl) (by kernel_rfl) (fun _ => by kernel_rfl) ?_
        refine s_pass 47 (by kernel_rfl) (by kernel_rfl) ?_
        refine s_pass 48 (by kernel_rfl) (by kernel_rfl) ?_
        refine s_pass 49 (by kernel_rfl) (by kernel_rfl) ?_
        refine s_pass 50 (by kernel_rfl) (by kernel_rfl) ?_
        refine s_pass 51 (by kernel_rfl) (by kernel_rfl) ?_
        refine s_pure 52 (.bool true) (by kernel_rfl) (by kernel_rfl) (fun _ => by kernel_rfl) ?_
        refine s_pure 53 (.bool true) (by kernel_rfl) (by kernel_rfl) (fun _ => by kernel_rfl) ?_
        refine s_pass 54 (by kernel_rfl) (by kernel_rfl) ?_
        refine s_pass 55 (by kernel_rfl) (by kernel_rfl) ?_
        refine s_pass 56 (by kernel_rfl) (by kernel_rfl) ?_
        refine s_pass 57 (by kernel_rfl) (by kernel_rfl) ?_
        refine s_pass 58 (by kernel_rfl) (by kernel_rfl) ?_
        refine s_pure 59 (.bool true) (by kernel_rfl) (by kernel_rfl) (fun _ => by kernel_rfl) ?_
        refine s_pure 60 (.bool true) (by kernel_rfl) (by kernel_rfl) (fun _ => by kernel_rfl) ?_
        refine s_pass 61 (by kernel_rfl) (by kernel_rfl) ?_
        refine s_pass 62 (by kernel_rfl) (by kernel_rfl) ?_
        refine s_pass 63 (by kernel_rfl) (by kernel_rfl) ?_
        refine s_pass 64 (by kernel_rfl) (by kernel_rfl) ?_
        refine s_pass 65 (by kernel_rfl) (by kernel_rfl) ?_
        refine s_pass 66 (by kernel_rfl) (by kernel_rfl) ?_
        refine s_pass 67 (by kernel_rfl) (by kernel_rfl) ?_
        refine s_pure 68 (.bool true) (by kernel_rfl) (by kernel_rfl) (fun _ => by kernel_rfl) ?_
        refine ops_end ?_
        refine At.env [(2, .pointer (some ⟨b0_0, 0, none⟩)), (3, .pointer (some ⟨b0_1, 0, none⟩)), (68, .bool true)] ⟨by kernel_rfl, by kernel_rfl, by kernel_rfl, trivial⟩ ?_
        refine at_round_normal ?_
        exact at_join_mk [(2, .pointer (some ⟨b0_0, 0, none⟩)), (3, .pointer (some ⟨b0_1, 0, none⟩)), (68, .bool true)] ((Asn.own b0_1 (.cells #[.int .i64 q.kind, .int .i64 q.src, .int .i64 q.dst, .int .i64 q.id, .int .i64 q.line, .int .i64 q.ptr, .int .i64 q.state, .bool q.flag, .slice qa (List.length q.data) qcap] 38 (0, 0))) :: (Asn.own b0_0 (.cells #[.int .i64 p.kind, .int .i64 p.src, .int .i64 p.dst, .int .i64 p.id, .int .i64 p.line, .int .i64 p.ptr, .int .i64 p.state, .bool p.flag, .slice pa (List.length p.data) pcap] 38 (0, 0))) :: Γ) ⟨by kernel_rfl, by kernel_rfl, by kernel_rfl, trivial⟩ (fun w hw => (Sat.less (.take .here (.take .here .refl)) hw)) ⟨true, H, rfl, rfl⟩
      · replace H := bifF H h5
        refine s_pure 18 (.bool false) (by kernel_rfl) (by kernel_rfl) (run_eq (v := .bool (!(decide (p.src = q.src)))) (fun _ => by kernel_rfl) (congrArg Value.bool h5)) ?_
        refine s_pure 19 (.pointer (some ⟨b0_0, 2, none⟩)) (by kernel_rfl) (by kernel_rfl) (fun _ => by kernel_rfl) ?_
        refine s_load 20 (.int .i64 p.dst) (by kernel_rfl) (by kernel_rfl) (load1 (off := 2) (fun _ => by kernel_rfl) (holds_own (.there .here)) (by kernel_rfl)) ?_
        refine s_pure 21 (.pointer (some ⟨b0_1, 2, none⟩)) (by kernel_rfl) (by kernel_rfl) (fun _ => by kernel_rfl) ?_
        refine s_load 22 (.int .i64 q.dst) (by kernel_rfl) (by kernel_rfl) (load1 (off := 2) (fun _ => by kernel_rfl) (holds_own .here) (by kernel_rfl)) ?_
        refine s_pure 23 (.bool (!(decide (p.dst = q.dst)))) (by kernel_rfl) (by kernel_rfl) (fun _ => by kernel_rfl) ?_
        refine s_pure 24 (.bool (!(decide (p.dst = q.dst)))) (by kernel_rfl) (by kernel_rfl) (fun _ => by kernel_rfl) ?_
        rcases Bool.eq_false_or_eq_true (!(decide (p.dst = q.dst))) with h6 | h6
        · replace H := bifT H h6
          refine s_pure 25 (.bool true) (by kernel_rfl) (by kernel_rfl) (run_eq (v := .bool (!(decide (p.dst = q.dst)))) (fun _ => by kernel_rfl) (congrArg Value.bool h6)) ?_
          refine s_pass 26 (by kernel_rfl) (by kernel_rfl) ?_
          refine s_pass 27 (by kernel_rfl) (by kernel_rfl) ?_
          refine s_pass 28 (by kernel_rfl) (by kernel_rfl) ?_
          refine s_pass 29 (by kernel_rfl) (by kernel_rfl) ?_
          refine s_pass 30 (by kernel_rfl) (by kernel_rfl) ?_
          refine s_pure 31 (.bool true) (by kernel_rfl) (by kernel_rfl) (fun _ => by kernel_rfl) ?_
          refine s_pure 32 (.bool true) (by kernel_rfl) (by kernel_rfl) (fun _ => by kernel_rfl) ?_
          refine s_pass 33 (by kernel_rfl) (by kernel_rfl) ?_
          refine s_pass 34 (by kernel_rfl) (by kernel_rfl) ?_
          refine s_pass 35 (by kernel_rfl) (by kernel_rfl) ?_
          refine s_pass 36 (by kernel_rfl) (by kernel_rfl) ?_
          refine s_pass 37 (by kernel_rfl) (by kernel_rfl) ?_
          refine s_pure 38 (.bool true) (by kernel_rfl) (by kernel_rfl) (fun _ => by kernel_rfl) ?_
          refine s_pure 39 (.bool true) (by kernel_rfl) (by kernel_rfl) (fun _ => by kernel_rfl) ?_
          refine s_pass 40 (by kernel_rfl) (by kernel_rfl) ?_
          refine s_pass 41 (by kernel_rfl) (by kernel_rfl) ?_
          refine s_pass 42 (by kernel_rfl) (by kernel_rfl) ?_
          refine s_pass 43 (by kernel_rfl) (by kernel_rfl) ?_
          refine s_pass 44 (by kernel_rfl) (by kernel_rfl) ?_
          refine s_pure 45 (.bool true) (by kernel_rfl) (by kernel_rfl) (fun _ => by kernel_rfl) ?_
          refine s_pure 46 (.bool true) (by kernel_rfl) (by kernel_rfl) (fun _ => by kernel_rfl) ?_
          refine s_pass 47 (by kernel_rfl) (by kernel_rfl) ?_
          refine s_pass 48 (by kernel_rfl) (by kernel_rfl) ?_
          refine s_pass 49 (by kernel_rfl) (by kernel_rfl) ?_
          refine s_pass 50 (by kernel_rfl) (by kernel_rfl) ?_
          refine s_pass 51 (by kernel_rfl) (by kernel_rfl) ?_
          refine s_pure 52 (.bool true) (by kernel_rfl) (by kernel_rfl) (fun _ => by kernel_rfl) ?_
          refine s_pure 53 (.bool true) (by kernel_rfl) (by kernel_rfl) (fun _ => by kernel_rfl) ?_
          refine s_pass 54 (by kernel_rfl) (by kernel_rfl) ?_
          refine s_pass 55 (by kernel_rfl) (by kernel_rfl) ?_
          refine s_pass 56 (by kernel_rfl) (by kernel_rfl) ?_
          refine s_pass 57 (by kernel_rfl) (by kernel_rfl) ?_
          refine s_pass 58 (by kernel_rfl) (by kernel_rfl) ?_
          refine s_pure 59 (.bool true) (by kernel_rfl) (by kernel_rfl) (fun _ => by kernel_rfl) ?_
          refine s_pure 60 (.bool true) (by kernel_rfl) (by kernel_rfl) (fun _ => by kernel_rfl) ?_
          refine s_pass 61 (by kernel_rfl) (by kernel_rfl) ?_
          refine s_pass 62 (by kernel_rfl) (by kernel_rfl) ?_
          refine s_pass 63 (by kernel_rfl) (by kernel_rfl) ?_
          refine s_pass 64 (by kernel_rfl) (by kernel_rfl) ?_
          refine s_pass 65 (by kernel_rfl) (by kernel_rfl) ?_
          refine s_pass 66 (by kernel_rfl) (by kernel_rfl) ?_
          refine s_pass 67 (by kernel_rfl) (by kernel_rfl) ?_
          refine s_pure 68 (.bool true) (by kernel_rfl) (by kernel_rfl) (fun _ => by kernel_rfl) ?_
          refine ops_end ?_
          refine At.env [(2, .pointer (some ⟨b0_0, 0, none⟩)), (3, .pointer (some ⟨b0_1, 0, none⟩)), (68, .bool true)] ⟨by kernel_rfl, by kernel_rfl, by kernel_rfl, trivial⟩ ?_
          refine at_round_normal ?_
          exact at_join_mk [(2, .pointer (some ⟨b0_0, 0, none⟩)), (3, .pointer (some ⟨b0_1, 0, none⟩)), (68, .bool true)] ((Asn.own b0_1 (.cells #[.int .i64 q.kind, .int .i64 q.src, .int .i64 q.dst, .int .i64 q.id, .int .i64 q.line, .int .i64 q.ptr, .int .i64 q.state, .bool q.flag, .slice qa (List.length q.data) qcap] 38 (0, 0))) :: (Asn.own b0_0 (.cells #[.int .i64 p.kind, .int .i64 p.src, .int .i64 p.dst, .int .i64 p.id, .int .i64 p.line, .int .i64 p.ptr, .int .i64 p.state, .bool p.flag, .slice pa (List.length p.data) pcap] 38 (0, 0))) :: Γ) ⟨by kernel_rfl, by kernel_rfl, by kernel_rfl, trivial⟩ (fun w hw => (Sat.less (.take .here (.take .here .refl)) hw)) ⟨true, H, rfl, rfl⟩
        · replace H := bifF H h6
          refine s_pure 25 (.bool false) (by kernel_rfl) (by kernel_rfl) (run_eq (v := .bool (!(decide (p.dst = q.dst)))) (fun _ => by kernel_rfl) (congrArg Value.bool h6)) ?_
          refine s_pure 26 (.pointer (some ⟨b0_0, 3, none⟩)) (by kernel_rfl) (by kernel_rfl) (fun _ => by kernel_rfl) ?_
          refine s_load 27 (.int .i64 p.id) (by kernel_rfl) (by kernel_rfl) (load1 (off := 3) (fun _ => by kernel_rfl) (holds_own (.there .here)) (by kernel_rfl)) ?_
          refine s_pure 28 (.pointer (some ⟨b0_1, 3, none⟩)) (by kernel_rfl) (by kernel_rfl) (fun _ => by kernel_rfl) ?_
          refine s_load 29 (.int .i64 q.id) (by kernel_rfl) (by kernel_rfl) (load1 (off := 3) (fun _ => by kernel_rfl) (holds_own .here) (by kernel_rfl)) ?_
          refine s_pure 30 (.bool (!(decide (p.id = q.id)))) (by kernel_rfl) (by kernel_rfl) (fun _ => by kernel_rfl) ?_
          refine s_pure 31 (.bool (!(decide (p.id = q.id)))) (by kernel_rfl) (by kernel_rfl) (fun _ => by kernel_rfl) ?_
          rcases Bool.eq_false_or_eq_true (!(decide (p.id = q.id))) with h7 | h7
          · replace H := bifT H h7
            refine s_pure 32 (.bool true) (by kernel_rfl) (by kernel_rfl) (run_eq (v := .bool (!(decide (p.id = q.id)))) (fun _ => by kernel_rfl) (congrArg Value.bool h7)) ?_
            refine s_pass 33 (by kernel_rfl) (by kernel_rfl) ?_
            refine s_pass 34 (by kernel_rfl) (by kernel_rfl) ?_
            refine s_pass 35 (by kernel_rfl) (by kernel_rfl) ?_
            refine s_pass 36 (by kernel_rfl) (by kernel_rfl) ?_
            refine s_pass 37 (by kernel_rfl) (by kernel_rfl) ?_
            refine s_pure 38 (.bool true) (by kernel_rfl) (by kernel_rfl) (fun _ => by kernel_rfl) ?_
            refine s_pure 39 (.bool true) (by kernel_rfl) (by kernel_rfl) (fun _ => by kernel_rfl) ?_
            refine s_pass 40 (by kernel_rfl) (by kernel_rfl) ?_
            refine s_pass 41 (by kernel_rfl) (by kernel_rfl) ?_
            refine s_pass 42 (by kernel_rfl) (by kernel_rfl) ?_
            refine s_pass 43 (by kernel_rfl) (by kernel_rfl) ?_
            refine s_pass 44 (by kernel_rfl) (by kernel_rfl) ?_
            refine s_pure 45 (.bool true) (by kernel_rfl) (by kernel_rfl) (fun _ => by kernel_rfl) ?_
            refine s_pure 46 (.bool true) (by kernel_rfl) (by kernel_rfl) (fun _ => by kernel_rfl) ?_
            refine s_pass 47 (by kernel_rfl) (by kernel_rfl) ?_
            refine s_pass 48 (by kernel_rfl) (by kernel_rfl) ?_
            refine s_pass 49 (by kernel_rfl) (by kernel_rfl) ?_
            refine s_pass 50 (by kernel_rfl) (by kernel_rfl) ?_
            refine s_pass 51 (by kernel_rfl) (by kernel_rfl) ?_
            refine s_pure 52 (.bool true) (by kernel_rfl) (by kernel_rfl) (fun _ => by kernel_rfl) ?_
            refine s_pure 53 (.bool true) (by kernel_rfl) (by kernel_rfl) (fun _ => by kernel_rfl) ?_
            refine s_pass 54 (by kernel_rfl) (by kernel_rfl) ?_
            refine s_pass 55 (by kernel_rfl) (by kernel_rfl) ?_
            refine s_pass 56 (by kernel_rfl) (by kernel_rfl) ?_
            refine s_pass 57 (by kernel_rfl) (by kernel_rfl) ?_
            refine s_pass 58 (by kernel_rfl) (by kernel_rfl) ?_
            refine s_pure 59 (.bool true) (by kernel_rfl) (by kernel_rfl) (fun _ => by kernel_rfl) ?_
            refine s_pure 60 (.bool true) (by kernel_rfl) (by kernel_rfl) (fun _ => by kernel_rfl) ?_
            refine s_pass 61 (by kernel_rfl) (by kernel_rfl) ?_
            refine s_pass 62 (by kernel_rfl) (by kernel_rfl) ?_
            refine s_pass 63 (by kernel_rfl) (by kernel_rfl) ?_
            refine s_pass 64 (by kernel_rfl) (by kernel_rfl) ?_
            refine s_pass 65 (by kernel_rfl) (by kernel_rfl) ?_
            refine s_pass 66 (by kernel_rfl) (by kernel_rfl) ?_
            refine s_pass 67 (by kernel_rfl) (by kernel_rfl) ?_
            refine s_pure 68 (.bool true) (by kernel_rfl) (by kernel_rfl) (fun _ => by kernel_rfl) ?_
            refine ops_end ?_
            refine At.env [(2, .pointer (some ⟨b0_0, 0, none⟩)), (3, .pointer (some ⟨b0_1, 0, none⟩)), (68, .bool true)] ⟨by kernel_rfl, by kernel_rfl, by kernel_rfl, trivial⟩ ?_
            refine at_round_normal ?_
            exact at_join_mk [(2, .pointer (some ⟨b0_0, 0, none⟩)), (3, .pointer (some ⟨b0_1, 0, none⟩)), (68, .bool true)] ((Asn.own b0_1 (.cells #[.int .i64 q.kind, .int .i64 q.src, .int .i64 q.dst, .int .i64 q.id, .int .i64 q.line, .int .i64 q.ptr, .int .i64 q.state, .bool q.flag, .slice qa (List.length q.data) qcap] 38 (0, 0))) :: (Asn.own b0_0 (.cells #[.int .i64 p.kind, .int .i64 p.src, .int .i64 p.dst, .int .i64 p.id, .int .i64 p.line, .int .i64 p.ptr, .int .i64 p.state, .bool p.flag, .slice pa (List.length p.data) pcap] 38 (0, 0))) :: Γ) ⟨by kernel_rfl, by kernel_rfl, by kernel_rfl, trivial⟩ (fun w hw => (Sat.less (.take .here (.take .here .refl)) hw)) ⟨true, H, rfl, rfl⟩
          · replace H := bifF H h7
            refine s_pure 32 (.bool false) (by kernel_rfl) (by kernel_rfl) (run_eq (v := .bool (!(decide (p.id = q.id)))) (fun _ => by kernel_rfl) (congrArg Value.bool h7)) ?_
            refine s_pure 33 (.pointer (some ⟨b0_0, 4, none⟩)) (by kernel_rfl) (by kernel_rfl) (fun _ => by kernel_rfl) ?_
            refine s_load 34 (.int .i64 p.line) (by kernel_rfl) (by kernel_rfl) (load1 (off := 4) (fun _ => by kernel_rfl) (holds_own (.there .here)) (by kernel_rfl)) ?_
            refine s_pure 35 (.pointer (some ⟨b0_1, 4, none⟩)) (by kernel_rfl) (by kernel_rfl) (fun _ => by kernel_rfl) ?_
            refine s_load 36 (.int .i64 q.line) (by kernel_rfl) (by kernel_rfl) (load1 (off := 4) (fun _ => by kernel_rfl) (holds_own .here) (by kernel_rfl)) ?_
            refine s_pure 37 (.bool (!(decide (p.line = q.line)))) (by kernel_rfl) (by kernel_rfl) (fun _ => by kernel_rfl) ?_
            refine s_pure 38 (.bool (!(decide (p.line = q.line)))) (by kernel_rfl) (by kernel_rfl) (fun _ => by kernel_rfl) ?_
            rcases Bool.eq_false_or_eq_true (!(decide (p.line = q.line))) with h8 | h8
            · replace H := bifT H h8
              refine s_pure 39 (.bool true) (by kernel_rfl) (by kernel_rfl) (run_eq (v := .bool (!(decide (p.line = q.line)))) (fun _ => by kernel_rfl) (congrArg Value.bool h8)) ?_
              refine s_pass 40 (by kernel_rfl) (by kernel_rfl) ?_
              refine s_pass 41 (by kernel_rfl) (by kernel_rfl) ?_
              refine s_pass 42 (by kernel_rfl) (by kernel_rfl) ?_
              refine s_pass 43 (by kernel_rfl) (by kernel_rfl) ?_
              refine s_pass 44 (by kernel_rfl) (by kernel_rfl) ?_
              refine s_pure 45 (.bool true) (by kernel_rfl) (by kernel_rfl) (fun _ => by kernel_rfl) ?_
              refine s_pure 46 (.bool true) (by kernel_rfl) (by kernel_rfl) (fun _ => by kernel_rfl) ?_
              refine s_pass 47 (by kernel_rfl) (by kernel_rfl) ?_
              refine s_pass 48 (by kernel_rfl) (by kernel_rfl) ?_
              refine s_pass 49 (by kernel_rfl) (by kernel_rfl) ?_
              refine s_pass 50 (by kernel_rfl) (by kernel_rfl) ?_
              refine s_pass 51 (by kernel_rfl) (by kernel_rfl) ?_
              refine s_pure 52 (.bool true) (by kernel_rfl) (by kernel_rfl) (fun _ => by kernel_rfl) ?_
              refine s_pure 53 (.bool true) (by kernel_rfl) (by kernel_rfl) (fun _ => by kernel_rfl) ?_
              refine s_pass 54 (by kernel_rfl) (by kernel_rfl) ?_
              refine s_pass 55 (by kernel_rfl) (by kernel_rfl) ?_
              refine s_pass 56 (by kernel_rfl) (by kernel_rfl) ?_
              refine s_pass 57 (by kernel_rfl) (by kernel_rfl) ?_
              refine s_pass 58 (by kernel_rfl) (by kernel_rfl) ?_
              refine s_pure 59 (.bool true) (by kernel_rfl) (by kernel_rfl) (fun _ => by kernel_rfl) ?_
              refine s_pure 60 (.bool true) (by kernel_rfl) (by kernel_rfl) (fun _ => by kernel_rfl) ?_
              refine s_pass 61 (by kernel_rfl) (by kernel_rfl) ?_
              refine s_pass 62 (by kernel_rfl) (by kernel_rfl) ?_
              refine s_pass 63 (by kernel_rfl) (by kernel_rfl) ?_
              refine s_pass 64 (by kernel_rfl) (by kernel_rfl) ?_
              refine s_pass 65 (by kernel_rfl) (by kernel_rfl) ?_
              refine s_pass 66 (by kernel_rfl) (by kernel_rfl) ?_
              refine s_pass 67 (by kernel_rfl) (by kernel_rfl) ?_
              refine s_pure 68 (.bool true) (by kernel_rfl) (by kernel_rfl) (fun _ => by kernel_rfl) ?_
              refine ops_end ?_
              refine At.env [(2, .pointer (some ⟨b0_0, 0, none⟩)), (3, .pointer (some ⟨b0_1, 0, none⟩)), (68, .bool true)] ⟨by kernel_rfl, by kernel_rfl, by kernel_rfl, trivial⟩ ?_
              refine at_round_normal ?_
              exact at_join_mk [(2, .pointer (some ⟨b0_0, 0, none⟩)), (3, .pointer (some ⟨b0_1, 0, none⟩)), (68, .bool true)] ((Asn.own b0_1 (.cells #[.int .i64 q.kind, .int .i64 q.src, .int .i64 q.dst, .int .i64 q.id, .int .i64 q.line, .int .i64 q.ptr, .int .i64 q.state, .bool q.flag, .slice qa (List.length q.data) qcap] 38 (0, 0))) :: (Asn.own b0_0 (.cells #[.int .i64 p.kind, .int .i64 p.src, .int .i64 p.dst, .int .i64 p.id, .int .i64 p.line, .int .i64 p.ptr, .int .i64 p.state, .bool p.flag, .slice pa (List.length p.data) pcap] 38 (0, 0))) :: Γ) ⟨by kernel_rfl, by kernel_rfl, by kernel_rfl, trivial⟩ (fun w hw => (Sat.less (.take .here (.take .here .refl)) hw)) ⟨true, H, rfl, rfl⟩
            · replace H := bifF H h8
              refine s_pure 39 (.bool false) (by kernel_rfl) (by kernel_rfl) (run_eq (v := .bool (!(decide (p.line = q.line)))) (fun _ => by kernel_rfl) (congrArg Value.bool h8)) ?_
              refine s_pure 40 (.pointer (some ⟨b0_0, 5, none⟩)) (by kernel_rfl) (by kernel_rfl) (fun _ => by kernel_rfl) ?_
              refine s_load 41 (.int .i64 p.ptr) (by kernel_rfl) (by kernel_rfl) (load1 (off := 5) (fun _ => by kernel_rfl) (holds_own (.there .here)) (by kernel_rfl)) ?_
              refine s_pure 42 (.pointer (some ⟨b0_1, 5, none⟩)) (by kernel_rfl) (by kernel_rfl) (fun _ => by kernel_rfl) ?_
              refine s_load 43 (.int .i64 q.ptr) (by kernel_rfl) (by kernel_rfl) (load1 (off := 5) (fun _ => by kernel_rfl) (holds_own .here) (by kernel_rfl)) ?_
              refine s_pure 44 (.bool (!(decide (p.ptr = q.ptr)))) (by kernel_rfl) (by kernel_rfl) (fun _ => by kernel_rfl) ?_
              refine s_pure 45 (.bool (!(decide (p.ptr = q.ptr)))) (by kernel_rfl) (by kernel_rfl) (fun _ => by kernel_rfl) ?_
              rcases Bool.eq_false_or_eq_true (!(decide (p.ptr = q.ptr))) with h9 | h9
              · replace H := bifT H h9
                refine s_pure 46 (.bool true) (by kernel_rfl) (by kernel_rfl) (run_eq (v := .bool (!(decide (p.ptr = q.ptr)))) (fun _ => by kernel_rfl) (congrArg Value.bool h9)) ?_
                refine s_pass 47 (by kernel_rfl) (by kernel_rfl) ?_
                refine s_pass 48 (by kernel_rfl) (by kernel_rfl) ?_
                refine s_pass 49 (by kernel_rfl) (by kernel_rfl) ?_
                refine s_pass 50 (by kernel_rfl) (by kernel_rfl) ?_
                refine s_pass 51 (by kernel_rfl) (by kernel_rfl) ?_
                refine s_pure 52 (.bool true) (by kernel_rfl) (by kernel_rfl) (fun _ => by kernel_rfl) ?_
                refine s_pure 53 (.bool true) (by kernel_rfl) (by kernel_rfl) (fun _ => by kernel_rfl) ?_
                refine s_pass 54 (by kernel_rfl) (by kernel_rfl) ?_
                refine s_pass 55 (by kernel_rfl) (by kernel_rfl) ?_
                refine s_pass 56 (by kernel_rfl) (by kernel_rfl) ?_
                refine s_pass 57 (by kernel_rfl) (by kernel_rfl) ?_
                refine s_pass 58 (by kernel_rfl) (by kernel_rfl) ?_
                refine s_pure 59 (.bool true) (by kernel_rfl) (by kernel_rfl) (fun _ => by kernel_rfl) ?_
                refine s_pure 60 (.bool true) (by kernel_rfl) (by kernel_rfl) (fun _ => by kernel_rfl) ?_
                refine s_pass 61 (by kernel_rfl) (by kernel_rfl) ?_
                refine s_pass 62 (by kernel_rfl) (by kernel_rfl) ?_
                refine s_pass 63 (by kernel_rfl) (by kernel_rfl) ?_
                refine s_pass 64 (by kernel_rfl) (by kernel_rfl) ?_
                refine s_pass 65 (by kernel_rfl) (by kernel_rfl) ?_
                refine s_pass 66 (by kernel_rfl) (by kernel_rfl) ?_
                refine s_pass 67 (by kernel_rfl) (by kernel_rfl) ?_
                refine s_pure 68 (.bool true) (by kernel_rfl) (by kernel_rfl) (fun _ => by kernel_rfl) ?_
                refine ops_end ?_
                refine At.env [(2, .pointer (some ⟨b0_0, 0, none⟩)), (3, .pointer (some ⟨b0_1, 0, none⟩)), (68, .bool true)] ⟨by kernel_rfl, by kernel_rfl, by kernel_rfl, trivial⟩ ?_
                refine at_round_normal ?_
                exact at_join_mk [(2, .pointer (some ⟨b0_0, 0, none⟩)), (3, .pointer (some ⟨b0_1, 0, none⟩)), (68, .bool true)] ((Asn.own b0_1 (.cells #[.int .i64 q.kind, .int .i64 q.src, .int .i64 q.dst, .int .i64 q.id, .int .i64 q.line, .int .i64 q.ptr, .int .i64 q.state, .bool q.flag, .slice qa (List.length q.data) qcap] 38 (0, 0))) :: (Asn.own b0_0 (.cells #[.int .i64 p.kind, .int .i64 p.src, .int .i64 p.dst, .int .i64 p.id, .int .i64 p.line, .int .i64 p.ptr, .int .i64 p.state, .bool p.flag, .slice pa (List.length p.data) pcap] 38 (0, 0))) :: Γ) ⟨by kernel_rfl, by kernel_rfl, by kernel_rfl, trivial⟩ (fun w hw => (Sat.less (.take .here (.take .here .refl)) hw)) ⟨true, H, rfl, rfl⟩
              · replace H := bifF H h9
                refine s_pure 46 (.bool false) (by kernel_rfl) (by kernel_rfl) (run_eq (v := .bool (!(decide (p.ptr = q.ptr)))) (fun _ => by kernel_rfl) (congrArg Value.bool h9)) ?_
                refine s_pure 47 (.pointer (some ⟨b0_0, 6, none⟩)) (by kernel_rfl) (by kernel_rfl) (fun _ => by kernel_rfl) ?_
                refine s_load 48 (.int .i64 p.state) (by kernel_rfl) (by kernel_rfl) (load1 (off := 6) (fun _ => by kernel_rfl) (holds_own (.there .here)) (by kernel_rfl)) ?_
                refine s_pure 49 (.pointer (some ⟨b0_1, 6, none⟩)) (by kernel_rfl) (by kernel_rfl) (fun _ => by kernel_rfl) ?_
                refine s_load 50 (.int .i64 q.state) (by kernel_rfl) (by kernel_rfl) (load1 (off := 6) (fun _ => by kernel_rfl) (holds_own .here) (by kernel_rfl)) ?_
                refine s_pure 51 (.bool (!(decide (p.state = q.state)))) (by kernel_rfl) (by kernel_rfl) (fun _ => by kernel_rfl) ?_
                refine s_pure 52 (.bool (!(decide (p.state = q.state)))) (by kernel_rfl) (by kernel_rfl) (fun _ => by kernel_rfl) ?_
                rcases Bool.eq_false_or_eq_true (!(decide (p.state = q.state))) with h10 | h10
                · replace H := bifT H h10
                  refine s_pure 53 (.bool true) (by kernel_rfl) (by kernel_rfl) (run_eq (v := .bool (!(decide (p.state = q.state)))) (fun _ => by kernel_rfl) (congrArg Value.bool h10)) ?_
                  refine s_pass 54 (by kernel_rfl) (by kernel_rfl) ?_
                  refine s_pass 55 (by kernel_rfl) (by kernel_rfl) ?_
                  refine s_pass 56 (by kernel_rfl) (by kernel_rfl) ?_
                  refine s_pass 57 (by kernel_rfl) (by kernel_rfl) ?_
                  refine s_pass 58 (by kernel_rfl) (by kernel_rfl) ?_
                  refine s_pure 59 (.bool true) (by kernel_rfl) (by kernel_rfl) (fun _ => by kernel_rfl) ?_
                  refine s_pure 60 (.bool true) (by kernel_rfl) (by kernel_rfl) (fun _ => by kernel_rfl) ?_
                  refine s_pass 61 (by kernel_rfl) (by kernel_rfl) ?_
                  refine s_pass 62 (by kernel_rfl) (by kernel_rfl) ?_
                  refine s_pass 63 (by kernel_rfl) (by kernel_rfl) ?_
                  refine s_pass 64 (by kernel_rfl) (by kernel_rfl) ?_
                  refine s_pass 65 (by kernel_rfl) (by kernel_rfl) ?_
                  refine s_pass 66 (by kernel_rfl) (by kernel_rfl) ?_
                  refine s_pass 67 (by kernel_rfl) (by kernel_rfl) ?_
                  refine s_pure 68 (.bool true) (by kernel_rfl) (by kernel_rfl) (fun _ => by kernel_rfl) ?_
                  refine ops_end ?_
                  refine At.env [(2, .pointer (some ⟨b0_0, 0, none⟩)), (3, .pointer (some ⟨b0_1, 0, none⟩)), (68, .bool true)] ⟨by kernel_rfl, by kernel_rfl, by kernel_rfl, trivial⟩ ?_
                  refine at_round_normal ?_
                  exact at_join_mk [(2, .pointer (some ⟨b0_0, 0, none⟩)), (3, .pointer (some ⟨b0_1, 0, none⟩)), (68, .bool true)] ((Asn.own b0_1 (.cells #[.int .i64 q.kind, .int .i64 q.src, .int .i64 q.dst, .int .i64 q.id, .int .i64 q.line, .int .i64 q.ptr, .int .i64 q.state, .bool q.flag, .slice qa (List.length q.data) qcap] 38 (0, 0))) :: (Asn.own b0_0 (.cells #[.int .i64 p.kind, .int .i64 p.src, .int .i64 p.dst, .int .i64 p.id, .int .i64 p.line, .int .i64 p.ptr, .int .i64 p.state, .bool p.flag, .slice pa (List.length p.data) pcap] 38 (0, 0))) :: Γ) ⟨by kernel_rfl, by kernel_rfl, by kernel_rfl, trivial⟩ (fun w hw => (Sat.less (.take .here (.take .here .refl)) hw)) ⟨true, H, rfl, rfl⟩
                · replace H := bifF H h10
                  refine s_pure 53 (.bool false) (by kernel_rfl) (by kernel_rfl) (run_eq (v := .bool (!(decide (p.state = q.state)))) (fun _ => by kernel_rfl) (congrArg Value.bool h10)) ?_
                  refine s_pure 54 (.pointer (some ⟨b0_0, 7, none⟩)) (by kernel_rfl) (by kernel_rfl) (fun _ => by kernel_rfl) ?_
                  refine s_load 55 (.bool p.flag) (by kernel_rfl) (by kernel_rfl) (load1 (off := 7) (fun _ => by kernel_rfl) (holds_own (.there .here)) (by kernel_rfl)) ?_
                  refine s_pure 56 (.pointer (some ⟨b0_1, 7, none⟩)) (by kernel_rfl) (by kernel_rfl) (fun _ => by kernel_rfl) ?_
                  refine s_load 57 (.bool q.flag) (by kernel_rfl) (by kernel_rfl) (load1 (off := 7) (fun _ => by kernel_rfl) (holds_own .here) (by kernel_rfl)) ?_
                  refine s_pure 58 (.bool (!(p.flag == q.flag))) (by kernel_rfl) (by kernel_rfl) (fun _ => by kernel_rfl) ?_
                  refine s_pure 59 (.bool (!(p.flag == q.flag))) (by kernel_rfl) (by kernel_rfl) (fun _ => by kernel_rfl) ?_
                  rcases Bool.eq_false_or_eq_true (!(p.flag == q.flag)) with h11 | h11
                  · replace H := bifT H h11
                    refine s_pure 60 (.bool true) (by kernel_rfl) (by kernel_rfl) (run_eq (v := .bool (!(p.flag == q.flag))) (fun _ => by kernel_rfl) (congrArg Value.bool h11)) ?_
                    refine s_pass 61 (by kernel_rfl) (by kernel_rfl) ?_
                    refine s_pass 62 (by kernel_rfl) (by kernel_rfl) ?_
                    refine s_pass 63 (by kernel_rfl) (by kernel_rfl) ?_
                    refine s_pass 64 (by kernel_rfl) (by kernel_rfl) ?_
                    refine s_pass 65 (by kernel_rfl) (by kernel_rfl) ?_
                    refine s_pass 66 (by kernel_rfl) (by kernel_rfl) ?_
                    refine s_pass 67 (by kernel_rfl) (by kernel_rfl) ?_
                    refine s_pure 68 (.bool true) (by kernel_rfl) (by kernel_rfl) (fun _ => by kernel_rfl) ?_
                    refine ops_end ?_
                    refine At.env [(2, .pointer (some ⟨b0_0, 0, none⟩)), (3, .pointer (some ⟨b0_1, 0, none⟩)), (68, .bool true)] ⟨by kernel_rfl, by kernel_rfl, by kernel_rfl, trivial⟩ ?_
                    refine at_round_normal ?_
                    exact at_join_mk [(2, .pointer (some ⟨b0_0, 0, none⟩)), (3, .pointer (some ⟨b0_1, 0, none⟩)), (68, .bool true)] ((Asn.own b0_1 (.cells #[.int .i64 q.kind, .int .i64 q.src, .int .i64 q.dst, .int .i64 q.id, .int .i64 q.line, .int .i64 q.ptr, .int .i64 q.state, .bool q.flag, .slice qa (List.length q.data) qcap] 38 (0, 0))) :: (Asn.own b0_0 (.cells #[.int .i64 p.kind, .int .i64 p.src, .int .i64 p.dst, .int .i64 p.id, .int .i64 p.line, .int .i64 p.ptr, .int .i64 p.state, .bool p.flag, .slice pa (List.length p.data) pcap] 38 (0, 0))) :: Γ) ⟨by kernel_rfl, by kernel_rfl, by kernel_rfl, trivial⟩ (fun w hw => (Sat.less (.take .here (.take .here .refl)) hw)) ⟨true, H, rfl, rfl⟩
                  · replace H := bifF H h11
                    refine s_pure 60 (.bool false) (by kernel_rfl) (by kernel_rfl) (run_eq (v := .bool (!(p.flag == q.flag))) (fun _ => by kernel_rfl) (congrArg Value.bool h11)) ?_
                    refine s_pure 61 (.pointer (some ⟨b0_0, 8, none⟩)) (by kernel_rfl) (by kernel_rfl) (fun _ => by kernel_rfl) ?_
                    refine s_load 62 (.slice pa (List.length p.data) pcap) (by kernel_rfl) (by kernel_rfl) (load1 (off := 8) (fun _ => by kernel_rfl) (holds_own (.there .here)) (by kernel_rfl)) ?_
                    refine s_pure 63 (.int .i64 (((List.length p.data) : Nat) : Int)) (by kernel_rfl) (by kernel_rfl) (fun _ => by kernel_rfl) ?_
                    refine s_pure 64 (.pointer (some ⟨b0_1, 8, none⟩)) (by kernel_rfl) (by kernel_rfl) (fun _ => by kernel_rfl) ?_
                    refine s_load 65 (.slice qa (List.length q.data) qcap) (by kernel_rfl) (by kernel_rfl) (load1 (off := 8) (fun _ => by kernel_rfl) (holds_own .here) (by kernel_rfl)) ?_
                    refine s_pure 66 (.int .i64 (((List.length q.data) : Nat) : Int)) (by kernel_rfl) (by kernel_rfl) (fun _ => by kernel_rfl) ?_
                    refine s_pure 67 (.bool (!(decide ((((List.length p.data) : Nat) : Int) = (((List.length q.data) : Nat) : Int))))) (by kernel_rfl) (by kernel_rfl) (fun _ => by kernel_rfl) ?_
                    refine s_pure 68 (.bool (!(decide ((((List.length p.data) : Nat) : Int) = (((List.length q.data) : Nat) : Int))))) (by kernel_rfl) (by kernel_rfl) (fun _ => by kernel_rfl) ?_
                    refine ops_end ?_
                    refine At.env [(2, .pointer (some ⟨b0_0, 0, none⟩)), (3, .pointer (some ⟨b0_1, 0, none⟩)), (68, .bool (!(decide ((((List.length p.data) : Nat) : Int) = (((List.length q.data) : Nat) : Int)))))] ⟨by kernel_rfl, by kernel_rfl, by kernel_rfl, trivial⟩ ?_
                    refine at_round_normal ?_
                    exact at_join_mk [(2, .pointer (some ⟨b0_0, 0, none⟩)), (3, .pointer (some ⟨b0_1, 0, none⟩)), (68, .bool (!(decide ((((List.length p.data) : Nat) : Int) = (((List.length q.data) : Nat) : Int)))))] ((Asn.own b0_1 (.cells #[.int .i64 q.kind, .int .i64 q.src, .int .i64 q.dst, .int .i64 q.id, .int .i64 q.line, .int .i64 q.ptr, .int .i64 q.state, .bool q.flag, .slice qa (List.length q.data) qcap] 38 (0, 0))) :: (Asn.own b0_0 (.cells #[.int .i64 p.kind, .int .i64 p.src, .int .i64 p.dst, .int .i64 p.id, .int .i64 p.line, .int .i64 p.ptr, .int .i64 p.state, .bool p.flag, .slice pa (List.length p.data) pcap] 38 (0, 0))) :: Γ) ⟨by kernel_rfl, by kernel_rfl, by kernel_rfl, trivial⟩ (fun w hw => (Sat.less (.take .here (.take .here .refl)) hw)) ⟨!(decide ((((List.length p.data) : Nat) : Int) = (((List.length q.data) : Nat) : Int))), H, rfl, rfl⟩
def wakes13S : Option (Bool) :=
  (dbeginS (1 : Int) (3 : Int) (1 : Int)).bind fun y1_0 => (daskS y1_0 (2 : Int) (1 : Int)).bind fun y1_1 => (bif decide (y1_1.kind = (1 : Int)) then (bif decide (y1_1.src = (2 : Int)) then (bif decide (y1_1.dst = (1 : Int)) then (bif decide (y1_1.line = (3 : Int)) then some (decide (y1_1.id = (1 : Int))) else some false) else some false) else some false) else some false)
noncomputable def C22 (p : List Nat) : Code := codeAt (bodyOf Try.f22) p
set_option maxRecDepth 100000 in
set_option maxHeartbeats 8000000 in
theorem W13F_tr {W0 : World} {Γ : List Asn}   (y : Bool) (H : wakes13S = some y) : Tr Try.prog 22 #[] W0 (Γ) (fun r Δ => r = .bool y ∧ Δ = Γ) := by
  unfold wakes13S at H
  refine Tr.enter (fn := Try.f22) (c := C22 []) (args := []) 27 Try.func22 (by kernel_rfl) (by kernel_rfl) ?_
  refine At.env [] trivial ?_
  refine at_seq (x := C22 [0]) (y := C22 [1]) (by kernel_rfl) ?_
  refine at_region (id := 0) 1 (by kernel_rfl) (by kernel_rfl) ?_
  refine s_pure 0 (.bool false) (by kernel_rfl) (by kernel_rfl) (fun _ => by kernel_rfl) ?_
  refine ops_end ?_
  refine At.env [] trivial ?_
  refine at_then_normal ?_
  refine at_seq (x := C22 [1,0]) (y := C22 [1,1]) (by kernel_rfl) ?_
  refine at_region (id := 1) 4 (by kernel_rfl) (by kernel_rfl) ?_
  obtain ⟨y1_0, hy1_0, H⟩ := bindE H
  refine s_call 2 30 #[.int .i64 (1), .int .i64 (3), .int .i64 (1)] (by kernel_rfl) (by kernel_rfl) (fun _ => by kernel_rfl) (DBeginF_tr (1 : Int) (3 : Int) (1 : Int) y1_0 hy1_0) ?_
  rintro _ _ ⟨a1_0_00, c1_0_00, rfl, rfl⟩
  obtain ⟨y1_1, hy1_1, H⟩ := bindE H
  refine s_call 3 20 #[.agg #[.int .i64 y1_0.kind, .int .i64 y1_0.line, .int .i64 y1_0.id, .int .i64 y1_0.step, .int .i64 y1_0.state, .int .i64 y1_0.head, .slice a1_0_00 (List.length y1_0.data) c1_0_00, .int .i64 y1_0.next, .int .i64 y1_0.told], .int .i64 (2), .int .i64 (1)] (by kernel_rfl) (by kernel_rfl) (fun _ => by kernel_rfl) (DAskF_tr a1_0_00 c1_0_00 y1_0 (2 : Int) (1 : Int) (ImmR.reads (k := 1) .here) y1_1 hy1_1) ?_
  rintro _ _ ⟨a1_1_00, c1_1_00, rfl, rfl⟩
  refine s_step 1 (by kernel_rfl) (by kernel_rfl) (st_new (T := 38) (cells := #[.int .i64 (0), .int .i64 (0), .int .i64 (0), .int .i64 (0), .int .i64 (0), .int .i64 (0), .int .i64 (0), .bool false, .slice none 0 0]) (fun a => .pointer (some a)) (fun _ => by kernel_rfl)) ?_
  rintro _ _ ⟨b1_2, rfl, rfl⟩
  refine s_do (by kernel_rfl) (by kernel_rfl) (st_store (off := 0) (vs := [.int .i64 y1_1.kind, .int .i64 y1_1.src, .int .i64 y1_1.dst, .int .i64 y1_1.id, .int .i64 y1_1.line, .int .i64 y1_1.ptr, .int .i64 y1_1.state, .bool y1_1.flag, .slice a1_1_00 (List.length y1_1.data) c1_1_00]) (c' := #[.int .i64 y1_1.kind, .int .i64 y1_1.src, .int .i64 y1_1.dst, .int .i64 y1_1.id, .int .i64 y1_1.line, .int .i64 y1_1.ptr, .int .i64 y1_1.state, .bool y1_1.flag, .slice a1_1_00 (List.length y1_1.data) c1_1_00]) (fun _ => by kernel_rfl) .here (by kernel_rfl) (by kernel_rfl) (by kernel_rfl)) ?_
  rintro _ _ ⟨rfl, rfl⟩
  refine ops_end ?_
  refine At.env [(1, .pointer (some ⟨b1_2, 0, none⟩))] ⟨by kernel_rfl, trivial⟩ ?_
  refine at_then_normal ?_
  refine at_seq (x := C22 [1,1,0]) (y := C22 [1,1,1]) (by kernel_rfl) ?_
  refine at_region (id := 2) 24 (by kernel_rfl) (by kernel_rfl) ?_
  refine s_pure 4 (.pointer (some ⟨b1_2, 0, none⟩)) (by kernel_rfl) (by kernel_rfl) (fun _ => by kernel_rfl) ?_
  refine s_load 5 (.int .i64 y1_1.kind) (by kernel_rfl) (by kernel_rfl) (load1 (off := 0) (fun _ => by kernel_rfl) (holds_own .here) (by kernel_rfl)) ?_
  refine s_pure 6 (.bool (decide (y1_1.kind = (1 : Int)))) (by kernel_rfl) (by kernel_rfl) (fun _ => by kernel_rfl) ?_
  rcases Bool.eq_false_or_eq_true (decide (y1_1.kind = (1 : Int))) with h1 | h1
  · replace H := bifT H h1
    refine s_pure 7 (.bool true) (by kernel_rfl) (by kernel_rfl) (run_eq (v := .bool (decide (y1_1.kind = (1 : Int)))) (fun _ => by kernel_rfl) (congrArg Value.bool h1)) ?_
    refine s_pure 8 (.pointer (some ⟨b1_2, 1, none⟩)) (by kernel_rfl) (by kernel_rfl) (fun _ => by kernel_rfl) ?_
    refine s_load 9 (.int .i64 y1_1.src) (by kernel_rfl) (by kernel_rfl) (load1 (off := 1) (fun _ => by kernel_rfl) (holds_own .here) (by kernel_rfl)) ?_
    refine s_pure 10 (.bool (decide (y1_1.src = (2 : Int)))) (by kernel_rfl) (by kernel_rfl) (fun _ => by kernel_rfl) ?_
    refine s_pure 11 (.bool (decide (y1_1.src = (2 : Int)))) (by kernel_rfl) (by kernel_rfl) (fun _ => by kernel_rfl) ?_
    rcases Bool.eq_false_or_eq_true (decide (y1_1.src = (2 : Int))) with h2 | h2
    · replace H := bifT H h2
      refine s_pure 12 (.bool true) (by kernel_rfl) (by kernel_rfl) (run_eq (v := .bool (decide (y1_1.src = (2 : Int)))) (fun _ => by kernel_rfl) (congrArg Value.bool h2)) ?_
      refine s_pure 13 (.pointer (some ⟨b1_2, 2, none⟩)) (by kernel_rfl) (by kernel_rfl) (fun _ => by kernel_rfl) ?_
      refine s_load 14 (.int .i64 y1_1.dst) (by kernel_rfl) (by kernel_rfl) (load1 (off := 2) (fun _ => by kernel_rfl) (holds_own .here) (by kernel_rfl)) ?_
      refine s_pure 15 (.bool (decide (y1_1.dst = (1 : Int)))) (by kernel_rfl) (by kernel_rfl) (fun _ => by kernel_rfl) ?_
      refine s_pure 16 (.bool (decide (y1_1.dst = (1 : Int)))) (by kernel_rfl) (by kernel_rfl) (fun _ => by kernel_rfl) ?_
      rcases Bool.eq_false_or_eq_true (decide (y1_1.dst = (1 : Int))) with h3 | h3
      · replace H := bifT H h3
        refine s_pure 17 (.bool true) (by kernel_rfl) (by kernel_rfl) (run_eq (v := .bool (decide (y1_1.dst = (1 : Int)))) (fun _ => by kernel_rfl) (congrArg Value.bool h3)) ?_
        refine s_pure 18 (.pointer (some ⟨b1_2, 4, none⟩)) (by kernel_rfl) (by kernel_rfl) (fun _ => by kernel_rfl) ?_
        refine s_load 19 (.int .i64 y1_1.line) (by kernel_rfl) (by kernel_rfl) (load1 (off := 4) (fun _ => by kernel_rfl) (holds_own .here) (by kernel_rfl)) ?_
        refine s_pure 20 (.bool (decide (y1_1.line = (3 : Int)))) (by kernel_rfl) (by kernel_rfl) (fun _ => by kernel_rfl) ?_
        refine s_pure 21 (.bool (decide (y1_1.line = (3 : Int)))) (by kernel_rfl) (by kernel_rfl) (fun _ => by kernel_rfl) ?_
        rcases Bool.eq_false_or_eq_true (decide (y1_1.line = (3 : Int))) with h4 | h4
        · replace H := bifT H h4
          refine s_pure 22 (.bool true) (by kernel_rfl) (by kernel_rfl) (run_eq (v := .bool (decide (y1_1.line = (3 : Int)))) (fun _ => by kernel_rfl) (congrArg Value.bool h4)) ?_
          refine s_pure 23 (.pointer (some ⟨b1_2, 3, none⟩)) (by kernel_rfl) (by kernel_rfl) (fun _ => by kernel_rfl) ?_
          refine s_load 24 (.int .i64 y1_1.id) (by kernel_rfl) (by kernel_rfl) (load1 (off := 3) (fun _ => by kernel_rfl) (holds_own .here) (by kernel_rfl)) ?_
          refine s_pure 25 (.bool (decide (y1_1.id = (1 : Int)))) (by kernel_rfl) (by kernel_rfl) (fun _ => by kernel_rfl) ?_
          refine s_pure 26 (.bool (decide (y1_1.id = (1 : Int)))) (by kernel_rfl) (by kernel_rfl) (fun _ => by kernel_rfl) ?_
          refine s_pure 0 (.bool (decide (y1_1.id = (1 : Int)))) (by kernel_rfl) (by kernel_rfl) (fun _ => by kernel_rfl) ?_
          refine ops_end ?_
          refine At.env [(0, .bool (decide (y1_1.id = (1 : Int))))] ⟨by kernel_rfl, trivial⟩ ?_
          refine at_then_normal ?_
          refine at_ret (by kernel_rfl) ?_
          obtain rfl := someE H
          refine at_backR [.bool (decide (y1_1.id = (1 : Int)))] (Γ) (rs := [.tmp 0]) (by kernel_rfl) (.cons (.tmp (by kernel_rfl)) .nil) (fun w hw => (Sat.less (.drop .here (.drop .here (.drop .here .refl))) hw)) ?_
          exact ⟨rfl, rfl⟩
        · replace H := bifF H h4
          refine s_pure 22 (.bool false) (by kernel_rfl) (by kernel_rfl) (run_eq (v := .bool (decide (y1_1.line = (3 : Int)))) (fun _ => by kernel_rfl) (congrArg Value.bool h4)) ?_
          refine s_pass 23 (by kernel_rfl) (by kernel_rfl) ?_
          refine s_pass 24 (by kernel_rfl) (by kernel_rfl) ?_
          refine s_pass 25 (by kernel_rfl) (by kernel_rfl) ?_
          refine s_pure 26 (.bool false) (by kernel_rfl) (by kernel_rfl) (fun _ => by kernel_rfl) ?_
          refine s_pure 0 (.bool false) (by kernel_rfl) (by kernel_rfl) (fun _ => by kernel_rfl) ?_
          refine ops_end ?_
          refine At.env [(0, .bool false)] ⟨by kernel_rfl, trivial⟩ ?_
          refine at_then_normal ?_
          refine at_ret (by kernel_rfl) ?_
          obtain rfl := someE H
          refine at_backR [.bool false] (Γ) (rs := [.tmp 0]) (by kernel_rfl) (.cons (.tmp (by kernel_rfl)) .nil) (fun w hw => (Sat.less (.drop .here (.drop .here (.drop .here .refl))) hw)) ?_
          exact ⟨rfl, rfl⟩
      · replace H := bifF H h3
        refine s_pure 17 (.bool false) (by kernel_rfl) (by kernel_rfl) (run_eq (v := .bool (decide (y1_1.dst = (1 : Int)))) (fun _ => by kernel_rfl) (congrArg Value.bool h3)) ?_
        refine s_pass 18 (by kernel_rfl) (by kernel_rfl) ?_
        refine s_pass 19 (by kernel_rfl) (by kernel_rfl) ?_
        refine s_pass 20 (by kernel_rfl) (by kernel_rfl) ?_
        refine s_pure 21 (.bool false) (by kernel_rfl) (by kernel_rfl) (fun _ => by kernel_rfl) ?_
        refine s_pure 22 (.bool false) (by kernel_rfl) (by kernel_rfl) (fun _ => by kernel_rfl) ?_
        refine s_pass 23 (by kernel_rfl) (by kernel_rfl) ?_
        refine s_pass 24 (by kernel_rfl) (by kernel_rfl) ?_
        refine s_pass 25 (by kernel_rfl) (by kernel_rfl) ?_
        refine s_pure 26 (.bool false) (by kernel_rfl) (by kernel_rfl) (fun _ => by kernel_rfl) ?_
        refine s_pure 0 (.bool false) (by kernel_rfl) (by kernel_rfl) (fun _ => by kernel_rfl) ?_
        refine ops_end ?_
        refine At.env [(0, .bool false)] ⟨by kernel_rfl, trivial⟩ ?_
        refine at_then_normal ?_
        refine at_ret (by kernel_rfl) ?_
        obtain rfl := someE H
        refine at_backR [.bool false] (Γ) (rs := [.tmp 0]) (by kernel_rfl) (.cons (.tmp (by kernel_rfl)) .nil) (fun w hw => (Sat.less (.drop .here (.drop .here (.drop .here .refl))) hw)) ?_
        exact ⟨rfl, rfl⟩
    · replace H := bifF H h2
      refine s_pure 12 (.bool false) (by kernel_rfl) (by kernel_rfl) (run_eq (v := .bool (decide (y1_1.src = (2 : Int)))) (fun _ => by kernel_rfl) (congrArg Value.bool h2)) ?_
      refine s_pass 13 (by kernel_rfl) (by kernel_rfl) ?_
      refine s_pass 14 (by kernel_rfl) (by kernel_rfl) ?_
      refine s_pass 15 (by kernel_rfl) (by kernel_rfl) ?_
      refine s_pure 16 (.bool false) (by kernel_rfl) (by kernel_rfl) (fun _ => by kernel_rfl) ?_
      refine s_pure 17 (.bool false) (by kernel_rfl) (by kernel_rfl) (fun _ => by kernel_rfl) ?_
      refine s_pass 18 (by kernel_rfl) (by kernel_rfl) ?_
      refine s_pass 19 (by kernel_rfl) (by kernel_rfl) ?_
      refine s_pass 20 (by kernel_rfl) (by kernel_rfl) ?_
      refine s_pure 21 (.bool false) (by kernel_rfl) (by kernel_rfl) (fun _ => by kernel_rfl) ?_
      refine s_pure 22 (.bool false) (by kernel_rfl) (by kernel_rfl) (fun _ => by kernel_rfl) ?_
      refine s_pass 23 (by kernel_rfl) (by kernel_rfl) ?_
      refine s_pass 24 (by kernel_rfl) (by kernel_rfl) ?_
      refine s_pass 25 (by kernel_rfl) (by kernel_rfl) ?_
      refine s_pure 26 (.bool false) (by kernel_rfl) (by kernel_rfl) (fun _ => by kernel_rfl) ?_
      refine s_pure 0 (.bool false) (by kernel_rfl) (by kernel_rfl) (fun _ => by kernel_rfl) ?_
      refine ops_end ?_
      refine At.env [(0, .bool false)] ⟨by kernel_rfl, trivial⟩ ?_
      refine at_then_normal ?_
      refine at_ret (by kernel_rfl) ?_
      obtain rfl := someE H
      refine at_backR [.bool false] (Γ) (rs := [.tmp 0]) (by kernel_rfl) (.cons (.tmp (by kernel_rfl)) .nil) (fun w hw => (Sat.less (.drop .here (.drop .here (.drop .here .refl))) hw)) ?_
      exact ⟨rfl, rfl⟩
  · replace H := bifF H h1
    refine s_pure 7 (.bool false) (by kernel_rfl) (by kernel_rfl) (run_eq (v := .bool (decide (y1_1.kind = (1 : Int)))) (fun _ => by kernel_rfl) (congrArg Value.bool h1)) ?_
    refine s_pass 8 (by kernel_rfl) (by kernel_rfl) ?_
    refine s_pass 9 (by kernel_rfl) (by kernel_rfl) ?_
    refine s_pass 10 (by kernel_rfl) (by kernel_rfl) ?_
    refine s_pure 11 (.bool false) (by kernel_rfl) (by kernel_rfl) (fun _ => by kernel_rfl) ?_
    refine s_pure 12 (.bool false) (by kernel_rfl) (by kernel_rfl) (fun _ => by kernel_rfl) ?_
    refine s_pass 13 (by kernel_rfl) (by kernel_rfl) ?_
    refine s_pass 14 (by kernel_rfl) (by kernel_rfl) ?_
    refine s_pass 15 (by kernel_rfl) (by kernel_rfl) ?_
    refine s_pure 16 (.bool false) (by kernel_rfl) (by kernel_rfl) (fun _ => by kernel_rfl) ?_
    refine s_pure 17 (.bool false) (by kernel_rfl) (by kernel_rfl) (fun _ => by kernel_rfl) ?_
    refine s_pass 18 (by kernel_rfl) (by kernel_rfl) ?_
    refine s_pass 19 (by kernel_rfl) (by kernel_rfl) ?_
    refine s_pass 20 (by kernel_rfl) (by kernel_rfl) ?_
    refine s_pure 21 (.bool false) (by kernel_rfl) (by kernel_rfl) (fun _ => by kernel_rfl) ?_
    refine s_pure 22 (.bool false) (by kernel_rfl) (by kernel_rfl) (fun _ => by kernel_rfl) ?_
    refine s_pass 23 (by kernel_rfl) (by kernel_rfl) ?_
    refine s_pass 24 (by kernel_rfl) (by kernel_rfl) ?_
    refine s_pass 25 (by kernel_rfl) (by kernel_rfl) ?_
    refine s_pure 26 (.bool false) (by kernel_rfl) (by kernel_rfl) (fun _ => by kernel_rfl) ?_
    refine s_pure 0 (.bool false) (by kernel_rfl) (by kernel_rfl) (fun _ => by kernel_rfl) ?_
    refine ops_end ?_
    refine At.env [(0, .bool false)] ⟨by kernel_rfl, trivial⟩ ?_
    refine at_then_normal ?_
    refine at_ret (by kernel_rfl) ?_
    obtain rfl := someE H
    refine at_backR [.bool false] (Γ) (rs := [.tmp 0]) (by kernel_rfl) (.cons (.tmp (by kernel_rfl)) .nil) (fun w hw => (Sat.less (.drop .here (.drop .here (.drop .here .refl))) hw)) ?_
    exact ⟨rfl, rfl⟩
end Go.Proofs.Ytpcffplbedbpkaa
