/- Requests to a cache, in the second writing: each function answers what its plain function says. -/
import Derived.Test.YtfndeehlbcbkpaaVcA
import Derived.Test.YtfndeehlbcbkpaaKsA
namespace Go.Proofs.Ytfndeehlbcbkpaa
open Go Go.RowKit
set_option linter.unusedVariables false
set_option linter.unusedSimpArgs false
def ransS (k : Int) : Option (Int) :=
 (bif decide (k = (1 : Int)) then some (7 : Int) else (bif decide (k = (2 : Int)) then (bif decide (k = (2 : Int)) then some (8 : Int) else (bif decide (k = (3 : Int)) then (bif decide (k = (3 : Int)) then some (9 : Int) else some (0 : Int)) else (bif decide (k = (6 : Int)) then some (9 : Int) else some (0 : Int)))) else (bif decide (k = (4 : Int)) then (bif decide (k = (4 : Int)) then some (8 : Int) else (bif decide (k = (3 : Int)) then (bif decide (k = (3 : Int)) then some (9 : Int) else some (0 : Int)) else (bif decide (k = (6 : Int)) then some (9 : Int) else some (0 : Int)))) else (bif decide (k = (5 : Int)) then some (8 : Int) else (bif decide (k = (3 : Int)) then (bif decide (k = (3 : Int)) then some (9 : Int) else some (0 : Int)) else (bif decide (k = (6 : Int)) then some (9 : Int) else some (0 : Int)))))))
noncomputable def C67 (p : List Nat) : Code := codeAt (bodyOf Try.f67) p
set_option maxRecDepth 100000 in
set_option maxHeartbeats 8000000 in
theorem RAnsF_tr {W0 : World} {Γ : List Asn} (k : Int)  (y : Int) (H : ransS k = some y) : Tr Try.prog 67 #[.int .i64 k] W0 (Γ) (fun r Δ => r = .int .i64 y ∧ Δ = Γ) := by
 unfold ransS at H
 refine Tr.enter (fn := Try.f67) (c := C67 []) (args := [.int .i64 k]) 13 Try.func67 (by kernel_rfl) (by kernel_rfl) ?_
 refine ae [(0, .int .i64 k)] ?_
 refine aq (x := C67 [0]) (y := C67 [1]) ?_
 refine ar (id := 0) 1 ?_
 refine sp 2 (.int .i64 (0)) ?_
 refine ops_end ?_
 refine ae [(0, .int .i64 k)] ?_
 refine at_then_normal ?_
 refine aq (x := C67 [1,0]) (y := C67 [1,1]) ?_
 refine aq (x := C67 [1,0,0]) (y := C67 [1,0,1]) ?_
 refine ar (id := 1) 1 ?_
 refine sp 3 (.int .i64 k) ?_
 refine ops_end ?_
 refine ae [(3, .int .i64 k)] ?_
 refine at_then_normal ?_
 refine at_block (i := 0) (x := C67 [1,0,1,0]) (by kernel_rfl) ?_
 refine aq (x := C67 [1,0,1,0,0]) (y := C67 [1,0,1,0,1]) ?_
 refine ar (id := 2) 2 ?_
 refine sp 5 (.bool (decide (k = (1 : Int)))) ?_
 refine sp 4 (.bool (decide (k = (1 : Int)))) ?_
 refine ops_end ?_
 refine ae [(3, .int .i64 k), (4, .bool (decide (k = (1 : Int))))] ?_
 refine at_then_normal ?_
 rcases Bool.eq_false_or_eq_true (decide (k = (1 : Int))) with h1 | h1
 ·replace H := bifT H h1
  refine at_true (t := decide (k = (1 : Int))) (x := C67 [1,0,1,0,1,0]) (y := C67 [1,0,1,0,1,1]) (o := .tmp 4) (by kernel_rfl) (by kernel_rfl) (by kernel_rfl) h1 ?_
  refine aq (x := C67 [1,0,1,0,1,0,0]) (y := C67 [1,0,1,0,1,0,1]) ?_
  refine ar (id := 3) 1 ?_
  refine sp 2 (.int .i64 (7)) ?_
  refine ops_end ?_
  refine ae [(2, .int .i64 (7))] ?_
  refine at_then_normal ?_
  refine at_ret (by kernel_rfl) ?_
  refine at_in_ret ?_
  refine at_then_ret ?_
  obtain rfl := someE H
  refine at_backR [.int .i64 (7)] (Γ) (rs := [.tmp 2]) (by kernel_rfl) (.cons (.tmp (by kernel_rfl)) .nil) (fun w hw => (Sat.less .refl hw)) ?_
  exact ⟨rfl, rfl⟩
 ·replace H := bifF H h1
  refine at_false (t := decide (k = (1 : Int))) (x := C67 [1,0,1,0,1,0]) (y := C67 [1,0,1,0,1,1]) (o := .tmp 4) (by kernel_rfl) (by kernel_rfl) (by kernel_rfl) h1 ?_
  refine aq (x := C67 [1,0,1,0,1,1,0]) (y := C67 [1,0,1,0,1,1,1]) ?_
  refine aq (x := C67 [1,0,1,0,1,1,0,0]) (y := C67 [1,0,1,0,1,1,0,1]) ?_
  refine ar (id := 4) 2 ?_
  refine sp 7 (.bool (decide (k = (2 : Int)))) ?_
  refine sp 6 (.bool (decide (k = (2 : Int)))) ?_
  refine ops_end ?_
  refine ae [(3, .int .i64 k), (6, .bool (decide (k = (2 : Int))))] ?_
  refine at_then_normal ?_
  rcases Bool.eq_false_or_eq_true (decide (k = (2 : Int))) with h2 | h2
  ·replace H := bifT H h2
   refine at_true (t := decide (k = (2 : Int))) (x := C67 [1,0,1,0,1,1,0,1,0]) (y := C67 [1,0,1,0,1,1,0,1,1]) (o := .tmp 6) (by kernel_rfl) (by kernel_rfl) (by kernel_rfl) h2 ?_
   refine at_skip (by kernel_rfl) ?_
   refine at_then_normal ?_
   rcases Bool.eq_false_or_eq_true (decide (k = (2 : Int))) with h3 | h3
   ·replace H := bifT H h3
    refine at_true (t := decide (k = (2 : Int))) (x := C67 [1,0,1,0,1,1,1,0]) (y := C67 [1,0,1,0,1,1,1,1]) (o := .tmp 6) (by kernel_rfl) (by kernel_rfl) (by kernel_rfl) h3 ?_
    refine aq (x := C67 [1,0,1,0,1,1,1,0,0]) (y := C67 [1,0,1,0,1,1,1,0,1]) ?_
    refine ar (id := 7) 1 ?_
    refine sp 2 (.int .i64 (8)) ?_
    refine ops_end ?_
    refine ae [(2, .int .i64 (8))] ?_
    refine at_then_normal ?_
    refine at_ret (by kernel_rfl) ?_
    refine at_in_ret ?_
    refine at_then_ret ?_
    obtain rfl := someE H
    refine at_backR [.int .i64 (8)] (Γ) (rs := [.tmp 2]) (by kernel_rfl) (.cons (.tmp (by kernel_rfl)) .nil) (fun w hw => (Sat.less .refl hw)) ?_
    exact ⟨rfl, rfl⟩
   ·replace H := bifF H h3
    refine at_false (t := decide (k = (2 : Int))) (x := C67 [1,0,1,0,1,1,1,0]) (y := C67 [1,0,1,0,1,1,1,1]) (o := .tmp 6) (by kernel_rfl) (by kernel_rfl) (by kernel_rfl) h3 ?_
    refine aq (x := C67 [1,0,1,0,1,1,1,1,0]) (y := C67 [1,0,1,0,1,1,1,1,1]) ?_
    refine aq (x := C67 [1,0,1,0,1,1,1,1,0,0]) (y := C67 [1,0,1,0,1,1,1,1,0,1]) ?_
    refine ar (id := 8) 2 ?_
    refine sp 11 (.bool (decide (k = (3 : Int)))) ?_
    refine sp 10 (.bool (decide (k = (3 : Int)))) ?_
    refine ops_end ?_
    refine ae [(3, .int .i64 k), (10, .bool (decide (k = (3 : Int))))] ?_
    refine at_then_normal ?_
    rcases Bool.eq_false_or_eq_true (decide (k = (3 : Int))) with h4 | h4
    ·replace H := bifT H h4
     refine at_true (t := decide (k = (3 : Int))) (x := C67 [1,0,1,0,1,1,1,1,0,1,0]) (y := C67 [1,0,1,0,1,1,1,1,0,1,1]) (o := .tmp 10) (by kernel_rfl) (by kernel_rfl) (by kernel_rfl) h4 ?_
     refine at_skip (by kernel_rfl) ?_
     refine at_then_normal ?_
     rcases Bool.eq_false_or_eq_true (decide (k = (3 : Int))) with h5 | h5
     ·replace H := bifT H h5
      refine at_true (t := decide (k = (3 : Int))) (x := C67 [1,0,1,0,1,1,1,1,1,0]) (y := C67 [1,0,1,0,1,1,1,1,1,1]) (o := .tmp 10) (by kernel_rfl) (by kernel_rfl) (by kernel_rfl) h5 ?_
      refine aq (x := C67 [1,0,1,0,1,1,1,1,1,0,0]) (y := C67 [1,0,1,0,1,1,1,1,1,0,1]) ?_
      refine ar (id := 10) 1 ?_
      refine sp 2 (.int .i64 (9)) ?_
      refine ops_end ?_
      refine ae [(2, .int .i64 (9))] ?_
      refine at_then_normal ?_
      refine at_ret (by kernel_rfl) ?_
      refine at_in_ret ?_
      refine at_then_ret ?_
      obtain rfl := someE H
      refine at_backR [.int .i64 (9)] (Γ) (rs := [.tmp 2]) (by kernel_rfl) (.cons (.tmp (by kernel_rfl)) .nil) (fun w hw => (Sat.less .refl hw)) ?_
      exact ⟨rfl, rfl⟩
     ·replace H := bifF H h5
      refine at_false (t := decide (k = (3 : Int))) (x := C67 [1,0,1,0,1,1,1,1,1,0]) (y := C67 [1,0,1,0,1,1,1,1,1,1]) (o := .tmp 10) (by kernel_rfl) (by kernel_rfl) (by kernel_rfl) h5 ?_
      refine at_skip (by kernel_rfl) ?_
      refine at_in_normal ?_
      refine at_then_normal ?_
      refine aq (x := C67 [1,1,0]) (y := C67 [1,1,1]) ?_
      refine ar (id := 11) 1 ?_
      refine sp 2 (.int .i64 (0)) ?_
      refine ops_end ?_
      refine ae [(2, .int .i64 (0))] ?_
      refine at_then_normal ?_
      refine at_ret (by kernel_rfl) ?_
      obtain rfl := someE H
      refine at_backR [.int .i64 (0)] (Γ) (rs := [.tmp 2]) (by kernel_rfl) (.cons (.tmp (by kernel_rfl)) .nil) (fun w hw => (Sat.less .refl hw)) ?_
      exact ⟨rfl, rfl⟩
    ·replace H := bifF H h4
     refine at_false (t := decide (k = (3 : Int))) (x := C67 [1,0,1,0,1,1,1,1,0,1,0]) (y := C67 [1,0,1,0,1,1,1,1,0,1,1]) (o := .tmp 10) (by kernel_rfl) (by kernel_rfl) (by kernel_rfl) h4 ?_
     refine ar (id := 9) 2 ?_
     refine sp 12 (.bool (decide (k = (6 : Int)))) ?_
     refine sp 10 (.bool (decide (k = (6 : Int)))) ?_
     refine ops_end ?_
     refine ae [(10, .bool (decide (k = (6 : Int))))] ?_
     refine at_then_normal ?_
     rcases Bool.eq_false_or_eq_true (decide (k = (6 : Int))) with h6 | h6
     ·replace H := bifT H h6
      refine at_true (t := decide (k = (6 : Int))) (x := C67 [1,0,1,0,1,1,1,1,1,0]) (y := C67 [1,0,1,0,1,1,1,1,1,1]) (o := .tmp 10) (by kernel_rfl) (by kernel_rfl) (by kernel_rfl) h6 ?_
      refine aq (x := C67 [1,0,1,0,1,1,1,1,1,0,0]) (y := C67 [1,0,1,0,1,1,1,1,1,0,1]) ?_
      refine ar (id := 10) 1 ?_
      refine sp 2 (.int .i64 (9)) ?_
      refine ops_end ?_
      refine ae [(2, .int .i64 (9))] ?_
      refine at_then_normal ?_
      refine at_ret (by kernel_rfl) ?_
      refine at_in_ret ?_
      refine at_then_ret ?_
      obtain rfl := someE H
      refine at_backR [.int .i64 (9)] (Γ) (rs := [.tmp 2]) (by kernel_rfl) (.cons (.tmp (by kernel_rfl)) .nil) (fun w hw => (Sat.less .refl hw)) ?_
      exact ⟨rfl, rfl⟩
     ·replace H := bifF H h6
      refine at_false (t := decide (k = (6 : Int))) (x := C67 [1,0,1,0,1,1,1,1,1,0]) (y := C67 [1,0,1,0,1,1,1,1,1,1]) (o := .tmp 10) (by kernel_rfl) (by kernel_rfl) (by kernel_rfl) h6 ?_
      refine at_skip (by kernel_rfl) ?_
      refine at_in_normal ?_
      refine at_then_normal ?_
      refine aq (x := C67 [1,1,0]) (y := C67 [1,1,1]) ?_
      refine ar (id := 11) 1 ?_
      refine sp 2 (.int .i64 (0)) ?_
      refine ops_end ?_
      refine ae [(2, .int .i64 (0))] ?_
      refine at_then_normal ?_
      refine at_ret (by kernel_rfl) ?_
      obtain rfl := someE H
      refine at_backR [.int .i64 (0)] (Γ) (rs := [.tmp 2]) (by kernel_rfl) (.cons (.tmp (by kernel_rfl)) .nil) (fun w hw => (Sat.less .refl hw)) ?_
      exact ⟨rfl, rfl⟩
  ·replace H := bifF H h2
   refine at_false (t := decide (k = (2 : Int))) (x := C67 [1,0,1,0,1,1,0,1,0]) (y := C67 [1,0,1,0,1,1,0,1,1]) (o := .tmp 6) (by kernel_rfl) (by kernel_rfl) (by kernel_rfl) h2 ?_
   refine aq (x := C67 [1,0,1,0,1,1,0,1,1,0]) (y := C67 [1,0,1,0,1,1,0,1,1,1]) ?_
   refine ar (id := 5) 2 ?_
   refine sp 8 (.bool (decide (k = (4 : Int)))) ?_
   refine sp 6 (.bool (decide (k = (4 : Int)))) ?_
   refine ops_end ?_
   refine ae [(3, .int .i64 k), (6, .bool (decide (k = (4 : Int))))] ?_
   refine at_then_normal ?_
   rcases Bool.eq_false_or_eq_true (decide (k = (4 : Int))) with h7 | h7
   ·replace H := bifT H h7
    refine at_true (t := decide (k = (4 : Int))) (x := C67 [1,0,1,0,1,1,0,1,1,1,0]) (y := C67 [1,0,1,0,1,1,0,1,1,1,1]) (o := .tmp 6) (by kernel_rfl) (by kernel_rfl) (by kernel_rfl) h7 ?_
    refine at_skip (by kernel_rfl) ?_
    refine at_then_normal ?_
    rcases Bool.eq_false_or_eq_true (decide (k = (4 : Int))) with h8 | h8
    ·replace H := bifT H h8
     refine at_true (t := decide (k = (4 : Int))) (x := C67 [1,0,1,0,1,1,1,0]) (y := C67 [1,0,1,0,1,1,1,1]) (o := .tmp 6) (by kernel_rfl) (by kernel_rfl) (by kernel_rfl) h8 ?_
     refine aq (x := C67 [1,0,1,0,1,1,1,0,0]) (y := C67 [1,0,1,0,1,1,1,0,1]) ?_
     refine ar (id := 7) 1 ?_
     refine sp 2 (.int .i64 (8)) ?_
     refine ops_end ?_
     refine ae [(2, .int .i64 (8))] ?_
     refine at_then_normal ?_
     refine at_ret (by kernel_rfl) ?_
     refine at_in_ret ?_
     refine at_then_ret ?_
     obtain rfl := someE H
     refine at_backR [.int .i64 (8)] (Γ) (rs := [.tmp 2]) (by kernel_rfl) (.cons (.tmp (by kernel_rfl)) .nil) (fun w hw => (Sat.less .refl hw)) ?_
     exact ⟨rfl, rfl⟩
    ·replace H := bifF H h8
     refine at_false (t := decide (k = (4 : Int))) (x := C67 [1,0,1,0,1,1,1,0]) (y := C67 [1,0,1,0,1,1,1,1]) (o := .tmp 6) (by kernel_rfl) (by kernel_rfl) (by kernel_rfl) h8 ?_
     refine aq (x := C67 [1,0,1,0,1,1,1,1,0]) (y := C67 [1,0,1,0,1,1,1,1,1]) ?_
     refine aq (x := C67 [1,0,1,0,1,1,1,1,0,0]) (y := C67 [1,0,1,0,1,1,1,1,0,1]) ?_
     refine ar (id := 8) 2 ?_
     refine sp 11 (.bool (decide (k = (3 : Int)))) ?_
     refine sp 10 (.bool (decide (k = (3 : Int)))) ?_
     refine ops_end ?_
     refine ae [(3, .int .i64 k), (10, .bool (decide (k = (3 : Int))))] ?_
     refine at_then_normal ?_
     rcases Bool.eq_false_or_eq_true (decide (k = (3 : Int))) with h9 | h9
     ·replace H := bifT H h9
      refine at_true (t := decide (k = (3 : Int))) (x := C67 [1,0,1,0,1,1,1,1,0,1,0]) (y := C67 [1,0,1,0,1,1,1,1,0,1,1]) (o := .tmp 10) (by kernel_rfl) (by kernel_rfl) (by kernel_rfl) h9 ?_
      refine at_skip (by kernel_rfl) ?_
      refine at_then_normal ?_
      rcases Bool.eq_false_or_eq_true (decide (k = (3 : Int))) with h10 | h10
      ·replace H := bifT H h10
       refine at_true (t := decide (k = (3 : Int))) (x := C67 [1,0,1,0,1,1,1,1,1,0]) (y := C67 [1,0,1,0,1,1,1,1,1,1]) (o := .tmp 10) (by kernel_rfl) (by kernel_rfl) (by kernel_rfl) h10 ?_
       refine aq (x := C67 [1,0,1,0,1,1,1,1,1,0,0]) (y := C67 [1,0,1,0,1,1,1,1,1,0,1]) ?_
       refine ar (id := 10) 1 ?_
       refine sp 2 (.int .i64 (9)) ?_
       refine ops_end ?_
       refine ae [(2, .int .i64 (9))] ?_
       refine at_then_normal ?_
       refine at_ret (by kernel_rfl) ?_
       refine at_in_ret ?_
       refine at_then_ret ?_
       obtain rfl := someE H
       refine at_backR [.int .i64 (9)] (Γ) (rs := [.tmp 2]) (by kernel_rfl) (.cons (.tmp (by kernel_rfl)) .nil) (fun w hw => (Sat.less .refl hw)) ?_
       exact ⟨rfl, rfl⟩
      ·replace H := bifF H h10
       refine at_false (t := decide (k = (3 : Int))) (x := C67 [1,0,1,0,1,1,1,1,1,0]) (y := C67 [1,0,1,0,1,1,1,1,1,1]) (o := .tmp 10) (by kernel_rfl) (by kernel_rfl) (by kernel_rfl) h10 ?_
       refine at_skip (by kernel_rfl) ?_
       refine at_in_normal ?_
       refine at_then_normal ?_
       refine aq (x := C67 [1,1,0]) (y := C67 [1,1,1]) ?_
       refine ar (id := 11) 1 ?_
       refine sp 2 (.int .i64 (0)) ?_
       refine ops_end ?_
       refine ae [(2, .int .i64 (0))] ?_
       refine at_then_normal ?_
       refine at_ret (by kernel_rfl) ?_
       obtain rfl := someE H
       refine at_backR [.int .i64 (0)] (Γ) (rs := [.tmp 2]) (by kernel_rfl) (.cons (.tmp (by kernel_rfl)) .nil) (fun w hw => (Sat.less .refl hw)) ?_
       exact ⟨rfl, rfl⟩
     ·replace H := bifF H h9
      refine at_false (t := decide (k = (3 : Int))) (x := C67 [1,0,1,0,1,1,1,1,0,1,0]) (y := C67 [1,0,1,0,1,1,1,1,0,1,1]) (o := .tmp 10) (by kernel_rfl) (by kernel_rfl) (by kernel_rfl) h9 ?_
      refine ar (id := 9) 2 ?_
      refine sp 12 (.bool (decide (k = (6 : Int)))) ?_
      refine sp 10 (.bool (decide (k = (6 : Int)))) ?_
      refine ops_end ?_
      refine ae [(10, .bool (decide (k = (6 : Int))))] ?_
      refine at_then_normal ?_
      rcases Bool.eq_false_or_eq_true (decide (k = (6 : Int))) with h11 | h11
      ·replace H := bifT H h11
       refine at_true (t := decide (k = (6 : Int))) (x := C67 [1,0,1,0,1,1,1,1,1,0]) (y := C67 [1,0,1,0,1,1,1,1,1,1]) (o := .tmp 10) (by kernel_rfl) (by kernel_rfl) (by kernel_rfl) h11 ?_
       refine aq (x := C67 [1,0,1,0,1,1,1,1,1,0,0]) (y := C67 [1,0,1,0,1,1,1,1,1,0,1]) ?_
       refine ar (id := 10) 1 ?_
       refine sp 2 (.int .i64 (9)) ?_
       refine ops_end ?_
       refine ae [(2, .int .i64 (9))] ?_
       refine at_then_normal ?_
       refine at_ret (by kernel_rfl) ?_
       refine at_in_ret ?_
       refine at_then_ret ?_
       obtain rfl := someE H
       refine at_backR [.int .i64 (9)] (Γ) (rs := [.tmp 2]) (by kernel_rfl) (.cons (.tmp (by kernel_rfl)) .nil) (fun w hw => (Sat.less .refl hw)) ?_
       exact ⟨rfl, rfl⟩
      ·replace H := bifF H h11
       refine at_false (t := decide (k = (6 : Int))) (x := C67 [1,0,1,0,1,1,1,1,1,0]) (y := C67 [1,0,1,0,1,1,1,1,1,1]) (o := .tmp 10) (by kernel_rfl) (by kernel_rfl) (by kernel_rfl) h11 ?_
       refine at_skip (by kernel_rfl) ?_
       refine at_in_normal ?_
       refine at_then_normal ?_
       refine aq (x := C67 [1,1,0]) (y := C67 [1,1,1]) ?_
       refine ar (id := 11) 1 ?_
       refine sp 2 (.int .i64 (0)) ?_
       refine ops_end ?_
       refine ae [(2, .int .i64 (0))] ?_
       refine at_then_normal ?_
       refine at_ret (by kernel_rfl) ?_
       obtain rfl := someE H
       refine at_backR [.int .i64 (0)] (Γ) (rs := [.tmp 2]) (by kernel_rfl) (.cons (.tmp (by kernel_rfl)) .nil) (fun w hw => (Sat.less .refl hw)) ?_
       exact ⟨rfl, rfl⟩
   ·replace H := bifF H h7
    refine at_false (t := decide (k = (4 : Int))) (x := C67 [1,0,1,0,1,1,0,1,1,1,0]) (y := C67 [1,0,1,0,1,1,0,1,1,1,1]) (o := .tmp 6) (by kernel_rfl) (by kernel_rfl) (by kernel_rfl) h7 ?_
    refine ar (id := 6) 2 ?_
    refine sp 9 (.bool (decide (k = (5 : Int)))) ?_
    refine sp 6 (.bool (decide (k = (5 : Int)))) ?_
    refine ops_end ?_
    refine ae [(3, .int .i64 k), (6, .bool (decide (k = (5 : Int))))] ?_
    refine at_then_normal ?_
    rcases Bool.eq_false_or_eq_true (decide (k = (5 : Int))) with h12 | h12
    ·replace H := bifT H h12
     refine at_true (t := decide (k = (5 : Int))) (x := C67 [1,0,1,0,1,1,1,0]) (y := C67 [1,0,1,0,1,1,1,1]) (o := .tmp 6) (by kernel_rfl) (by kernel_rfl) (by kernel_rfl) h12 ?_
     refine aq (x := C67 [1,0,1,0,1,1,1,0,0]) (y := C67 [1,0,1,0,1,1,1,0,1]) ?_
     refine ar (id := 7) 1 ?_
     refine sp 2 (.int .i64 (8)) ?_
     refine ops_end ?_
     refine ae [(2, .int .i64 (8))] ?_
     refine at_then_normal ?_
     refine at_ret (by kernel_rfl) ?_
     refine at_in_ret ?_
     refine at_then_ret ?_
     obtain rfl := someE H
     refine at_backR [.int .i64 (8)] (Γ) (rs := [.tmp 2]) (by kernel_rfl) (.cons (.tmp (by kernel_rfl)) .nil) (fun w hw => (Sat.less .refl hw)) ?_
     exact ⟨rfl, rfl⟩
    ·replace H := bifF H h12
     refine at_false (t := decide (k = (5 : Int))) (x := C67 [1,0,1,0,1,1,1,0]) (y := C67 [1,0,1,0,1,1,1,1]) (o := .tmp 6) (by kernel_rfl) (by kernel_rfl) (by kernel_rfl) h12 ?_
     refine aq (x := C67 [1,0,1,0,1,1,1,1,0]) (y := C67 [1,0,1,0,1,1,1,1,1]) ?_
     refine aq (x := C67 [1,0,1,0,1,1,1,1,0,0]) (y := C67 [1,0,1,0,1,1,1,1,0,1]) ?_
     refine ar (id := 8) 2 ?_
     refine sp 11 (.bool (decide (k = (3 : Int)))) ?_
     refine sp 10 (.bool (decide (k = (3 : Int)))) ?_
     refine ops_end ?_
     refine ae [(3, .int .i64 k), (10, .bool (decide (k = (3 : Int))))] ?_
     refine at_then_normal ?_
     rcases Bool.eq_false_or_eq_true (decide (k = (3 : Int))) with h13 | h13
     ·replace H := bifT H h13
      refine at_true (t := decide (k = (3 : Int))) (x := C67 [1,0,1,0,1,1,1,1,0,1,0]) (y := C67 [1,0,1,0,1,1,1,1,0,1,1]) (o := .tmp 10) (by kernel_rfl) (by kernel_rfl) (by kernel_rfl) h13 ?_
      refine at_skip (by kernel_rfl) ?_
      refine at_then_normal ?_
      rcases Bool.eq_false_or_eq_true (decide (k = (3 : Int))) with h14 | h14
      ·replace H := bifT H h14
       refine at_true (t := decide (k = (3 : Int))) (x := C67 [1,0,1,0,1,1,1,1,1,0]) (y := C67 [1,0,1,0,1,1,1,1,1,1]) (o := .tmp 10) (by kernel_rfl) (by kernel_rfl) (by kernel_rfl) h14 ?_
       refine aq (x := C67 [1,0,1,0,1,1,1,1,1,0,0]) (y := C67 [1,0,1,0,1,1,1,1,1,0,1]) ?_
       refine ar (id := 10) 1 ?_
       refine sp 2 (.int .i64 (9)) ?_
       refine ops_end ?_
       refine ae [(2, .int .i64 (9))] ?_
       refine at_then_normal ?_
       refine at_ret (by kernel_rfl) ?_
       refine at_in_ret ?_
       refine at_then_ret ?_
       obtain rfl := someE H
       refine at_backR [.int .i64 (9)] (Γ) (rs := [.tmp 2]) (by kernel_rfl) (.cons (.tmp (by kernel_rfl)) .nil) (fun w hw => (Sat.less .refl hw)) ?_
       exact ⟨rfl, rfl⟩
      ·replace H := bifF H h14
       refine at_false (t := decide (k = (3 : Int))) (x := C67 [1,0,1,0,1,1,1,1,1,0]) (y := C67 [1,0,1,0,1,1,1,1,1,1]) (o := .tmp 10) (by kernel_rfl) (by kernel_rfl) (by kernel_rfl) h14 ?_
       refine at_skip (by kernel_rfl) ?_
       refine at_in_normal ?_
       refine at_then_normal ?_
       refine aq (x := C67 [1,1,0]) (y := C67 [1,1,1]) ?_
       refine ar (id := 11) 1 ?_
       refine sp 2 (.int .i64 (0)) ?_
       refine ops_end ?_
       refine ae [(2, .int .i64 (0))] ?_
       refine at_then_normal ?_
       refine at_ret (by kernel_rfl) ?_
       obtain rfl := someE H
       refine at_backR [.int .i64 (0)] (Γ) (rs := [.tmp 2]) (by kernel_rfl) (.cons (.tmp (by kernel_rfl)) .nil) (fun w hw => (Sat.less .refl hw)) ?_
       exact ⟨rfl, rfl⟩
     ·replace H := bifF H h13
      refine at_false (t := decide (k = (3 : Int))) (x := C67 [1,0,1,0,1,1,1,1,0,1,0]) (y := C67 [1,0,1,0,1,1,1,1,0,1,1]) (o := .tmp 10) (by kernel_rfl) (by kernel_rfl) (by kernel_rfl) h13 ?_
      refine ar (id := 9) 2 ?_
      refine sp 12 (.bool (decide (k = (6 : Int)))) ?_
      refine sp 10 (.bool (decide (k = (6 : Int)))) ?_
      refine ops_end ?_
      refine ae [(10, .bool (decide (k = (6 : Int))))] ?_
      refine at_then_normal ?_
      rcases Bool.eq_false_or_eq_true (decide (k = (6 : Int))) with h15 | h15
      ·replace H := bifT H h15
       refine at_true (t := decide (k = (6 : Int))) (x := C67 [1,0,1,0,1,1,1,1,1,0]) (y := C67 [1,0,1,0,1,1,1,1,1,1]) (o := .tmp 10) (by kernel_rfl) (by kernel_rfl) (by kernel_rfl) h15 ?_
       refine aq (x := C67 [1,0,1,0,1,1,1,1,1,0,0]) (y := C67 [1,0,1,0,1,1,1,1,1,0,1]) ?_
       refine ar (id := 10) 1 ?_
       refine sp 2 (.int .i64 (9)) ?_
       refine ops_end ?_
       refine ae [(2, .int .i64 (9))] ?_
       refine at_then_normal ?_
       refine at_ret (by kernel_rfl) ?_
       refine at_in_ret ?_
       refine at_then_ret ?_
       obtain rfl := someE H
       refine at_backR [.int .i64 (9)] (Γ) (rs := [.tmp 2]) (by kernel_rfl) (.cons (.tmp (by kernel_rfl)) .nil) (fun w hw => (Sat.less .refl hw)) ?_
       exact ⟨rfl, rfl⟩
      ·replace H := bifF H h15
       refine at_false (t := decide (k = (6 : Int))) (x := C67 [1,0,1,0,1,1,1,1,1,0]) (y := C67 [1,0,1,0,1,1,1,1,1,1]) (o := .tmp 10) (by kernel_rfl) (by kernel_rfl) (by kernel_rfl) h15 ?_
       refine at_skip (by kernel_rfl) ?_
       refine at_in_normal ?_
       refine at_then_normal ?_
       refine aq (x := C67 [1,1,0]) (y := C67 [1,1,1]) ?_
       refine ar (id := 11) 1 ?_
       refine sp 2 (.int .i64 (0)) ?_
       refine ops_end ?_
       refine ae [(2, .int .i64 (0))] ?_
       refine at_then_normal ?_
       refine at_ret (by kernel_rfl) ?_
       obtain rfl := someE H
       refine at_backR [.int .i64 (0)] (Γ) (rs := [.tmp 2]) (by kernel_rfl) (.cons (.tmp (by kernel_rfl)) .nil) (fun w hw => (Sat.less .refl hw)) ?_
       exact ⟨rfl, rfl⟩
end Go.Proofs.Ytfndeehlbcbkpaa
