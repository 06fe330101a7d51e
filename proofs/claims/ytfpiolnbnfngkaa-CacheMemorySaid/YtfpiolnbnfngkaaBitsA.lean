/- How many bits a small number has. -/
import Derived.Test.YtfpiolnbnfngkaaOwnA
namespace Go.Proofs.Ytfpiolnbnfngkaa
open Go Go.RowKit
set_option linter.unusedVariables false
set_option linter.unusedSimpArgs false
def len64_0 : Option (Int) :=
  some (0 : Int)
noncomputable def C80 (p : List Nat) : Code := codeAt (bodyOf Try.f80) p
set_option maxRecDepth 100000 in
set_option maxHeartbeats 8000000 in
theorem Len64_0_tr {W0 : World} {Γ : List Asn}   (y : Int) (H : len64_0 = some y) : Tr Try.prog 80 #[.int .u64 (0)] W0 (Γ) (fun r Δ => r = .int .i64 y ∧ Δ = Γ) := by
  unfold len64_0 at H
  refine Tr.enter (fn := Try.f80) (c := C80 []) (args := [.int .u64 (0)]) 25 Try.func80 (by kernel_rfl) (by kernel_rfl) ?_
  refine At.env [(0, .int .u64 (0))] ⟨by kernel_rfl, trivial⟩ ?_
  refine at_seq (x := C80 [0]) (y := C80 [1]) (by kernel_rfl) ?_
  refine at_region (id := 0) 1 (by kernel_rfl) (by kernel_rfl) ?_
  refine s_pure 2 (.int .i64 (0)) (by kernel_rfl) (by kernel_rfl) (fun _ => by kernel_rfl) ?_
  refine ops_end ?_
  refine At.env [(0, .int .u64 (0)), (2, .int .i64 (0))] ⟨by kernel_rfl, by kernel_rfl, trivial⟩ ?_
  refine at_then_normal ?_
  refine at_seq (x := C80 [1, 0]) (y := C80 [1, 1]) (by kernel_rfl) ?_
  refine at_seq (x := C80 [1, 0, 0]) (y := C80 [1, 0, 1]) (by kernel_rfl) ?_
  refine at_region (id := 1) 2 (by kernel_rfl) (by kernel_rfl) ?_
  refine s_pure 3 (.int .u64 (0)) (by kernel_rfl) (by kernel_rfl) (fun _ => by kernel_rfl) ?_
  refine s_pure 4 (.bool false) (by kernel_rfl) (by kernel_rfl) (fun _ => by kernel_rfl) ?_
  refine ops_end ?_
  refine At.env [(0, .int .u64 (0)), (2, .int .i64 (0)), (4, .bool false)] ⟨by kernel_rfl, by kernel_rfl, by kernel_rfl, trivial⟩ ?_
  refine at_then_normal ?_
  refine at_false (t := false) (x := C80 [1, 0, 1, 0]) (y := C80 [1, 0, 1, 1]) (o := .tmp 4) (by kernel_rfl) (by kernel_rfl) (by kernel_rfl) rfl ?_
  refine at_skip (by kernel_rfl) ?_
  refine at_then_normal ?_
  refine at_seq (x := C80 [1, 1, 0]) (y := C80 [1, 1, 1]) (by kernel_rfl) ?_
  refine at_seq (x := C80 [1, 1, 0, 0]) (y := C80 [1, 1, 0, 1]) (by kernel_rfl) ?_
  refine at_region (id := 4) 2 (by kernel_rfl) (by kernel_rfl) ?_
  refine s_pure 7 (.int .u64 (0)) (by kernel_rfl) (by kernel_rfl) (fun _ => by kernel_rfl) ?_
  refine s_pure 8 (.bool false) (by kernel_rfl) (by kernel_rfl) (fun _ => by kernel_rfl) ?_
  refine ops_end ?_
  refine At.env [(0, .int .u64 (0)), (2, .int .i64 (0)), (4, .bool false), (8, .bool false)] ⟨by kernel_rfl, by kernel_rfl, by kernel_rfl, by kernel_rfl, trivial⟩ ?_
  refine at_then_normal ?_
  refine at_false (t := false) (x := C80 [1, 1, 0, 1, 0]) (y := C80 [1, 1, 0, 1, 1]) (o := .tmp 8) (by kernel_rfl) (by kernel_rfl) (by kernel_rfl) rfl ?_
  refine at_skip (by kernel_rfl) ?_
  refine at_then_normal ?_
  refine at_seq (x := C80 [1, 1, 1, 0]) (y := C80 [1, 1, 1, 1]) (by kernel_rfl) ?_
  refine at_seq (x := C80 [1, 1, 1, 0, 0]) (y := C80 [1, 1, 1, 0, 1]) (by kernel_rfl) ?_
  refine at_region (id := 7) 2 (by kernel_rfl) (by kernel_rfl) ?_
  refine s_pure 13 (.int .u64 (0)) (by kernel_rfl) (by kernel_rfl) (fun _ => by kernel_rfl) ?_
  refine s_pure 14 (.bool false) (by kernel_rfl) (by kernel_rfl) (fun _ => by kernel_rfl) ?_
  refine ops_end ?_
  refine At.env [(0, .int .u64 (0)), (2, .int .i64 (0)), (4, .bool false), (8, .bool false), (14, .bool false)] ⟨by kernel_rfl, by kernel_rfl, by kernel_rfl, by kernel_rfl, by kernel_rfl, trivial⟩ ?_
  refine at_then_normal ?_
  refine at_false (t := false) (x := C80 [1, 1, 1, 0, 1, 0]) (y := C80 [1, 1, 1, 0, 1, 1]) (o := .tmp 14) (by kernel_rfl) (by kernel_rfl) (by kernel_rfl) rfl ?_
  refine at_skip (by kernel_rfl) ?_
  refine at_then_normal ?_
  refine at_seq (x := C80 [1, 1, 1, 1, 0]) (y := C80 [1, 1, 1, 1, 1]) (by kernel_rfl) ?_
  refine at_region (id := 10) 7 (by kernel_rfl) (by kernel_rfl) ?_
  refine s_pure 19 (.int .i64 (0)) (by kernel_rfl) (by kernel_rfl) (fun _ => by kernel_rfl) ?_
  refine s_pure 20 (.int .u64 (0)) (by kernel_rfl) (by kernel_rfl) (fun _ => by kernel_rfl) ?_
  refine s_pure 21 (.int .u8 (0)) (by kernel_rfl) (by kernel_rfl) (fun _ => by kernel_rfl) ?_
  refine s_pure 22 (.int .u8 (0)) (by kernel_rfl) (by kernel_rfl) (fun _ => by kernel_rfl) ?_
  refine s_pure 23 (.int .i64 (0)) (by kernel_rfl) (by kernel_rfl) (fun _ => by kernel_rfl) ?_
  refine s_pure 24 (.int .i64 (0)) (by kernel_rfl) (by kernel_rfl) (fun _ => by kernel_rfl) ?_
  refine s_pure 2 (.int .i64 (0)) (by kernel_rfl) (by kernel_rfl) (fun _ => by kernel_rfl) ?_
  refine ops_end ?_
  refine At.env [(0, .int .u64 (0)), (2, .int .i64 (0)), (4, .bool false), (8, .bool false), (14, .bool false)] ⟨by kernel_rfl, by kernel_rfl, by kernel_rfl, by kernel_rfl, by kernel_rfl, trivial⟩ ?_
  refine at_then_normal ?_
  refine at_ret (by kernel_rfl) ?_
  obtain rfl := someE H
  refine at_backR [.int .i64 (0)] (Γ) (rs := [.tmp 2]) (by kernel_rfl) (.cons (.tmp (by kernel_rfl)) .nil) (fun w hw => (Sat.less .refl hw)) ?_
  exact ⟨rfl, rfl⟩
def len64_1 : Option (Int) :=
  some (1 : Int)
set_option maxRecDepth 100000 in
set_option maxHeartbeats 8000000 in
theorem Len64_1_tr {W0 : World} {Γ : List Asn}   (y : Int) (H : len64_1 = some y) : Tr Try.prog 80 #[.int .u64 (1)] W0 (Γ) (fun r Δ => r = .int .i64 y ∧ Δ = Γ) := by
  unfold len64_1 at H
  refine Tr.enter (fn := Try.f80) (c := C80 []) (args := [.int .u64 (1)]) 25 Try.func80 (by kernel_rfl) (by kernel_rfl) ?_
  refine At.env [(0, .int .u64 (1))] ⟨by kernel_rfl, trivial⟩ ?_
  refine at_seq (x := C80 [0]) (y := C80 [1]) (by kernel_rfl) ?_
  refine at_region (id := 0) 1 (by kernel_rfl) (by kernel_rfl) ?_
  refine s_pure 2 (.int .i64 (0)) (by kernel_rfl) (by kernel_rfl) (fun _ => by kernel_rfl) ?_
  refine ops_end ?_
  refine At.env [(0, .int .u64 (1)), (2, .int .i64 (0))] ⟨by kernel_rfl, by kernel_rfl, trivial⟩ ?_
  refine at_then_normal ?_
  refine at_seq (x := C80 [1, 0]) (y := C80 [1, 1]) (by kernel_rfl) ?_
  refine at_seq (x := C80 [1, 0, 0]) (y := C80 [1, 0, 1]) (by kernel_rfl) ?_
  refine at_region (id := 1) 2 (by kernel_rfl) (by kernel_rfl) ?_
  refine s_pure 3 (.int .u64 (1)) (by kernel_rfl) (by kernel_rfl) (fun _ => by kernel_rfl) ?_
  refine s_pure 4 (.bool false) (by kernel_rfl) (by kernel_rfl) (fun _ => by kernel_rfl) ?_
  refine ops_end ?_
  refine At.env [(0, .int .u64 (1)), (2, .int .i64 (0)), (4, .bool false)] ⟨by kernel_rfl, by kernel_rfl, by kernel_rfl, trivial⟩ ?_
  refine at_then_normal ?_
  refine at_false (t := false) (x := C80 [1, 0, 1, 0]) (y := C80 [1, 0, 1, 1]) (o := .tmp 4) (by kernel_rfl) (by kernel_rfl) (by kernel_rfl) rfl ?_
  refine at_skip (by kernel_rfl) ?_
  refine at_then_normal ?_
  refine at_seq (x := C80 [1, 1, 0]) (y := C80 [1, 1, 1]) (by kernel_rfl) ?_
  refine at_seq (x := C80 [1, 1, 0, 0]) (y := C80 [1, 1, 0, 1]) (by kernel_rfl) ?_
  refine at_region (id := 4) 2 (by kernel_rfl) (by kernel_rfl) ?_
  refine s_pure 7 (.int .u64 (1)) (by kernel_rfl) (by kernel_rfl) (fun _ => by kernel_rfl) ?_
  refine s_pure 8 (.bool false) (by kernel_rfl) (by kernel_rfl) (fun _ => by kernel_rfl) ?_
  refine ops_end ?_
  refine At.env [(0, .int .u64 (1)), (2, .int .i64 (0)), (4, .bool false), (8, .bool false)] ⟨by kernel_rfl, by kernel_rfl, by kernel_rfl, by kernel_rfl, trivial⟩ ?_
  refine at_then_normal ?_
  refine at_false (t := false) (x := C80 [1, 1, 0, 1, 0]) (y := C80 [1, 1, 0, 1, 1]) (o := .tmp 8) (by kernel_rfl) (by kernel_rfl) (by kernel_rfl) rfl ?_
  refine at_skip (by kernel_rfl) ?_
  refine at_then_normal ?_
  refine at_seq (x := C80 [1, 1, 1, 0]) (y := C80 [1, 1, 1, 1]) (by kernel_rfl) ?_
  refine at_seq (x := C80 [1, 1, 1, 0, 0]) (y := C80 [1, 1, 1, 0, 1]) (by kernel_rfl) ?_
  refine at_region (id := 7) 2 (by kernel_rfl) (by kernel_rfl) ?_
  refine s_pure 13 (.int .u64 (1)) (by kernel_rfl) (by kernel_rfl) (fun _ => by kernel_rfl) ?_
  refine s_pure 14 (.bool false) (by kernel_rfl) (by kernel_rfl) (fun _ => by kernel_rfl) ?_
  refine ops_end ?_
  refine At.env [(0, .int .u64 (1)), (2, .int .i64 (0)), (4, .bool false), (8, .bool false), (14, .bool false)] ⟨by kernel_rfl, by kernel_rfl, by kernel_rfl, by kernel_rfl, by kernel_rfl, trivial⟩ ?_
  refine at_then_normal ?_
  refine at_false (t := false) (x := C80 [1, 1, 1, 0, 1, 0]) (y := C80 [1, 1, 1, 0, 1, 1]) (o := .tmp 14) (by kernel_rfl) (by kernel_rfl) (by kernel_rfl) rfl ?_
  refine at_skip (by kernel_rfl) ?_
  refine at_then_normal ?_
  refine at_seq (x := C80 [1, 1, 1, 1, 0]) (y := C80 [1, 1, 1, 1, 1]) (by kernel_rfl) ?_
  refine at_region (id := 10) 7 (by kernel_rfl) (by kernel_rfl) ?_
  refine s_pure 19 (.int .i64 (0)) (by kernel_rfl) (by kernel_rfl) (fun _ => by kernel_rfl) ?_
  refine s_pure 20 (.int .u64 (1)) (by kernel_rfl) (by kernel_rfl) (fun _ => by kernel_rfl) ?_
  refine s_pure 21 (.int .u8 (1)) (by kernel_rfl) (by kernel_rfl) (fun _ => by kernel_rfl) ?_
  refine s_pure 22 (.int .u8 (1)) (by kernel_rfl) (by kernel_rfl) (fun _ => by kernel_rfl) ?_
  refine s_pure 23 (.int .i64 (1)) (by kernel_rfl) (by kernel_rfl) (fun _ => by kernel_rfl) ?_
  refine s_pure 24 (.int .i64 (1)) (by kernel_rfl) (by kernel_rfl) (fun _ => by kernel_rfl) ?_
  refine s_pure 2 (.int .i64 (1)) (by kernel_rfl) (by kernel_rfl) (fun _ => by kernel_rfl) ?_
  refine ops_end ?_
  refine At.env [(0, .int .u64 (1)), (2, .int .i64 (1)), (4, .bool false), (8, .bool false), (14, .bool false)] ⟨by kernel_rfl, by kernel_rfl, by kernel_rfl, by kernel_rfl, by kernel_rfl, trivial⟩ ?_
  refine at_then_normal ?_
  refine at_ret (by kernel_rfl) ?_
  obtain rfl := someE H
  refine at_backR [.int .i64 (1)] (Γ) (rs := [.tmp 2]) (by kernel_rfl) (.cons (.tmp (by kernel_rfl)) .nil) (fun w hw => (Sat.less .refl hw)) ?_
  exact ⟨rfl, rfl⟩
def len64_2 : Option (Int) :=
  some (2 : Int)
set_option maxRecDepth 100000 in
set_option maxHeartbeats 8000000 in
theorem Len64_2_tr {W0 : World} {Γ : List Asn}   (y : Int) (H : len64_2 = some y) : Tr Try.prog 80 #[.int .u64 (2)] W0 (Γ) (fun r Δ => r = .int .i64 y ∧ Δ = Γ) := by
  unfold len64_2 at H
  refine Tr.enter (fn := Try.f80) (c := C80 []) (args := [.int .u64 (2)]) 25 Try.func80 (by kernel_rfl) (by kernel_rfl) ?_
  refine At.env [(0, .int .u64 (2))] ⟨by kernel_rfl, trivial⟩ ?_
  refine at_seq (x := C80 [0]) (y := C80 [1]) (by kernel_rfl) ?_
  refine at_region (id := 0) 1 (by kernel_rfl) (by kernel_rfl) ?_
  refine s_pure 2 (.int .i64 (0)) (by kernel_rfl) (by kernel_rfl) (fun _ => by kernel_rfl) ?_
  refine ops_end ?_
  refine At.env [(0, .int .u64 (2)), (2, .int .i64 (0))] ⟨by kernel_rfl, by kernel_rfl, trivial⟩ ?_
  refine at_then_normal ?_
  refine at_seq (x := C80 [1, 0]) (y := C80 [1, 1]) (by kernel_rfl) ?_
  refine at_seq (x := C80 [1, 0, 0]) (y := C80 [1, 0, 1]) (by kernel_rfl) ?_
  refine at_region (id := 1) 2 (by kernel_rfl) (by kernel_rfl) ?_
  refine s_pure 3 (.int .u64 (2)) (by kernel_rfl) (by kernel_rfl) (fun _ => by kernel_rfl) ?_
  refine s_pure 4 (.bool false) (by kernel_rfl) (by kernel_rfl) (fun _ => by kernel_rfl) ?_
  refine ops_end ?_
  refine At.env [(0, .int .u64 (2)), (2, .int .i64 (0)), (4, .bool false)] ⟨by kernel_rfl, by kernel_rfl, by kernel_rfl, trivial⟩ ?_
  refine at_then_normal ?_
  refine at_false (t := false) (x := C80 [1, 0, 1, 0]) (y := C80 [1, 0, 1, 1]) (o := .tmp 4) (by kernel_rfl) (by kernel_rfl) (by kernel_rfl) rfl ?_
  refine at_skip (by kernel_rfl) ?_
  refine at_then_normal ?_
  refine at_seq (x := C80 [1, 1, 0]) (y := C80 [1, 1, 1]) (by kernel_rfl) ?_
  refine at_seq (x := C80 [1, 1, 0, 0]) (y := C80 [1, 1, 0, 1]) (by kernel_rfl) ?_
  refine at_region (id := 4) 2 (by kernel_rfl) (by kernel_rfl) ?_
  refine s_pure 7 (.int .u64 (2)) (by kernel_rfl) (by kernel_rfl) (fun _ => by kernel_rfl) ?_
  refine s_pure 8 (.bool false) (by kernel_rfl) (by kernel_rfl) (fun _ => by kernel_rfl) ?_
  refine ops_end ?_
  refine At.env [(0, .int .u64 (2)), (2, .int .i64 (0)), (4, .bool false), (8, .bool false)] ⟨by kernel_rfl, by kernel_rfl, by kernel_rfl, by kernel_rfl, trivial⟩ ?_
  refine at_then_normal ?_
  refine at_false (t := false) (x := C80 [1, 1, 0, 1, 0]) (y := C80 [1, 1, 0, 1, 1]) (o := .tmp 8) (by kernel_rfl) (by kernel_rfl) (by kernel_rfl) rfl ?_
  refine at_skip (by kernel_rfl) ?_
  refine at_then_normal ?_
  refine at_seq (x := C80 [1, 1, 1, 0]) (y := C80 [1, 1, 1, 1]) (by kernel_rfl) ?_
  refine at_seq (x := C80 [1, 1, 1, 0, 0]) (y := C80 [1, 1, 1, 0, 1]) (by kernel_rfl) ?_
  refine at_region (id := 7) 2 (by kernel_rfl) (by kernel_rfl) ?_
  refine s_pure 13 (.int .u64 (2)) (by kernel_rfl) (by kernel_rfl) (fun _ => by kernel_rfl) ?_
  refine s_pure 14 (.bool false) (by kernel_rfl) (by kernel_rfl) (fun _ => by kernel_rfl) ?_
  refine ops_end ?_
  refine At.env [(0, .int .u64 (2)), (2, .int .i64 (0)), (4, .bool false), (8, .bool false), (14, .bool false)] ⟨by kernel_rfl, by kernel_rfl, by kernel_rfl, by kernel_rfl, by kernel_rfl, trivial⟩ ?_
  refine at_then_normal ?_
  refine at_false (t := false) (x := C80 [1, 1, 1, 0, 1, 0]) (y := C80 [1, 1, 1, 0, 1, 1]) (o := .tmp 14) (by kernel_rfl) (by kernel_rfl) (by kernel_rfl) rfl ?_
  refine at_skip (by kernel_rfl) ?_
  refine at_then_normal ?_
  refine at_seq (x := C80 [1, 1, 1, 1, 0]) (y := C80 [1, 1, 1, 1, 1]) (by kernel_rfl) ?_
  refine at_region (id := 10) 7 (by kernel_rfl) (by kernel_rfl) ?_
  refine s_pure 19 (.int .i64 (0)) (by kernel_rfl) (by kernel_rfl) (fun _ => by kernel_rfl) ?_
  refine s_pure 20 (.int .u64 (2)) (by kernel_rfl) (by kernel_rfl) (fun _ => by kernel_rfl) ?_
  refine s_pure 21 (.int .u8 (2)) (by kernel_rfl) (by kernel_rfl) (fun _ => by kernel_rfl) ?_
  refine s_pure 22 (.int .u8 (2)) (by kernel_rfl) (by kernel_rfl) (fun _ => by kernel_rfl) ?_
  refine s_pure 23 (.int .i64 (2)) (by kernel_rfl) (by kernel_rfl) (fun _ => by kernel_rfl) ?_
  refine s_pure 24 (.int .i64 (2)) (by kernel_rfl) (by kernel_rfl) (fun _ => by kernel_rfl) ?_
  refine s_pure 2 (.int .i64 (2)) (by kernel_rfl) (by kernel_rfl) (fun _ => by kernel_rfl) ?_
  refine ops_end ?_
  refine At.env [(0, .int .u64 (2)), (2, .int .i64 (2)), (4, .bool false), (8, .bool false), (14, .bool false)] ⟨by kernel_rfl, by kernel_rfl, by kernel_rfl, by kernel_rfl, by kernel_rfl, trivial⟩ ?_
  refine at_then_normal ?_
  refine at_ret (by kernel_rfl) ?_
  obtain rfl := someE H
  refine at_backR [.int .i64 (2)] (Γ) (rs := [.tmp 2]) (by kernel_rfl) (.cons (.tmp (by kernel_rfl)) .nil) (fun w hw => (Sat.less .refl hw)) ?_
  exact ⟨rfl, rfl⟩
def len64_3 : Option (Int) :=
  some (2 : Int)
set_option maxRecDepth 100000 in
set_option maxHeartbeats 8000000 in
theorem Len64_3_tr {W0 : World} {Γ : List Asn}   (y : Int) (H : len64_3 = some y) : Tr Try.prog 80 #[.int .u64 (3)] W0 (Γ) (fun r Δ => r = .int .i64 y ∧ Δ = Γ) := by
  unfold len64_3 at H
  refine Tr.enter (fn := Try.f80) (c := C80 []) (args := [.int .u64 (3)]) 25 Try.func80 (by kernel_rfl) (by kernel_rfl) ?_
  refine At.env [(0, .int .u64 (3))] ⟨by kernel_rfl, trivial⟩ ?_
  refine at_seq (x := C80 [0]) (y := C80 [1]) (by kernel_rfl) ?_
  refine at_region (id := 0) 1 (by kernel_rfl) (by kernel_rfl) ?_
  refine s_pure 2 (.int .i64 (0)) (by kernel_rfl) (by kernel_rfl) (fun _ => by kernel_rfl) ?_
  refine ops_end ?_
  refine At.env [(0, .int .u64 (3)), (2, .int .i64 (0))] ⟨by kernel_rfl, by kernel_rfl, trivial⟩ ?_
  refine at_then_normal ?_
  refine at_seq (x := C80 [1, 0]) (y := C80 [1, 1]) (by kernel_rfl) ?_
  refine at_seq (x := C80 [1, 0, 0]) (y := C80 [1, 0, 1]) (by kernel_rfl) ?_
  refine at_region (id := 1) 2 (by kernel_rfl) (by kernel_rfl) ?_
  refine s_pure 3 (.int .u64 (3)) (by kernel_rfl) (by kernel_rfl) (fun _ => by kernel_rfl) ?_
  refine s_pure 4 (.bool false) (by kernel_rfl) (by kernel_rfl) (fun _ => by kernel_rfl) ?_
  refine ops_end ?_
  refine At.env [(0, .int .u64 (3)), (2, .int .i64 (0)), (4, .bool false)] ⟨by kernel_rfl, by kernel_rfl, by kernel_rfl, trivial⟩ ?_
  refine at_then_normal ?_
  refine at_false (t := false) (x := C80 [1, 0, 1, 0]) (y := C80 [1, 0, 1, 1]) (o := .tmp 4) (by kernel_rfl) (by kernel_rfl) (by kernel_rfl) rfl ?_
  refine at_skip (by kernel_rfl) ?_
  refine at_then_normal ?_
  refine at_seq (x := C80 [1, 1, 0]) (y := C80 [1, 1, 1]) (by kernel_rfl) ?_
  refine at_seq (x := C80 [1, 1, 0, 0]) (y := C80 [1, 1, 0, 1]) (by kernel_rfl) ?_
  refine at_region (id := 4) 2 (by kernel_rfl) (by kernel_rfl) ?_
  refine s_pure 7 (.int .u64 (3)) (by kernel_rfl) (by kernel_rfl) (fun _ => by kernel_rfl) ?_
  refine s_pure 8 (.bool false) (by kernel_rfl) (by kernel_rfl) (fun _ => by kernel_rfl) ?_
  refine ops_end ?_
  refine At.env [(0, .int .u64 (3)), (2, .int .i64 (0)), (4, .bool false), (8, .bool false)] ⟨by kernel_rfl, by kernel_rfl, by kernel_rfl, by kernel_rfl, trivial⟩ ?_
  refine at_then_normal ?_
  refine at_false (t := false) (x := C80 [1, 1, 0, 1, 0]) (y := C80 [1, 1, 0, 1, 1]) (o := .tmp 8) (by kernel_rfl) (by kernel_rfl) (by kernel_rfl) rfl ?_
  refine at_skip (by kernel_rfl) ?_
  refine at_then_normal ?_
  refine at_seq (x := C80 [1, 1, 1, 0]) (y := C80 [1, 1, 1, 1]) (by kernel_rfl) ?_
  refine at_seq (x := C80 [1, 1, 1, 0, 0]) (y := C80 [1, 1, 1, 0, 1]) (by kernel_rfl) ?_
  refine at_region (id := 7) 2 (by kernel_rfl) (by kernel_rfl) ?_
  refine s_pure 13 (.int .u64 (3)) (by kernel_rfl) (by kernel_rfl) (fun _ => by kernel_rfl) ?_
  refine s_pure 14 (.bool false) (by kernel_rfl) (by kernel_rfl) (fun _ => by kernel_rfl) ?_
  refine ops_end ?_
  refine At.env [(0, .int .u64 (3)), (2, .int .i64 (0)), (4, .bool false), (8, .bool false), (14, .bool false)] ⟨by kernel_rfl, by kernel_rfl, by kernel_rfl, by kernel_rfl, by kernel_rfl, trivial⟩ ?_
  refine at_then_normal ?_
  refine at_false (t := false) (x := C80 [1, 1, 1, 0, 1, 0]) (y := C80 [1, 1, 1, 0, 1, 1]) (o := .tmp 14) (by kernel_rfl) (by kernel_rfl) (by kernel_rfl) rfl ?_
  refine at_skip (by kernel_rfl) ?_
  refine at_then_normal ?_
  refine at_seq (x := C80 [1, 1, 1, 1, 0]) (y := C80 [1, 1, 1, 1, 1]) (by kernel_rfl) ?_
  refine at_region (id := 10) 7 (by kernel_rfl) (by kernel_rfl) ?_
  refine s_pure 19 (.int .i64 (0)) (by kernel_rfl) (by kernel_rfl) (fun _ => by kernel_rfl) ?_
  refine s_pure 20 (.int .u64 (3)) (by kernel_rfl) (by kernel_rfl) (fun _ => by kernel_rfl) ?_
  refine s_pure 21 (.int .u8 (3)) (by kernel_rfl) (by kernel_rfl) (fun _ => by kernel_rfl) ?_
  refine s_pure 22 (.int .u8 (2)) (by kernel_rfl) (by kernel_rfl) (fun _ => by kernel_rfl) ?_
  refine s_pure 23 (.int .i64 (2)) (by kernel_rfl) (by kernel_rfl) (fun _ => by kernel_rfl) ?_
  refine s_pure 24 (.int .i64 (2)) (by kernel_rfl) (by kernel_rfl) (fun _ => by kernel_rfl) ?_
  refine s_pure 2 (.int .i64 (2)) (by kernel_rfl) (by kernel_rfl) (fun _ => by kernel_rfl) ?_
  refine ops_end ?_
  refine At.env [(0, .int .u64 (3)), (2, .int .i64 (2)), (4, .bool false), (8, .bool false), (14, .bool false)] ⟨by kernel_rfl, by kernel_rfl, by kernel_rfl, by kernel_rfl, by kernel_rfl, trivial⟩ ?_
  refine at_then_normal ?_
  refine at_ret (by kernel_rfl) ?_
  obtain rfl := someE H
  refine at_backR [.int .i64 (2)] (Γ) (rs := [.tmp 2]) (by kernel_rfl) (.cons (.tmp (by kernel_rfl)) .nil) (fun w hw => (Sat.less .refl hw)) ?_
  exact ⟨rfl, rfl⟩
def len64_4 : Option (Int) :=
  some (3 : Int)
set_option maxRecDepth 100000 in
set_option maxHeartbeats 8000000 in
theorem Len64_4_tr {W0 : World} {Γ : List Asn}   (y : Int) (H : len64_4 = some y) : Tr Try.prog 80 #[.int .u64 (4)] W0 (Γ) (fun r Δ => r = .int .i64 y ∧ Δ = Γ) := by
  unfold len64_4 at H
  refine Tr.enter (fn := Try.f80) (c := C80 []) (args := [.int .u64 (4)]) 25 Try.func80 (by kernel_rfl) (by kernel_rfl) ?_
  refine At.env [(0, .int .u64 (4))] ⟨by kernel_rfl, trivial⟩ ?_
  refine at_seq (x := C80 [0]) (y := C80 [1]) (by kernel_rfl) ?_
  refine at_region (id := 0) 1 (by kernel_rfl) (by kernel_rfl) ?_
  refine s_pure 2 (.int .i64 (0)) (by kernel_rfl) (by kernel_rfl) (fun _ => by kernel_rfl) ?_
  refine ops_end ?_
  refine At.env [(0, .int .u64 (4)), (2, .int .i64 (0))] ⟨by kernel_rfl, by kernel_rfl, trivial⟩ ?_
  refine at_then_normal ?_
  refine at_seq (x := C80 [1, 0]) (y := C80 [1, 1]) (by kernel_rfl) ?_
  refine at_seq (x := C80 [1, 0, 0]) (y := C80 [1, 0, 1]) (by kernel_rfl) ?_
  refine at_region (id := 1) 2 (by kernel_rfl) (by kernel_rfl) ?_
  refine s_pure 3 (.int .u64 (4)) (by kernel_rfl) (by kernel_rfl) (fun _ => by kernel_rfl) ?_
  refine s_pure 4 (.bool false) (by kernel_rfl) (by kernel_rfl) (fun _ => by kernel_rfl) ?_
  refine ops_end ?_
  refine At.env [(0, .int .u64 (4)), (2, .int .i64 (0)), (4, .bool false)] ⟨by kernel_rfl, by kernel_rfl, by kernel_rfl, trivial⟩ ?_
  refine at_then_normal ?_
  refine at_false (t := false) (x := C80 [1, 0, 1, 0]) (y := C80 [1, 0, 1, 1]) (o := .tmp 4) (by kernel_rfl) (by kernel_rfl) (by kernel_rfl) rfl ?_
  refine at_skip (by kernel_rfl) ?_
  refine at_then_normal ?_
  refine at_seq (x := C80 [1, 1, 0]) (y := C80 [1, 1, 1]) (by kernel_rfl) ?_
  refine at_seq (x := C80 [1, 1, 0, 0]) (y := C80 [1, 1, 0, 1]) (by kernel_rfl) ?_
  refine at_region (id := 4) 2 (by kernel_rfl) (by kernel_rfl) ?_
  refine s_pure 7 (.int .u64 (4)) (by kernel_rfl) (by kernel_rfl) (fun _ => by kernel_rfl) ?_
  refine s_pure 8 (.bool false) (by kernel_rfl) (by kernel_rfl) (fun _ => by kernel_rfl) ?_
  refine ops_end ?_
  refine At.env [(0, .int .u64 (4)), (2, .int .i64 (0)), (4, .bool false), (8, .bool false)] ⟨by kernel_rfl, by kernel_rfl, by kernel_rfl, by kernel_rfl, trivial⟩ ?_
  refine at_then_normal ?_
  refine at_false (t := false) (x := C80 [1, 1, 0, 1, 0]) (y := C80 [1, 1, 0, 1, 1]) (o := .tmp 8) (by kernel_rfl) (by kernel_rfl) (by kernel_rfl) rfl ?_
  refine at_skip (by kernel_rfl) ?_
  refine at_then_normal ?_
  refine at_seq (x := C80 [1, 1, 1, 0]) (y := C80 [1, 1, 1, 1]) (by kernel_rfl) ?_
  refine at_seq (x := C80 [1, 1, 1, 0, 0]) (y := C80 [1, 1, 1, 0, 1]) (by kernel_rfl) ?_
  refine at_region (id := 7) 2 (by kernel_rfl) (by kernel_rfl) ?_
  refine s_pure 13 (.int .u64 (4)) (by kernel_rfl) (by kernel_rfl) (fun _ => by kernel_rfl) ?_
  refine s_pure 14 (.bool false) (by kernel_rfl) (by kernel_rfl) (fun _ => by kernel_rfl) ?_
  refine ops_end ?_
  refine At.env [(0, .int .u64 (4)), (2, .int .i64 (0)), (4, .bool false), (8, .bool false), (14, .bool false)] ⟨by kernel_rfl, by kernel_rfl, by kernel_rfl, by kernel_rfl, by kernel_rfl, trivial⟩ ?_
  refine at_then_normal ?_
  refine at_false (t := false) (x := C80 [1, 1, 1, 0, 1, 0]) (y := C80 [1, 1, 1, 0, 1, 1]) (o := .tmp 14) (by kernel_rfl) (by kernel_rfl) (by kernel_rfl) rfl ?_
  refine at_skip (by kernel_rfl) ?_
  refine at_then_normal ?_
  refine at_seq (x := C80 [1, 1, 1, 1, 0]) (y := C80 [1, 1, 1, 1, 1]) (by kernel_rfl) ?_
  refine at_region (id := 10) 7 (by kernel_rfl) (by kernel_rfl) ?_
  refine s_pure 19 (.int .i64 (0)) (by kernel_rfl) (by kernel_rfl) (fun _ => by kernel_rfl) ?_
  refine s_pure 20 (.int .u64 (4)) (by kernel_rfl) (by kernel_rfl) (fun _ => by kernel_rfl) ?_
  refine s_pure 21 (.int .u8 (4)) (by kernel_rfl) (by kernel_rfl) (fun _ => by kernel_rfl) ?_
  refine s_pure 22 (.int .u8 (3)) (by kernel_rfl) (by kernel_rfl) (fun _ => by kernel_rfl) ?_
  refine s_pure 23 (.int .i64 (3)) (by kernel_rfl) (by kernel_rfl) (fun _ => by kernel_rfl) ?_
  refine s_pure 24 (.int .i64 (3)) (by kernel_rfl) (by kernel_rfl) (fun _ => by kernel_rfl) ?_
  refine s_pure 2 (.int .i64 (3)) (by kernel_rfl) (by kernel_rfl) (fun _ => by kernel_rfl) ?_
  refine ops_end ?_
  refine At.env [(0, .int .u64 (4)), (2, .int .i64 (3)), (4, .bool false), (8, .bool false), (14, .bool false)] ⟨by kernel_rfl, by kernel_rfl, by kernel_rfl, by kernel_rfl, by kernel_rfl, trivial⟩ ?_
  refine at_then_normal ?_
  refine at_ret (by kernel_rfl) ?_
  obtain rfl := someE H
  refine at_backR [.int .i64 (3)] (Γ) (rs := [.tmp 2]) (by kernel_rfl) (.cons (.tmp (by kernel_rfl)) .nil) (fun w hw => (Sat.less .refl hw)) ?_
  exact ⟨rfl, rfl⟩
def len64_5 : Option (Int) :=
  some (3 : Int)
set_option maxRecDepth 100000 in
set_option maxHeartbeats 8000000 in
theorem Len64_5_tr {W0 : World} {Γ : List Asn}   (y : Int) (H : len64_5 = some y) : Tr Try.prog 80 #[.int .u64 (5)] W0 (Γ) (fun r Δ => r = .int .i64 y ∧ Δ = Γ) := by
  unfold len64_5 at H
  refine Tr.enter (fn := Try.f80) (c := C80 []) (args := [.int .u64 (5)]) 25 Try.func80 (by kernel_rfl) (by kernel_rfl) ?_
  refine At.env [(0, .int .u64 (5))] ⟨by kernel_rfl, trivial⟩ ?_
  refine at_seq (x := C80 [0]) (y := C80 [1]) (by kernel_rfl) ?_
  refine at_region (id := 0) 1 (by kernel_rfl) (by kernel_rfl) ?_
  refine s_pure 2 (.int .i64 (0)) (by kernel_rfl) (by kernel_rfl) (fun _ => by kernel_rfl) ?_
  refine ops_end ?_
  refine At.env [(0, .int .u64 (5)), (2, .int .i64 (0))] ⟨by kernel_rfl, by kernel_rfl, trivial⟩ ?_
  refine at_then_normal ?_
  refine at_seq (x := C80 [1, 0]) (y := C80 [1, 1]) (by kernel_rfl) ?_
  refine at_seq (x := C80 [1, 0, 0]) (y := C80 [1, 0, 1]) (by kernel_rfl) ?_
  refine at_region (id := 1) 2 (by kernel_rfl) (by kernel_rfl) ?_
  refine s_pure 3 (.int .u64 (5)) (by kernel_rfl) (by kernel_rfl) (fun _ => by kernel_rfl) ?_
  refine s_pure 4 (.bool false) (by kernel_rfl) (by kernel_rfl) (fun _ => by kernel_rfl) ?_
  refine ops_end ?_
  refine At.env [(0, .int .u64 (5)), (2, .int .i64 (0)), (4, .bool false)] ⟨by kernel_rfl, by kernel_rfl, by kernel_rfl, trivial⟩ ?_
  refine at_then_normal ?_
  refine at_false (t := false) (x := C80 [1, 0, 1, 0]) (y := C80 [1, 0, 1, 1]) (o := .tmp 4) (by kernel_rfl) (by kernel_rfl) (by kernel_rfl) rfl ?_
  refine at_skip (by kernel_rfl) ?_
  refine at_then_normal ?_
  refine at_seq (x := C80 [1, 1, 0]) (y := C80 [1, 1, 1]) (by kernel_rfl) ?_
  refine at_seq (x := C80 [1, 1, 0, 0]) (y := C80 [1, 1, 0, 1]) (by kernel_rfl) ?_
  refine at_region (id := 4) 2 (by kernel_rfl) (by kernel_rfl) ?_
  refine s_pure 7 (.int .u64 (5)) (by kernel_rfl) (by kernel_rfl) (fun _ => by kernel_rfl) ?_
  refine s_pure 8 (.bool false) (by kernel_rfl) (by kernel_rfl) (fun _ => by kernel_rfl) ?_
  refine ops_end ?_
  refine At.env [(0, .int .u64 (5)), (2, .int .i64 (0)), (4, .bool false), (8, .bool false)] ⟨by kernel_rfl, by kernel_rfl, by kernel_rfl, by kernel_rfl, trivial⟩ ?_
  refine at_then_normal ?_
  refine at_false (t := false) (x := C80 [1, 1, 0, 1, 0]) (y := C80 [1, 1, 0, 1, 1]) (o := .tmp 8) (by kernel_rfl) (by kernel_rfl) (by kernel_rfl) rfl ?_
  refine at_skip (by kernel_rfl) ?_
  refine at_then_normal ?_
  refine at_seq (x := C80 [1, 1, 1, 0]) (y := C80 [1, 1, 1, 1]) (by kernel_rfl) ?_
  refine at_seq (x := C80 [1, 1, 1, 0, 0]) (y := C80 [1, 1, 1, 0, 1]) (by kernel_rfl) ?_
  refine at_region (id := 7) 2 (by kernel_rfl) (by kernel_rfl) ?_
  refine s_pure 13 (.int .u64 (5)) (by kernel_rfl) (by kernel_rfl) (fun _ => by kernel_rfl) ?_
  refine s_pure 14 (.bool false) (by kernel_rfl) (by kernel_rfl) (fun _ => by kernel_rfl) ?_
  refine ops_end ?_
  refine At.env [(0, .int .u64 (5)), (2, .int .i64 (0)), (4, .bool false), (8, .bool false), (14, .bool false)] ⟨by kernel_rfl, by kernel_rfl, by kernel_rfl, by kernel_rfl, by kernel_rfl, trivial⟩ ?_
  refine at_then_normal ?_
  refine at_false (t := false) (x := C80 [1, 1, 1, 0, 1, 0]) (y := C80 [1, 1, 1, 0, 1, 1]) (o := .tmp 14) (by kernel_rfl) (by kernel_rfl) (by kernel_rfl) rfl ?_
  refine at_skip (by kernel_rfl) ?_
  refine at_then_normal ?_
  refine at_seq (x := C80 [1, 1, 1, 1, 0]) (y := C80 [1, 1, 1, 1, 1]) (by kernel_rfl) ?_
  refine at_region (id := 10) 7 (by kernel_rfl) (by kernel_rfl) ?_
  refine s_pure 19 (.int .i64 (0)) (by kernel_rfl) (by kernel_rfl) (fun _ => by kernel_rfl) ?_
  refine s_pure 20 (.int .u64 (5)) (by kernel_rfl) (by kernel_rfl) (fun _ => by kernel_rfl) ?_
  refine s_pure 21 (.int .u8 (5)) (by kernel_rfl) (by kernel_rfl) (fun _ => by kernel_rfl) ?_
  refine s_pure 22 (.int .u8 (3)) (by kernel_rfl) (by kernel_rfl) (fun _ => by kernel_rfl) ?_
  refine s_pure 23 (.int .i64 (3)) (by kernel_rfl) (by kernel_rfl) (fun _ => by kernel_rfl) ?_
  refine s_pure 24 (.int .i64 (3)) (by kernel_rfl) (by kernel_rfl) (fun _ => by kernel_rfl) ?_
  refine s_pure 2 (.int .i64 (3)) (by kernel_rfl) (by kernel_rfl) (fun _ => by kernel_rfl) ?_
  refine ops_end ?_
  refine At.env [(0, .int .u64 (5)), (2, .int .i64 (3)), (4, .bool false), (8, .bool false), (14, .bool false)] ⟨by kernel_rfl, by kernel_rfl, by kernel_rfl, by kernel_rfl, by kernel_rfl, trivial⟩ ?_
  refine at_then_normal ?_
  refine at_ret (by kernel_rfl) ?_
  obtain rfl := someE H
  refine at_backR [.int .i64 (3)] (Γ) (rs := [.tmp 2]) (by kernel_rfl) (.cons (.tmp (by kernel_rfl)) .nil) (fun w hw => (Sat.less .refl hw)) ?_
  exact ⟨rfl, rfl⟩
def len64_6 : Option (Int) :=
  some (3 : Int)
set_option maxRecDepth 100000 in
set_option maxHeartbeats 8000000 in
theorem Len64_6_tr {W0 : World} {Γ : List Asn}   (y : Int) (H : len64_6 = some y) : Tr Try.prog 80 #[.int .u64 (6)] W0 (Γ) (fun r Δ => r = .int .i64 y ∧ Δ = Γ) := by
  unfold len64_6 at H
  refine Tr.enter (fn := Try.f80) (c := C80 []) (args := [.int .u64 (6)]) 25 Try.func80 (by kernel_rfl) (by kernel_rfl) ?_
  refine At.env [(0, .int .u64 (6))] ⟨by kernel_rfl, trivial⟩ ?_
  refine at_seq (x := C80 [0]) (y := C80 [1]) (by kernel_rfl) ?_
  refine at_region (id := 0) 1 (by kernel_rfl) (by kernel_rfl) ?_
  refine s_pure 2 (.int .i64 (0)) (by kernel_rfl) (by kernel_rfl) (fun _ => by kernel_rfl) ?_
  refine ops_end ?_
  refine At.env [(0, .int .u64 (6)), (2, .int .i64 (0))] ⟨by kernel_rfl, by kernel_rfl, trivial⟩ ?_
  refine at_then_normal ?_
  refine at_seq (x := C80 [1, 0]) (y := C80 [1, 1]) (by kernel_rfl) ?_
  refine at_seq (x := C80 [1, 0, 0]) (y := C80 [1, 0, 1]) (by kernel_rfl) ?_
  refine at_region (id := 1) 2 (by kernel_rfl) (by kernel_rfl) ?_
  refine s_pure 3 (.int .u64 (6)) (by kernel_rfl) (by kernel_rfl) (fun _ => by kernel_rfl) ?_
  refine s_pure 4 (.bool false) (by kernel_rfl) (by kernel_rfl) (fun _ => by kernel_rfl) ?_
  refine ops_end ?_
  refine At.env [(0, .int .u64 (6)), (2, .int .i64 (0)), (4, .bool false)] ⟨by kernel_rfl, by kernel_rfl, by kernel_rfl, trivial⟩ ?_
  refine at_then_normal ?_
  refine at_false (t := false) (x := C80 [1, 0, 1, 0]) (y := C80 [1, 0, 1, 1]) (o := .tmp 4) (by kernel_rfl) (by kernel_rfl) (by kernel_rfl) rfl ?_
  refine at_skip (by kernel_rfl) ?_
  refine at_then_normal ?_
  refine at_seq (x := C80 [1, 1, 0]) (y := C80 [1, 1, 1]) (by kernel_rfl) ?_
  refine at_seq (x := C80 [1, 1, 0, 0]) (y := C80 [1, 1, 0, 1]) (by kernel_rfl) ?_
  refine at_region (id := 4) 2 (by kernel_rfl) (by kernel_rfl) ?_
  refine s_pure 7 (.int .u64 (6)) (by kernel_rfl) (by kernel_rfl) (fun _ => by kernel_rfl) ?_
  refine s_pure 8 (.bool false) (by kernel_rfl) (by kernel_rfl) (fun _ => by kernel_rfl) ?_
  refine ops_end ?_
  refine At.env [(0, .int .u64 (6)), (2, .int .i64 (0)), (4, .bool false), (8, .bool false)] ⟨by kernel_rfl, by kernel_rfl, by kernel_rfl, by kernel_rfl, trivial⟩ ?_
  refine at_then_normal ?_
  refine at_false (t := false) (x := C80 [1, 1, 0, 1, 0]) (y := C80 [1, 1, 0, 1, 1]) (o := .tmp 8) (by kernel_rfl) (by kernel_rfl) (by kernel_rfl) rfl ?_
  refine at_skip (by kernel_rfl) ?_
  refine at_then_normal ?_
  refine at_seq (x := C80 [1, 1, 1, 0]) (y := C80 [1, 1, 1, 1]) (by kernel_rfl) ?_
  refine at_seq (x := C80 [1, 1, 1, 0, 0]) (y := C80 [1, 1, 1, 0, 1]) (by kernel_rfl) ?_
  refine at_region (id := 7) 2 (by kernel_rfl) (by kernel_rfl) ?_
  refine s_pure 13 (.int .u64 (6)) (by kernel_rfl) (by kernel_rfl) (fun _ => by kernel_rfl) ?_
  refine s_pure 14 (.bool false) (by kernel_rfl) (by kernel_rfl) (fun _ => by kernel_rfl) ?_
  refine ops_end ?_
  refine At.env [(0, .int .u64 (6)), (2, .int .i64 (0)), (4, .bool false), (8, .bool false), (14, .bool false)] ⟨by kernel_rfl, by kernel_rfl, by kernel_rfl, by kernel_rfl, by kernel_rfl, trivial⟩ ?_
  refine at_then_normal ?_
  refine at_false (t := false) (x := C80 [1, 1, 1, 0, 1, 0]) (y := C80 [1, 1, 1, 0, 1, 1]) (o := .tmp 14) (by kernel_rfl) (by kernel_rfl) (by kernel_rfl) rfl ?_
  refine at_skip (by kernel_rfl) ?_
  refine at_then_normal ?_
  refine at_seq (x := C80 [1, 1, 1, 1, 0]) (y := C80 [1, 1, 1, 1, 1]) (by kernel_rfl) ?_
  refine at_region (id := 10) 7 (by kernel_rfl) (by kernel_rfl) ?_
  refine s_pure 19 (.int .i64 (0)) (by kernel_rfl) (by kernel_rfl) (fun _ => by kernel_rfl) ?_
  refine s_pure 20 (.int .u64 (6)) (by kernel_rfl) (by kernel_rfl) (fun _ => by kernel_rfl) ?_
  refine s_pure 21 (.int .u8 (6)) (by kernel_rfl) (by kernel_rfl) (fun _ => by kernel_rfl) ?_
  refine s_pure 22 (.int .u8 (3)) (by kernel_rfl) (by kernel_rfl) (fun _ => by kernel_rfl) ?_
  refine s_pure 23 (.int .i64 (3)) (by kernel_rfl) (by kernel_rfl) (fun _ => by kernel_rfl) ?_
  refine s_pure 24 (.int .i64 (3)) (by kernel_rfl) (by kernel_rfl) (fun _ => by kernel_rfl) ?_
  refine s_pure 2 (.int .i64 (3)) (by kernel_rfl) (by kernel_rfl) (fun _ => by kernel_rfl) ?_
  refine ops_end ?_
  refine At.env [(0, .int .u64 (6)), (2, .int .i64 (3)), (4, .bool false), (8, .bool false), (14, .bool false)] ⟨by kernel_rfl, by kernel_rfl, by kernel_rfl, by kernel_rfl, by kernel_rfl, trivial⟩ ?_
  refine at_then_normal ?_
  refine at_ret (by kernel_rfl) ?_
  obtain rfl := someE H
  refine at_backR [.int .i64 (3)] (Γ) (rs := [.tmp 2]) (by kernel_rfl) (.cons (.tmp (by kernel_rfl)) .nil) (fun w hw => (Sat.less .refl hw)) ?_
  exact ⟨rfl, rfl⟩
def len64_7 : Option (Int) :=
  some (3 : Int)
set_option maxRecDepth 100000 in
set_option maxHeartbeats 8000000 in
theorem Len64_7_tr {W0 : World} {Γ : List Asn}   (y : Int) (H : len64_7 = some y) : Tr Try.prog 80 #[.int .u64 (7)] W0 (Γ) (fun r Δ => r = .int .i64 y ∧ Δ = Γ) := by
  unfold len64_7 at H
  refine Tr.enter (fn := Try.f80) (c := C80 []) (args := [.int .u64 (7)]) 25 Try.func80 (by kernel_rfl) (by kernel_rfl) ?_
  refine At.env [(0, .int .u64 (7))] ⟨by kernel_rfl, trivial⟩ ?_
  refine at_seq (x := C80 [0]) (y := C80 [1]) (by kernel_rfl) ?_
  refine at_region (id := 0) 1 (by kernel_rfl) (by kernel_rfl) ?_
  refine s_pure 2 (.int .i64 (0)) (by kernel_rfl) (by kernel_rfl) (fun _ => by kernel_rfl) ?_
  refine ops_end ?_
  refine At.env [(0, .int .u64 (7)), (2, .int .i64 (0))] ⟨by kernel_rfl, by kernel_rfl, trivial⟩ ?_
  refine at_then_normal ?_
  refine at_seq (x := C80 [1, 0]) (y := C80 [1, 1]) (by kernel_rfl) ?_
  refine at_seq (x := C80 [1, 0, 0]) (y := C80 [1, 0, 1]) (by kernel_rfl) ?_
  refine at_region (id := 1) 2 (by kernel_rfl) (by kernel_rfl) ?_
  refine s_pure 3 (.int .u64 (7)) (by kernel_rfl) (by kernel_rfl) (fun _ => by kernel_rfl) ?_
  refine s_pure 4 (.bool false) (by kernel_rfl) (by kernel_rfl) (fun _ => by kernel_rfl) ?_
  refine ops_end ?_
  refine At.env [(0, .int .u64 (7)), (2, .int .i64 (0)), (4, .bool false)] ⟨by kernel_rfl, by kernel_rfl, by kernel_rfl, trivial⟩ ?_
  refine at_then_normal ?_
  refine at_false (t := false) (x := C80 [1, 0, 1, 0]) (y := C80 [1, 0, 1, 1]) (o := .tmp 4) (by kernel_rfl) (by kernel_rfl) (by kernel_rfl) rfl ?_
  refine at_skip (by kernel_rfl) ?_
  refine at_then_normal ?_
  refine at_seq (x := C80 [1, 1, 0]) (y := C80 [1, 1, 1]) (by kernel_rfl) ?_
  refine at_seq (x := C80 [1, 1, 0, 0]) (y := C80 [1, 1, 0, 1]) (by kernel_rfl) ?_
  refine at_region (id := 4) 2 (by kernel_rfl) (by kernel_rfl) ?_
  refine s_pure 7 (.int .u64 (7)) (by kernel_rfl) (by kernel_rfl) (fun _ => by kernel_rfl) ?_
  refine s_pure 8 (.bool false) (by kernel_rfl) (by kernel_rfl) (fun _ => by kernel_rfl) ?_
  refine ops_end ?_
  refine At.env [(0, .int .u64 (7)), (2, .int .i64 (0)), (4, .bool false), (8, .bool false)] ⟨by kernel_rfl, by kernel_rfl, by kernel_rfl, by kernel_rfl, trivial⟩ ?_
  refine at_then_normal ?_
  refine at_false (t := false) (x := C80 [1, 1, 0, 1, 0]) (y := C80 [1, 1, 0, 1, 1]) (o := .tmp 8) (by kernel_rfl) (by kernel_rfl) (by kernel_rfl) rfl ?_
  refine at_skip (by kernel_rfl) ?_
  refine at_then_normal ?_
  refine at_seq (x := C80 [1, 1, 1, 0]) (y := C80 [1, 1, 1, 1]) (by kernel_rfl) ?_
  refine at_seq (x := C80 [1, 1, 1, 0, 0]) (y := C80 [1, 1, 1, 0, 1]) (by kernel_rfl) ?_
  refine at_region (id := 7) 2 (by kernel_rfl) (by kernel_rfl) ?_
  refine s_pure 13 (.int .u64 (7)) (by kernel_rfl) (by kernel_rfl) (fun _ => by kernel_rfl) ?_
  refine s_pure 14 (.bool false) (by kernel_rfl) (by kernel_rfl) (fun _ => by kernel_rfl) ?_
  refine ops_end ?_
  refine At.env [(0, .int .u64 (7)), (2, .int .i64 (0)), (4, .bool false), (8, .bool false), (14, .bool false)] ⟨by kernel_rfl, by kernel_rfl, by kernel_rfl, by kernel_rfl, by kernel_rfl, trivial⟩ ?_
  refine at_then_normal ?_
  refine at_false (t := false) (x := C80 [1, 1, 1, 0, 1, 0]) (y := C80 [1, 1, 1, 0, 1, 1]) (o := .tmp 14) (by kernel_rfl) (by kernel_rfl) (by kernel_rfl) rfl ?_
  refine at_skip (by kernel_rfl) ?_
  refine at_then_normal ?_
  refine at_seq (x := C80 [1, 1, 1, 1, 0]) (y := C80 [1, 1, 1, 1, 1]) (by kernel_rfl) ?_
  refine at_region (id := 10) 7 (by kernel_rfl) (by kernel_rfl) ?_
  refine s_pure 19 (.int .i64 (0)) (by kernel_rfl) (by kernel_rfl) (fun _ => by kernel_rfl) ?_
  refine s_pure 20 (.int .u64 (7)) (by kernel_rfl) (by kernel_rfl) (fun _ => by kernel_rfl) ?_
  refine s_pure 21 (.int .u8 (7)) (by kernel_rfl) (by kernel_rfl) (fun _ => by kernel_rfl) ?_
  refine s_pure 22 (.int .u8 (3)) (by kernel_rfl) (by kernel_rfl) (fun _ => by kernel_rfl) ?_
  refine s_pure 23 (.int .i64 (3)) (by kernel_rfl) (by kernel_rfl) (fun _ => by kernel_rfl) ?_
  refine s_pure 24 (.int .i64 (3)) (by kernel_rfl) (by kernel_rfl) (fun _ => by kernel_rfl) ?_
  refine s_pure 2 (.int .i64 (3)) (by kernel_rfl) (by kernel_rfl) (fun _ => by kernel_rfl) ?_
  refine ops_end ?_
  refine At.env [(0, .int .u64 (7)), (2, .int .i64 (3)), (4, .bool false), (8, .bool false), (14, .bool false)] ⟨by kernel_rfl, by kernel_rfl, by kernel_rfl, by kernel_rfl, by kernel_rfl, trivial⟩ ?_
  refine at_then_normal ?_
  refine at_ret (by kernel_rfl) ?_
  obtain rfl := someE H
  refine at_backR [.int .i64 (3)] (Γ) (rs := [.tmp 2]) (by kernel_rfl) (.cons (.tmp (by kernel_rfl)) .nil) (fun w hw => (Sat.less .refl hw)) ?_
  exact ⟨rfl, rfl⟩
def len64_8 : Option (Int) :=
  some (4 : Int)
set_option maxRecDepth 100000 in
set_option maxHeartbeats 8000000 in
theorem Len64_8_tr {W0 : World} {Γ : List Asn}   (y : Int) (H : len64_8 = some y) : Tr Try.prog 80 #[.int .u64 (8)] W0 (Γ) (fun r Δ => r = .int .i64 y ∧ Δ = Γ) := by
  unfold len64_8 at H
  refine Tr.enter (fn := Try.f80) (c := C80 []) (args := [.int .u64 (8)]) 25 Try.func80 (by kernel_rfl) (by kernel_rfl) ?_
  refine At.env [(0, .int .u64 (8))] ⟨by kernel_rfl, trivial⟩ ?_
  refine at_seq (x := C80 [0]) (y := C80 [1]) (by kernel_rfl) ?_
  refine at_region (id := 0) 1 (by kernel_rfl) (by kernel_rfl) ?_
  refine s_pure 2 (.int .i64 (0)) (by kernel_rfl) (by kernel_rfl) (fun _ => by kernel_rfl) ?_
  refine ops_end ?_
  refine At.env [(0, .int .u64 (8)), (2, .int .i64 (0))] ⟨by kernel_rfl, by kernel_rfl, trivial⟩ ?_
  refine at_then_normal ?_
  refine at_seq (x := C80 [1, 0]) (y := C80 [1, 1]) (by kernel_rfl) ?_
  refine at_seq (x := C80 [1, 0, 0]) (y := C80 [1, 0, 1]) (by kernel_rfl) ?_
  refine at_region (id := 1) 2 (by kernel_rfl) (by kernel_rfl) ?_
  refine s_pure 3 (.int .u64 (8)) (by kernel_rfl) (by kernel_rfl) (fun _ => by kernel_rfl) ?_
  refine s_pure 4 (.bool false) (by kernel_rfl) (by kernel_rfl) (fun _ => by kernel_rfl) ?_
  refine ops_end ?_
  refine At.env [(0, .int .u64 (8)), (2, .int .i64 (0)), (4, .bool false)] ⟨by kernel_rfl, by kernel_rfl, by kernel_rfl, trivial⟩ ?_
  refine at_then_normal ?_
  refine at_false (t := false) (x := C80 [1, 0, 1, 0]) (y := C80 [1, 0, 1, 1]) (o := .tmp 4) (by kernel_rfl) (by kernel_rfl) (by kernel_rfl) rfl ?_
  refine at_skip (by kernel_rfl) ?_
  refine at_then_normal ?_
  refine at_seq (x := C80 [1, 1, 0]) (y := C80 [1, 1, 1]) (by kernel_rfl) ?_
  refine at_seq (x := C80 [1, 1, 0, 0]) (y := C80 [1, 1, 0, 1]) (by kernel_rfl) ?_
  refine at_region (id := 4) 2 (by kernel_rfl) (by kernel_rfl) ?_
  refine s_pure 7 (.int .u64 (8)) (by kernel_rfl) (by kernel_rfl) (fun _ => by kernel_rfl) ?_
  refine s_pure 8 (.bool false) (by kernel_rfl) (by kernel_rfl) (fun _ => by kernel_rfl) ?_
  refine ops_end ?_
  refine At.env [(0, .int .u64 (8)), (2, .int .i64 (0)), (4, .bool false), (8, .bool false)] ⟨by kernel_rfl, by kernel_rfl, by kernel_rfl, by kernel_rfl, trivial⟩ ?_
  refine at_then_normal ?_
  refine at_false (t := false) (x := C80 [1, 1, 0, 1, 0]) (y := C80 [1, 1, 0, 1, 1]) (o := .tmp 8) (by kernel_rfl) (by kernel_rfl) (by kernel_rfl) rfl ?_
  refine at_skip (by kernel_rfl) ?_
  refine at_then_normal ?_
  refine at_seq (x := C80 [1, 1, 1, 0]) (y := C80 [1, 1, 1, 1]) (by kernel_rfl) ?_
  refine at_seq (x := C80 [1, 1, 1, 0, 0]) (y := C80 [1, 1, 1, 0, 1]) (by kernel_rfl) ?_
  refine at_region (id := 7) 2 (by kernel_rfl) (by kernel_rfl) ?_
  refine s_pure 13 (.int .u64 (8)) (by kernel_rfl) (by kernel_rfl) (fun _ => by kernel_rfl) ?_
  refine s_pure 14 (.bool false) (by kernel_rfl) (by kernel_rfl) (fun _ => by kernel_rfl) ?_
  refine ops_end ?_
  refine At.env [(0, .int .u64 (8)), (2, .int .i64 (0)), (4, .bool false), (8, .bool false), (14, .bool false)] ⟨by kernel_rfl, by kernel_rfl, by kernel_rfl, by kernel_rfl, by kernel_rfl, trivial⟩ ?_
  refine at_then_normal ?_
  refine at_false (t := false) (x := C80 [1, 1, 1, 0, 1, 0]) (y := C80 [1, 1, 1, 0, 1, 1]) (o := .tmp 14) (by kernel_rfl) (by kernel_rfl) (by kernel_rfl) rfl ?_
  refine at_skip (by kernel_rfl) ?_
  refine at_then_normal ?_
  refine at_seq (x := C80 [1, 1, 1, 1, 0]) (y := C80 [1, 1, 1, 1, 1]) (by kernel_rfl) ?_
  refine at_region (id := 10) 7 (by kernel_rfl) (by kernel_rfl) ?_
  refine s_pure 19 (.int .i64 (0)) (by kernel_rfl) (by kernel_rfl) (fun _ => by kernel_rfl) ?_
  refine s_pure 20 (.int .u64 (8)) (by kernel_rfl) (by kernel_rfl) (fun _ => by kernel_rfl) ?_
  refine s_pure 21 (.int .u8 (8)) (by kernel_rfl) (by kernel_rfl) (fun _ => by kernel_rfl) ?_
  refine s_pure 22 (.int .u8 (4)) (by kernel_rfl) (by kernel_rfl) (fun _ => by kernel_rfl) ?_
  refine s_pure 23 (.int .i64 (4)) (by kernel_rfl) (by kernel_rfl) (fun _ => by kernel_rfl) ?_
  refine s_pure 24 (.int .i64 (4)) (by kernel_rfl) (by kernel_rfl) (fun _ => by kernel_rfl) ?_
  refine s_pure 2 (.int .i64 (4)) (by kernel_rfl) (by kernel_rfl) (fun _ => by kernel_rfl) ?_
  refine ops_end ?_
  refine At.env [(0, .int .u64 (8)), (2, .int .i64 (4)), (4, .bool false), (8, .bool false), (14, .bool false)] ⟨by kernel_rfl, by kernel_rfl, by kernel_rfl, by kernel_rfl, by kernel_rfl, trivial⟩ ?_
  refine at_then_normal ?_
  refine at_ret (by kernel_rfl) ?_
  obtain rfl := someE H
  refine at_backR [.int .i64 (4)] (Γ) (rs := [.tmp 2]) (by kernel_rfl) (.cons (.tmp (by kernel_rfl)) .nil) (fun w hw => (Sat.less .refl hw)) ?_
  exact ⟨rfl, rfl⟩
def len64_9 : Option (Int) :=
  some (4 : Int)
set_option maxRecDepth 100000 in
set_option maxHeartbeats 8000000 in
theorem Len64_9_tr {W0 : World} {Γ : List Asn}   (y : Int) (H : len64_9 = some y) : Tr Try.prog 80 #[.int .u64 (9)] W0 (Γ) (fun r Δ => r = .int .i64 y ∧ Δ = Γ) := by
  unfold len64_9 at H
  refine Tr.enter (fn := Try.f80) (c := C80 []) (args := [.int .u64 (9)]) 25 Try.func80 (by kernel_rfl) (by kernel_rfl) ?_
  refine At.env [(0, .int .u64 (9))] ⟨by kernel_rfl, trivial⟩ ?_
  refine at_seq (x := C80 [0]) (y := C80 [1]) (by kernel_rfl) ?_
  refine at_region (id := 0) 1 (by kernel_rfl) (by kernel_rfl) ?_
  refine s_pure 2 (.int .i64 (0)) (by kernel_rfl) (by kernel_rfl) (fun _ => by kernel_rfl) ?_
  refine ops_end ?_
  refine At.env [(0, .int .u64 (9)), (2, .int .i64 (0))] ⟨by kernel_rfl, by kernel_rfl, trivial⟩ ?_
  refine at_then_normal ?_
  refine at_seq (x := C80 [1, 0]) (y := C80 [1, 1]) (by kernel_rfl) ?_
  refine at_seq (x := C80 [1, 0, 0]) (y := C80 [1, 0, 1]) (by kernel_rfl) ?_
  refine at_region (id := 1) 2 (by kernel_rfl) (by kernel_rfl) ?_
  refine s_pure 3 (.int .u64 (9)) (by kernel_rfl) (by kernel_rfl) (fun _ => by kernel_rfl) ?_
  refine s_pure 4 (.bool false) (by kernel_rfl) (by kernel_rfl) (fun _ => by kernel_rfl) ?_
  refine ops_end ?_
  refine At.env [(0, .int .u64 (9)), (2, .int .i64 (0)), (4, .bool false)] ⟨by kernel_rfl, by kernel_rfl, by kernel_rfl, trivial⟩ ?_
  refine at_then_normal ?_
  refine at_false (t := false) (x := C80 [1, 0, 1, 0]) (y := C80 [1, 0, 1, 1]) (o := .tmp 4) (by kernel_rfl) (by kernel_rfl) (by kernel_rfl) rfl ?_
  refine at_skip (by kernel_rfl) ?_
  refine at_then_normal ?_
  refine at_seq (x := C80 [1, 1, 0]) (y := C80 [1, 1, 1]) (by kernel_rfl) ?_
  refine at_seq (x := C80 [1, 1, 0, 0]) (y := C80 [1, 1, 0, 1]) (by kernel_rfl) ?_
  refine at_region (id := 4) 2 (by kernel_rfl) (by kernel_rfl) ?_
  refine s_pure 7 (.int .u64 (9)) (by kernel_rfl) (by kernel_rfl) (fun _ => by kernel_rfl) ?_
  refine s_pure 8 (.bool false) (by kernel_rfl) (by kernel_rfl) (fun _ => by kernel_rfl) ?_
  refine ops_end ?_
  refine At.env [(0, .int .u64 (9)), (2, .int .i64 (0)), (4, .bool false), (8, .bool false)] ⟨by kernel_rfl, by kernel_rfl, by kernel_rfl, by kernel_rfl, trivial⟩ ?_
  refine at_then_normal ?_
  refine at_false (t := false) (x := C80 [1, 1, 0, 1, 0]) (y := C80 [1, 1, 0, 1, 1]) (o := .tmp 8) (by kernel_rfl) (by kernel_rfl) (by kernel_rfl) rfl ?_
  refine at_skip (by kernel_rfl) ?_
  refine at_then_normal ?_
  refine at_seq (x := C80 [1, 1, 1, 0]) (y := C80 [1, 1, 1, 1]) (by kernel_rfl) ?_
  refine at_seq (x := C80 [1, 1, 1, 0, 0]) (y := C80 [1, 1, 1, 0, 1]) (by kernel_rfl) ?_
  refine at_region (id := 7) 2 (by kernel_rfl) (by kernel_rfl) ?_
  refine s_pure 13 (.int .u64 (9)) (by kernel_rfl) (by kernel_rfl) (fun _ => by kernel_rfl) ?_
  refine s_pure 14 (.bool false) (by kernel_rfl) (by kernel_rfl) (fun _ => by kernel_rfl) ?_
  refine ops_end ?_
  refine At.env [(0, .int .u64 (9)), (2, .int .i64 (0)), (4, .bool false), (8, .bool false), (14, .bool false)] ⟨by kernel_rfl, by kernel_rfl, by kernel_rfl, by kernel_rfl, by kernel_rfl, trivial⟩ ?_
  refine at_then_normal ?_
  refine at_false (t := false) (x := C80 [1, 1, 1, 0, 1, 0]) (y := C80 [1, 1, 1, 0, 1, 1]) (o := .tmp 14) (by kernel_rfl) (by kernel_rfl) (by kernel_rfl) rfl ?_
  refine at_skip (by kernel_rfl) ?_
  refine at_then_normal ?_
  refine at_seq (x := C80 [1, 1, 1, 1, 0]) (y := C80 [1, 1, 1, 1, 1]) (by kernel_rfl) ?_
  refine at_region (id := 10) 7 (by kernel_rfl) (by kernel_rfl) ?_
  refine s_pure 19 (.int .i64 (0)) (by kernel_rfl) (by kernel_rfl) (fun _ => by kernel_rfl) ?_
  refine s_pure 20 (.int .u64 (9)) (by kernel_rfl) (by kernel_rfl) (fun _ => by kernel_rfl) ?_
  refine s_pure 21 (.int .u8 (9)) (by kernel_rfl) (by kernel_rfl) (fun _ => by kernel_rfl) ?_
  refine s_pure 22 (.int .u8 (4)) (by kernel_rfl) (by kernel_rfl) (fun _ => by kernel_rfl) ?_
  refine s_pure 23 (.int .i64 (4)) (by kernel_rfl) (by kernel_rfl) (fun _ => by kernel_rfl) ?_
  refine s_pure 24 (.int .i64 (4)) (by kernel_rfl) (by kernel_rfl) (fun _ => by kernel_rfl) ?_
  refine s_pure 2 (.int .i64 (4)) (by kernel_rfl) (by kernel_rfl) (fun _ => by kernel_rfl) ?_
  refine ops_end ?_
  refine At.env [(0, .int .u64 (9)), (2, .int .i64 (4)), (4, .bool false), (8, .bool false), (14, .bool false)] ⟨by kernel_rfl, by kernel_rfl, by kernel_rfl, by kernel_rfl, by kernel_rfl, trivial⟩ ?_
  refine at_then_normal ?_
  refine at_ret (by kernel_rfl) ?_
  obtain rfl := someE H
  refine at_backR [.int .i64 (4)] (Γ) (rs := [.tmp 2]) (by kernel_rfl) (.cons (.tmp (by kernel_rfl)) .nil) (fun w hw => (Sat.less .refl hw)) ?_
  exact ⟨rfl, rfl⟩
def len64_10 : Option (Int) :=
  some (4 : Int)
set_option maxRecDepth 100000 in
set_option maxHeartbeats 8000000 in
theorem Len64_10_tr {W0 : World} {Γ : List Asn}   (y : Int) (H : len64_10 = some y) : Tr Try.prog 80 #[.int .u64 (10)] W0 (Γ) (fun r Δ => r = .int .i64 y ∧ Δ = Γ) := by
  unfold len64_10 at H
  refine Tr.enter (fn := Try.f80) (c := C80 []) (args := [.int .u64 (10)]) 25 Try.func80 (by kernel_rfl) (by kernel_rfl) ?_
  refine At.env [(0, .int .u64 (10))] ⟨by kernel_rfl, trivial⟩ ?_
  refine at_seq (x := C80 [0]) (y := C80 [1]) (by kernel_rfl) ?_
  refine at_region (id := 0) 1 (by kernel_rfl) (by kernel_rfl) ?_
  refine s_pure 2 (.int .i64 (0)) (by kernel_rfl) (by kernel_rfl) (fun _ => by kernel_rfl) ?_
  refine ops_end ?_
  refine At.env [(0, .int .u64 (10)), (2, .int .i64 (0))] ⟨by kernel_rfl, by kernel_rfl, trivial⟩ ?_
  refine at_then_normal ?_
  refine at_seq (x := C80 [1, 0]) (y := C80 [1, 1]) (by kernel_rfl) ?_
  refine at_seq (x := C80 [1, 0, 0]) (y := C80 [1, 0, 1]) (by kernel_rfl) ?_
  refine at_region (id := 1) 2 (by kernel_rfl) (by kernel_rfl) ?_
  refine s_pure 3 (.int .u64 (10)) (by kernel_rfl) (by kernel_rfl) (fun _ => by kernel_rfl) ?_
  refine s_pure 4 (.bool false) (by kernel_rfl) (by kernel_rfl) (fun _ => by kernel_rfl) ?_
  refine ops_end ?_
  refine At.env [(0, .int .u64 (10)), (2, .int .i64 (0)), (4, .bool false)] ⟨by kernel_rfl, by kernel_rfl, by kernel_rfl, trivial⟩ ?_
  refine at_then_normal ?_
  refine at_false (t := false) (x := C80 [1, 0, 1, 0]) (y := C80 [1, 0, 1, 1]) (o := .tmp 4) (by kernel_rfl) (by kernel_rfl) (by kernel_rfl) rfl ?_
  refine at_skip (by kernel_rfl) ?_
  refine at_then_normal ?_
  refine at_seq (x := C80 [1, 1, 0]) (y := C80 [1, 1, 1]) (by kernel_rfl) ?_
  refine at_seq (x := C80 [1, 1, 0, 0]) (y := C80 [1, 1, 0, 1]) (by kernel_rfl) ?_
  refine at_region (id := 4) 2 (by kernel_rfl) (by kernel_rfl) ?_
  refine s_pure 7 (.int .u64 (10)) (by kernel_rfl) (by kernel_rfl) (fun _ => by kernel_rfl) ?_
  refine s_pure 8 (.bool false) (by kernel_rfl) (by kernel_rfl) (fun _ => by kernel_rfl) ?_
  refine ops_end ?_
  refine At.env [(0, .int .u64 (10)), (2, .int .i64 (0)), (4, .bool false), (8, .bool false)] ⟨by kernel_rfl, by kernel_rfl, by kernel_rfl, by kernel_rfl, trivial⟩ ?_
  refine at_then_normal ?_
  refine at_false (t := false) (x := C80 [1, 1, 0, 1, 0]) (y := C80 [1, 1, 0, 1, 1]) (o := .tmp 8) (by kernel_rfl) (by kernel_rfl) (by kernel_rfl) rfl ?_
  refine at_skip (by kernel_rfl) ?_
  refine at_then_normal ?_
  refine at_seq (x := C80 [1, 1, 1, 0]) (y := C80 [1, 1, 1, 1]) (by kernel_rfl) ?_
  refine at_seq (x := C80 [1, 1, 1, 0, 0]) (y := C80 [1, 1, 1, 0, 1]) (by kernel_rfl) ?_
  refine at_region (id := 7) 2 (by kernel_rfl) (by kernel_rfl) ?_
  refine s_pure 13 (.int .u64 (10)) (by kernel_rfl) (by kernel_rfl) (fun _ => by kernel_rfl) ?_
  refine s_pure 14 (.bool false) (by kernel_rfl) (by kernel_rfl) (fun _ => by kernel_rfl) ?_
  refine ops_end ?_
  refine At.env [(0, .int .u64 (10)), (2, .int .i64 (0)), (4, .bool false), (8, .bool false), (14, .bool false)] ⟨by kernel_rfl, by kernel_rfl, by kernel_rfl, by kernel_rfl, by kernel_rfl, trivial⟩ ?_
  refine at_then_normal ?_
  refine at_false (t := false) (x := C80 [1, 1, 1, 0, 1, 0]) (y := C80 [1, 1, 1, 0, 1, 1]) (o := .tmp 14) (by kernel_rfl) (by kernel_rfl) (by kernel_rfl) rfl ?_
  refine at_skip (by kernel_rfl) ?_
  refine at_then_normal ?_
  refine at_seq (x := C80 [1, 1, 1, 1, 0]) (y := C80 [1, 1, 1, 1, 1]) (by kernel_rfl) ?_
  refine at_region (id := 10) 7 (by kernel_rfl) (by kernel_rfl) ?_
  refine s_pure 19 (.int .i64 (0)) (by kernel_rfl) (by kernel_rfl) (fun _ => by kernel_rfl) ?_
  refine s_pure 20 (.int .u64 (10)) (by kernel_rfl) (by kernel_rfl) (fun _ => by kernel_rfl) ?_
  refine s_pure 21 (.int .u8 (10)) (by kernel_rfl) (by kernel_rfl) (fun _ => by kernel_rfl) ?_
  refine s_pure 22 (.int .u8 (4)) (by kernel_rfl) (by kernel_rfl) (fun _ => by kernel_rfl) ?_
  refine s_pure 23 (.int .i64 (4)) (by kernel_rfl) (by kernel_rfl) (fun _ => by kernel_rfl) ?_
  refine s_pure 24 (.int .i64 (4)) (by kernel_rfl) (by kernel_rfl) (fun _ => by kernel_rfl) ?_
  refine s_pure 2 (.int .i64 (4)) (by kernel_rfl) (by kernel_rfl) (fun _ => by kernel_rfl) ?_
  refine ops_end ?_
  refine At.env [(0, .int .u64 (10)), (2, .int .i64 (4)), (4, .bool false), (8, .bool false), (14, .bool false)] ⟨by kernel_rfl, by kernel_rfl, by kernel_rfl, by kernel_rfl, by kernel_rfl, trivial⟩ ?_
  refine at_then_normal ?_
  refine at_ret (by kernel_rfl) ?_
  obtain rfl := someE H
  refine at_backR [.int .i64 (4)] (Γ) (rs := [.tmp 2]) (by kernel_rfl) (.cons (.tmp (by kernel_rfl)) .nil) (fun w hw => (Sat.less .refl hw)) ?_
  exact ⟨rfl, rfl⟩
def len64_11 : Option (Int) :=
  some (4 : Int)
set_option maxRecDepth 100000 in
set_option maxHeartbeats 8000000 in
theorem Len64_11_tr {W0 : World} {Γ : List Asn}   (y : Int) (H : len64_11 = some y) : Tr Try.prog 80 #[.int .u64 (11)] W0 (Γ) (fun r Δ => r = .int .i64 y ∧ Δ = Γ) := by
  unfold len64_11 at H
  refine Tr.enter (fn := Try.f80) (c := C80 []) (args := [.int .u64 (11)]) 25 Try.func80 (by kernel_rfl) (by kernel_rfl) ?_
  refine At.env [(0, .int .u64 (11))] ⟨by kernel_rfl, trivial⟩ ?_
  refine at_seq (x := C80 [0]) (y := C80 [1]) (by kernel_rfl) ?_
  refine at_region (id := 0) 1 (by kernel_rfl) (by kernel_rfl) ?_
  refine s_pure 2 (.int .i64 (0)) (by kernel_rfl) (by kernel_rfl) (fun _ => by kernel_rfl) ?_
  refine ops_end ?_
  refine At.env [(0, .int .u64 (11)), (2, .int .i64 (0))] ⟨by kernel_rfl, by kernel_rfl, trivial⟩ ?_
  refine at_then_normal ?_
  refine at_seq (x := C80 [1, 0]) (y := C80 [1, 1]) (by kernel_rfl) ?_
  refine at_seq (x := C80 [1, 0, 0]) (y := C80 [1, 0, 1]) (by kernel_rfl) ?_
  refine at_region (id := 1) 2 (by kernel_rfl) (by kernel_rfl) ?_
  refine s_pure 3 (.int .u64 (11)) (by kernel_rfl) (by kernel_rfl) (fun _ => by kernel_rfl) ?_
  refine s_pure 4 (.bool false) (by kernel_rfl) (by kernel_rfl) (fun _ => by kernel_rfl) ?_
  refine ops_end ?_
  refine At.env [(0, .int .u64 (11)), (2, .int .i64 (0)), (4, .bool false)] ⟨by kernel_rfl, by kernel_rfl, by kernel_rfl, trivial⟩ ?_
  refine at_then_normal ?_
  refine at_false (t := false) (x := C80 [1, 0, 1, 0]) (y := C80 [1, 0, 1, 1]) (o := .tmp 4) (by kernel_rfl) (by kernel_rfl) (by kernel_rfl) rfl ?_
  refine at_skip (by kernel_rfl) ?_
  refine at_then_normal ?_
  refine at_seq (x := C80 [1, 1, 0]) (y := C80 [1, 1, 1]) (by kernel_rfl) ?_
  refine at_seq (x := C80 [1, 1, 0, 0]) (y := C80 [1, 1, 0, 1]) (by kernel_rfl) ?_
  refine at_region (id := 4) 2 (by kernel_rfl) (by kernel_rfl) ?_
  refine s_pure 7 (.int .u64 (11)) (by kernel_rfl) (by kernel_rfl) (fun _ => by kernel_rfl) ?_
  refine s_pure 8 (.bool false) (by kernel_rfl) (by kernel_rfl) (fun _ => by kernel_rfl) ?_
  refine ops_end ?_
  refine At.env [(0, .int .u64 (11)), (2, .int .i64 (0)), (4, .bool false), (8, .bool false)] ⟨by kernel_rfl, by kernel_rfl, by kernel_rfl, by kernel_rfl, trivial⟩ ?_
  refine at_then_normal ?_
  refine at_false (t := false) (x := C80 [1, 1, 0, 1, 0]) (y := C80 [1, 1, 0, 1, 1]) (o := .tmp 8) (by kernel_rfl) (by kernel_rfl) (by kernel_rfl) rfl ?_
  refine at_skip (by kernel_rfl) ?_
  refine at_then_normal ?_
  refine at_seq (x := C80 [1, 1, 1, 0]) (y := C80 [1, 1, 1, 1]) (by kernel_rfl) ?_
  refine at_seq (x := C80 [1, 1, 1, 0, 0]) (y := C80 [1, 1, 1, 0, 1]) (by kernel_rfl) ?_
  refine at_region (id := 7) 2 (by kernel_rfl) (by kernel_rfl) ?_
  refine s_pure 13 (.int .u64 (11)) (by kernel_rfl) (by kernel_rfl) (fun _ => by kernel_rfl) ?_
  refine s_pure 14 (.bool false) (by kernel_rfl) (by kernel_rfl) (fun _ => by kernel_rfl) ?_
  refine ops_end ?_
  refine At.env [(0, .int .u64 (11)), (2, .int .i64 (0)), (4, .bool false), (8, .bool false), (14, .bool false)] ⟨by kernel_rfl, by kernel_rfl, by kernel_rfl, by kernel_rfl, by kernel_rfl, trivial⟩ ?_
  refine at_then_normal ?_
  refine at_false (t := false) (x := C80 [1, 1, 1, 0, 1, 0]) (y := C80 [1, 1, 1, 0, 1, 1]) (o := .tmp 14) (by kernel_rfl) (by kernel_rfl) (by kernel_rfl) rfl ?_
  refine at_skip (by kernel_rfl) ?_
  refine at_then_normal ?_
  refine at_seq (x := C80 [1, 1, 1, 1, 0]) (y := C80 [1, 1, 1, 1, 1]) (by kernel_rfl) ?_
  refine at_region (id := 10) 7 (by kernel_rfl) (by kernel_rfl) ?_
  refine s_pure 19 (.int .i64 (0)) (by kernel_rfl) (by kernel_rfl) (fun _ => by kernel_rfl) ?_
  refine s_pure 20 (.int .u64 (11)) (by kernel_rfl) (by kernel_rfl) (fun _ => by kernel_rfl) ?_
  refine s_pure 21 (.int .u8 (11)) (by kernel_rfl) (by kernel_rfl) (fun _ => by kernel_rfl) ?_
  refine s_pure 22 (.int .u8 (4)) (by kernel_rfl) (by kernel_rfl) (fun _ => by kernel_rfl) ?_
  refine s_pure 23 (.int .i64 (4)) (by kernel_rfl) (by kernel_rfl) (fun _ => by kernel_rfl) ?_
  refine s_pure 24 (.int .i64 (4)) (by kernel_rfl) (by kernel_rfl) (fun _ => by kernel_rfl) ?_
  refine s_pure 2 (.int .i64 (4)) (by kernel_rfl) (by kernel_rfl) (fun _ => by kernel_rfl) ?_
  refine ops_end ?_
  refine At.env [(0, .int .u64 (11)), (2, .int .i64 (4)), (4, .bool false), (8, .bool false), (14, .bool false)] ⟨by kernel_rfl, by kernel_rfl, by kernel_rfl, by kernel_rfl, by kernel_rfl, trivial⟩ ?_
  refine at_then_normal ?_
  refine at_ret (by kernel_rfl) ?_
  obtain rfl := someE H
  refine at_backR [.int .i64 (4)] (Γ) (rs := [.tmp 2]) (by kernel_rfl) (.cons (.tmp (by kernel_rfl)) .nil) (fun w hw => (Sat.less .refl hw)) ?_
  exact ⟨rfl, rfl⟩
def len64_12 : Option (Int) :=
  some (4 : Int)
set_option maxRecDepth 100000 in
set_option maxHeartbeats 8000000 in
theorem Len64_12_tr {W0 : World} {Γ : List Asn}   (y : Int) (H : len64_12 = some y) : Tr Try.prog 80 #[.int .u64 (12)] W0 (Γ) (fun r Δ => r = .int .i64 y ∧ Δ = Γ) := by
  unfold len64_12 at H
  refine Tr.enter (fn := Try.f80) (c := C80 []) (args := [.int .u64 (12)]) 25 Try.func80 (by kernel_rfl) (by kernel_rfl) ?_
  refine At.env [(0, .int .u64 (12))] ⟨by kernel_rfl, trivial⟩ ?_
  refine at_seq (x := C80 [0]) (y := C80 [1]) (by kernel_rfl) ?_
  refine at_region (id := 0) 1 (by kernel_rfl) (by kernel_rfl) ?_
  refine s_pure 2 (.int .i64 (0)) (by kernel_rfl) (by kernel_rfl) (fun _ => by kernel_rfl) ?_
  refine ops_end ?_
  refine At.env [(0, .int .u64 (12)), (2, .int .i64 (0))] ⟨by kernel_rfl, by kernel_rfl, trivial⟩ ?_
  refine at_then_normal ?_
  refine at_seq (x := C80 [1, 0]) (y := C80 [1, 1]) (by kernel_rfl) ?_
  refine at_seq (x := C80 [1, 0, 0]) (y := C80 [1, 0, 1]) (by kernel_rfl) ?_
  refine at_region (id := 1) 2 (by kernel_rfl) (by kernel_rfl) ?_
  refine s_pure 3 (.int .u64 (12)) (by kernel_rfl) (by kernel_rfl) (fun _ => by kernel_rfl) ?_
  refine s_pure 4 (.bool false) (by kernel_rfl) (by kernel_rfl) (fun _ => by kernel_rfl) ?_
  refine ops_end ?_
  refine At.env [(0, .int .u64 (12)), (2, .int .i64 (0)), (4, .bool false)] ⟨by kernel_rfl, by kernel_rfl, by kernel_rfl, trivial⟩ ?_
  refine at_then_normal ?_
  refine at_false (t := false) (x := C80 [1, 0, 1, 0]) (y := C80 [1, 0, 1, 1]) (o := .tmp 4) (by kernel_rfl) (by kernel_rfl) (by kernel_rfl) rfl ?_
  refine at_skip (by kernel_rfl) ?_
  refine at_then_normal ?_
  refine at_seq (x := C80 [1, 1, 0]) (y := C80 [1, 1, 1]) (by kernel_rfl) ?_
  refine at_seq (x := C80 [1, 1, 0, 0]) (y := C80 [1, 1, 0, 1]) (by kernel_rfl) ?_
  refine at_region (id := 4) 2 (by kernel_rfl) (by kernel_rfl) ?_
  refine s_pure 7 (.int .u64 (12)) (by kernel_rfl) (by kernel_rfl) (fun _ => by kernel_rfl) ?_
  refine s_pure 8 (.bool false) (by kernel_rfl) (by kernel_rfl) (fun _ => by kernel_rfl) ?_
  refine ops_end ?_
  refine At.env [(0, .int .u64 (12)), (2, .int .i64 (0)), (4, .bool false), (8, .bool false)] ⟨by kernel_rfl, by kernel_rfl, by kernel_rfl, by kernel_rfl, trivial⟩ ?_
  refine at_then_normal ?_
  refine at_false (t := false) (x := C80 [1, 1, 0, 1, 0]) (y := C80 [1, 1, 0, 1, 1]) (o := .tmp 8) (by kernel_rfl) (by kernel_rfl) (by kernel_rfl) rfl ?_
  refine at_skip (by kernel_rfl) ?_
  refine at_then_normal ?_
  refine at_seq (x := C80 [1, 1, 1, 0]) (y := C80 [1, 1, 1, 1]) (by kernel_rfl) ?_
  refine at_seq (x := C80 [1, 1, 1, 0, 0]) (y := C80 [1, 1, 1, 0, 1]) (by kernel_rfl) ?_
  refine at_region (id := 7) 2 (by kernel_rfl) (by kernel_rfl) ?_
  refine s_pure 13 (.int .u64 (12)) (by kernel_rfl) (by kernel_rfl) (fun _ => by kernel_rfl) ?_
  refine s_pure 14 (.bool false) (by kernel_rfl) (by kernel_rfl) (fun _ => by kernel_rfl) ?_
  refine ops_end ?_
  refine At.env [(0, .int .u64 (12)), (2, .int .i64 (0)), (4, .bool false), (8, .bool false), (14, .bool false)] ⟨by kernel_rfl, by kernel_rfl, by kernel_rfl, by kernel_rfl, by kernel_rfl, trivial⟩ ?_
  refine at_then_normal ?_
  refine at_false (t := false) (x := C80 [1, 1, 1, 0, 1, 0]) (y := C80 [1, 1, 1, 0, 1, 1]) (o := .tmp 14) (by kernel_rfl) (by kernel_rfl) (by kernel_rfl) rfl ?_
  refine at_skip (by kernel_rfl) ?_
  refine at_then_normal ?_
  refine at_seq (x := C80 [1, 1, 1, 1, 0]) (y := C80 [1, 1, 1, 1, 1]) (by kernel_rfl) ?_
  refine at_region (id := 10) 7 (by kernel_rfl) (by kernel_rfl) ?_
  refine s_pure 19 (.int .i64 (0)) (by kernel_rfl) (by kernel_rfl) (fun _ => by kernel_rfl) ?_
  refine s_pure 20 (.int .u64 (12)) (by kernel_rfl) (by kernel_rfl) (fun _ => by kernel_rfl) ?_
  refine s_pure 21 (.int .u8 (12)) (by kernel_rfl) (by kernel_rfl) (fun _ => by kernel_rfl) ?_
  refine s_pure 22 (.int .u8 (4)) (by kernel_rfl) (by kernel_rfl) (fun _ => by kernel_rfl) ?_
  refine s_pure 23 (.int .i64 (4)) (by kernel_rfl) (by kernel_rfl) (fun _ => by kernel_rfl) ?_
  refine s_pure 24 (.int .i64 (4)) (by kernel_rfl) (by kernel_rfl) (fun _ => by kernel_rfl) ?_
  refine s_pure 2 (.int .i64 (4)) (by kernel_rfl) (by kernel_rfl) (fun _ => by kernel_rfl) ?_
  refine ops_end ?_
  refine At.env [(0, .int .u64 (12)), (2, .int .i64 (4)), (4, .bool false), (8, .bool false), (14, .bool false)] ⟨by kernel_rfl, by kernel_rfl, by kernel_rfl, by kernel_rfl, by kernel_rfl, trivial⟩ ?_
  refine at_then_normal ?_
  refine at_ret (by kernel_rfl) ?_
  obtain rfl := someE H
  refine at_backR [.int .i64 (4)] (Γ) (rs := [.tmp 2]) (by kernel_rfl) (.cons (.tmp (by kernel_rfl)) .nil) (fun w hw => (Sat.less .refl hw)) ?_
  exact ⟨rfl, rfl⟩
def len_0 : Option (Int) :=
  (len64_0).bind fun y2_1 => some y2_1
noncomputable def C69 (p : List Nat) : Code := codeAt (bodyOf Try.f69) p
set_option maxRecDepth 100000 in
set_option maxHeartbeats 8000000 in
theorem Len_0_tr {W0 : World} {Γ : List Asn}   (y : Int) (H : len_0 = some y) : Tr Try.prog 69 #[.int .u64 (0)] W0 (Γ) (fun r Δ => r = .int .i64 y ∧ Δ = Γ) := by
  unfold len_0 at H
  refine Tr.enter (fn := Try.f69) (c := C69 []) (args := [.int .u64 (0)]) 8 Try.func69 (by kernel_rfl) (by kernel_rfl) ?_
  refine At.env [(0, .int .u64 (0))] ⟨by kernel_rfl, trivial⟩ ?_
  refine at_seq (x := C69 [0]) (y := C69 [1]) (by kernel_rfl) ?_
  refine at_region (id := 0) 1 (by kernel_rfl) (by kernel_rfl) ?_
  refine s_pure 2 (.int .i64 (0)) (by kernel_rfl) (by kernel_rfl) (fun _ => by kernel_rfl) ?_
  refine ops_end ?_
  refine At.env [(0, .int .u64 (0)), (2, .int .i64 (0))] ⟨by kernel_rfl, by kernel_rfl, trivial⟩ ?_
  refine at_then_normal ?_
  refine at_seq (x := C69 [1, 0]) (y := C69 [1, 1]) (by kernel_rfl) ?_
  refine at_false (t := false) (x := C69 [1, 0, 0]) (y := C69 [1, 0, 1]) (o := .const (.bool false)) (by kernel_rfl) (by kernel_rfl) (by kernel_rfl) rfl ?_
  refine at_skip (by kernel_rfl) ?_
  refine at_then_normal ?_
  refine at_seq (x := C69 [1, 1, 0]) (y := C69 [1, 1, 1]) (by kernel_rfl) ?_
  refine at_region (id := 2) 3 (by kernel_rfl) (by kernel_rfl) ?_
  refine s_pure 6 (.int .u64 (0)) (by kernel_rfl) (by kernel_rfl) (fun _ => by kernel_rfl) ?_
  obtain ⟨y2_1, hy2_1, H⟩ := bindE H
  refine s_quiet 7 (.int .i64 y2_1) 80 #[.int .u64 (0)] (by kernel_rfl) (by kernel_rfl) (fun _ => by kernel_rfl) (Len64_0_tr  y2_1 hy2_1) ?_
  refine s_pure 2 (.int .i64 y2_1) (by kernel_rfl) (by kernel_rfl) (fun _ => by kernel_rfl) ?_
  refine ops_end ?_
  refine At.env [(0, .int .u64 (0)), (2, .int .i64 y2_1)] ⟨by kernel_rfl, by kernel_rfl, trivial⟩ ?_
  refine at_then_normal ?_
  refine at_ret (by kernel_rfl) ?_
  obtain rfl := someE H
  refine at_backR [.int .i64 y2_1] (Γ) (rs := [.tmp 2]) (by kernel_rfl) (.cons (.tmp (by kernel_rfl)) .nil) (fun w hw => (Sat.less .refl hw)) ?_
  exact ⟨rfl, rfl⟩
def len_1 : Option (Int) :=
  (len64_1).bind fun y2_1 => some y2_1
set_option maxRecDepth 100000 in
set_option maxHeartbeats 8000000 in
theorem Len_1_tr {W0 : World} {Γ : List Asn}   (y : Int) (H : len_1 = some y) : Tr Try.prog 69 #[.int .u64 (1)] W0 (Γ) (fun r Δ => r = .int .i64 y ∧ Δ = Γ) := by
  unfold len_1 at H
  refine Tr.enter (fn := Try.f69) (c := C69 []) (args := [.int .u64 (1)]) 8 Try.func69 (by kernel_rfl) (by kernel_rfl) ?_
  refine At.env [(0, .int .u64 (1))] ⟨by kernel_rfl, trivial⟩ ?_
  refine at_seq (x := C69 [0]) (y := C69 [1]) (by kernel_rfl) ?_
  refine at_region (id := 0) 1 (by kernel_rfl) (by kernel_rfl) ?_
  refine s_pure 2 (.int .i64 (0)) (by kernel_rfl) (by kernel_rfl) (fun _ => by kernel_rfl) ?_
  refine ops_end ?_
  refine At.env [(0, .int .u64 (1)), (2, .int .i64 (0))] ⟨by kernel_rfl, by kernel_rfl, trivial⟩ ?_
  refine at_then_normal ?_
  refine at_seq (x := C69 [1, 0]) (y := C69 [1, 1]) (by kernel_rfl) ?_
  refine at_false (t := false) (x := C69 [1, 0, 0]) (y := C69 [1, 0, 1]) (o := .const (.bool false)) (by kernel_rfl) (by kernel_rfl) (by kernel_rfl) rfl ?_
  refine at_skip (by kernel_rfl) ?_
  refine at_then_normal ?_
  refine at_seq (x := C69 [1, 1, 0]) (y := C69 [1, 1, 1]) (by kernel_rfl) ?_
  refine at_region (id := 2) 3 (by kernel_rfl) (by kernel_rfl) ?_
  refine s_pure 6 (.int .u64 (1)) (by kernel_rfl) (by kernel_rfl) (fun _ => by kernel_rfl) ?_
  obtain ⟨y2_1, hy2_1, H⟩ := bindE H
  refine s_quiet 7 (.int .i64 y2_1) 80 #[.int .u64 (1)] (by kernel_rfl) (by kernel_rfl) (fun _ => by kernel_rfl) (Len64_1_tr  y2_1 hy2_1) ?_
  refine s_pure 2 (.int .i64 y2_1) (by kernel_rfl) (by kernel_rfl) (fun _ => by kernel_rfl) ?_
  refine ops_end ?_
  refine At.env [(0, .int .u64 (1)), (2, .int .i64 y2_1)] ⟨by kernel_rfl, by kernel_rfl, trivial⟩ ?_
  refine at_then_normal ?_
  refine at_ret (by kernel_rfl) ?_
  obtain rfl := someE H
  refine at_backR [.int .i64 y2_1] (Γ) (rs := [.tmp 2]) (by kernel_rfl) (.cons (.tmp (by kernel_rfl)) .nil) (fun w hw => (Sat.less .refl hw)) ?_
  exact ⟨rfl, rfl⟩
def len_2 : Option (Int) :=
  (len64_2).bind fun y2_1 => some y2_1
set_option maxRecDepth 100000 in
set_option maxHeartbeats 8000000 in
theorem Len_2_tr {W0 : World} {Γ : List Asn}   (y : Int) (H : len_2 = some y) : Tr Try.prog 69 #[.int .u64 (2)] W0 (Γ) (fun r Δ => r = .int .i64 y ∧ Δ = Γ) := by
  unfold len_2 at H
  refine Tr.enter (fn := Try.f69) (c := C69 []) (args := [.int .u64 (2)]) 8 Try.func69 (by kernel_rfl) (by kernel_rfl) ?_
  refine At.env [(0, .int .u64 (2))] ⟨by kernel_rfl, trivial⟩ ?_
  refine at_seq (x := C69 [0]) (y := C69 [1]) (by kernel_rfl) ?_
  refine at_region (id := 0) 1 (by kernel_rfl) (by kernel_rfl) ?_
  refine s_pure 2 (.int .i64 (0)) (by kernel_rfl) (by kernel_rfl) (fun _ => by kernel_rfl) ?_
  refine ops_end ?_
  refine At.env [(0, .int .u64 (2)), (2, .int .i64 (0))] ⟨by kernel_rfl, by kernel_rfl, trivial⟩ ?_
  refine at_then_normal ?_
  refine at_seq (x := C69 [1, 0]) (y := C69 [1, 1]) (by kernel_rfl) ?_
  refine at_false (t := false) (x := C69 [1, 0, 0]) (y := C69 [1, 0, 1]) (o := .const (.bool false)) (by kernel_rfl) (by kernel_rfl) (by kernel_rfl) rfl ?_
  refine at_skip (by kernel_rfl) ?_
  refine at_then_normal ?_
  refine at_seq (x := C69 [1, 1, 0]) (y := C69 [1, 1, 1]) (by kernel_rfl) ?_
  refine at_region (id := 2) 3 (by kernel_rfl) (by kernel_rfl) ?_
  refine s_pure 6 (.int .u64 (2)) (by kernel_rfl) (by kernel_rfl) (fun _ => by kernel_rfl) ?_
  obtain ⟨y2_1, hy2_1, H⟩ := bindE H
  refine s_quiet 7 (.int .i64 y2_1) 80 #[.int .u64 (2)] (by kernel_rfl) (by kernel_rfl) (fun _ => by kernel_rfl) (Len64_2_tr  y2_1 hy2_1) ?_
  refine s_pure 2 (.int .i64 y2_1) (by kernel_rfl) (by kernel_rfl) (fun _ => by kernel_rfl) ?_
  refine ops_end ?_
  refine At.env [(0, .int .u64 (2)), (2, .int .i64 y2_1)] ⟨by kernel_rfl, by kernel_rfl, trivial⟩ ?_
  refine at_then_normal ?_
  refine at_ret (by kernel_rfl) ?_
  obtain rfl := someE H
  refine at_backR [.int .i64 y2_1] (Γ) (rs := [.tmp 2]) (by kernel_rfl) (.cons (.tmp (by kernel_rfl)) .nil) (fun w hw => (Sat.less .refl hw)) ?_
  exact ⟨rfl, rfl⟩
def len_3 : Option (Int) :=
  (len64_3).bind fun y2_1 => some y2_1
set_option maxRecDepth 100000 in
set_option maxHeartbeats 8000000 in
theorem Len_3_tr {W0 : World} {Γ : List Asn}   (y : Int) (H : len_3 = some y) : Tr Try.prog 69 #[.int .u64 (3)] W0 (Γ) (fun r Δ => r = .int .i64 y ∧ Δ = Γ) := by
  unfold len_3 at H
  refine Tr.enter (fn := Try.f69) (c := C69 []) (args := [.int .u64 (3)]) 8 Try.func69 (by kernel_rfl) (by kernel_rfl) ?_
  refine At.env [(0, .int .u64 (3))] ⟨by kernel_rfl, trivial⟩ ?_
  refine at_seq (x := C69 [0]) (y := C69 [1]) (by kernel_rfl) ?_
  refine at_region (id := 0) 1 (by kernel_rfl) (by kernel_rfl) ?_
  refine s_pure 2 (.int .i64 (0)) (by kernel_rfl) (by kernel_rfl) (fun _ => by kernel_rfl) ?_
  refine ops_end ?_
  refine At.env [(0, .int .u64 (3)), (2, .int .i64 (0))] ⟨by kernel_rfl, by kernel_rfl, trivial⟩ ?_
  refine at_then_normal ?_
  refine at_seq (x := C69 [1, 0]) (y := C69 [1, 1]) (by kernel_rfl) ?_
  refine at_false (t := false) (x := C69 [1, 0, 0]) (y := C69 [1, 0, 1]) (o := .const (.bool false)) (by kernel_rfl) (by kernel_rfl) (by kernel_rfl) rfl ?_
  refine at_skip (by kernel_rfl) ?_
  refine at_then_normal ?_
  refine at_seq (x := C69 [1, 1, 0]) (y := C69 [1, 1, 1]) (by kernel_rfl) ?_
  refine at_region (id := 2) 3 (by kernel_rfl) (by kernel_rfl) ?_
  refine s_pure 6 (.int .u64 (3)) (by kernel_rfl) (by kernel_rfl) (fun _ => by kernel_rfl) ?_
  obtain ⟨y2_1, hy2_1, H⟩ := bindE H
  refine s_quiet 7 (.int .i64 y2_1) 80 #[.int .u64 (3)] (by kernel_rfl) (by kernel_rfl) (fun _ => by kernel_rfl) (Len64_3_tr  y2_1 hy2_1) ?_
  refine s_pure 2 (.int .i64 y2_1) (by kernel_rfl) (by kernel_rfl) (fun _ => by kernel_rfl) ?_
  refine ops_end ?_
  refine At.env [(0, .int .u64 (3)), (2, .int .i64 y2_1)] ⟨by kernel_rfl, by kernel_rfl, trivial⟩ ?_
  refine at_then_normal ?_
  refine at_ret (by kernel_rfl) ?_
  obtain rfl := someE H
  refine at_backR [.int .i64 y2_1] (Γ) (rs := [.tmp 2]) (by kernel_rfl) (.cons (.tmp (by kernel_rfl)) .nil) (fun w hw => (Sat.less .refl hw)) ?_
  exact ⟨rfl, rfl⟩
def len_4 : Option (Int) :=
  (len64_4).bind fun y2_1 => some y2_1
set_option maxRecDepth 100000 in
set_option maxHeartbeats 8000000 in
theorem Len_4_tr {W0 : World} {Γ : List Asn}   (y : Int) (H : len_4 = some y) : Tr Try.prog 69 #[.int .u64 (4)] W0 (Γ) (fun r Δ => r = .int .i64 y ∧ Δ = Γ) := by
  unfold len_4 at H
  refine Tr.enter (fn := Try.f69) (c := C69 []) (args := [.int .u64 (4)]) 8 Try.func69 (by kernel_rfl) (by kernel_rfl) ?_
  refine At.env [(0, .int .u64 (4))] ⟨by kernel_rfl, trivial⟩ ?_
  refine at_seq (x := C69 [0]) (y := C69 [1]) (by kernel_rfl) ?_
  refine at_region (id := 0) 1 (by kernel_rfl) (by kernel_rfl) ?_
  refine s_pure 2 (.int .i64 (0)) (by kernel_rfl) (by kernel_rfl) (fun _ => by kernel_rfl) ?_
  refine ops_end ?_
  refine At.env [(0, .int .u64 (4)), (2, .int .i64 (0))] ⟨by kernel_rfl, by kernel_rfl, trivial⟩ ?_
  refine at_then_normal ?_
  refine at_seq (x := C69 [1, 0]) (y := C69 [1, 1]) (by kernel_rfl) ?_
  refine at_false (t := false) (x := C69 [1, 0, 0]) (y := C69 [1, 0, 1]) (o := .const (.bool false)) (by kernel_rfl) (by kernel_rfl) (by kernel_rfl) rfl ?_
  refine at_skip (by kernel_rfl) ?_
  refine at_then_normal ?_
  refine at_seq (x := C69 [1, 1, 0]) (y := C69 [1, 1, 1]) (by kernel_rfl) ?_
  refine at_region (id := 2) 3 (by kernel_rfl) (by kernel_rfl) ?_
  refine s_pure 6 (.int .u64 (4)) (by kernel_rfl) (by kernel_rfl) (fun _ => by kernel_rfl) ?_
  obtain ⟨y2_1, hy2_1, H⟩ := bindE H
  refine s_quiet 7 (.int .i64 y2_1) 80 #[.int .u64 (4)] (by kernel_rfl) (by kernel_rfl) (fun _ => by kernel_rfl) (Len64_4_tr  y2_1 hy2_1) ?_
  refine s_pure 2 (.int .i64 y2_1) (by kernel_rfl) (by kernel_rfl) (fun _ => by kernel_rfl) ?_
  refine ops_end ?_
  refine At.env [(0, .int .u64 (4)), (2, .int .i64 y2_1)] ⟨by kernel_rfl, by kernel_rfl, trivial⟩ ?_
  refine at_then_normal ?_
  refine at_ret (by kernel_rfl) ?_
  obtain rfl := someE H
  refine at_backR [.int .i64 y2_1] (Γ) (rs := [.tmp 2]) (by kernel_rfl) (.cons (.tmp (by kernel_rfl)) .nil) (fun w hw => (Sat.less .refl hw)) ?_
  exact ⟨rfl, rfl⟩
def len_5 : Option (Int) :=
  (len64_5).bind fun y2_1 => some y2_1
set_option maxRecDepth 100000 in
set_option maxHeartbeats 8000000 in
theorem Len_5_tr {W0 : World} {Γ : List Asn}   (y : Int) (H : len_5 = some y) : Tr Try.prog 69 #[.int .u64 (5)] W0 (Γ) (fun r Δ => r = .int .i64 y ∧ Δ = Γ) := by
  unfold len_5 at H
  refine Tr.enter (fn := Try.f69) (c := C69 []) (args := [.int .u64 (5)]) 8 Try.func69 (by kernel_rfl) (by kernel_rfl) ?_
  refine At.env [(0, .int .u64 (5))] ⟨by kernel_rfl, trivial⟩ ?_
  refine at_seq (x := C69 [0]) (y := C69 [1]) (by kernel_rfl) ?_
  refine at_region (id := 0) 1 (by kernel_rfl) (by kernel_rfl) ?_
  refine s_pure 2 (.int .i64 (0)) (by kernel_rfl) (by kernel_rfl) (fun _ => by kernel_rfl) ?_
  refine ops_end ?_
  refine At.env [(0, .int .u64 (5)), (2, .int .i64 (0))] ⟨by kernel_rfl, by kernel_rfl, trivial⟩ ?_
  refine at_then_normal ?_
  refine at_seq (x := C69 [1, 0]) (y := C69 [1, 1]) (by kernel_rfl) ?_
  refine at_false (t := false) (x := C69 [1, 0, 0]) (y := C69 [1, 0, 1]) (o := .const (.bool false)) (by kernel_rfl) (by kernel_rfl) (by kernel_rfl) rfl ?_
  refine at_skip (by kernel_rfl) ?_
  refine at_then_normal ?_
  refine at_seq (x := C69 [1, 1, 0]) (y := C69 [1, 1, 1]) (by kernel_rfl) ?_
  refine at_region (id := 2) 3 (by kernel_rfl) (by kernel_rfl) ?_
  refine s_pure 6 (.int .u64 (5)) (by kernel_rfl) (by kernel_rfl) (fun _ => by kernel_rfl) ?_
  obtain ⟨y2_1, hy2_1, H⟩ := bindE H
  refine s_quiet 7 (.int .i64 y2_1) 80 #[.int .u64 (5)] (by kernel_rfl) (by kernel_rfl) (fun _ => by kernel_rfl) (Len64_5_tr  y2_1 hy2_1) ?_
  refine s_pure 2 (.int .i64 y2_1) (by kernel_rfl) (by kernel_rfl) (fun _ => by kernel_rfl) ?_
  refine ops_end ?_
  refine At.env [(0, .int .u64 (5)), (2, .int .i64 y2_1)] ⟨by kernel_rfl, by kernel_rfl, trivial⟩ ?_
  refine at_then_normal ?_
  refine at_ret (by kernel_rfl) ?_
  obtain rfl := someE H
  refine at_backR [.int .i64 y2_1] (Γ) (rs := [.tmp 2]) (by kernel_rfl) (.cons (.tmp (by kernel_rfl)) .nil) (fun w hw => (Sat.less .refl hw)) ?_
  exact ⟨rfl, rfl⟩
def len_6 : Option (Int) :=
  (len64_6).bind fun y2_1 => some y2_1
set_option maxRecDepth 100000 in
set_option maxHeartbeats 8000000 in
theorem Len_6_tr {W0 : World} {Γ : List Asn}   (y : Int) (H : len_6 = some y) : Tr Try.prog 69 #[.int .u64 (6)] W0 (Γ) (fun r Δ => r = .int .i64 y ∧ Δ = Γ) := by
  unfold len_6 at H
  refine Tr.enter (fn := Try.f69) (c := C69 []) (args := [.int .u64 (6)]) 8 Try.func69 (by kernel_rfl) (by kernel_rfl) ?_
  refine At.env [(0, .int .u64 (6))] ⟨by kernel_rfl, trivial⟩ ?_
  refine at_seq (x := C69 [0]) (y := C69 [1]) (by kernel_rfl) ?_
  refine at_region (id := 0) 1 (by kernel_rfl) (by kernel_rfl) ?_
  refine s_pure 2 (.int .i64 (0)) (by kernel_rfl) (by kernel_rfl) (fun _ => by kernel_rfl) ?_
  refine ops_end ?_
  refine At.env [(0, .int .u64 (6)), (2, .int .i64 (0))] ⟨by kernel_rfl, by kernel_rfl, trivial⟩ ?_
  refine at_then_normal ?_
  refine at_seq (x := C69 [1, 0]) (y := C69 [1, 1]) (by kernel_rfl) ?_
  refine at_false (t := false) (x := C69 [1, 0, 0]) (y := C69 [1, 0, 1]) (o := .const (.bool false)) (by kernel_rfl) (by kernel_rfl) (by kernel_rfl) rfl ?_
  refine at_skip (by kernel_rfl) ?_
  refine at_then_normal ?_
  refine at_seq (x := C69 [1, 1, 0]) (y := C69 [1, 1, 1]) (by kernel_rfl) ?_
  refine at_region (id := 2) 3 (by kernel_rfl) (by kernel_rfl) ?_
  refine s_pure 6 (.int .u64 (6)) (by kernel_rfl) (by kernel_rfl) (fun _ => by kernel_rfl) ?_
  obtain ⟨y2_1, hy2_1, H⟩ := bindE H
  refine s_quiet 7 (.int .i64 y2_1) 80 #[.int .u64 (6)] (by kernel_rfl) (by kernel_rfl) (fun _ => by kernel_rfl) (Len64_6_tr  y2_1 hy2_1) ?_
  refine s_pure 2 (.int .i64 y2_1) (by kernel_rfl) (by kernel_rfl) (fun _ => by kernel_rfl) ?_
  refine ops_end ?_
  refine At.env [(0, .int .u64 (6)), (2, .int .i64 y2_1)] ⟨by kernel_rfl, by kernel_rfl, trivial⟩ ?_
  refine at_then_normal ?_
  refine at_ret (by kernel_rfl) ?_
  obtain rfl := someE H
  refine at_backR [.int .i64 y2_1] (Γ) (rs := [.tmp 2]) (by kernel_rfl) (.cons (.tmp (by kernel_rfl)) .nil) (fun w hw => (Sat.less .refl hw)) ?_
  exact ⟨rfl, rfl⟩
def len_7 : Option (Int) :=
  (len64_7).bind fun y2_1 => some y2_1
set_option maxRecDepth 100000 in
set_option maxHeartbeats 8000000 in
theorem Len_7_tr {W0 : World} {Γ : List Asn}   (y : Int) (H : len_7 = some y) : Tr Try.prog 69 #[.int .u64 (7)] W0 (Γ) (fun r Δ => r = .int .i64 y ∧ Δ = Γ) := by
  unfold len_7 at H
  refine Tr.enter (fn := Try.f69) (c := C69 []) (args := [.int .u64 (7)]) 8 Try.func69 (by kernel_rfl) (by kernel_rfl) ?_
  refine At.env [(0, .int .u64 (7))] ⟨by kernel_rfl, trivial⟩ ?_
  refine at_seq (x := C69 [0]) (y := C69 [1]) (by kernel_rfl) ?_
  refine at_region (id := 0) 1 (by kernel_rfl) (by kernel_rfl) ?_
  refine s_pure 2 (.int .i64 (0)) (by kernel_rfl) (by kernel_rfl) (fun _ => by kernel_rfl) ?_
  refine ops_end ?_
  refine At.env [(0, .int .u64 (7)), (2, .int .i64 (0))] ⟨by kernel_rfl, by kernel_rfl, trivial⟩ ?_
  refine at_then_normal ?_
  refine at_seq (x := C69 [1, 0]) (y := C69 [1, 1]) (by kernel_rfl) ?_
  refine at_false (t := false) (x := C69 [1, 0, 0]) (y := C69 [1, 0, 1]) (o := .const (.bool false)) (by kernel_rfl) (by kernel_rfl) (by kernel_rfl) rfl ?_
  refine at_skip (by kernel_rfl) ?_
  refine at_then_normal ?_
  refine at_seq (x := C69 [1, 1, 0]) (y := C69 [1, 1, 1]) (by kernel_rfl) ?_
  refine at_region (id := 2) 3 (by kernel_rfl) (by kernel_rfl) ?_
  refine s_pure 6 (.int .u64 (7)) (by kernel_rfl) (by kernel_rfl) (fun _ => by kernel_rfl) ?_
  obtain ⟨y2_1, hy2_1, H⟩ := bindE H
  refine s_quiet 7 (.int .i64 y2_1) 80 #[.int .u64 (7)] (by kernel_rfl) (by kernel_rfl) (fun _ => by kernel_rfl) (Len64_7_tr  y2_1 hy2_1) ?_
  refine s_pure 2 (.int .i64 y2_1) (by kernel_rfl) (by kernel_rfl) (fun _ => by kernel_rfl) ?_
  refine ops_end ?_
  refine At.env [(0, .int .u64 (7)), (2, .int .i64 y2_1)] ⟨by kernel_rfl, by kernel_rfl, trivial⟩ ?_
  refine at_then_normal ?_
  refine at_ret (by kernel_rfl) ?_
  obtain rfl := someE H
  refine at_backR [.int .i64 y2_1] (Γ) (rs := [.tmp 2]) (by kernel_rfl) (.cons (.tmp (by kernel_rfl)) .nil) (fun w hw => (Sat.less .refl hw)) ?_
  exact ⟨rfl, rfl⟩
def len_8 : Option (Int) :=
  (len64_8).bind fun y2_1 => some y2_1
set_option maxRecDepth 100000 in
set_option maxHeartbeats 8000000 in
theorem Len_8_tr {W0 : World} {Γ : List Asn}   (y : Int) (H : len_8 = some y) : Tr Try.prog 69 #[.int .u64 (8)] W0 (Γ) (fun r Δ => r = .int .i64 y ∧ Δ = Γ) := by
  unfold len_8 at H
  refine Tr.enter (fn := Try.f69) (c := C69 []) (args := [.int .u64 (8)]) 8 Try.func69 (by kernel_rfl) (by kernel_rfl) ?_
  refine At.env [(0, .int .u64 (8))] ⟨by kernel_rfl, trivial⟩ ?_
  refine at_seq (x := C69 [0]) (y := C69 [1]) (by kernel_rfl) ?_
  refine at_region (id := 0) 1 (by kernel_rfl) (by kernel_rfl) ?_
  refine s_pure 2 (.int .i64 (0)) (by kernel_rfl) (by kernel_rfl) (fun _ => by kernel_rfl) ?_
  refine ops_end ?_
  refine At.env [(0, .int .u64 (8)), (2, .int .i64 (0))] ⟨by kernel_rfl, by kernel_rfl, trivial⟩ ?_
  refine at_then_normal ?_
  refine at_seq (x := C69 [1, 0]) (y := C69 [1, 1]) (by kernel_rfl) ?_
  refine at_false (t := false) (x := C69 [1, 0, 0]) (y := C69 [1, 0, 1]) (o := .const (.bool false)) (by kernel_rfl) (by kernel_rfl) (by kernel_rfl) rfl ?_
  refine at_skip (by kernel_rfl) ?_
  refine at_then_normal ?_
  refine at_seq (x := C69 [1, 1, 0]) (y := C69 [1, 1, 1]) (by kernel_rfl) ?_
  refine at_region (id := 2) 3 (by kernel_rfl) (by kernel_rfl) ?_
  refine s_pure 6 (.int .u64 (8)) (by kernel_rfl) (by kernel_rfl) (fun _ => by kernel_rfl) ?_
  obtain ⟨y2_1, hy2_1, H⟩ := bindE H
  refine s_quiet 7 (.int .i64 y2_1) 80 #[.int .u64 (8)] (by kernel_rfl) (by kernel_rfl) (fun _ => by kernel_rfl) (Len64_8_tr  y2_1 hy2_1) ?_
  refine s_pure 2 (.int .i64 y2_1) (by kernel_rfl) (by kernel_rfl) (fun _ => by kernel_rfl) ?_
  refine ops_end ?_
  refine At.env [(0, .int .u64 (8)), (2, .int .i64 y2_1)] ⟨by kernel_rfl, by kernel_rfl, trivial⟩ ?_
  refine at_then_normal ?_
  refine at_ret (by kernel_rfl) ?_
  obtain rfl := someE H
  refine at_backR [.int .i64 y2_1] (Γ) (rs := [.tmp 2]) (by kernel_rfl) (.cons (.tmp (by kernel_rfl)) .nil) (fun w hw => (Sat.less .refl hw)) ?_
  exact ⟨rfl, rfl⟩
def len_9 : Option (Int) :=
  (len64_9).bind fun y2_1 => some y2_1
set_option maxRecDepth 100000 in
set_option maxHeartbeats 8000000 in
theorem Len_9_tr {W0 : World} {Γ : List Asn}   (y : Int) (H : len_9 = some y) : Tr Try.prog 69 #[.int .u64 (9)] W0 (Γ) (fun r Δ => r = .int .i64 y ∧ Δ = Γ) := by
  unfold len_9 at H
  refine Tr.enter (fn := Try.f69) (c := C69 []) (args := [.int .u64 (9)]) 8 Try.func69 (by kernel_rfl) (by kernel_rfl) ?_
  refine At.env [(0, .int .u64 (9))] ⟨by kernel_rfl, trivial⟩ ?_
  refine at_seq (x := C69 [0]) (y := C69 [1]) (by kernel_rfl) ?_
  refine at_region (id := 0) 1 (by kernel_rfl) (by kernel_rfl) ?_
  refine s_pure 2 (.int .i64 (0)) (by kernel_rfl) (by kernel_rfl) (fun _ => by kernel_rfl) ?_
  refine ops_end ?_
  refine At.env [(0, .int .u64 (9)), (2, .int .i64 (0))] ⟨by kernel_rfl, by kernel_rfl, trivial⟩ ?_
  refine at_then_normal ?_
  refine at_seq (x := C69 [1, 0]) (y := C69 [1, 1]) (by kernel_rfl) ?_
  refine at_false (t := false) (x := C69 [1, 0, 0]) (y := C69 [1, 0, 1]) (o := .const (.bool false)) (by kernel_rfl) (by kernel_rfl) (by kernel_rfl) rfl ?_
  refine at_skip (by kernel_rfl) ?_
  refine at_then_normal ?_
  refine at_seq (x := C69 [1, 1, 0]) (y := C69 [1, 1, 1]) (by kernel_rfl) ?_
  refine at_region (id := 2) 3 (by kernel_rfl) (by kernel_rfl) ?_
  refine s_pure 6 (.int .u64 (9)) (by kernel_rfl) (by kernel_rfl) (fun _ => by kernel_rfl) ?_
  obtain ⟨y2_1, hy2_1, H⟩ := bindE H
  refine s_quiet 7 (.int .i64 y2_1) 80 #[.int .u64 (9)] (by kernel_rfl) (by kernel_rfl) (fun _ => by kernel_rfl) (Len64_9_tr  y2_1 hy2_1) ?_
  refine s_pure 2 (.int .i64 y2_1) (by kernel_rfl) (by kernel_rfl) (fun _ => by kernel_rfl) ?_
  refine ops_end ?_
  refine At.env [(0, .int .u64 (9)), (2, .int .i64 y2_1)] ⟨by kernel_rfl, by kernel_rfl, trivial⟩ ?_
  refine at_then_normal ?_
  refine at_ret (by kernel_rfl) ?_
  obtain rfl := someE H
  refine at_backR [.int .i64 y2_1] (Γ) (rs := [.tmp 2]) (by kernel_rfl) (.cons (.tmp (by kernel_rfl)) .nil) (fun w hw => (Sat.less .refl hw)) ?_
  exact ⟨rfl, rfl⟩
def len_10 : Option (Int) :=
  (len64_10).bind fun y2_1 => some y2_1
set_option maxRecDepth 100000 in
set_option maxHeartbeats 8000000 in
theorem Len_10_tr {W0 : World} {Γ : List Asn}   (y : Int) (H : len_10 = some y) : Tr Try.prog 69 #[.int .u64 (10)] W0 (Γ) (fun r Δ => r = .int .i64 y ∧ Δ = Γ) := by
  unfold len_10 at H
  refine Tr.enter (fn := Try.f69) (c := C69 []) (args := [.int .u64 (10)]) 8 Try.func69 (by kernel_rfl) (by kernel_rfl) ?_
  refine At.env [(0, .int .u64 (10))] ⟨by kernel_rfl, trivial⟩ ?_
  refine at_seq (x := C69 [0]) (y := C69 [1]) (by kernel_rfl) ?_
  refine at_region (id := 0) 1 (by kernel_rfl) (by kernel_rfl) ?_
  refine s_pure 2 (.int .i64 (0)) (by kernel_rfl) (by kernel_rfl) (fun _ => by kernel_rfl) ?_
  refine ops_end ?_
  refine At.env [(0, .int .u64 (10)), (2, .int .i64 (0))] ⟨by kernel_rfl, by kernel_rfl, trivial⟩ ?_
  refine at_then_normal ?_
  refine at_seq (x := C69 [1, 0]) (y := C69 [1, 1]) (by kernel_rfl) ?_
  refine at_false (t := false) (x := C69 [1, 0, 0]) (y := C69 [1, 0, 1]) (o := .const (.bool false)) (by kernel_rfl) (by kernel_rfl) (by kernel_rfl) rfl ?_
  refine at_skip (by kernel_rfl) ?_
  refine at_then_normal ?_
  refine at_seq (x := C69 [1, 1, 0]) (y := C69 [1, 1, 1]) (by kernel_rfl) ?_
  refine at_region (id := 2) 3 (by kernel_rfl) (by kernel_rfl) ?_
  refine s_pure 6 (.int .u64 (10)) (by kernel_rfl) (by kernel_rfl) (fun _ => by kernel_rfl) ?_
  obtain ⟨y2_1, hy2_1, H⟩ := bindE H
  refine s_quiet 7 (.int .i64 y2_1) 80 #[.int .u64 (10)] (by kernel_rfl) (by kernel_rfl) (fun _ => by kernel_rfl) (Len64_10_tr  y2_1 hy2_1) ?_
  refine s_pure 2 (.int .i64 y2_1) (by kernel_rfl) (by kernel_rfl) (fun _ => by kernel_rfl) ?_
  refine ops_end ?_
  refine At.env [(0, .int .u64 (10)), (2, .int .i64 y2_1)] ⟨by kernel_rfl, by kernel_rfl, trivial⟩ ?_
  refine at_then_normal ?_
  refine at_ret (by kernel_rfl) ?_
  obtain rfl := someE H
  refine at_backR [.int .i64 y2_1] (Γ) (rs := [.tmp 2]) (by kernel_rfl) (.cons (.tmp (by kernel_rfl)) .nil) (fun w hw => (Sat.less .refl hw)) ?_
  exact ⟨rfl, rfl⟩
def len_11 : Option (Int) :=
  (len64_11).bind fun y2_1 => some y2_1
set_option maxRecDepth 100000 in
set_option maxHeartbeats 8000000 in
theorem Len_11_tr {W0 : World} {Γ : List Asn}   (y : Int) (H : len_11 = some y) : Tr Try.prog 69 #[.int .u64 (11)] W0 (Γ) (fun r Δ => r = .int .i64 y ∧ Δ = Γ) := by
  unfold len_11 at H
  refine Tr.enter (fn := Try.f69) (c := C69 []) (args := [.int .u64 (11)]) 8 Try.func69 (by kernel_rfl) (by kernel_rfl) ?_
  refine At.env [(0, .int .u64 (11))] ⟨by kernel_rfl, trivial⟩ ?_
  refine at_seq (x := C69 [0]) (y := C69 [1]) (by kernel_rfl) ?_
  refine at_region (id := 0) 1 (by kernel_rfl) (by kernel_rfl) ?_
  refine s_pure 2 (.int .i64 (0)) (by kernel_rfl) (by kernel_rfl) (fun _ => by kernel_rfl) ?_
  refine ops_end ?_
  refine At.env [(0, .int .u64 (11)), (2, .int .i64 (0))] ⟨by kernel_rfl, by kernel_rfl, trivial⟩ ?_
  refine at_then_normal ?_
  refine at_seq (x := C69 [1, 0]) (y := C69 [1, 1]) (by kernel_rfl) ?_
  refine at_false (t := false) (x := C69 [1, 0, 0]) (y := C69 [1, 0, 1]) (o := .const (.bool false)) (by kernel_rfl) (by kernel_rfl) (by kernel_rfl) rfl ?_
  refine at_skip (by kernel_rfl) ?_
  refine at_then_normal ?_
  refine at_seq (x := C69 [1, 1, 0]) (y := C69 [1, 1, 1]) (by kernel_rfl) ?_
  refine at_region (id := 2) 3 (by kernel_rfl) (by kernel_rfl) ?_
  refine s_pure 6 (.int .u64 (11)) (by kernel_rfl) (by kernel_rfl) (fun _ => by kernel_rfl) ?_
  obtain ⟨y2_1, hy2_1, H⟩ := bindE H
  refine s_quiet 7 (.int .i64 y2_1) 80 #[.int .u64 (11)] (by kernel_rfl) (by kernel_rfl) (fun _ => by kernel_rfl) (Len64_11_tr  y2_1 hy2_1) ?_
  refine s_pure 2 (.int .i64 y2_1) (by kernel_rfl) (by kernel_rfl) (fun _ => by kernel_rfl) ?_
  refine ops_end ?_
  refine At.env [(0, .int .u64 (11)), (2, .int .i64 y2_1)] ⟨by kernel_rfl, by kernel_rfl, trivial⟩ ?_
  refine at_then_normal ?_
  refine at_ret (by kernel_rfl) ?_
  obtain rfl := someE H
  refine at_backR [.int .i64 y2_1] (Γ) (rs := [.tmp 2]) (by kernel_rfl) (.cons (.tmp (by kernel_rfl)) .nil) (fun w hw => (Sat.less .refl hw)) ?_
  exact ⟨rfl, rfl⟩
def len_12 : Option (Int) :=
  (len64_12).bind fun y2_1 => some y2_1
set_option maxRecDepth 100000 in
set_option maxHeartbeats 8000000 in
theorem Len_12_tr {W0 : World} {Γ : List Asn}   (y : Int) (H : len_12 = some y) : Tr Try.prog 69 #[.int .u64 (12)] W0 (Γ) (fun r Δ => r = .int .i64 y ∧ Δ = Γ) := by
  unfold len_12 at H
  refine Tr.enter (fn := Try.f69) (c := C69 []) (args := [.int .u64 (12)]) 8 Try.func69 (by kernel_rfl) (by kernel_rfl) ?_
  refine At.env [(0, .int .u64 (12))] ⟨by kernel_rfl, trivial⟩ ?_
  refine at_seq (x := C69 [0]) (y := C69 [1]) (by kernel_rfl) ?_
  refine at_region (id := 0) 1 (by kernel_rfl) (by kernel_rfl) ?_
  refine s_pure 2 (.int .i64 (0)) (by kernel_rfl) (by kernel_rfl) (fun _ => by kernel_rfl) ?_
  refine ops_end ?_
  refine At.env [(0, .int .u64 (12)), (2, .int .i64 (0))] ⟨by kernel_rfl, by kernel_rfl, trivial⟩ ?_
  refine at_then_normal ?_
  refine at_seq (x := C69 [1, 0]) (y := C69 [1, 1]) (by kernel_rfl) ?_
  refine at_false (t := false) (x := C69 [1, 0, 0]) (y := C69 [1, 0, 1]) (o := .const (.bool false)) (by kernel_rfl) (by kernel_rfl) (by kernel_rfl) rfl ?_
  refine at_skip (by kernel_rfl) ?_
  refine at_then_normal ?_
  refine at_seq (x := C69 [1, 1, 0]) (y := C69 [1, 1, 1]) (by kernel_rfl) ?_
  refine at_region (id := 2) 3 (by kernel_rfl) (by kernel_rfl) ?_
  refine s_pure 6 (.int .u64 (12)) (by kernel_rfl) (by kernel_rfl) (fun _ => by kernel_rfl) ?_
  obtain ⟨y2_1, hy2_1, H⟩ := bindE H
  refine s_quiet 7 (.int .i64 y2_1) 80 #[.int .u64 (12)] (by kernel_rfl) (by kernel_rfl) (fun _ => by kernel_rfl) (Len64_12_tr  y2_1 hy2_1) ?_
  refine s_pure 2 (.int .i64 y2_1) (by kernel_rfl) (by kernel_rfl) (fun _ => by kernel_rfl) ?_
  refine ops_end ?_
  refine At.env [(0, .int .u64 (12)), (2, .int .i64 y2_1)] ⟨by kernel_rfl, by kernel_rfl, trivial⟩ ?_
  refine at_then_normal ?_
  refine at_ret (by kernel_rfl) ?_
  obtain rfl := someE H
  refine at_backR [.int .i64 y2_1] (Γ) (rs := [.tmp 2]) (by kernel_rfl) (.cons (.tmp (by kernel_rfl)) .nil) (fun w hw => (Sat.less .refl hw)) ?_
  exact ⟨rfl, rfl⟩
theorem BitsLenF_tr {W0 : World} {Γ : List Asn} (n : Int) (y : Int) (H : bitsLenS n = some y) : Tr Try.prog 69 #[.int .u64 n] W0 (Γ) (fun r Δ => r = .int .i64 y ∧ Δ = Γ) := by
  unfold bitsLenS at H
  obtain ⟨h, H⟩ := chkE H
  obtain rfl := someE H
  have h : n = 0 ∨ n = 1 ∨ n = 2 ∨ n = 3 ∨ n = 4 ∨ n = 5 ∨ n = 6 ∨ n = 7 ∨ n = 8 ∨ n = 9 ∨ n = 10 ∨ n = 11 ∨ n = 12 := by omega
  rcases h with rfl | rfl | rfl | rfl | rfl | rfl | rfl | rfl | rfl | rfl | rfl | rfl | rfl
  · exact Len_0_tr _ rfl
  · exact Len_1_tr _ rfl
  · exact Len_2_tr _ rfl
  · exact Len_3_tr _ rfl
  · exact Len_4_tr _ rfl
  · exact Len_5_tr _ rfl
  · exact Len_6_tr _ rfl
  · exact Len_7_tr _ rfl
  · exact Len_8_tr _ rfl
  · exact Len_9_tr _ rfl
  · exact Len_10_tr _ rfl
  · exact Len_11_tr _ rfl
  · exact Len_12_tr _ rfl
end Go.Proofs.Ytfpiolnbnfngkaa
