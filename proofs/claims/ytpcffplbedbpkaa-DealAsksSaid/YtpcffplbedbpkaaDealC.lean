/- What the second writing of deals asks for; a packet of small numbers. -/
import Derived.Test.YtpcffplbedbpkaaDealB
namespace Go.Proofs.Ytpcffplbedbpkaa
open Go Go.RowKit
noncomputable def C24 (p : List Nat) : Code := codeAt (bodyOf Try.f24) p
set_option maxRecDepth 100000 in
theorem RAsk_other {W0 : World} {Γ : List Asn} (s : Int) (h1 : ¬ s = 1) (h2 : ¬ s = 2) (h3 : ¬ s = 3) (h4 : ¬ s = 4) (h5 : ¬ s = 5) (h6 : ¬ s = 6) (k line id state head next told : Int) (a : Option Addr) (m cap : Nat) (node home : Int) : Tr Try.prog 24 #[.agg #[.int .i64 k, .int .i64 line, .int .i64 id, .int .i64 s, .int .i64 state, .int .i64 head, .slice a m cap, .int .i64 next, .int .i64 told], .int .i64 node, .int .i64 home] W0 (Γ) (fun r Δ => r = .agg #[.int .i64 (0), .int .i64 0, .int .i64 0, .int .i64 0, .int .i64 0, .int .i64 (0), .int .i64 (0), .bool false, .slice none 0 0] ∧ Δ = Γ) := by
  refine Tr.enter (fn := Try.f24) (c := C24 []) (args := [.agg #[.int .i64 k, .int .i64 line, .int .i64 id, .int .i64 s, .int .i64 state, .int .i64 head, .slice a m cap, .int .i64 next, .int .i64 told], .int .i64 node, .int .i64 home]) 75 Try.func24 (by kernel_rfl) (by kernel_rfl) ?_
  refine At.env [(0, .agg #[.int .i64 k, .int .i64 line, .int .i64 id, .int .i64 s, .int .i64 state, .int .i64 head, .slice a m cap, .int .i64 next, .int .i64 told]), (1, .int .i64 node), (2, .int .i64 home)] ⟨by kernel_rfl, by kernel_rfl, by kernel_rfl, trivial⟩ ?_
  refine at_seq (x := C24 [0]) (y := C24 [1]) (by kernel_rfl) ?_
  refine at_region (id := 0) 2 (by kernel_rfl) (by kernel_rfl) ?_
  refine s_step 3 (by kernel_rfl) (by kernel_rfl) (st_new (T := 47) (cells := #[.int .i64 k, .int .i64 line, .int .i64 id, .int .i64 s, .int .i64 state, .int .i64 head, .slice a m cap, .int .i64 next, .int .i64 told]) (fun a => .pointer (some a)) (fun _ => by kernel_rfl)) ?_
  rintro _ _ ⟨b1, rfl, rfl⟩
  refine s_step 6 (by kernel_rfl) (by kernel_rfl) (st_new (T := 38) (cells := #[.int .i64 (0), .int .i64 (0), .int .i64 (0), .int .i64 (0), .int .i64 (0), .int .i64 (0), .int .i64 (0), .bool false, .slice none 0 0]) (fun a => .pointer (some a)) (fun _ => by kernel_rfl)) ?_
  rintro _ _ ⟨b2, rfl, rfl⟩
  refine ops_end ?_
  refine At.env [(0, .agg #[.int .i64 k, .int .i64 line, .int .i64 id, .int .i64 s, .int .i64 state, .int .i64 head, .slice a m cap, .int .i64 next, .int .i64 told]), (1, .int .i64 node), (2, .int .i64 home), (3, .pointer (some ⟨b1, 0, none⟩)), (6, .pointer (some ⟨b2, 0, none⟩))] ⟨by kernel_rfl, by kernel_rfl, by kernel_rfl, by kernel_rfl, by kernel_rfl, trivial⟩ ?_
  refine at_then_normal ?_
  refine at_seq (x := C24 [1, 0]) (y := C24 [1, 1]) (by kernel_rfl) ?_
  refine at_region (id := 1) 8 (by kernel_rfl) (by kernel_rfl) ?_
  refine s_pure 8 (.int .i64 node) (by kernel_rfl) (by kernel_rfl) (fun _ => by kernel_rfl) ?_
  refine s_pure 9 (.pointer (some ⟨b1, 2, none⟩)) (by kernel_rfl) (by kernel_rfl) (fun _ => by kernel_rfl) ?_
  refine s_load 10 (.int .i64 id) (by kernel_rfl) (by kernel_rfl) (load1 (off := 2) (fun _ => by kernel_rfl) (holds_own (.there .here)) (by kernel_rfl)) ?_
  refine s_pure 11 (.pointer (some ⟨b1, 1, none⟩)) (by kernel_rfl) (by kernel_rfl) (fun _ => by kernel_rfl) ?_
  refine s_load 12 (.int .i64 line) (by kernel_rfl) (by kernel_rfl) (load1 (off := 1) (fun _ => by kernel_rfl) (holds_own (.there .here)) (by kernel_rfl)) ?_
  refine s_pure 13 (.agg #[.int .i64 (0), .int .i64 node, .int .i64 (0), .int .i64 id, .int .i64 line, .int .i64 (0), .int .i64 (0), .bool false, .slice none 0 0]) (by kernel_rfl) (by kernel_rfl) (fun _ => by kernel_rfl) ?_
  refine s_step 7 (by kernel_rfl) (by kernel_rfl) (st_new (T := 38) (cells := #[.int .i64 (0), .int .i64 (0), .int .i64 (0), .int .i64 (0), .int .i64 (0), .int .i64 (0), .int .i64 (0), .bool false, .slice none 0 0]) (fun a => .pointer (some a)) (fun _ => by kernel_rfl)) ?_
  rintro _ _ ⟨b3, rfl, rfl⟩
  refine s_do (by kernel_rfl) (by kernel_rfl) (st_store (off := 0) (vs := [.int .i64 (0), .int .i64 node, .int .i64 (0), .int .i64 id, .int .i64 line, .int .i64 (0), .int .i64 (0), .bool false, .slice none 0 0]) (c' := #[.int .i64 (0), .int .i64 node, .int .i64 (0), .int .i64 id, .int .i64 line, .int .i64 (0), .int .i64 (0), .bool false, .slice none 0 0]) (fun _ => by kernel_rfl) .here (by kernel_rfl) (by kernel_rfl) (by kernel_rfl)) ?_
  rintro _ _ ⟨rfl, rfl⟩
  refine ops_end ?_
  refine At.env [(0, .agg #[.int .i64 k, .int .i64 line, .int .i64 id, .int .i64 s, .int .i64 state, .int .i64 head, .slice a m cap, .int .i64 next, .int .i64 told]), (1, .int .i64 node), (2, .int .i64 home), (3, .pointer (some ⟨b1, 0, none⟩)), (6, .pointer (some ⟨b2, 0, none⟩)), (7, .pointer (some ⟨b3, 0, none⟩))] ⟨by kernel_rfl, by kernel_rfl, by kernel_rfl, by kernel_rfl, by kernel_rfl, by kernel_rfl, trivial⟩ ?_
  refine at_then_normal ?_
  refine at_seq (x := C24 [1, 1, 0]) (y := C24 [1, 1, 1]) (by kernel_rfl) ?_
  refine at_seq (x := C24 [1, 1, 0, 0]) (y := C24 [1, 1, 0, 1]) (by kernel_rfl) ?_
  refine at_region (id := 2) 2 (by kernel_rfl) (by kernel_rfl) ?_
  refine s_pure 14 (.pointer (some ⟨b1, 3, none⟩)) (by kernel_rfl) (by kernel_rfl) (fun _ => by kernel_rfl) ?_
  refine s_load 15 (.int .i64 s) (by kernel_rfl) (by kernel_rfl) (load1 (off := 3) (fun _ => by kernel_rfl) (holds_own (.there (.there .here))) (by kernel_rfl)) ?_
  refine ops_end ?_
  refine At.env [(0, .agg #[.int .i64 k, .int .i64 line, .int .i64 id, .int .i64 s, .int .i64 state, .int .i64 head, .slice a m cap, .int .i64 next, .int .i64 told]), (1, .int .i64 node), (2, .int .i64 home), (3, .pointer (some ⟨b1, 0, none⟩)), (6, .pointer (some ⟨b2, 0, none⟩)), (7, .pointer (some ⟨b3, 0, none⟩)), (15, .int .i64 s)] ⟨by kernel_rfl, by kernel_rfl, by kernel_rfl, by kernel_rfl, by kernel_rfl, by kernel_rfl, by kernel_rfl, trivial⟩ ?_
  refine at_then_normal ?_
  refine at_block (i := 0) (x := C24 [1, 1, 0, 1, 0]) (by kernel_rfl) ?_
  refine at_seq (x := C24 [1, 1, 0, 1, 0, 0]) (y := C24 [1, 1, 0, 1, 0, 1]) (by kernel_rfl) ?_
  refine at_region (id := 4) 2 (by kernel_rfl) (by kernel_rfl) ?_
  refine s_pure 18 (.bool false) (by kernel_rfl) (by kernel_rfl) (run_eq (v := .bool (decide (s = (1 : Int)))) (fun _ => by kernel_rfl) (congrArg Value.bool (by rw [decide_eq_false h1]))) ?_
  refine s_pure 17 (.bool false) (by kernel_rfl) (by kernel_rfl) (fun _ => by kernel_rfl) ?_
  refine ops_end ?_
  refine At.env [(0, .agg #[.int .i64 k, .int .i64 line, .int .i64 id, .int .i64 s, .int .i64 state, .int .i64 head, .slice a m cap, .int .i64 next, .int .i64 told]), (1, .int .i64 node), (2, .int .i64 home), (3, .pointer (some ⟨b1, 0, none⟩)), (6, .pointer (some ⟨b2, 0, none⟩)), (7, .pointer (some ⟨b3, 0, none⟩)), (15, .int .i64 s), (17, .bool false)] ⟨by kernel_rfl, by kernel_rfl, by kernel_rfl, by kernel_rfl, by kernel_rfl, by kernel_rfl, by kernel_rfl, by kernel_rfl, trivial⟩ ?_
  refine at_then_normal ?_
  refine at_false (t := false) (x := C24 [1, 1, 0, 1, 0, 1, 0]) (y := C24 [1, 1, 0, 1, 0, 1, 1]) (o := .tmp 17) (by kernel_rfl) (by kernel_rfl) (by kernel_rfl) rfl ?_
  refine at_seq (x := C24 [1, 1, 0, 1, 0, 1, 1, 0]) (y := C24 [1, 1, 0, 1, 0, 1, 1, 1]) (by kernel_rfl) ?_
  refine at_region (id := 6) 2 (by kernel_rfl) (by kernel_rfl) ?_
  refine s_pure 23 (.bool false) (by kernel_rfl) (by kernel_rfl) (run_eq (v := .bool (decide (s = (6 : Int)))) (fun _ => by kernel_rfl) (congrArg Value.bool (by rw [decide_eq_false h6]))) ?_
  refine s_pure 22 (.bool false) (by kernel_rfl) (by kernel_rfl) (fun _ => by kernel_rfl) ?_
  refine ops_end ?_
  refine At.env [(0, .agg #[.int .i64 k, .int .i64 line, .int .i64 id, .int .i64 s, .int .i64 state, .int .i64 head, .slice a m cap, .int .i64 next, .int .i64 told]), (1, .int .i64 node), (2, .int .i64 home), (3, .pointer (some ⟨b1, 0, none⟩)), (6, .pointer (some ⟨b2, 0, none⟩)), (7, .pointer (some ⟨b3, 0, none⟩)), (15, .int .i64 s), (17, .bool false), (22, .bool false)] ⟨by kernel_rfl, by kernel_rfl, by kernel_rfl, by kernel_rfl, by kernel_rfl, by kernel_rfl, by kernel_rfl, by kernel_rfl, by kernel_rfl, trivial⟩ ?_
  refine at_then_normal ?_
  refine at_false (t := false) (x := C24 [1, 1, 0, 1, 0, 1, 1, 1, 0]) (y := C24 [1, 1, 0, 1, 0, 1, 1, 1, 1]) (o := .tmp 22) (by kernel_rfl) (by kernel_rfl) (by kernel_rfl) rfl ?_
  refine at_seq (x := C24 [1, 1, 0, 1, 0, 1, 1, 1, 1, 0]) (y := C24 [1, 1, 0, 1, 0, 1, 1, 1, 1, 1]) (by kernel_rfl) ?_
  refine at_region (id := 10) 2 (by kernel_rfl) (by kernel_rfl) ?_
  refine s_pure 43 (.bool false) (by kernel_rfl) (by kernel_rfl) (run_eq (v := .bool (decide (s = (2 : Int)))) (fun _ => by kernel_rfl) (congrArg Value.bool (by rw [decide_eq_false h2]))) ?_
  refine s_pure 42 (.bool false) (by kernel_rfl) (by kernel_rfl) (fun _ => by kernel_rfl) ?_
  refine ops_end ?_
  refine At.env [(0, .agg #[.int .i64 k, .int .i64 line, .int .i64 id, .int .i64 s, .int .i64 state, .int .i64 head, .slice a m cap, .int .i64 next, .int .i64 told]), (1, .int .i64 node), (2, .int .i64 home), (3, .pointer (some ⟨b1, 0, none⟩)), (6, .pointer (some ⟨b2, 0, none⟩)), (7, .pointer (some ⟨b3, 0, none⟩)), (15, .int .i64 s), (17, .bool false), (22, .bool false), (42, .bool false)] ⟨by kernel_rfl, by kernel_rfl, by kernel_rfl, by kernel_rfl, by kernel_rfl, by kernel_rfl, by kernel_rfl, by kernel_rfl, by kernel_rfl, by kernel_rfl, trivial⟩ ?_
  refine at_then_normal ?_
  refine at_false (t := false) (x := C24 [1, 1, 0, 1, 0, 1, 1, 1, 1, 1, 0]) (y := C24 [1, 1, 0, 1, 0, 1, 1, 1, 1, 1, 1]) (o := .tmp 42) (by kernel_rfl) (by kernel_rfl) (by kernel_rfl) rfl ?_
  refine at_seq (x := C24 [1, 1, 0, 1, 0, 1, 1, 1, 1, 1, 1, 0]) (y := C24 [1, 1, 0, 1, 0, 1, 1, 1, 1, 1, 1, 1]) (by kernel_rfl) ?_
  refine at_region (id := 12) 2 (by kernel_rfl) (by kernel_rfl) ?_
  refine s_pure 51 (.bool false) (by kernel_rfl) (by kernel_rfl) (run_eq (v := .bool (decide (s = (3 : Int)))) (fun _ => by kernel_rfl) (congrArg Value.bool (by rw [decide_eq_false h3]))) ?_
  refine s_pure 50 (.bool false) (by kernel_rfl) (by kernel_rfl) (fun _ => by kernel_rfl) ?_
  refine ops_end ?_
  refine At.env [(0, .agg #[.int .i64 k, .int .i64 line, .int .i64 id, .int .i64 s, .int .i64 state, .int .i64 head, .slice a m cap, .int .i64 next, .int .i64 told]), (1, .int .i64 node), (2, .int .i64 home), (3, .pointer (some ⟨b1, 0, none⟩)), (6, .pointer (some ⟨b2, 0, none⟩)), (7, .pointer (some ⟨b3, 0, none⟩)), (15, .int .i64 s), (17, .bool false), (22, .bool false), (42, .bool false), (50, .bool false)] ⟨by kernel_rfl, by kernel_rfl, by kernel_rfl, by kernel_rfl, by kernel_rfl, by kernel_rfl, by kernel_rfl, by kernel_rfl, by kernel_rfl, by kernel_rfl, by kernel_rfl, trivial⟩ ?_
  refine at_then_normal ?_
  refine at_false (t := false) (x := C24 [1, 1, 0, 1, 0, 1, 1, 1, 1, 1, 1, 1, 0]) (y := C24 [1, 1, 0, 1, 0, 1, 1, 1, 1, 1, 1, 1, 1]) (o := .tmp 50) (by kernel_rfl) (by kernel_rfl) (by kernel_rfl) rfl ?_
  refine at_seq (x := C24 [1, 1, 0, 1, 0, 1, 1, 1, 1, 1, 1, 1, 1, 0]) (y := C24 [1, 1, 0, 1, 0, 1, 1, 1, 1, 1, 1, 1, 1, 1]) (by kernel_rfl) ?_
  refine at_region (id := 14) 2 (by kernel_rfl) (by kernel_rfl) ?_
  refine s_pure 57 (.bool false) (by kernel_rfl) (by kernel_rfl) (run_eq (v := .bool (decide (s = (4 : Int)))) (fun _ => by kernel_rfl) (congrArg Value.bool (by rw [decide_eq_false h4]))) ?_
  refine s_pure 56 (.bool false) (by kernel_rfl) (by kernel_rfl) (fun _ => by kernel_rfl) ?_
  refine ops_end ?_
  refine At.env [(0, .agg #[.int .i64 k, .int .i64 line, .int .i64 id, .int .i64 s, .int .i64 state, .int .i64 head, .slice a m cap, .int .i64 next, .int .i64 told]), (1, .int .i64 node), (2, .int .i64 home), (3, .pointer (some ⟨b1, 0, none⟩)), (6, .pointer (some ⟨b2, 0, none⟩)), (7, .pointer (some ⟨b3, 0, none⟩)), (15, .int .i64 s), (17, .bool false), (22, .bool false), (42, .bool false), (50, .bool false), (56, .bool false)] ⟨by kernel_rfl, by kernel_rfl, by kernel_rfl, by kernel_rfl, by kernel_rfl, by kernel_rfl, by kernel_rfl, by kernel_rfl, by kernel_rfl, by kernel_rfl, by kernel_rfl, by kernel_rfl, trivial⟩ ?_
  refine at_then_normal ?_
  refine at_false (t := false) (x := C24 [1, 1, 0, 1, 0, 1, 1, 1, 1, 1, 1, 1, 1, 1, 0]) (y := C24 [1, 1, 0, 1, 0, 1, 1, 1, 1, 1, 1, 1, 1, 1, 1]) (o := .tmp 56) (by kernel_rfl) (by kernel_rfl) (by kernel_rfl) rfl ?_
  refine at_seq (x := C24 [1, 1, 0, 1, 0, 1, 1, 1, 1, 1, 1, 1, 1, 1, 1, 0]) (y := C24 [1, 1, 0, 1, 0, 1, 1, 1, 1, 1, 1, 1, 1, 1, 1, 1]) (by kernel_rfl) ?_
  refine at_region (id := 16) 2 (by kernel_rfl) (by kernel_rfl) ?_
  refine s_pure 66 (.bool false) (by kernel_rfl) (by kernel_rfl) (run_eq (v := .bool (decide (s = (5 : Int)))) (fun _ => by kernel_rfl) (congrArg Value.bool (by rw [decide_eq_false h5]))) ?_
  refine s_pure 65 (.bool false) (by kernel_rfl) (by kernel_rfl) (fun _ => by kernel_rfl) ?_
  refine ops_end ?_
  refine At.env [(0, .agg #[.int .i64 k, .int .i64 line, .int .i64 id, .int .i64 s, .int .i64 state, .int .i64 head, .slice a m cap, .int .i64 next, .int .i64 told]), (1, .int .i64 node), (2, .int .i64 home), (3, .pointer (some ⟨b1, 0, none⟩)), (6, .pointer (some ⟨b2, 0, none⟩)), (7, .pointer (some ⟨b3, 0, none⟩)), (15, .int .i64 s), (17, .bool false), (22, .bool false), (42, .bool false), (50, .bool false), (56, .bool false), (65, .bool false)] ⟨by kernel_rfl, by kernel_rfl, by kernel_rfl, by kernel_rfl, by kernel_rfl, by kernel_rfl, by kernel_rfl, by kernel_rfl, by kernel_rfl, by kernel_rfl, by kernel_rfl, by kernel_rfl, by kernel_rfl, trivial⟩ ?_
  refine at_then_normal ?_
  refine at_false (t := false) (x := C24 [1, 1, 0, 1, 0, 1, 1, 1, 1, 1, 1, 1, 1, 1, 1, 1, 0]) (y := C24 [1, 1, 0, 1, 0, 1, 1, 1, 1, 1, 1, 1, 1, 1, 1, 1, 1]) (o := .tmp 65) (by kernel_rfl) (by kernel_rfl) (by kernel_rfl) rfl ?_
  refine at_seq (x := C24 [1, 1, 0, 1, 0, 1, 1, 1, 1, 1, 1, 1, 1, 1, 1, 1, 1, 0]) (y := C24 [1, 1, 0, 1, 0, 1, 1, 1, 1, 1, 1, 1, 1, 1, 1, 1, 1, 1]) (by kernel_rfl) ?_
  refine at_region (id := 3) 2 (by kernel_rfl) (by kernel_rfl) ?_
  refine s_pure 16 (.agg #[.int .i64 (0), .int .i64 (0), .int .i64 (0), .int .i64 (0), .int .i64 (0), .int .i64 (0), .int .i64 (0), .bool false, .slice none 0 0]) (by kernel_rfl) (by kernel_rfl) (fun _ => by kernel_rfl) ?_
  refine s_do (by kernel_rfl) (by kernel_rfl) (st_store (off := 0) (vs := [.int .i64 (0), .int .i64 (0), .int .i64 (0), .int .i64 (0), .int .i64 (0), .int .i64 (0), .int .i64 (0), .bool false, .slice none 0 0]) (c' := #[.int .i64 (0), .int .i64 (0), .int .i64 (0), .int .i64 (0), .int .i64 (0), .int .i64 (0), .int .i64 (0), .bool false, .slice none 0 0]) (fun _ => by kernel_rfl) (.there .here) (by kernel_rfl) (by kernel_rfl) (by kernel_rfl)) ?_
  rintro _ _ ⟨rfl, rfl⟩
  refine ops_end ?_
  refine At.env [(0, .agg #[.int .i64 k, .int .i64 line, .int .i64 id, .int .i64 s, .int .i64 state, .int .i64 head, .slice a m cap, .int .i64 next, .int .i64 told]), (1, .int .i64 node), (2, .int .i64 home), (3, .pointer (some ⟨b1, 0, none⟩)), (6, .pointer (some ⟨b2, 0, none⟩)), (7, .pointer (some ⟨b3, 0, none⟩)), (15, .int .i64 s), (17, .bool false), (22, .bool false), (42, .bool false), (50, .bool false), (56, .bool false), (65, .bool false)] ⟨by kernel_rfl, by kernel_rfl, by kernel_rfl, by kernel_rfl, by kernel_rfl, by kernel_rfl, by kernel_rfl, by kernel_rfl, by kernel_rfl, by kernel_rfl, by kernel_rfl, by kernel_rfl, by kernel_rfl, trivial⟩ ?_
  refine at_then_normal ?_
  refine at_ret (by kernel_rfl) ?_
  refine at_in_ret ?_
  refine at_then_ret ?_
  refine at_backR [.agg #[.int .i64 (0), .int .i64 (0), .int .i64 (0), .int .i64 (0), .int .i64 (0), .int .i64 (0), .int .i64 (0), .bool false, .slice none 0 0]] (Γ) (rs := [.cell 6 38]) (by kernel_rfl) (.cons (.cell (by kernel_rfl) (retN (off := 0) (vs := [.int .i64 (0), .int .i64 (0), .int .i64 (0), .int .i64 (0), .int .i64 (0), .int .i64 (0), .int .i64 (0), .bool false, .slice none 0 0]) 9 (fun _ => by kernel_rfl) (holds_own .here) rfl (by exact ⟨rfl, rfl, rfl, rfl, rfl, rfl, rfl, rfl, rfl, trivial⟩))) .nil) (fun w hw => hw.less (.drop .here (.drop .here (.drop .here .refl)))) ?_
  exact ⟨rfl, rfl⟩
set_option maxRecDepth 100000 in
theorem RAsk_1 {W0 : World} {Γ : List Asn} (k line id state head next told : Int) (a : Option Addr) (m cap : Nat) (node home : Int) : Tr Try.prog 24 #[.agg #[.int .i64 k, .int .i64 line, .int .i64 id, .int .i64 (1), .int .i64 state, .int .i64 head, .slice a m cap, .int .i64 next, .int .i64 told], .int .i64 node, .int .i64 home] W0 (Γ) (fun r Δ => r = .agg #[.int .i64 (1), .int .i64 node, .int .i64 home, .int .i64 id, .int .i64 line, .int .i64 (0), .int .i64 (0), .bool false, .slice none 0 0] ∧ Δ = Γ) := by
  refine Tr.enter (fn := Try.f24) (c := C24 []) (args := [.agg #[.int .i64 k, .int .i64 line, .int .i64 id, .int .i64 (1), .int .i64 state, .int .i64 head, .slice a m cap, .int .i64 next, .int .i64 told], .int .i64 node, .int .i64 home]) 75 Try.func24 (by kernel_rfl) (by kernel_rfl) ?_
  refine At.env [(0, .agg #[.int .i64 k, .int .i64 line, .int .i64 id, .int .i64 (1), .int .i64 state, .int .i64 head, .slice a m cap, .int .i64 next, .int .i64 told]), (1, .int .i64 node), (2, .int .i64 home)] ⟨by kernel_rfl, by kernel_rfl, by kernel_rfl, trivial⟩ ?_
  refine at_seq (x := C24 [0]) (y := C24 [1]) (by kernel_rfl) ?_
  refine at_region (id := 0) 2 (by kernel_rfl) (by kernel_rfl) ?_
  refine s_step 3 (by kernel_rfl) (by kernel_rfl) (st_new (T := 47) (cells := #[.int .i64 k, .int .i64 line, .int .i64 id, .int .i64 (1), .int .i64 state, .int .i64 head, .slice a m cap, .int .i64 next, .int .i64 told]) (fun a => .pointer (some a)) (fun _ => by kernel_rfl)) ?_
  rintro _ _ ⟨b1, rfl, rfl⟩
  refine s_step 6 (by kernel_rfl) (by kernel_rfl) (st_new (T := 38) (cells := #[.int .i64 (0), .int .i64 (0), .int .i64 (0), .int .i64 (0), .int .i64 (0), .int .i64 (0), .int .i64 (0), .bool false, .slice none 0 0]) (fun a => .pointer (some a)) (fun _ => by kernel_rfl)) ?_
  rintro _ _ ⟨b2, rfl, rfl⟩
  refine ops_end ?_
  refine At.env [(0, .agg #[.int .i64 k, .int .i64 line, .int .i64 id, .int .i64 (1), .int .i64 state, .int .i64 head, .slice a m cap, .int .i64 next, .int .i64 told]), (1, .int .i64 node), (2, .int .i64 home), (3, .pointer (some ⟨b1, 0, none⟩)), (6, .pointer (some ⟨b2, 0, none⟩))] ⟨by kernel_rfl, by kernel_rfl, by kernel_rfl, by kernel_rfl, by kernel_rfl, trivial⟩ ?_
  refine at_then_normal ?_
  refine at_seq (x := C24 [1, 0]) (y := C24 [1, 1]) (by kernel_rfl) ?_
  refine at_region (id := 1) 8 (by kernel_rfl) (by kernel_rfl) ?_
  refine s_pure 8 (.int .i64 node) (by kernel_rfl) (by kernel_rfl) (fun _ => by kernel_rfl) ?_
  refine s_pure 9 (.pointer (some ⟨b1, 2, none⟩)) (by kernel_rfl) (by kernel_rfl) (fun _ => by kernel_rfl) ?_
  refine s_load 10 (.int .i64 id) (by kernel_rfl) (by kernel_rfl) (load1 (off := 2) (fun _ => by kernel_rfl) (holds_own (.there .here)) (by kernel_rfl)) ?_
  refine s_pure 11 (.pointer (some ⟨b1, 1, none⟩)) (by kernel_rfl) (by kernel_rfl) (fun _ => by kernel_rfl) ?_
  refine s_load 12 (.int .i64 line) (by kernel_rfl) (by kernel_rfl) (load1 (off := 1) (fun _ => by kernel_rfl) (holds_own (.there .here)) (by kernel_rfl)) ?_
  refine s_pure 13 (.agg #[.int .i64 (0), .int .i64 node, .int .i64 (0), .int .i64 id, .int .i64 line, .int .i64 (0), .int .i64 (0), .bool false, .slice none 0 0]) (by kernel_rfl) (by kernel_rfl) (fun _ => by kernel_rfl) ?_
  refine s_step 7 (by kernel_rfl) (by kernel_rfl) (st_new (T := 38) (cells := #[.int .i64 (0), .int .i64 (0), .int .i64 (0), .int .i64 (0), .int .i64 (0), .int .i64 (0), .int .i64 (0), .bool false, .slice none 0 0]) (fun a => .pointer (some a)) (fun _ => by kernel_rfl)) ?_
  rintro _ _ ⟨b3, rfl, rfl⟩
  refine s_do (by kernel_rfl) (by kernel_rfl) (st_store (off := 0) (vs := [.int .i64 (0), .int .i64 node, .int .i64 (0), .int .i64 id, .int .i64 line, .int .i64 (0), .int .i64 (0), .bool false, .slice none 0 0]) (c' := #[.int .i64 (0), .int .i64 node, .int .i64 (0), .int .i64 id, .int .i64 line, .int .i64 (0), .int .i64 (0), .bool false, .slice none 0 0]) (fun _ => by kernel_rfl) .here (by kernel_rfl) (by kernel_rfl) (by kernel_rfl)) ?_
  rintro _ _ ⟨rfl, rfl⟩
  refine ops_end ?_
  refine At.env [(0, .agg #[.int .i64 k, .int .i64 line, .int .i64 id, .int .i64 (1), .int .i64 state, .int .i64 head, .slice a m cap, .int .i64 next, .int .i64 told]), (1, .int .i64 node), (2, .int .i64 home), (3, .pointer (some ⟨b1, 0, none⟩)), (6, .pointer (some ⟨b2, 0, none⟩)), (7, .pointer (some ⟨b3, 0, none⟩))] ⟨by kernel_rfl, by kernel_rfl, by kernel_rfl, by kernel_rfl, by kernel_rfl, by kernel_rfl, trivial⟩ ?_
  refine at_then_normal ?_
  refine at_seq (x := C24 [1, 1, 0]) (y := C24 [1, 1, 1]) (by kernel_rfl) ?_
  refine at_seq (x := C24 [1, 1, 0, 0]) (y := C24 [1, 1, 0, 1]) (by kernel_rfl) ?_
  refine at_region (id := 2) 2 (by kernel_rfl) (by kernel_rfl) ?_
  refine s_pure 14 (.pointer (some ⟨b1, 3, none⟩)) (by kernel_rfl) (by kernel_rfl) (fun _ => by kernel_rfl) ?_
  refine s_load 15 (.int .i64 (1)) (by kernel_rfl) (by kernel_rfl) (load1 (off := 3) (fun _ => by kernel_rfl) (holds_own (.there (.there .here))) (by kernel_rfl)) ?_
  refine ops_end ?_
  refine At.env [(0, .agg #[.int .i64 k, .int .i64 line, .int .i64 id, .int .i64 (1), .int .i64 state, .int .i64 head, .slice a m cap, .int .i64 next, .int .i64 told]), (1, .int .i64 node), (2, .int .i64 home), (3, .pointer (some ⟨b1, 0, none⟩)), (6, .pointer (some ⟨b2, 0, none⟩)), (7, .pointer (some ⟨b3, 0, none⟩)), (15, .int .i64 (1))] ⟨by kernel_rfl, by kernel_rfl, by kernel_rfl, by kernel_rfl, by kernel_rfl, by kernel_rfl, by kernel_rfl, trivial⟩ ?_
  refine at_then_normal ?_
  refine at_block (i := 0) (x := C24 [1, 1, 0, 1, 0]) (by kernel_rfl) ?_
  refine at_seq (x := C24 [1, 1, 0, 1, 0, 0]) (y := C24 [1, 1, 0, 1, 0, 1]) (by kernel_rfl) ?_
  refine at_region (id := 4) 2 (by kernel_rfl) (by kernel_rfl) ?_
  refine s_pure 18 (.bool true) (by kernel_rfl) (by kernel_rfl) (fun _ => by kernel_rfl) ?_
  refine s_pure 17 (.bool true) (by kernel_rfl) (by kernel_rfl) (fun _ => by kernel_rfl) ?_
  refine ops_end ?_
  refine At.env [(0, .agg #[.int .i64 k, .int .i64 line, .int .i64 id, .int .i64 (1), .int .i64 state, .int .i64 head, .slice a m cap, .int .i64 next, .int .i64 told]), (1, .int .i64 node), (2, .int .i64 home), (3, .pointer (some ⟨b1, 0, none⟩)), (6, .pointer (some ⟨b2, 0, none⟩)), (7, .pointer (some ⟨b3, 0, none⟩)), (15, .int .i64 (1)), (17, .bool true)] ⟨by kernel_rfl, by kernel_rfl, by kernel_rfl, by kernel_rfl, by kernel_rfl, by kernel_rfl, by kernel_rfl, by kernel_rfl, trivial⟩ ?_
  refine at_then_normal ?_
  refine at_true (t := true) (x := C24 [1, 1, 0, 1, 0, 1, 0]) (y := C24 [1, 1, 0, 1, 0, 1, 1]) (o := .tmp 17) (by kernel_rfl) (by kernel_rfl) (by kernel_rfl) rfl ?_
  refine at_region (id := 5) 5 (by kernel_rfl) (by kernel_rfl) ?_
  refine s_pure 19 (.int .i64 home) (by kernel_rfl) (by kernel_rfl) (fun _ => by kernel_rfl) ?_
  refine s_pure 20 (.pointer (some ⟨b3, 0, none⟩)) (by kernel_rfl) (by kernel_rfl) (fun _ => by kernel_rfl) ?_
  refine s_do (by kernel_rfl) (by kernel_rfl) (st_store (off := 0) (vs := [.int .i64 (1)]) (c' := #[.int .i64 (1), .int .i64 node, .int .i64 (0), .int .i64 id, .int .i64 line, .int .i64 (0), .int .i64 (0), .bool false, .slice none 0 0]) (fun _ => by kernel_rfl) .here (by kernel_rfl) (by kernel_rfl) (by kernel_rfl)) ?_
  rintro _ _ ⟨rfl, rfl⟩
  refine s_pure 21 (.pointer (some ⟨b3, 2, none⟩)) (by kernel_rfl) (by kernel_rfl) (fun _ => by kernel_rfl) ?_
  refine s_do (by kernel_rfl) (by kernel_rfl) (st_store (off := 2) (vs := [.int .i64 home]) (c' := #[.int .i64 (1), .int .i64 node, .int .i64 home, .int .i64 id, .int .i64 line, .int .i64 (0), .int .i64 (0), .bool false, .slice none 0 0]) (fun _ => by kernel_rfl) .here (by kernel_rfl) (by kernel_rfl) (by kernel_rfl)) ?_
  rintro _ _ ⟨rfl, rfl⟩
  refine ops_end ?_
  refine At.env [(0, .agg #[.int .i64 k, .int .i64 line, .int .i64 id, .int .i64 (1), .int .i64 state, .int .i64 head, .slice a m cap, .int .i64 next, .int .i64 told]), (1, .int .i64 node), (2, .int .i64 home), (3, .pointer (some ⟨b1, 0, none⟩)), (6, .pointer (some ⟨b2, 0, none⟩)), (7, .pointer (some ⟨b3, 0, none⟩)), (15, .int .i64 (1)), (17, .bool true)] ⟨by kernel_rfl, by kernel_rfl, by kernel_rfl, by kernel_rfl, by kernel_rfl, by kernel_rfl, by kernel_rfl, by kernel_rfl, trivial⟩ ?_
  refine at_in_normal ?_
  refine at_then_normal ?_
  refine at_seq (x := C24 [1, 1, 1, 0]) (y := C24 [1, 1, 1, 1]) (by kernel_rfl) ?_
  refine at_region (id := 18) 2 (by kernel_rfl) (by kernel_rfl) ?_
  refine s_load 74 (.agg #[.int .i64 (1), .int .i64 node, .int .i64 home, .int .i64 id, .int .i64 line, .int .i64 (0), .int .i64 (0), .bool false, .slice none 0 0]) (by kernel_rfl) (by kernel_rfl) (loadN (off := 0) (vs := [.int .i64 (1), .int .i64 node, .int .i64 home, .int .i64 id, .int .i64 line, .int .i64 (0), .int .i64 (0), .bool false, .slice none 0 0]) 9 (fun _ => by kernel_rfl) (holds_own .here) rfl (by exact ⟨rfl, rfl, rfl, rfl, rfl, rfl, rfl, rfl, rfl, trivial⟩)) ?_
  refine s_do (by kernel_rfl) (by kernel_rfl) (st_store (off := 0) (vs := [.int .i64 (1), .int .i64 node, .int .i64 home, .int .i64 id, .int .i64 line, .int .i64 (0), .int .i64 (0), .bool false, .slice none 0 0]) (c' := #[.int .i64 (1), .int .i64 node, .int .i64 home, .int .i64 id, .int .i64 line, .int .i64 (0), .int .i64 (0), .bool false, .slice none 0 0]) (fun _ => by kernel_rfl) (.there .here) (by kernel_rfl) (by kernel_rfl) (by kernel_rfl)) ?_
  rintro _ _ ⟨rfl, rfl⟩
  refine ops_end ?_
  refine At.env [(0, .agg #[.int .i64 k, .int .i64 line, .int .i64 id, .int .i64 (1), .int .i64 state, .int .i64 head, .slice a m cap, .int .i64 next, .int .i64 told]), (1, .int .i64 node), (2, .int .i64 home), (3, .pointer (some ⟨b1, 0, none⟩)), (6, .pointer (some ⟨b2, 0, none⟩)), (7, .pointer (some ⟨b3, 0, none⟩)), (15, .int .i64 (1)), (17, .bool true)] ⟨by kernel_rfl, by kernel_rfl, by kernel_rfl, by kernel_rfl, by kernel_rfl, by kernel_rfl, by kernel_rfl, by kernel_rfl, trivial⟩ ?_
  refine at_then_normal ?_
  refine at_ret (by kernel_rfl) ?_
  refine at_backR [.agg #[.int .i64 (1), .int .i64 node, .int .i64 home, .int .i64 id, .int .i64 line, .int .i64 (0), .int .i64 (0), .bool false, .slice none 0 0]] (Γ) (rs := [.cell 6 38]) (by kernel_rfl) (.cons (.cell (by kernel_rfl) (retN (off := 0) (vs := [.int .i64 (1), .int .i64 node, .int .i64 home, .int .i64 id, .int .i64 line, .int .i64 (0), .int .i64 (0), .bool false, .slice none 0 0]) 9 (fun _ => by kernel_rfl) (holds_own .here) rfl (by exact ⟨rfl, rfl, rfl, rfl, rfl, rfl, rfl, rfl, rfl, trivial⟩))) .nil) (fun w hw => hw.less (.drop .here (.drop .here (.drop .here .refl)))) ?_
  exact ⟨rfl, rfl⟩
set_option maxRecDepth 100000 in
theorem RAsk_2 {W0 : World} {Γ : List Asn} (k line id state head next told : Int) (a : Option Addr) (m cap : Nat) (node home : Int) : Tr Try.prog 24 #[.agg #[.int .i64 k, .int .i64 line, .int .i64 id, .int .i64 (2), .int .i64 state, .int .i64 head, .slice a m cap, .int .i64 next, .int .i64 told], .int .i64 node, .int .i64 home] W0 (Γ) (fun r Δ => r = .agg #[.int .i64 (3), .int .i64 node, .int .i64 head, .int .i64 id, .int .i64 line, .int .i64 (node), .int .i64 (0), .bool false, .slice none 0 0] ∧ Δ = Γ) := by
  refine Tr.enter (fn := Try.f24) (c := C24 []) (args := [.agg #[.int .i64 k, .int .i64 line, .int .i64 id, .int .i64 (2), .int .i64 state, .int .i64 head, .slice a m cap, .int .i64 next, .int .i64 told], .int .i64 node, .int .i64 home]) 75 Try.func24 (by kernel_rfl) (by kernel_rfl) ?_
  refine At.env [(0, .agg #[.int .i64 k, .int .i64 line, .int .i64 id, .int .i64 (2), .int .i64 state, .int .i64 head, .slice a m cap, .int .i64 next, .int .i64 told]), (1, .int .i64 node), (2, .int .i64 home)] ⟨by kernel_rfl, by kernel_rfl, by kernel_rfl, trivial⟩ ?_
  refine at_seq (x := C24 [0]) (y := C24 [1]) (by kernel_rfl) ?_
  refine at_region (id := 0) 2 (by kernel_rfl) (by kernel_rfl) ?_
  refine s_step 3 (by kernel_rfl) (by kernel_rfl) (st_new (T := 47) (cells := #[.int .i64 k, .int .i64 line, .int .i64 id, .int .i64 (2), .int .i64 state, .int .i64 head, .slice a m cap, .int .i64 next, .int .i64 told]) (fun a => .pointer (some a)) (fun _ => by kernel_rfl)) ?_
  rintro _ _ ⟨b1, rfl, rfl⟩
  refine s_step 6 (by kernel_rfl) (by kernel_rfl) (st_new (T := 38) (cells := #[.int .i64 (0), .int .i64 (0), .int .i64 (0), .int .i64 (0), .int .i64 (0), .int .i64 (0), .int .i64 (0), .bool false, .slice none 0 0]) (fun a => .pointer (some a)) (fun _ => by kernel_rfl)) ?_
  rintro _ _ ⟨b2, rfl, rfl⟩
  refine ops_end ?_
  refine At.env [(0, .agg #[.int .i64 k, .int .i64 line, .int .i64 id, .int .i64 (2), .int .i64 state, .int .i64 head, .slice a m cap, .int .i64 next, .int .i64 told]), (1, .int .i64 node), (2, .int .i64 home), (3, .pointer (some ⟨b1, 0, none⟩)), (6, .pointer (some ⟨b2, 0, none⟩))] ⟨by kernel_rfl, by kernel_rfl, by kernel_rfl, by kernel_rfl, by kernel_rfl, trivial⟩ ?_
  refine at_then_normal ?_
  refine at_seq (x := C24 [1, 0]) (y := C24 [1, 1]) (by kernel_rfl) ?_
  refine at_region (id := 1) 8 (by kernel_rfl) (by kernel_rfl) ?_
  refine s_pure 8 (.int .i64 node) (by kernel_rfl) (by kernel_rfl) (fun _ => by kernel_rfl) ?_
  refine s_pure 9 (.pointer (some ⟨b1, 2, none⟩)) (by kernel_rfl) (by kernel_rfl) (fun _ => by kernel_rfl) ?_
  refine s_load 10 (.int .i64 id) (by kernel_rfl) (by kernel_rfl) (load1 (off := 2) (fun _ => by kernel_rfl) (holds_own (.there .here)) (by kernel_rfl)) ?_
  refine s_pure 11 (.pointer (some ⟨b1, 1, none⟩)) (by kernel_rfl) (by kernel_rfl) (fun _ => by kernel_rfl) ?_
  refine s_load 12 (.int .i64 line) (by kernel_rfl) (by kernel_rfl) (load1 (off := 1) (fun _ => by kernel_rfl) (holds_own (.there .here)) (by kernel_rfl)) ?_
  refine s_pure 13 (.agg #[.int .i64 (0), .int .i64 node, .int .i64 (0), .int .i64 id, .int .i64 line, .int .i64 (0), .int .i64 (0), .bool false, .slice none 0 0]) (by kernel_rfl) (by kernel_rfl) (fun _ => by kernel_rfl) ?_
  refine s_step 7 (by kernel_rfl) (by kernel_rfl) (st_new (T := 38) (cells := #[.int .i64 (0), .int .i64 (0), .int .i64 (0), .int .i64 (0), .int .i64 (0), .int .i64 (0), .int .i64 (0), .bool false, .slice none 0 0]) (fun a => .pointer (some a)) (fun _ => by kernel_rfl)) ?_
  rintro _ _ ⟨b3, rfl, rfl⟩
  refine s_do (by kernel_rfl) (by kernel_rfl) (st_store (off := 0) (vs := [.int .i64 (0), .int .i64 node, .int .i64 (0), .int .i64 id, .int .i64 line, .int .i64 (0), .int .i64 (0), .bool false, .slice none 0 0]) (c' := #[.int .i64 (0), .int .i64 node, .int .i64 (0), .int .i64 id, .int .i64 line, .int .i64 (0), .int .i64 (0), .bool false, .slice none 0 0]) (fun _ => by kernel_rfl) .here (by kernel_rfl) (by kernel_rfl) (by kernel_rfl)) ?_
  rintro _ _ ⟨rfl, rfl⟩
  refine ops_end ?_
  refine At.env [(0, .agg #[.int .i64 k, .int .i64 line, .int .i64 id, .int .i64 (2), .int .i64 state, .int .i64 head, .slice a m cap, .int .i64 next, .int .i64 told]), (1, .int .i64 node), (2, .int .i64 home), (3, .pointer (some ⟨b1, 0, none⟩)), (6, .pointer (some ⟨b2, 0, none⟩)), (7, .pointer (some ⟨b3, 0, none⟩))] ⟨by kernel_rfl, by kernel_rfl, by kernel_rfl, by kernel_rfl, by kernel_rfl, by kernel_rfl, trivial⟩ ?_
  refine at_then_normal ?_
  refine at_seq (x := C24 [1, 1, 0]) (y := C24 [1, 1, 1]) (by kernel_rfl) ?_
  refine at_seq (x := C24 [1, 1, 0, 0]) (y := C24 [1, 1, 0, 1]) (by kernel_rfl) ?_
  refine at_region (id := 2) 2 (by kernel_rfl) (by kernel_rfl) ?_
  refine s_pure 14 (.pointer (some ⟨b1, 3, none⟩)) (by kernel_rfl) (by kernel_rfl) (fun _ => by kernel_rfl) ?_
  refine s_load 15 (.int .i64 (2)) (by kernel_rfl) (by kernel_rfl) (load1 (off := 3) (fun _ => by kernel_rfl) (holds_own (.there (.there .here))) (by kernel_rfl)) ?_
  refine ops_end ?_
  refine At.env [(0, .agg #[.int .i64 k, .int .i64 line, .int .i64 id, .int .i64 (2), .int .i64 state, .int .i64 head, .slice a m cap, .int .i64 next, .int .i64 told]), (1, .int .i64 node), (2, .int .i64 home), (3, .pointer (some ⟨b1, 0, none⟩)), (6, .pointer (some ⟨b2, 0, none⟩)), (7, .pointer (some ⟨b3, 0, none⟩)), (15, .int .i64 (2))] ⟨by kernel_rfl, by kernel_rfl, by kernel_rfl, by kernel_rfl, by kernel_rfl, by kernel_rfl, by kernel_rfl, trivial⟩ ?_
  refine at_then_normal ?_
  refine at_block (i := 0) (x := C24 [1, 1, 0, 1, 0]) (by kernel_rfl) ?_
  refine at_seq (x := C24 [1, 1, 0, 1, 0, 0]) (y := C24 [1, 1, 0, 1, 0, 1]) (by kernel_rfl) ?_
  refine at_region (id := 4) 2 (by kernel_rfl) (by kernel_rfl) ?_
  refine s_pure 18 (.bool false) (by kernel_rfl) (by kernel_rfl) (fun _ => by kernel_rfl) ?_
  refine s_pure 17 (.bool false) (by kernel_rfl) (by kernel_rfl) (fun _ => by kernel_rfl) ?_
  refine ops_end ?_
  refine At.env [(0, .agg #[.int .i64 k, .int .i64 line, .int .i64 id, .int .i64 (2), .int .i64 state, .int .i64 head, .slice a m cap, .int .i64 next, .int .i64 told]), (1, .int .i64 node), (2, .int .i64 home), (3, .pointer (some ⟨b1, 0, none⟩)), (6, .pointer (some ⟨b2, 0, none⟩)), (7, .pointer (some ⟨b3, 0, none⟩)), (15, .int .i64 (2)), (17, .bool false)] ⟨by kernel_rfl, by kernel_rfl, by kernel_rfl, by kernel_rfl, by kernel_rfl, by kernel_rfl, by kernel_rfl, by kernel_rfl, trivial⟩ ?_
  refine at_then_normal ?_
  refine at_false (t := false) (x := C24 [1, 1, 0, 1, 0, 1, 0]) (y := C24 [1, 1, 0, 1, 0, 1, 1]) (o := .tmp 17) (by kernel_rfl) (by kernel_rfl) (by kernel_rfl) rfl ?_
  refine at_seq (x := C24 [1, 1, 0, 1, 0, 1, 1, 0]) (y := C24 [1, 1, 0, 1, 0, 1, 1, 1]) (by kernel_rfl) ?_
  refine at_region (id := 6) 2 (by kernel_rfl) (by kernel_rfl) ?_
  refine s_pure 23 (.bool false) (by kernel_rfl) (by kernel_rfl) (fun _ => by kernel_rfl) ?_
  refine s_pure 22 (.bool false) (by kernel_rfl) (by kernel_rfl) (fun _ => by kernel_rfl) ?_
  refine ops_end ?_
  refine At.env [(0, .agg #[.int .i64 k, .int .i64 line, .int .i64 id, .int .i64 (2), .int .i64 state, .int .i64 head, .slice a m cap, .int .i64 next, .int .i64 told]), (1, .int .i64 node), (2, .int .i64 home), (3, .pointer (some ⟨b1, 0, none⟩)), (6, .pointer (some ⟨b2, 0, none⟩)), (7, .pointer (some ⟨b3, 0, none⟩)), (15, .int .i64 (2)), (17, .bool false), (22, .bool false)] ⟨by kernel_rfl, by kernel_rfl, by kernel_rfl, by kernel_rfl, by kernel_rfl, by kernel_rfl, by kernel_rfl, by kernel_rfl, by kernel_rfl, trivial⟩ ?_
  refine at_then_normal ?_
  refine at_false (t := false) (x := C24 [1, 1, 0, 1, 0, 1, 1, 1, 0]) (y := C24 [1, 1, 0, 1, 0, 1, 1, 1, 1]) (o := .tmp 22) (by kernel_rfl) (by kernel_rfl) (by kernel_rfl) rfl ?_
  refine at_seq (x := C24 [1, 1, 0, 1, 0, 1, 1, 1, 1, 0]) (y := C24 [1, 1, 0, 1, 0, 1, 1, 1, 1, 1]) (by kernel_rfl) ?_
  refine at_region (id := 10) 2 (by kernel_rfl) (by kernel_rfl) ?_
  refine s_pure 43 (.bool true) (by kernel_rfl) (by kernel_rfl) (fun _ => by kernel_rfl) ?_
  refine s_pure 42 (.bool true) (by kernel_rfl) (by kernel_rfl) (fun _ => by kernel_rfl) ?_
  refine ops_end ?_
  refine At.env [(0, .agg #[.int .i64 k, .int .i64 line, .int .i64 id, .int .i64 (2), .int .i64 state, .int .i64 head, .slice a m cap, .int .i64 next, .int .i64 told]), (1, .int .i64 node), (2, .int .i64 home), (3, .pointer (some ⟨b1, 0, none⟩)), (6, .pointer (some ⟨b2, 0, none⟩)), (7, .pointer (some ⟨b3, 0, none⟩)), (15, .int .i64 (2)), (17, .bool false), (22, .bool false), (42, .bool true)] ⟨by kernel_rfl, by kernel_rfl, by kernel_rfl, by kernel_rfl, by kernel_rfl, by kernel_rfl, by kernel_rfl, by kernel_rfl, by kernel_rfl, by kernel_rfl, trivial⟩ ?_
  refine at_then_normal ?_
  refine at_true (t := true) (x := C24 [1, 1, 0, 1, 0, 1, 1, 1, 1, 1, 0]) (y := C24 [1, 1, 0, 1, 0, 1, 1, 1, 1, 1, 1]) (o := .tmp 42) (by kernel_rfl) (by kernel_rfl) (by kernel_rfl) rfl ?_
  refine at_region_draw (id := 11) (by kernel_rfl) (by kernel_rfl) ?_
  refine d_pure 0 44 (.pointer (some ⟨b1, 5, none⟩)) (by kernel_rfl) (by kernel_rfl) (by kernel_rfl) (fun _ => by kernel_rfl) ?_
  refine d_load 1 45 (.int .i64 head) (by kernel_rfl) (by kernel_rfl) (by kernel_rfl) (load1 (off := 5) (fun _ => by kernel_rfl) (holds_own (.there (.there .here))) (by kernel_rfl)) ?_
  refine d_pure 2 46 (.int .i64 node) (by kernel_rfl) (by kernel_rfl) (by kernel_rfl) (fun _ => by kernel_rfl) ?_
  refine d_pure 3 47 (.pointer (some ⟨b3, 0, none⟩)) (by kernel_rfl) (by kernel_rfl) (by kernel_rfl) (fun _ => by kernel_rfl) ?_
  refine d_do 4 [3] [2, 0] [1] (by kernel_rfl) (by kernel_rfl) (by kernel_rfl) (st_store (off := 0) (vs := [.int .i64 (3)]) (c' := #[.int .i64 (3), .int .i64 node, .int .i64 (0), .int .i64 id, .int .i64 line, .int .i64 (0), .int .i64 (0), .bool false, .slice none 0 0]) (fun _ => by kernel_rfl) .here (by kernel_rfl) (by kernel_rfl) (by kernel_rfl)) ?_
  rintro _ _ ⟨rfl, rfl⟩
  refine ⟨(stable_cons 1 45 (.int .i64 head) (by kernel_rfl) (by kernel_rfl) (by kernel_rfl) (load1 (off := 5) (fun _ => by kernel_rfl) (holds_own (.there (.there .here))) (by kernel_rfl)) stable_nil), ?_⟩
  refine d_pure 5 48 (.pointer (some ⟨b3, 2, none⟩)) (by kernel_rfl) (by kernel_rfl) (by kernel_rfl) (fun _ => by kernel_rfl) ?_
  refine d_do 6 [5, 1, 4, 0, 3] [2] [] (by kernel_rfl) (by kernel_rfl) (by kernel_rfl) (st_store (off := 2) (vs := [.int .i64 head]) (c' := #[.int .i64 (3), .int .i64 node, .int .i64 head, .int .i64 id, .int .i64 line, .int .i64 (0), .int .i64 (0), .bool false, .slice none 0 0]) (fun _ => by kernel_rfl) .here (by kernel_rfl) (by kernel_rfl) (by kernel_rfl)) ?_
  rintro _ _ ⟨rfl, rfl⟩
  refine ⟨stable_nil, ?_⟩
  refine d_pure 7 49 (.pointer (some ⟨b3, 5, none⟩)) (by kernel_rfl) (by kernel_rfl) (by kernel_rfl) (fun _ => by kernel_rfl) ?_
  refine d_do 8 [7, 2, 6, 0, 1, 3, 4, 5] [] [] (by kernel_rfl) (by kernel_rfl) (by kernel_rfl) (st_store (off := 5) (vs := [.int .i64 node]) (c' := #[.int .i64 (3), .int .i64 node, .int .i64 head, .int .i64 id, .int .i64 line, .int .i64 node, .int .i64 (0), .bool false, .slice none 0 0]) (fun _ => by kernel_rfl) .here (by kernel_rfl) (by kernel_rfl) (by kernel_rfl)) ?_
  rintro _ _ ⟨rfl, rfl⟩
  refine ⟨stable_nil, ?_⟩
  refine draw_end (by kernel_rfl) ?_
  refine At.env [(0, .agg #[.int .i64 k, .int .i64 line, .int .i64 id, .int .i64 (2), .int .i64 state, .int .i64 head, .slice a m cap, .int .i64 next, .int .i64 told]), (1, .int .i64 node), (2, .int .i64 home), (3, .pointer (some ⟨b1, 0, none⟩)), (6, .pointer (some ⟨b2, 0, none⟩)), (7, .pointer (some ⟨b3, 0, none⟩)), (15, .int .i64 (2)), (17, .bool false), (22, .bool false), (42, .bool true)] ⟨by kernel_rfl, by kernel_rfl, by kernel_rfl, by kernel_rfl, by kernel_rfl, by kernel_rfl, by kernel_rfl, by kernel_rfl, by kernel_rfl, by kernel_rfl, trivial⟩ ?_
  refine at_in_normal ?_
  refine at_then_normal ?_
  refine at_seq (x := C24 [1, 1, 1, 0]) (y := C24 [1, 1, 1, 1]) (by kernel_rfl) ?_
  refine at_region (id := 18) 2 (by kernel_rfl) (by kernel_rfl) ?_
  refine s_load 74 (.agg #[.int .i64 (3), .int .i64 node, .int .i64 head, .int .i64 id, .int .i64 line, .int .i64 node, .int .i64 (0), .bool false, .slice none 0 0]) (by kernel_rfl) (by kernel_rfl) (loadN (off := 0) (vs := [.int .i64 (3), .int .i64 node, .int .i64 head, .int .i64 id, .int .i64 line, .int .i64 node, .int .i64 (0), .bool false, .slice none 0 0]) 9 (fun _ => by kernel_rfl) (holds_own .here) rfl (by exact ⟨rfl, rfl, rfl, rfl, rfl, rfl, rfl, rfl, rfl, trivial⟩)) ?_
  refine s_do (by kernel_rfl) (by kernel_rfl) (st_store (off := 0) (vs := [.int .i64 (3), .int .i64 node, .int .i64 head, .int .i64 id, .int .i64 line, .int .i64 node, .int .i64 (0), .bool false, .slice none 0 0]) (c' := #[.int .i64 (3), .int .i64 node, .int .i64 head, .int .i64 id, .int .i64 line, .int .i64 node, .int .i64 (0), .bool false, .slice none 0 0]) (fun _ => by kernel_rfl) (.there .here) (by kernel_rfl) (by kernel_rfl) (by kernel_rfl)) ?_
  rintro _ _ ⟨rfl, rfl⟩
  refine ops_end ?_
  refine At.env [(0, .agg #[.int .i64 k, .int .i64 line, .int .i64 id, .int .i64 (2), .int .i64 state, .int .i64 head, .slice a m cap, .int .i64 next, .int .i64 told]), (1, .int .i64 node), (2, .int .i64 home), (3, .pointer (some ⟨b1, 0, none⟩)), (6, .pointer (some ⟨b2, 0, none⟩)), (7, .pointer (some ⟨b3, 0, none⟩)), (15, .int .i64 (2)), (17, .bool false), (22, .bool false), (42, .bool true)] ⟨by kernel_rfl, by kernel_rfl, by kernel_rfl, by kernel_rfl, by kernel_rfl, by kernel_rfl, by kernel_rfl, by kernel_rfl, by kernel_rfl, by kernel_rfl, trivial⟩ ?_
  refine at_then_normal ?_
  refine at_ret (by kernel_rfl) ?_
  refine at_backR [.agg #[.int .i64 (3), .int .i64 node, .int .i64 head, .int .i64 id, .int .i64 line, .int .i64 node, .int .i64 (0), .bool false, .slice none 0 0]] (Γ) (rs := [.cell 6 38]) (by kernel_rfl) (.cons (.cell (by kernel_rfl) (retN (off := 0) (vs := [.int .i64 (3), .int .i64 node, .int .i64 head, .int .i64 id, .int .i64 line, .int .i64 node, .int .i64 (0), .bool false, .slice none 0 0]) 9 (fun _ => by kernel_rfl) (holds_own .here) rfl (by exact ⟨rfl, rfl, rfl, rfl, rfl, rfl, rfl, rfl, rfl, trivial⟩))) .nil) (fun w hw => hw.less (.drop .here (.drop .here (.drop .here .refl)))) ?_
  exact ⟨rfl, rfl⟩
set_option maxRecDepth 100000 in
theorem RAsk_3 {W0 : World} {Γ : List Asn} (k line id state head next told : Int) (a : Option Addr) (m cap : Nat) (node home : Int) : Tr Try.prog 24 #[.agg #[.int .i64 k, .int .i64 line, .int .i64 id, .int .i64 (3), .int .i64 state, .int .i64 head, .slice a m cap, .int .i64 next, .int .i64 told], .int .i64 node, .int .i64 home] W0 (Γ) (fun r Δ => r = .agg #[.int .i64 (6), .int .i64 node, .int .i64 next, .int .i64 id, .int .i64 line, .int .i64 (0), .int .i64 (0), .bool false, .slice none 0 0] ∧ Δ = Γ) := by
  refine Tr.enter (fn := Try.f24) (c := C24 []) (args := [.agg #[.int .i64 k, .int .i64 line, .int .i64 id, .int .i64 (3), .int .i64 state, .int .i64 head, .slice a m cap, .int .i64 next, .int .i64 told], .int .i64 node, .int .i64 home]) 75 Try.func24 (by kernel_rfl) (by kernel_rfl) ?_
  refine At.env [(0, .agg #[.int .i64 k, .int .i64 line, .int .i64 id, .int .i64 (3), .int .i64 state, .int .i64 head, .slice a m cap, .int .i64 next, .int .i64 told]), (1, .int .i64 node), (2, .int .i64 home)] ⟨by kernel_rfl, by kernel_rfl, by kernel_rfl, trivial⟩ ?_
  refine at_seq (x := C24 [0]) (y := C24 [1]) (by kernel_rfl) ?_
  refine at_region (id := 0) 2 (by kernel_rfl) (by kernel_rfl) ?_
  refine s_step 3 (by kernel_rfl) (by kernel_rfl) (st_new (T := 47) (cells := #[.int .i64 k, .int .i64 line, .int .i64 id, .int .i64 (3), .int .i64 state, .int .i64 head, .slice a m cap, .int .i64 next, .int .i64 told]) (fun a => .pointer (some a)) (fun _ => by kernel_rfl)) ?_
  rintro _ _ ⟨b1, rfl, rfl⟩
  refine s_step 6 (by kernel_rfl) (by kernel_rfl) (st_new (T := 38) (cells := #[.int .i64 (0), .int .i64 (0), .int .i64 (0), .int .i64 (0), .int .i64 (0), .int .i64 (0), .int .i64 (0), .bool false, .slice none 0 0]) (fun a => .pointer (some a)) (fun _ => by kernel_rfl)) ?_
  rintro _ _ ⟨b2, rfl, rfl⟩
  refine ops_end ?_
  refine At.env [(0, .agg #[.int .i64 k, .int .i64 line, .int .i64 id, .int .i64 (3), .int .i64 state, .int .i64 head, .slice a m cap, .int .i64 next, .int .i64 told]), (1, .int .i64 node), (2, .int .i64 home), (3, .pointer (some ⟨b1, 0, none⟩)), (6, .pointer (some ⟨b2, 0, none⟩))] ⟨by kernel_rfl, by kernel_rfl, by kernel_rfl, by kernel_rfl, by kernel_rfl, trivial⟩ ?_
  refine at_then_normal ?_
  refine at_seq (x := C24 [1, 0]) (y := C24 [1, 1]) (by kernel_rfl) ?_
  refine at_region (id := 1) 8 (by kernel_rfl) (by kernel_rfl) ?_
  refine s_pure 8 (.int .i64 node) (by kernel_rfl) (by kernel_rfl) (fun _ => by kernel_rfl) ?_
  refine s_pure 9 (.pointer (some ⟨b1, 2, none⟩)) (by kernel_rfl) (by kernel_rfl) (fun _ => by kernel_rfl) ?_
  refine s_load 10 (.int .i64 id) (by kernel_rfl) (by kernel_rfl) (load1 (off := 2) (fun _ => by kernel_rfl) (holds_own (.there .here)) (by kernel_rfl)) ?_
  refine s_pure 11 (.pointer (some ⟨b1, 1, none⟩)) (by kernel_rfl) (by kernel_rfl) (fun _ => by kernel_rfl) ?_
  refine s_load 12 (.int .i64 line) (by kernel_rfl) (by kernel_rfl) (load1 (off := 1) (fun _ => by kernel_rfl) (holds_own (.there .here)) (by kernel_rfl)) ?_
  refine s_pure 13 (.agg #[.int .i64 (0), .int .i64 node, .int .i64 (0), .int .i64 id, .int .i64 line, .int .i64 (0), .int .i64 (0), .bool false, .slice none 0 0]) (by kernel_rfl) (by kernel_rfl) (fun _ => by kernel_rfl) ?_
  refine s_step 7 (by kernel_rfl) (by kernel_rfl) (st_new (T := 38) (cells := #[.int .i64 (0), .int .i64 (0), .int .i64 (0), .int .i64 (0), .int .i64 (0), .int .i64 (0), .int .i64 (0), .bool false, .slice none 0 0]) (fun a => .pointer (some a)) (fun _ => by kernel_rfl)) ?_
  rintro _ _ ⟨b3, rfl, rfl⟩
  refine s_do (by kernel_rfl) (by kernel_rfl) (st_store (off := 0) (vs := [.int .i64 (0), .int .i64 node, .int .i64 (0), .int .i64 id, .int .i64 line, .int .i64 (0), .int .i64 (0), .bool false, .slice none 0 0]) (c' := #[.int .i64 (0), .int .i64 node, .int .i64 (0), .int .i64 id, .int .i64 line, .int .i64 (0), .int .i64 (0), .bool false, .slice none 0 0]) (fun _ => by kernel_rfl) .here (by kernel_rfl) (by kernel_rfl) (by kernel_rfl)) ?_
  rintro _ _ ⟨rfl, rfl⟩
  refine ops_end ?_
  refine At.env [(0, .agg #[.int .i64 k, .int .i64 line, .int .i64 id, .int .i64 (3), .int .i64 state, .int .i64 head, .slice a m cap, .int .i64 next, .int .i64 told]), (1, .int .i64 node), (2, .int .i64 home), (3, .pointer (some ⟨b1, 0, none⟩)), (6, .pointer (some ⟨b2, 0, none⟩)), (7, .pointer (some ⟨b3, 0, none⟩))] ⟨by kernel_rfl, by kernel_rfl, by kernel_rfl, by kernel_rfl, by kernel_rfl, by kernel_rfl, trivial⟩ ?_
  refine at_then_normal ?_
  refine at_seq (x := C24 [1, 1, 0]) (y := C24 [1, 1, 1]) (by kernel_rfl) ?_
  refine at_seq (x := C24 [1, 1, 0, 0]) (y := C24 [1, 1, 0, 1]) (by kernel_rfl) ?_
  refine at_region (id := 2) 2 (by kernel_rfl) (by kernel_rfl) ?_
  refine s_pure 14 (.pointer (some ⟨b1, 3, none⟩)) (by kernel_rfl) (by kernel_rfl) (fun _ => by kernel_rfl) ?_
  refine s_load 15 (.int .i64 (3)) (by kernel_rfl) (by kernel_rfl) (load1 (off := 3) (fun _ => by kernel_rfl) (holds_own (.there (.there .here))) (by kernel_rfl)) ?_
  refine ops_end ?_
  refine At.env [(0, .agg #[.int .i64 k, .int .i64 line, .int .i64 id, .int .i64 (3), .int .i64 state, .int .i64 head, .slice a m cap, .int .i64 next, .int .i64 told]), (1, .int .i64 node), (2, .int .i64 home), (3, .pointer (some ⟨b1, 0, none⟩)), (6, .pointer (some ⟨b2, 0, none⟩)), (7, .pointer (some ⟨b3, 0, none⟩)), (15, .int .i64 (3))] ⟨by kernel_rfl, by kernel_rfl, by kernel_rfl, by kernel_rfl, by kernel_rfl, by kernel_rfl, by kernel_rfl, trivial⟩ ?_
  refine at_then_normal ?_
  refine at_block (i := 0) (x := C24 [1, 1, 0, 1, 0]) (by kernel_rfl) ?_
  refine at_seq (x := C24 [1, 1, 0, 1, 0, 0]) (y := C24 [1, 1, 0, 1, 0, 1]) (by kernel_rfl) ?_
  refine at_region (id := 4) 2 (by kernel_rfl) (by kernel_rfl) ?_
  refine s_pure 18 (.bool false) (by kernel_rfl) (by kernel_rfl) (fun _ => by kernel_rfl) ?_
  refine s_pure 17 (.bool false) (by kernel_rfl) (by kernel_rfl) (fun _ => by kernel_rfl) ?_
  refine ops_end ?_
  refine At.env [(0, .agg #[.int .i64 k, .int .i64 line, .int .i64 id, .int .i64 (3), .int .i64 state, .int .i64 head, .slice a m cap, .int .i64 next, .int .i64 told]), (1, .int .i64 node), (2, .int .i64 home), (3, .pointer (some ⟨b1, 0, none⟩)), (6, .pointer (some ⟨b2, 0, none⟩)), (7, .pointer (some ⟨b3, 0, none⟩)), (15, .int .i64 (3)), (17, .bool false)] ⟨by kernel_rfl, by kernel_rfl, by kernel_rfl, by kernel_rfl, by kernel_rfl, by kernel_rfl, by kernel_rfl, by kernel_rfl, trivial⟩ ?_
  refine at_then_normal ?_
  refine at_false (t := false) (x := C24 [1, 1, 0, 1, 0, 1, 0]) (y := C24 [1, 1, 0, 1, 0, 1, 1]) (o := .tmp 17) (by kernel_rfl) (by kernel_rfl) (by kernel_rfl) rfl ?_
  refine at_seq (x := C24 [1, 1, 0, 1, 0, 1, 1, 0]) (y := C24 [1, 1, 0, 1, 0, 1, 1, 1]) (by kernel_rfl) ?_
  refine at_region (id := 6) 2 (by kernel_rfl) (by kernel_rfl) ?_
  refine s_pure 23 (.bool false) (by kernel_rfl) (by kernel_rfl) (fun _ => by kernel_rfl) ?_
  refine s_pure 22 (.bool false) (by kernel_rfl) (by kernel_rfl) (fun _ => by kernel_rfl) ?_
  refine ops_end ?_
  refine At.env [(0, .agg #[.int .i64 k, .int .i64 line, .int .i64 id, .int .i64 (3), .int .i64 state, .int .i64 head, .slice a m cap, .int .i64 next, .int .i64 told]), (1, .int .i64 node), (2, .int .i64 home), (3, .pointer (some ⟨b1, 0, none⟩)), (6, .pointer (some ⟨b2, 0, none⟩)), (7, .pointer (some ⟨b3, 0, none⟩)), (15, .int .i64 (3)), (17, .bool false), (22, .bool false)] ⟨by kernel_rfl, by kernel_rfl, by kernel_rfl, by kernel_rfl, by kernel_rfl, by kernel_rfl, by kernel_rfl, by kernel_rfl, by kernel_rfl, trivial⟩ ?_
  refine at_then_normal ?_
  refine at_false (t := false) (x := C24 [1, 1, 0, 1, 0, 1, 1, 1, 0]) (y := C24 [1, 1, 0, 1, 0, 1, 1, 1, 1]) (o := .tmp 22) (by kernel_rfl) (by kernel_rfl) (by kernel_rfl) rfl ?_
  refine at_seq (x := C24 [1, 1, 0, 1, 0, 1, 1, 1, 1, 0]) (y := C24 [1, 1, 0, 1, 0, 1, 1, 1, 1, 1]) (by kernel_rfl) ?_
  refine at_region (id := 10) 2 (by kernel_rfl) (by kernel_rfl) ?_
  refine s_pure 43 (.bool false) (by kernel_rfl) (by kernel_rfl) (fun _ => by kernel_rfl) ?_
  refine s_pure 42 (.bool false) (by kernel_rfl) (by kernel_rfl) (fun _ => by kernel_rfl) ?_
  refine ops_end ?_
  refine At.env [(0, .agg #[.int .i64 k, .int .i64 line, .int .i64 id, .int .i64 (3), .int .i64 state, .int .i64 head, .slice a m cap, .int .i64 next, .int .i64 told]), (1, .int .i64 node), (2, .int .i64 home), (3, .pointer (some ⟨b1, 0, none⟩)), (6, .pointer (some ⟨b2, 0, none⟩)), (7, .pointer (some ⟨b3, 0, none⟩)), (15, .int .i64 (3)), (17, .bool false), (22, .bool false), (42, .bool false)] ⟨by kernel_rfl, by kernel_rfl, by kernel_rfl, by kernel_rfl, by kernel_rfl, by kernel_rfl, by kernel_rfl, by kernel_rfl, by kernel_rfl, by kernel_rfl, trivial⟩ ?_
  refine at_then_normal ?_
  refine at_false (t := false) (x := C24 [1, 1, 0, 1, 0, 1, 1, 1, 1, 1, 0]) (y := C24 [1, 1, 0, 1, 0, 1, 1, 1, 1, 1, 1]) (o := .tmp 42) (by kernel_rfl) (by kernel_rfl) (by kernel_rfl) rfl ?_
  refine at_seq (x := C24 [1, 1, 0, 1, 0, 1, 1, 1, 1, 1, 1, 0]) (y := C24 [1, 1, 0, 1, 0, 1, 1, 1, 1, 1, 1, 1]) (by kernel_rfl) ?_
  refine at_region (id := 12) 2 (by kernel_rfl) (by kernel_rfl) ?_
  refine s_pure 51 (.bool true) (by kernel_rfl) (by kernel_rfl) (fun _ => by kernel_rfl) ?_
  refine s_pure 50 (.bool true) (by kernel_rfl) (by kernel_rfl) (fun _ => by kernel_rfl) ?_
  refine ops_end ?_
  refine At.env [(0, .agg #[.int .i64 k, .int .i64 line, .int .i64 id, .int .i64 (3), .int .i64 state, .int .i64 head, .slice a m cap, .int .i64 next, .int .i64 told]), (1, .int .i64 node), (2, .int .i64 home), (3, .pointer (some ⟨b1, 0, none⟩)), (6, .pointer (some ⟨b2, 0, none⟩)), (7, .pointer (some ⟨b3, 0, none⟩)), (15, .int .i64 (3)), (17, .bool false), (22, .bool false), (42, .bool false), (50, .bool true)] ⟨by kernel_rfl, by kernel_rfl, by kernel_rfl, by kernel_rfl, by kernel_rfl, by kernel_rfl, by kernel_rfl, by kernel_rfl, by kernel_rfl, by kernel_rfl, by kernel_rfl, trivial⟩ ?_
  refine at_then_normal ?_
  refine at_true (t := true) (x := C24 [1, 1, 0, 1, 0, 1, 1, 1, 1, 1, 1, 1, 0]) (y := C24 [1, 1, 0, 1, 0, 1, 1, 1, 1, 1, 1, 1, 1]) (o := .tmp 50) (by kernel_rfl) (by kernel_rfl) (by kernel_rfl) rfl ?_
  refine at_region_draw (id := 13) (by kernel_rfl) (by kernel_rfl) ?_
  refine d_pure 0 52 (.pointer (some ⟨b1, 7, none⟩)) (by kernel_rfl) (by kernel_rfl) (by kernel_rfl) (fun _ => by kernel_rfl) ?_
  refine d_load 1 53 (.int .i64 next) (by kernel_rfl) (by kernel_rfl) (by kernel_rfl) (load1 (off := 7) (fun _ => by kernel_rfl) (holds_own (.there (.there .here))) (by kernel_rfl)) ?_
  refine d_pure 2 54 (.pointer (some ⟨b3, 0, none⟩)) (by kernel_rfl) (by kernel_rfl) (by kernel_rfl) (fun _ => by kernel_rfl) ?_
  refine d_do 3 [2] [0] [1] (by kernel_rfl) (by kernel_rfl) (by kernel_rfl) (st_store (off := 0) (vs := [.int .i64 (6)]) (c' := #[.int .i64 (6), .int .i64 node, .int .i64 (0), .int .i64 id, .int .i64 line, .int .i64 (0), .int .i64 (0), .bool false, .slice none 0 0]) (fun _ => by kernel_rfl) .here (by kernel_rfl) (by kernel_rfl) (by kernel_rfl)) ?_
  rintro _ _ ⟨rfl, rfl⟩
  refine ⟨(stable_cons 1 53 (.int .i64 next) (by kernel_rfl) (by kernel_rfl) (by kernel_rfl) (load1 (off := 7) (fun _ => by kernel_rfl) (holds_own (.there (.there .here))) (by kernel_rfl)) stable_nil), ?_⟩
  refine d_pure 4 55 (.pointer (some ⟨b3, 2, none⟩)) (by kernel_rfl) (by kernel_rfl) (by kernel_rfl) (fun _ => by kernel_rfl) ?_
  refine d_do 5 [4, 1, 3, 0, 2] [] [] (by kernel_rfl) (by kernel_rfl) (by kernel_rfl) (st_store (off := 2) (vs := [.int .i64 next]) (c' := #[.int .i64 (6), .int .i64 node, .int .i64 next, .int .i64 id, .int .i64 line, .int .i64 (0), .int .i64 (0), .bool false, .slice none 0 0]) (fun _ => by kernel_rfl) .here (by kernel_rfl) (by kernel_rfl) (by kernel_rfl)) ?_
  rintro _ _ ⟨rfl, rfl⟩
  refine ⟨stable_nil, ?_⟩
  refine draw_end (by kernel_rfl) ?_
  refine At.env [(0, .agg #[.int .i64 k, .int .i64 line, .int .i64 id, .int .i64 (3), .int .i64 state, .int .i64 head, .slice a m cap, .int .i64 next, .int .i64 told]), (1, .int .i64 node), (2, .int .i64 home), (3, .pointer (some ⟨b1, 0, none⟩)), (6, .pointer (some ⟨b2, 0, none⟩)), (7, .pointer (some ⟨b3, 0, none⟩)), (15, .int .i64 (3)), (17, .bool false), (22, .bool false), (42, .bool false), (50, .bool true)] ⟨by kernel_rfl, by kernel_rfl, by kernel_rfl, by kernel_rfl, by kernel_rfl, by kernel_rfl, by kernel_rfl, by kernel_rfl, by kernel_rfl, by kernel_rfl, by kernel_rfl, trivial⟩ ?_
  refine at_in_normal ?_
  refine at_then_normal ?_
  refine at_seq (x := C24 [1, 1, 1, 0]) (y := C24 [1, 1, 1, 1]) (by kernel_rfl) ?_
  refine at_region (id := 18) 2 (by kernel_rfl) (by kernel_rfl) ?_
  refine s_load 74 (.agg #[.int .i64 (6), .int .i64 node, .int .i64 next, .int .i64 id, .int .i64 line, .int .i64 (0), .int .i64 (0), .bool false, .slice none 0 0]) (by kernel_rfl) (by kernel_rfl) (loadN (off := 0) (vs := [.int .i64 (6), .int .i64 node, .int .i64 next, .int .i64 id, .int .i64 line, .int .i64 (0), .int .i64 (0), .bool false, .slice none 0 0]) 9 (fun _ => by kernel_rfl) (holds_own .here) rfl (by exact ⟨rfl, rfl, rfl, rfl, rfl, rfl, rfl, rfl, rfl, trivial⟩)) ?_
  refine s_do (by kernel_rfl) (by kernel_rfl) (st_store (off := 0) (vs := [.int .i64 (6), .int .i64 node, .int .i64 next, .int .i64 id, .int .i64 line, .int .i64 (0), .int .i64 (0), .bool false, .slice none 0 0]) (c' := #[.int .i64 (6), .int .i64 node, .int .i64 next, .int .i64 id, .int .i64 line, .int .i64 (0), .int .i64 (0), .bool false, .slice none 0 0]) (fun _ => by kernel_rfl) (.there .here) (by kernel_rfl) (by kernel_rfl) (by kernel_rfl)) ?_
  rintro _ _ ⟨rfl, rfl⟩
  refine ops_end ?_
  refine At.env [(0, .agg #[.int .i64 k, .int .i64 line, .int .i64 id, .int .i64 (3), .int .i64 state, .int .i64 head, .slice a m cap, .int .i64 next, .int .i64 told]), (1, .int .i64 node), (2, .int .i64 home), (3, .pointer (some ⟨b1, 0, none⟩)), (6, .pointer (some ⟨b2, 0, none⟩)), (7, .pointer (some ⟨b3, 0, none⟩)), (15, .int .i64 (3)), (17, .bool false), (22, .bool false), (42, .bool false), (50, .bool true)] ⟨by kernel_rfl, by kernel_rfl, by kernel_rfl, by kernel_rfl, by kernel_rfl, by kernel_rfl, by kernel_rfl, by kernel_rfl, by kernel_rfl, by kernel_rfl, by kernel_rfl, trivial⟩ ?_
  refine at_then_normal ?_
  refine at_ret (by kernel_rfl) ?_
  refine at_backR [.agg #[.int .i64 (6), .int .i64 node, .int .i64 next, .int .i64 id, .int .i64 line, .int .i64 (0), .int .i64 (0), .bool false, .slice none 0 0]] (Γ) (rs := [.cell 6 38]) (by kernel_rfl) (.cons (.cell (by kernel_rfl) (retN (off := 0) (vs := [.int .i64 (6), .int .i64 node, .int .i64 next, .int .i64 id, .int .i64 line, .int .i64 (0), .int .i64 (0), .bool false, .slice none 0 0]) 9 (fun _ => by kernel_rfl) (holds_own .here) rfl (by exact ⟨rfl, rfl, rfl, rfl, rfl, rfl, rfl, rfl, rfl, trivial⟩))) .nil) (fun w hw => hw.less (.drop .here (.drop .here (.drop .here .refl)))) ?_
  exact ⟨rfl, rfl⟩
set_option maxRecDepth 100000 in
theorem RAsk_4 {W0 : World} {Γ : List Asn} (k line id state head next told : Int) (a : Option Addr) (m cap : Nat) (node home : Int) : Tr Try.prog 24 #[.agg #[.int .i64 k, .int .i64 line, .int .i64 id, .int .i64 (4), .int .i64 state, .int .i64 head, .slice a m cap, .int .i64 next, .int .i64 told], .int .i64 node, .int .i64 home] W0 (Γ) (fun r Δ => r = .agg #[.int .i64 (4), .int .i64 node, .int .i64 head, .int .i64 id, .int .i64 line, .int .i64 (next), .int .i64 (0), .bool false, .slice none 0 0] ∧ Δ = Γ) := by
  refine Tr.enter (fn := Try.f24) (c := C24 []) (args := [.agg #[.int .i64 k, .int .i64 line, .int .i64 id, .int .i64 (4), .int .i64 state, .int .i64 head, .slice a m cap, .int .i64 next, .int .i64 told], .int .i64 node, .int .i64 home]) 75 Try.func24 (by kernel_rfl) (by kernel_rfl) ?_
  refine At.env [(0, .agg #[.int .i64 k, .int .i64 line, .int .i64 id, .int .i64 (4), .int .i64 state, .int .i64 head, .slice a m cap, .int .i64 next, .int .i64 told]), (1, .int .i64 node), (2, .int .i64 home)] ⟨by kernel_rfl, by kernel_rfl, by kernel_rfl, trivial⟩ ?_
  refine at_seq (x := C24 [0]) (y := C24 [1]) (by kernel_rfl) ?_
  refine at_region (id := 0) 2 (by kernel_rfl) (by kernel_rfl) ?_
  refine s_step 3 (by kernel_rfl) (by kernel_rfl) (st_new (T := 47) (cells := #[.int .i64 k, .int .i64 line, .int .i64 id, .int .i64 (4), .int .i64 state, .int .i64 head, .slice a m cap, .int .i64 next, .int .i64 told]) (fun a => .pointer (some a)) (fun _ => by kernel_rfl)) ?_
  rintro _ _ ⟨b1, rfl, rfl⟩
  refine s_step 6 (by kernel_rfl) (by kernel_rfl) (st_new (T := 38) (cells := #[.int .i64 (0), .int .i64 (0), .int .i64 (0), .int .i64 (0), .int .i64 (0), .int .i64 (0), .int .i64 (0), .bool false, .slice none 0 0]) (fun a => .pointer (some a)) (fun _ => by kernel_rfl)) ?_
  rintro _ _ ⟨b2, rfl, rfl⟩
  refine ops_end ?_
  refine At.env [(0, .agg #[.int .i64 k, .int .i64 line, .int .i64 id, .int .i64 (4), .int .i64 state, .int .i64 head, .slice a m cap, .int .i64 next, .int .i64 told]), (1, .int .i64 node), (2, .int .i64 home), (3, .pointer (some ⟨b1, 0, none⟩)), (6, .pointer (some ⟨b2, 0, none⟩))] ⟨by kernel_rfl, by kernel_rfl, by kernel_rfl, by kernel_rfl, by kernel_rfl, trivial⟩ ?_
  refine at_then_normal ?_
  refine at_seq (x := C24 [1, 0]) (y := C24 [1, 1]) (by kernel_rfl) ?_
  refine at_region (id := 1) 8 (by kernel_rfl) (by kernel_rfl) ?_
  refine s_pure 8 (.int .i64 node) (by kernel_rfl) (by kernel_rfl) (fun _ => by kernel_rfl) ?_
  refine s_pure 9 (.pointer (some ⟨b1, 2, none⟩)) (by kernel_rfl) (by kernel_rfl) (fun _ => by kernel_rfl) ?_
  refine s_load 10 (.int .i64 id) (by kernel_rfl) (by kernel_rfl) (load1 (off := 2) (fun _ => by kernel_rfl) (holds_own (.there .here)) (by kernel_rfl)) ?_
  refine s_pure 11 (.pointer (some ⟨b1, 1, none⟩)) (by kernel_rfl) (by kernel_rfl) (fun _ => by kernel_rfl) ?_
  refine s_load 12 (.int .i64 line) (by kernel_rfl) (by kernel_rfl) (load1 (off := 1) (fun _ => by kernel_rfl) (holds_own (.there .here)) (by kernel_rfl)) ?_
  refine s_pure 13 (.agg #[.int .i64 (0), .int .i64 node, .int .i64 (0), .int .i64 id, .int .i64 line, .int .i64 (0), .int .i64 (0), .bool false, .slice none 0 0]) (by kernel_rfl) (by kernel_rfl) (fun _ => by kernel_rfl) ?_
  refine s_step 7 (by kernel_rfl) (by kernel_rfl) (st_new (T := 38) (cells := #[.int .i64 (0), .int .i64 (0), .int .i64 (0), .int .i64 (0), .int .i64 (0), .int .i64 (0), .int .i64 (0), .bool false, .slice none 0 0]) (fun a => .pointer (some a)) (fun _ => by kernel_rfl)) ?_
  rintro _ _ ⟨b3, rfl, rfl⟩
  refine s_do (by kernel_rfl) (by kernel_rfl) (st_store (off := 0) (vs := [.int .i64 (0), .int .i64 node, .int .i64 (0), .int .i64 id, .int .i64 line, .int .i64 (0), .int .i64 (0), .bool false, .slice none 0 0]) (c' := #[.int .i64 (0), .int .i64 node, .int .i64 (0), .int .i64 id, .int .i64 line, .int .i64 (0), .int .i64 (0), .bool false, .slice none 0 0]) (fun _ => by kernel_rfl) .here (by kernel_rfl) (by kernel_rfl) (by kernel_rfl)) ?_
  rintro _ _ ⟨rfl, rfl⟩
  refine ops_end ?_
  refine At.env [(0, .agg #[.int .i64 k, .int .i64 line, .int .i64 id, .int .i64 (4), .int .i64 state, .int .i64 head, .slice a m cap, .int .i64 next, .int .i64 told]), (1, .int .i64 node), (2, .int .i64 home), (3, .pointer (some ⟨b1, 0, none⟩)), (6, .pointer (some ⟨b2, 0, none⟩)), (7, .pointer (some ⟨b3, 0, none⟩))] ⟨by kernel_rfl, by kernel_rfl, by kernel_rfl, by kernel_rfl, by kernel_rfl, by kernel_rfl, trivial⟩ ?_
  refine at_then_normal ?_
  refine at_seq (x := C24 [1, 1, 0]) (y := C24 [1, 1, 1]) (by kernel_rfl) ?_
  refine at_seq (x := C24 [1, 1, 0, 0]) (y := C24 [1, 1, 0, 1]) (by kernel_rfl) ?_
  refine at_region (id := 2) 2 (by kernel_rfl) (by kernel_rfl) ?_
  refine s_pure 14 (.pointer (some ⟨b1, 3, none⟩)) (by kernel_rfl) (by kernel_rfl) (fun _ => by kernel_rfl) ?_
  refine s_load 15 (.int .i64 (4)) (by kernel_rfl) (by kernel_rfl) (load1 (off := 3) (fun _ => by kernel_rfl) (holds_own (.there (.there .here))) (by kernel_rfl)) ?_
  refine ops_end ?_
  refine At.env [(0, .agg #[.int .i64 k, .int .i64 line, .int .i64 id, .int .i64 (4), .int .i64 state, .int .i64 head, .slice a m cap, .int .i64 next, .int .i64 told]), (1, .int .i64 node), (2, .int .i64 home), (3, .pointer (some ⟨b1, 0, none⟩)), (6, .pointer (some ⟨b2, 0, none⟩)), (7, .pointer (some ⟨b3, 0, none⟩)), (15, .int .i64 (4))] ⟨by kernel_rfl, by kernel_rfl, by kernel_rfl, by kernel_rfl, by kernel_rfl, by kernel_rfl, by kernel_rfl, trivial⟩ ?_
  refine at_then_normal ?_
  refine at_block (i := 0) (x := C24 [1, 1, 0, 1, 0]) (by kernel_rfl) ?_
  refine at_seq (x := C24 [1, 1, 0, 1, 0, 0]) (y := C24 [1, 1, 0, 1, 0, 1]) (by kernel_rfl) ?_
  refine at_region (id := 4) 2 (by kernel_rfl) (by kernel_rfl) ?_
  refine s_pure 18 (.bool false) (by kernel_rfl) (by kernel_rfl) (fun _ => by kernel_rfl) ?_
  refine s_pure 17 (.bool false) (by kernel_rfl) (by kernel_rfl) (fun _ => by kernel_rfl) ?_
  refine ops_end ?_
  refine At.env [(0, .agg #[.int .i64 k, .int .i64 line, .int .i64 id, .int .i64 (4), .int .i64 state, .int .i64 head, .slice a m cap, .int .i64 next, .int .i64 told]), (1, .int .i64 node), (2, .int .i64 home), (3, .pointer (some ⟨b1, 0, none⟩)), (6, .pointer (some ⟨b2, 0, none⟩)), (7, .pointer (some ⟨b3, 0, none⟩)), (15, .int .i64 (4)), (17, .bool false)] ⟨by kernel_rfl, by kernel_rfl, by kernel_rfl, by kernel_rfl, by kernel_rfl, by kernel_rfl, by kernel_rfl, by kernel_rfl, trivial⟩ ?_
  refine at_then_normal ?_
  refine at_false (t := false) (x := C24 [1, 1, 0, 1, 0, 1, 0]) (y := C24 [1, 1, 0, 1, 0, 1, 1]) (o := .tmp 17) (by kernel_rfl) (by kernel_rfl) (by kernel_rfl) rfl ?_
  refine at_seq (x := C24 [1, 1, 0, 1, 0, 1, 1, 0]) (y := C24 [1, 1, 0, 1, 0, 1, 1, 1]) (by kernel_rfl) ?_
  refine at_region (id := 6) 2 (by kernel_rfl) (by kernel_rfl) ?_
  refine s_pure 23 (.bool false) (by kernel_rfl) (by kernel_rfl) (fun _ => by kernel_rfl) ?_
  refine s_pure 22 (.bool false) (by kernel_rfl) (by kernel_rfl) (fun _ => by kernel_rfl) ?_
  refine ops_end ?_
  refine At.env [(0, .agg #[.int .i64 k, .int .i64 line, .int .i64 id, .int .i64 (4), .int .i64 state, .int .i64 head, .slice a m cap, .int .i64 next, .int .i64 told]), (1, .int .i64 node), (2, .int .i64 home), (3, .pointer (some ⟨b1, 0, none⟩)), (6, .pointer (some ⟨b2, 0, none⟩)), (7, .pointer (some ⟨b3, 0, none⟩)), (15, .int .i64 (4)), (17, .bool false), (22, .bool false)] ⟨by kernel_rfl, by kernel_rfl, by kernel_rfl, by kernel_rfl, by kernel_rfl, by kernel_rfl, by kernel_rfl, by kernel_rfl, by kernel_rfl, trivial⟩ ?_
  refine at_then_normal ?_
  refine at_false (t := false) (x := C24 [1, 1, 0, 1, 0, 1, 1, 1, 0]) (y := C24 [1, 1, 0, 1, 0, 1, 1, 1, 1]) (o := .tmp 22) (by kernel_rfl) (by kernel_rfl) (by kernel_rfl) rfl ?_
  refine at_seq (x := C24 [1, 1, 0, 1, 0, 1, 1, 1, 1, 0]) (y := C24 [1, 1, 0, 1, 0, 1, 1, 1, 1, 1]) (by kernel_rfl) ?_
  refine at_region (id := 10) 2 (by kernel_rfl) (by kernel_rfl) ?_
  refine s_pure 43 (.bool false) (by kernel_rfl) (by kernel_rfl) (fun _ => by kernel_rfl) ?_
  refine s_pure 42 (.bool false) (by kernel_rfl) (by kernel_rfl) (fun _ => by kernel_rfl) ?_
  refine ops_end ?_
  refine At.env [(0, .agg #[.int .i64 k, .int .i64 line, .int .i64 id, .int .i64 (4), .int .i64 state, .int .i64 head, .slice a m cap, .int .i64 next, .int .i64 told]), (1, .int .i64 node), (2, .int .i64 home), (3, .pointer (some ⟨b1, 0, none⟩)), (6, .pointer (some ⟨b2, 0, none⟩)), (7, .pointer (some ⟨b3, 0, none⟩)), (15, .int .i64 (4)), (17, .bool false), (22, .bool false), (42, .bool false)] ⟨by kernel_rfl, by kernel_rfl, by kernel_rfl, by kernel_rfl, by kernel_rfl, by kernel_rfl, by kernel_rfl, by kernel_rfl, by kernel_rfl, by kernel_rfl, trivial⟩ ?_
  refine at_then_normal ?_
  refine at_false (t := false) (x := C24 [1, 1, 0, 1, 0, 1, 1, 1, 1, 1, 0]) (y := C24 [1, 1, 0, 1, 0, 1, 1, 1, 1, 1, 1]) (o := .tmp 42) (by kernel_rfl) (by kernel_rfl) (by kernel_rfl) rfl ?_
  refine at_seq (x := C24 [1, 1, 0, 1, 0, 1, 1, 1, 1, 1, 1, 0]) (y := C24 [1, 1, 0, 1, 0, 1, 1, 1, 1, 1, 1, 1]) (by kernel_rfl) ?_
  refine at_region (id := 12) 2 (by kernel_rfl) (by kernel_rfl) ?_
  refine s_pure 51 (.bool false) (by kernel_rfl) (by kernel_rfl) (fun _ => by kernel_rfl) ?_
  refine s_pure 50 (.bool false) (by kernel_rfl) (by kernel_rfl) (fun _ => by kernel_rfl) ?_
  refine ops_end ?_
  refine At.env [(0, .agg #[.int .i64 k, .int .i64 line, .int .i64 id, .int .i64 (4), .int .i64 state, .int .i64 head, .slice a m cap, .int .i64 next, .int .i64 told]), (1, .int .i64 node), (2, .int .i64 home), (3, .pointer (some ⟨b1, 0, none⟩)), (6, .pointer (some ⟨b2, 0, none⟩)), (7, .pointer (some ⟨b3, 0, none⟩)), (15, .int .i64 (4)), (17, .bool false), (22, .bool false), (42, .bool false), (50, .bool false)] ⟨by kernel_rfl, by kernel_rfl, by kernel_rfl, by kernel_rfl, by kernel_rfl, by kernel_rfl, by kernel_rfl, by kernel_rfl, by kernel_rfl, by kernel_rfl, by kernel_rfl, trivial⟩ ?_
  refine at_then_normal ?_
  refine at_false (t := false) (x := C24 [1, 1, 0, 1, 0, 1, 1, 1, 1, 1, 1, 1, 0]) (y := C24 [1, 1, 0, 1, 0, 1, 1, 1, 1, 1, 1, 1, 1]) (o := .tmp 50) (by kernel_rfl) (by kernel_rfl) (by kernel_rfl) rfl ?_
  refine at_seq (x := C24 [1, 1, 0, 1, 0, 1, 1, 1, 1, 1, 1, 1, 1, 0]) (y := C24 [1, 1, 0, 1, 0, 1, 1, 1, 1, 1, 1, 1, 1, 1]) (by kernel_rfl) ?_
  refine at_region (id := 14) 2 (by kernel_rfl) (by kernel_rfl) ?_
  refine s_pure 57 (.bool true) (by kernel_rfl) (by kernel_rfl) (fun _ => by kernel_rfl) ?_
  refine s_pure 56 (.bool true) (by kernel_rfl) (by kernel_rfl) (fun _ => by kernel_rfl) ?_
  refine ops_end ?_
  refine At.env [(0, .agg #[.int .i64 k, .int .i64 line, .int .i64 id, .int .i64 (4), .int .i64 state, .int .i64 head, .slice a m cap, .int .i64 next, .int .i64 told]), (1, .int .i64 node), (2, .int .i64 home), (3, .pointer (some ⟨b1, 0, none⟩)), (6, .pointer (some ⟨b2, 0, none⟩)), (7, .pointer (some ⟨b3, 0, none⟩)), (15, .int .i64 (4)), (17, .bool false), (22, .bool false), (42, .bool false), (50, .bool false), (56, .bool true)] ⟨by kernel_rfl, by kernel_rfl, by kernel_rfl, by kernel_rfl, by kernel_rfl, by kernel_rfl, by kernel_rfl, by kernel_rfl, by kernel_rfl, by kernel_rfl, by kernel_rfl, by kernel_rfl, trivial⟩ ?_
  refine at_then_normal ?_
  refine at_true (t := true) (x := C24 [1, 1, 0, 1, 0, 1, 1, 1, 1, 1, 1, 1, 1, 1, 0]) (y := C24 [1, 1, 0, 1, 0, 1, 1, 1, 1, 1, 1, 1, 1, 1, 1]) (o := .tmp 56) (by kernel_rfl) (by kernel_rfl) (by kernel_rfl) rfl ?_
  refine at_region_draw (id := 15) (by kernel_rfl) (by kernel_rfl) ?_
  refine d_pure 0 58 (.pointer (some ⟨b1, 5, none⟩)) (by kernel_rfl) (by kernel_rfl) (by kernel_rfl) (fun _ => by kernel_rfl) ?_
  refine d_load 1 59 (.int .i64 head) (by kernel_rfl) (by kernel_rfl) (by kernel_rfl) (load1 (off := 5) (fun _ => by kernel_rfl) (holds_own (.there (.there .here))) (by kernel_rfl)) ?_
  refine d_pure 2 60 (.pointer (some ⟨b1, 7, none⟩)) (by kernel_rfl) (by kernel_rfl) (by kernel_rfl) (fun _ => by kernel_rfl) ?_
  refine d_load 3 61 (.int .i64 next) (by kernel_rfl) (by kernel_rfl) (by kernel_rfl) (load1 (off := 7) (fun _ => by kernel_rfl) (holds_own (.there (.there .here))) (by kernel_rfl)) ?_
  refine d_pure 4 62 (.pointer (some ⟨b3, 0, none⟩)) (by kernel_rfl) (by kernel_rfl) (by kernel_rfl) (fun _ => by kernel_rfl) ?_
  refine d_do 5 [4] [2, 0] [3, 1] (by kernel_rfl) (by kernel_rfl) (by kernel_rfl) (st_store (off := 0) (vs := [.int .i64 (4)]) (c' := #[.int .i64 (4), .int .i64 node, .int .i64 (0), .int .i64 id, .int .i64 line, .int .i64 (0), .int .i64 (0), .bool false, .slice none 0 0]) (fun _ => by kernel_rfl) .here (by kernel_rfl) (by kernel_rfl) (by kernel_rfl)) ?_
  rintro _ _ ⟨rfl, rfl⟩
  refine ⟨(stable_cons 3 61 (.int .i64 next) (by kernel_rfl) (by kernel_rfl) (by kernel_rfl) (load1 (off := 7) (fun _ => by kernel_rfl) (holds_own (.there (.there .here))) (by kernel_rfl)) (stable_cons 1 59 (.int .i64 head) (by kernel_rfl) (by kernel_rfl) (by kernel_rfl) (load1 (off := 5) (fun _ => by kernel_rfl) (holds_own (.there (.there .here))) (by kernel_rfl)) stable_nil)), ?_⟩
  refine d_pure 6 63 (.pointer (some ⟨b3, 2, none⟩)) (by kernel_rfl) (by kernel_rfl) (by kernel_rfl) (fun _ => by kernel_rfl) ?_
  refine d_do 7 [6, 1, 5, 0, 4] [2] [3] (by kernel_rfl) (by kernel_rfl) (by kernel_rfl) (st_store (off := 2) (vs := [.int .i64 head]) (c' := #[.int .i64 (4), .int .i64 node, .int .i64 head, .int .i64 id, .int .i64 line, .int .i64 (0), .int .i64 (0), .bool false, .slice none 0 0]) (fun _ => by kernel_rfl) .here (by kernel_rfl) (by kernel_rfl) (by kernel_rfl)) ?_
  rintro _ _ ⟨rfl, rfl⟩
  refine ⟨(stable_cons 3 61 (.int .i64 next) (by kernel_rfl) (by kernel_rfl) (by kernel_rfl) (load1 (off := 7) (fun _ => by kernel_rfl) (holds_own (.there (.there .here))) (by kernel_rfl)) stable_nil), ?_⟩
  refine d_pure 8 64 (.pointer (some ⟨b3, 5, none⟩)) (by kernel_rfl) (by kernel_rfl) (by kernel_rfl) (fun _ => by kernel_rfl) ?_
  refine d_do 9 [8, 3, 7, 0, 1, 2, 4, 5, 6] [] [] (by kernel_rfl) (by kernel_rfl) (by kernel_rfl) (st_store (off := 5) (vs := [.int .i64 next]) (c' := #[.int .i64 (4), .int .i64 node, .int .i64 head, .int .i64 id, .int .i64 line, .int .i64 next, .int .i64 (0), .bool false, .slice none 0 0]) (fun _ => by kernel_rfl) .here (by kernel_rfl) (by kernel_rfl) (by kernel_rfl)) ?_
  rintro _ _ ⟨rfl, rfl⟩
  refine ⟨stable_nil, ?_⟩
  refine draw_end (by kernel_rfl) ?_
  refine At.env [(0, .agg #[.int .i64 k, .int .i64 line, .int .i64 id, .int .i64 (4), .int .i64 state, .int .i64 head, .slice a m cap, .int .i64 next, .int .i64 told]), (1, .int .i64 node), (2, .int .i64 home), (3, .pointer (some ⟨b1, 0, none⟩)), (6, .pointer (some ⟨b2, 0, none⟩)), (7, .pointer (some ⟨b3, 0, none⟩)), (15, .int .i64 (4)), (17, .bool false), (22, .bool false), (42, .bool false), (50, .bool false), (56, .bool true)] ⟨by kernel_rfl, by kernel_rfl, by kernel_rfl, by kernel_rfl, by kernel_rfl, by kernel_rfl, by kernel_rfl, by kernel_rfl, by kernel_rfl, by kernel_rfl, by kernel_rfl, by kernel_rfl, trivial⟩ ?_
  refine at_in_normal ?_
  refine at_then_normal ?_
  refine at_seq (x := C24 [1, 1, 1, 0]) (y := C24 [1, 1, 1, 1]) (by kernel_rfl) ?_
  refine at_region (id := 18) 2 (by kernel_rfl) (by kernel_rfl) ?_
  refine s_load 74 (.agg #[.int .i64 (4), .int .i64 node, .int .i64 head, .int .i64 id, .int .i64 line, .int .i64 next, .int .i64 (0), .bool false, .slice none 0 0]) (by kernel_rfl) (by kernel_rfl) (loadN (off := 0) (vs := [.int .i64 (4), .int .i64 node, .int .i64 head, .int .i64 id, .int .i64 line, .int .i64 next, .int .i64 (0), .bool false, .slice none 0 0]) 9 (fun _ => by kernel_rfl) (holds_own .here) rfl (by exact ⟨rfl, rfl, rfl, rfl, rfl, rfl, rfl, rfl, rfl, trivial⟩)) ?_
  refine s_do (by kernel_rfl) (by kernel_rfl) (st_store (off := 0) (vs := [.int .i64 (4), .int .i64 node, .int .i64 head, .int .i64 id, .int .i64 line, .int .i64 next, .int .i64 (0), .bool false, .slice none 0 0]) (c' := #[.int .i64 (4), .int .i64 node, .int .i64 head, .int .i64 id, .int .i64 line, .int .i64 next, .int .i64 (0), .bool false, .slice none 0 0]) (fun _ => by kernel_rfl) (.there .here) (by kernel_rfl) (by kernel_rfl) (by kernel_rfl)) ?_
  rintro _ _ ⟨rfl, rfl⟩
  refine ops_end ?_
  refine At.env [(0, .agg #[.int .i64 k, .int .i64 line, .int .i64 id, .int .i64 (4), .int .i64 state, .int .i64 head, .slice a m cap, .int .i64 next, .int .i64 told]), (1, .int .i64 node), (2, .int .i64 home), (3, .pointer (some ⟨b1, 0, none⟩)), (6, .pointer (some ⟨b2, 0, none⟩)), (7, .pointer (some ⟨b3, 0, none⟩)), (15, .int .i64 (4)), (17, .bool false), (22, .bool false), (42, .bool false), (50, .bool false), (56, .bool true)] ⟨by kernel_rfl, by kernel_rfl, by kernel_rfl, by kernel_rfl, by kernel_rfl, by kernel_rfl, by kernel_rfl, by kernel_rfl, by kernel_rfl, by kernel_rfl, by kernel_rfl, by kernel_rfl, trivial⟩ ?_
  refine at_then_normal ?_
  refine at_ret (by kernel_rfl) ?_
  refine at_backR [.agg #[.int .i64 (4), .int .i64 node, .int .i64 head, .int .i64 id, .int .i64 line, .int .i64 next, .int .i64 (0), .bool false, .slice none 0 0]] (Γ) (rs := [.cell 6 38]) (by kernel_rfl) (.cons (.cell (by kernel_rfl) (retN (off := 0) (vs := [.int .i64 (4), .int .i64 node, .int .i64 head, .int .i64 id, .int .i64 line, .int .i64 next, .int .i64 (0), .bool false, .slice none 0 0]) 9 (fun _ => by kernel_rfl) (holds_own .here) rfl (by exact ⟨rfl, rfl, rfl, rfl, rfl, rfl, rfl, rfl, rfl, trivial⟩))) .nil) (fun w hw => hw.less (.drop .here (.drop .here (.drop .here .refl)))) ?_
  exact ⟨rfl, rfl⟩
set_option maxRecDepth 100000 in
theorem RAsk_5 {W0 : World} {Γ : List Asn} (k line id state head next told : Int) (a : Option Addr) (m cap : Nat) (node home : Int) : Tr Try.prog 24 #[.agg #[.int .i64 k, .int .i64 line, .int .i64 id, .int .i64 (5), .int .i64 state, .int .i64 head, .slice a m cap, .int .i64 next, .int .i64 told], .int .i64 node, .int .i64 home] W0 (Γ) (fun r Δ => r = .agg #[.int .i64 (5), .int .i64 node, .int .i64 next, .int .i64 id, .int .i64 line, .int .i64 (head), .int .i64 (0), .bool false, .slice none 0 0] ∧ Δ = Γ) := by
  refine Tr.enter (fn := Try.f24) (c := C24 []) (args := [.agg #[.int .i64 k, .int .i64 line, .int .i64 id, .int .i64 (5), .int .i64 state, .int .i64 head, .slice a m cap, .int .i64 next, .int .i64 told], .int .i64 node, .int .i64 home]) 75 Try.func24 (by kernel_rfl) (by kernel_rfl) ?_
  refine At.env [(0, .agg #[.int .i64 k, .int .i64 line, .int .i64 id, .int .i64 (5), .int .i64 state, .int .i64 head, .slice a m cap, .int .i64 next, .int .i64 told]), (1, .int .i64 node), (2, .int .i64 home)] ⟨by kernel_rfl, by kernel_rfl, by kernel_rfl, trivial⟩ ?_
  refine at_seq (x := C24 [0]) (y := C24 [1]) (by kernel_rfl) ?_
  refine at_region (id := 0) 2 (by kernel_rfl) (by kernel_rfl) ?_
  refine s_step 3 (by kernel_rfl) (by kernel_rfl) (st_new (T := 47) (cells := #[.int .i64 k, .int .i64 line, .int .i64 id, .int .i64 (5), .int .i64 state, .int .i64 head, .slice a m cap, .int .i64 next, .int .i64 told]) (fun a => .pointer (some a)) (fun _ => by kernel_rfl)) ?_
  rintro _ _ ⟨b1, rfl, rfl⟩
  refine s_step 6 (by kernel_rfl) (by kernel_rfl) (st_new (T := 38) (cells := #[.int .i64 (0), .int .i64 (0), .int .i64 (0), .int .i64 (0), .int .i64 (0), .int .i64 (0), .int .i64 (0), .bool false, .slice none 0 0]) (fun a => .pointer (some a)) (fun _ => by kernel_rfl)) ?_
  rintro _ _ ⟨b2, rfl, rfl⟩
  refine ops_end ?_
  refine At.env [(0, .agg #[.int .i64 k, .int .i64 line, .int .i64 id, .int .i64 (5), .int .i64 state, .int .i64 head, .slice a m cap, .int .i64 next, .int .i64 told]), (1, .int .i64 node), (2, .int .i64 home), (3, .pointer (some ⟨b1, 0, none⟩)), (6, .pointer (some ⟨b2, 0, none⟩))] ⟨by kernel_rfl, by kernel_rfl, by kernel_rfl, by kernel_rfl, by kernel_rfl, trivial⟩ ?_
  refine at_then_normal ?_
  refine at_seq (x := C24 [1, 0]) (y := C24 [1, 1]) (by kernel_rfl) ?_
  refine at_region (id := 1) 8 (by kernel_rfl) (by kernel_rfl) ?_
  refine s_pure 8 (.int .i64 node) (by kernel_rfl) (by kernel_rfl) (fun _ => by kernel_rfl) ?_
  refine s_pure 9 (.pointer (some ⟨b1, 2, none⟩)) (by kernel_rfl) (by kernel_rfl) (fun _ => by kernel_rfl) ?_
  refine s_load 10 (.int .i64 id) (by kernel_rfl) (by kernel_rfl) (load1 (off := 2) (fun _ => by kernel_rfl) (holds_own (.there .here)) (by kernel_rfl)) ?_
  refine s_pure 11 (.pointer (some ⟨b1, 1, none⟩)) (by kernel_rfl) (by kernel_rfl) (fun _ => by kernel_rfl) ?_
  refine s_load 12 (.int .i64 line) (by kernel_rfl) (by kernel_rfl) (load1 (off := 1) (fun _ => by kernel_rfl) (holds_own (.there .here)) (by kernel_rfl)) ?_
  refine s_pure 13 (.agg #[.int .i64 (0), .int .i64 node, .int .i64 (0), .int .i64 id, .int .i64 line, .int .i64 (0), .int .i64 (0), .bool false, .slice none 0 0]) (by kernel_rfl) (by kernel_rfl) (fun _ => by kernel_rfl) ?_
  refine s_step 7 (by kernel_rfl) (by kernel_rfl) (st_new (T := 38) (cells := #[.int .i64 (0), .int .i64 (0), .int .i64 (0), .int .i64 (0), .int .i64 (0), .int .i64 (0), .int .i64 (0), .bool false, .slice none 0 0]) (fun a => .pointer (some a)) (fun _ => by kernel_rfl)) ?_
  rintro _ _ ⟨b3, rfl, rfl⟩
  refine s_do (by kernel_rfl) (by kernel_rfl) (st_store (off := 0) (vs := [.int .i64 (0), .int .i64 node, .int .i64 (0), .int .i64 id, .int .i64 line, .int .i64 (0), .int .i64 (0), .bool false, .slice none 0 0]) (c' := #[.int .i64 (0), .int .i64 node, .int .i64 (0), .int .i64 id, .int .i64 line, .int .i64 (0), .int .i64 (0), .bool false, .slice none 0 0]) (fun _ => by kernel_rfl) .here (by kernel_rfl) (by kernel_rfl) (by kernel_rfl)) ?_
  rintro _ _ ⟨rfl, rfl⟩
  refine ops_end ?_
  refine At.env [(0, .agg #[.int .i64 k, .int .i64 line, .int .i64 id, .int .i64 (5), .int .i64 state, .int .i64 head, .slice a m cap, .int .i64 next, .int .i64 told]), (1, .int .i64 node), (2, .int .i64 home), (3, .pointer (some ⟨b1, 0, none⟩)), (6, .pointer (some ⟨b2, 0, none⟩)), (7, .pointer (some ⟨b3, 0, none⟩))] ⟨by kernel_rfl, by kernel_rfl, by kernel_rfl, by kernel_rfl, by kernel_rfl, by kernel_rfl, trivial⟩ ?_
  refine at_then_normal ?_
  refine at_seq (x := C24 [1, 1, 0]) (y := C24 [1, 1, 1]) (by kernel_rfl) ?_
  refine at_seq (x := C24 [1, 1, 0, 0]) (y := C24 [1, 1, 0, 1]) (by kernel_rfl) ?_
  refine at_region (id := 2) 2 (by kernel_rfl) (by kernel_rfl) ?_
  refine s_pure 14 (.pointer (some ⟨b1, 3, none⟩)) (by kernel_rfl) (by kernel_rfl) (fun _ => by kernel_rfl) ?_
  refine s_load 15 (.int .i64 (5)) (by kernel_rfl) (by kernel_rfl) (load1 (off := 3) (fun _ => by kernel_rfl) (holds_own (.there (.there .here))) (by kernel_rfl)) ?_
  refine ops_end ?_
  refine At.env [(0, .agg #[.int .i64 k, .int .i64 line, .int .i64 id, .int .i64 (5), .int .i64 state, .int .i64 head, .slice a m cap, .int .i64 next, .int .i64 told]), (1, .int .i64 node), (2, .int .i64 home), (3, .pointer (some ⟨b1, 0, none⟩)), (6, .pointer (some ⟨b2, 0, none⟩)), (7, .pointer (some ⟨b3, 0, none⟩)), (15, .int .i64 (5))] ⟨by kernel_rfl, by kernel_rfl, by kernel_rfl, by kernel_rfl, by kernel_rfl, by kernel_rfl, by kernel_rfl, trivial⟩ ?_
  refine at_then_normal ?_
  refine at_block (i := 0) (x := C24 [1, 1, 0, 1, 0]) (by kernel_rfl) ?_
  refine at_seq (x := C24 [1, 1, 0, 1, 0, 0]) (y := C24 [1, 1, 0, 1, 0, 1]) (by kernel_rfl) ?_
  refine at_region (id := 4) 2 (by kernel_rfl) (by kernel_rfl) ?_
  refine s_pure 18 (.bool false) (by kernel_rfl) (by kernel_rfl) (fun _ => by kernel_rfl) ?_
  refine s_pure 17 (.bool false) (by kernel_rfl) (by kernel_rfl) (fun _ => by kernel_rfl) ?_
  refine ops_end ?_
  refine At.env [(0, .agg #[.int .i64 k, .int .i64 line, .int .i64 id, .int .i64 (5), .int .i64 state, .int .i64 head, .slice a m cap, .int .i64 next, .int .i64 told]), (1, .int .i64 node), (2, .int .i64 home), (3, .pointer (some ⟨b1, 0, none⟩)), (6, .pointer (some ⟨b2, 0, none⟩)), (7, .pointer (some ⟨b3, 0, none⟩)), (15, .int .i64 (5)), (17, .bool false)] ⟨by kernel_rfl, by kernel_rfl, by kernel_rfl, by kernel_rfl, by kernel_rfl, by kernel_rfl, by kernel_rfl, by kernel_rfl, trivial⟩ ?_
  refine at_then_normal ?_
  refine at_false (t := false) (x := C24 [1, 1, 0, 1, 0, 1, 0]) (y := C24 [1, 1, 0, 1, 0, 1, 1]) (o := .tmp 17) (by kernel_rfl) (by kernel_rfl) (by kernel_rfl) rfl ?_
  refine at_seq (x := C24 [1, 1, 0, 1, 0, 1, 1, 0]) (y := C24 [1, 1, 0, 1, 0, 1, 1, 1]) (by kernel_rfl) ?_
  refine at_region (id := 6) 2 (by kernel_rfl) (by kernel_rfl) ?_
  refine s_pure 23 (.bool false) (by kernel_rfl) (by kernel_rfl) (fun _ => by kernel_rfl) ?_
  refine s_pure 22 (.bool false) (by kernel_rfl) (by kernel_rfl) (fun _ => by kernel_rfl) ?_
  refine ops_end ?_
  refine At.env [(0, .agg #[.int .i64 k, .int .i64 line, .int .i64 id, .int .i64 (5), .int .i64 state, .int .i64 head, .slice a m cap, .int .i64 next, .int .i64 told]), (1, .int .i64 node), (2, .int .i64 home), (3, .pointer (some ⟨b1, 0, none⟩)), (6, .pointer (some ⟨b2, 0, none⟩)), (7, .pointer (some ⟨b3, 0, none⟩)), (15, .int .i64 (5)), (17, .bool false), (22, .bool false)] ⟨by kernel_rfl, by kernel_rfl, by kernel_rfl, by kernel_rfl, by kernel_rfl, by kernel_rfl, by kernel_rfl, by kernel_rfl, by kernel_rfl, trivial⟩ ?_
  refine at_then_normal ?_
  refine at_false (t := false) (x := C24 [1, 1, 0, 1, 0, 1, 1, 1, 0]) (y := C24 [1, 1, 0, 1, 0, 1, 1, 1, 1]) (o := .tmp 22) (by kernel_rfl) (by kernel_rfl) (by kernel_rfl) rfl ?_
  refine at_seq (x := C24 [1, 1, 0, 1, 0, 1, 1, 1, 1, 0]) (y := C24 [1, 1, 0, 1, 0, 1, 1, 1, 1, 1]) (by kernel_rfl) ?_
  refine at_region (id := 10) 2 (by kernel_rfl) (by kernel_rfl) ?_
  refine s_pure 43 (.bool false) (by kernel_rfl) (by kernel_rfl) (fun _ => by kernel_rfl) ?_
  refine s_pure 42 (.bool false) (by kernel_rfl) (by kernel_rfl) (fun _ => by kernel_rfl) ?_
  refine ops_end ?_
  refine At.env [(0, .agg #[.int .i64 k, .int .i64 line, .int .i64 id, .int .i64 (5), .int .i64 state, .int .i64 head, .slice a m cap, .int .i64 next, .int .i64 told]), (1, .int .i64 node), (2, .int .i64 home), (3, .pointer (some ⟨b1, 0, none⟩)), (6, .pointer (some ⟨b2, 0, none⟩)), (7, .pointer (some ⟨b3, 0, none⟩)), (15, .int .i64 (5)), (17, .bool false), (22, .bool false), (42, .bool false)] ⟨by kernel_rfl, by kernel_rfl, by kernel_rfl, by kernel_rfl, by kernel_rfl, by kernel_rfl, by kernel_rfl, by kernel_rfl, by kernel_rfl, by kernel_rfl, trivial⟩ ?_
  refine at_then_normal ?_
  refine at_false (t := false) (x := C24 [1, 1, 0, 1, 0, 1, 1, 1, 1, 1, 0]) (y := C24 [1, 1, 0, 1, 0, 1, 1, 1, 1, 1, 1]) (o := .tmp 42) (by kernel_rfl) (by kernel_rfl) (by kernel_rfl) rfl ?_
  refine at_seq (x := C24 [1, 1, 0, 1, 0, 1, 1, 1, 1, 1, 1, 0]) (y := C24 [1, 1, 0, 1, 0, 1, 1, 1, 1, 1, 1, 1]) (by kernel_rfl) ?_
  refine at_region (id := 12) 2 (by kernel_rfl) (by kernel_rfl) ?_
  refine s_pure 51 (.bool false) (by kernel_rfl) (by kernel_rfl) (fun _ => by kernel_rfl) ?_
  refine s_pure 50 (.bool false) (by kernel_rfl) (by kernel_rfl) (fun _ => by kernel_rfl) ?_
  refine ops_end ?_
  refine At.env [(0, .agg #[.int .i64 k, .int .i64 line, .int .i64 id, .int .i64 (5), .int .i64 state, .int .i64 head, .slice a m cap, .int .i64 next, .int .i64 told]), (1, .int .i64 node), (2, .int .i64 home), (3, .pointer (some ⟨b1, 0, none⟩)), (6, .pointer (some ⟨b2, 0, none⟩)), (7, .pointer (some ⟨b3, 0, none⟩)), (15, .int .i64 (5)), (17, .bool false), (22, .bool false), (42, .bool false), (50, .bool false)] ⟨by kernel_rfl, by kernel_rfl, by kernel_rfl, by kernel_rfl, by kernel_rfl, by kernel_rfl, by kernel_rfl, by kernel_rfl, by kernel_rfl, by kernel_rfl, by kernel_rfl, trivial⟩ ?_
  refine at_then_normal ?_
  refine at_false (t := false) (x := C24 [1, 1, 0, 1, 0, 1, 1, 1, 1, 1, 1, 1, 0]) (y := C24 [1, 1, 0, 1, 0, 1, 1, 1, 1, 1, 1, 1, 1]) (o := .tmp 50) (by kernel_rfl) (by kernel_rfl) (by kernel_rfl) rfl ?_
  refine at_seq (x := C24 [1, 1, 0, 1, 0, 1, 1, 1, 1, 1, 1, 1, 1, 0]) (y := C24 [1, 1, 0, 1, 0, 1, 1, 1, 1, 1, 1, 1, 1, 1]) (by kernel_rfl) ?_
  refine at_region (id := 14) 2 (by kernel_rfl) (by kernel_rfl) ?_
  refine s_pure 57 (.bool false) (by kernel_rfl) (by kernel_rfl) (fun _ => by kernel_rfl) ?_
  refine s_pure 56 (.bool false) (by kernel_rfl) (by kernel_rfl) (fun _ => by kernel_rfl) ?_
  refine ops_end ?_
  refine At.env [(0, .agg #[.int .i64 k, .int .i64 line, .int .i64 id, .int .i64 (5), .int .i64 state, .int .i64 head, .slice a m cap, .int .i64 next, .int .i64 told]), (1, .int .i64 node), (2, .int .i64 home), (3, .pointer (some ⟨b1, 0, none⟩)), (6, .pointer (some ⟨b2, 0, none⟩)), (7, .pointer (some ⟨b3, 0, none⟩)), (15, .int .i64 (5)), (17, .bool false), (22, .bool false), (42, .bool false), (50, .bool false), (56, .bool false)] ⟨by kernel_rfl, by kernel_rfl, by kernel_rfl, by kernel_rfl, by kernel_rfl, by kernel_rfl, by kernel_rfl, by kernel_rfl, by kernel_rfl, by kernel_rfl, by kernel_rfl, by kernel_rfl, trivial⟩ ?_
  refine at_then_normal ?_
  refine at_false (t := false) (x := C24 [1, 1, 0, 1, 0, 1, 1, 1, 1, 1, 1, 1, 1, 1, 0]) (y := C24 [1, 1, 0, 1, 0, 1, 1, 1, 1, 1, 1, 1, 1, 1, 1]) (o := .tmp 56) (by kernel_rfl) (by kernel_rfl) (by kernel_rfl) rfl ?_
  refine at_seq (x := C24 [1, 1, 0, 1, 0, 1, 1, 1, 1, 1, 1, 1, 1, 1, 1, 0]) (y := C24 [1, 1, 0, 1, 0, 1, 1, 1, 1, 1, 1, 1, 1, 1, 1, 1]) (by kernel_rfl) ?_
  refine at_region (id := 16) 2 (by kernel_rfl) (by kernel_rfl) ?_
  refine s_pure 66 (.bool true) (by kernel_rfl) (by kernel_rfl) (fun _ => by kernel_rfl) ?_
  refine s_pure 65 (.bool true) (by kernel_rfl) (by kernel_rfl) (fun _ => by kernel_rfl) ?_
  refine ops_end ?_
  refine At.env [(0, .agg #[.int .i64 k, .int .i64 line, .int .i64 id, .int .i64 (5), .int .i64 state, .int .i64 head, .slice a m cap, .int .i64 next, .int .i64 told]), (1, .int .i64 node), (2, .int .i64 home), (3, .pointer (some ⟨b1, 0, none⟩)), (6, .pointer (some ⟨b2, 0, none⟩)), (7, .pointer (some ⟨b3, 0, none⟩)), (15, .int .i64 (5)), (17, .bool false), (22, .bool false), (42, .bool false), (50, .bool false), (56, .bool false), (65, .bool true)] ⟨by kernel_rfl, by kernel_rfl, by kernel_rfl, by kernel_rfl, by kernel_rfl, by kernel_rfl, by kernel_rfl, by kernel_rfl, by kernel_rfl, by kernel_rfl, by kernel_rfl, by kernel_rfl, by kernel_rfl, trivial⟩ ?_
  refine at_then_normal ?_
  refine at_true (t := true) (x := C24 [1, 1, 0, 1, 0, 1, 1, 1, 1, 1, 1, 1, 1, 1, 1, 1, 0]) (y := C24 [1, 1, 0, 1, 0, 1, 1, 1, 1, 1, 1, 1, 1, 1, 1, 1, 1]) (o := .tmp 65) (by kernel_rfl) (by kernel_rfl) (by kernel_rfl) rfl ?_
  refine at_region_draw (id := 17) (by kernel_rfl) (by kernel_rfl) ?_
  refine d_pure 0 67 (.pointer (some ⟨b1, 7, none⟩)) (by kernel_rfl) (by kernel_rfl) (by kernel_rfl) (fun _ => by kernel_rfl) ?_
  refine d_load 1 68 (.int .i64 next) (by kernel_rfl) (by kernel_rfl) (by kernel_rfl) (load1 (off := 7) (fun _ => by kernel_rfl) (holds_own (.there (.there .here))) (by kernel_rfl)) ?_
  refine d_pure 2 69 (.pointer (some ⟨b1, 5, none⟩)) (by kernel_rfl) (by kernel_rfl) (by kernel_rfl) (fun _ => by kernel_rfl) ?_
  refine d_load 3 70 (.int .i64 head) (by kernel_rfl) (by kernel_rfl) (by kernel_rfl) (load1 (off := 5) (fun _ => by kernel_rfl) (holds_own (.there (.there .here))) (by kernel_rfl)) ?_
  refine d_pure 4 71 (.pointer (some ⟨b3, 0, none⟩)) (by kernel_rfl) (by kernel_rfl) (by kernel_rfl) (fun _ => by kernel_rfl) ?_
  refine d_do 5 [4] [2, 0] [3, 1] (by kernel_rfl) (by kernel_rfl) (by kernel_rfl) (st_store (off := 0) (vs := [.int .i64 (5)]) (c' := #[.int .i64 (5), .int .i64 node, .int .i64 (0), .int .i64 id, .int .i64 line, .int .i64 (0), .int .i64 (0), .bool false, .slice none 0 0]) (fun _ => by kernel_rfl) .here (by kernel_rfl) (by kernel_rfl) (by kernel_rfl)) ?_
  rintro _ _ ⟨rfl, rfl⟩
  refine ⟨(stable_cons 3 70 (.int .i64 head) (by kernel_rfl) (by kernel_rfl) (by kernel_rfl) (load1 (off := 5) (fun _ => by kernel_rfl) (holds_own (.there (.there .here))) (by kernel_rfl)) (stable_cons 1 68 (.int .i64 next) (by kernel_rfl) (by kernel_rfl) (by kernel_rfl) (load1 (off := 7) (fun _ => by kernel_rfl) (holds_own (.there (.there .here))) (by kernel_rfl)) stable_nil)), ?_⟩
  refine d_pure 6 72 (.pointer (some ⟨b3, 2, none⟩)) (by kernel_rfl) (by kernel_rfl) (by kernel_rfl) (fun _ => by kernel_rfl) ?_
  refine d_do 7 [6, 1, 5, 0, 4] [2] [3] (by kernel_rfl) (by kernel_rfl) (by kernel_rfl) (st_store (off := 2) (vs := [.int .i64 next]) (c' := #[.int .i64 (5), .int .i64 node, .int .i64 next, .int .i64 id, .int .i64 line, .int .i64 (0), .int .i64 (0), .bool false, .slice none 0 0]) (fun _ => by kernel_rfl) .here (by kernel_rfl) (by kernel_rfl) (by kernel_rfl)) ?_
  rintro _ _ ⟨rfl, rfl⟩
  refine ⟨(stable_cons 3 70 (.int .i64 head) (by kernel_rfl) (by kernel_rfl) (by kernel_rfl) (load1 (off := 5) (fun _ => by kernel_rfl) (holds_own (.there (.there .here))) (by kernel_rfl)) stable_nil), ?_⟩
  refine d_pure 8 73 (.pointer (some ⟨b3, 5, none⟩)) (by kernel_rfl) (by kernel_rfl) (by kernel_rfl) (fun _ => by kernel_rfl) ?_
  refine d_do 9 [8, 3, 7, 0, 1, 2, 4, 5, 6] [] [] (by kernel_rfl) (by kernel_rfl) (by kernel_rfl) (st_store (off := 5) (vs := [.int .i64 head]) (c' := #[.int .i64 (5), .int .i64 node, .int .i64 next, .int .i64 id, .int .i64 line, .int .i64 head, .int .i64 (0), .bool false, .slice none 0 0]) (fun _ => by kernel_rfl) .here (by kernel_rfl) (by kernel_rfl) (by kernel_rfl)) ?_
  rintro _ _ ⟨rfl, rfl⟩
  refine ⟨stable_nil, ?_⟩
  refine draw_end (by kernel_rfl) ?_
  refine At.env [(0, .agg #[.int .i64 k, .int .i64 line, .int .i64 id, .int .i64 (5), .int .i64 state, .int .i64 head, .slice a m cap, .int .i64 next, .int .i64 told]), (1, .int .i64 node), (2, .int .i64 home), (3, .pointer (some ⟨b1, 0, none⟩)), (6, .pointer (some ⟨b2, 0, none⟩)), (7, .pointer (some ⟨b3, 0, none⟩)), (15, .int .i64 (5)), (17, .bool false), (22, .bool false), (42, .bool false), (50, .bool false), (56, .bool false), (65, .bool true)] ⟨by kernel_rfl, by kernel_rfl, by kernel_rfl, by kernel_rfl, by kernel_rfl, by kernel_rfl, by kernel_rfl, by kernel_rfl, by kernel_rfl, by kernel_rfl, by kernel_rfl, by kernel_rfl, by kernel_rfl, trivial⟩ ?_
  refine at_in_normal ?_
  refine at_then_normal ?_
  refine at_seq (x := C24 [1, 1, 1, 0]) (y := C24 [1, 1, 1, 1]) (by kernel_rfl) ?_
  refine at_region (id := 18) 2 (by kernel_rfl) (by kernel_rfl) ?_
  refine s_load 74 (.agg #[.int .i64 (5), .int .i64 node, .int .i64 next, .int .i64 id, .int .i64 line, .int .i64 head, .int .i64 (0), .bool false, .slice none 0 0]) (by kernel_rfl) (by kernel_rfl) (loadN (off := 0) (vs := [.int .i64 (5), .int .i64 node, .int .i64 next, .int .i64 id, .int .i64 line, .int .i64 head, .int .i64 (0), .bool false, .slice none 0 0]) 9 (fun _ => by kernel_rfl) (holds_own .here) rfl (by exact ⟨rfl, rfl, rfl, rfl, rfl, rfl, rfl, rfl, rfl, trivial⟩)) ?_
  refine s_do (by kernel_rfl) (by kernel_rfl) (st_store (off := 0) (vs := [.int .i64 (5), .int .i64 node, .int .i64 next, .int .i64 id, .int .i64 line, .int .i64 head, .int .i64 (0), .bool false, .slice none 0 0]) (c' := #[.int .i64 (5), .int .i64 node, .int .i64 next, .int .i64 id, .int .i64 line, .int .i64 head, .int .i64 (0), .bool false, .slice none 0 0]) (fun _ => by kernel_rfl) (.there .here) (by kernel_rfl) (by kernel_rfl) (by kernel_rfl)) ?_
  rintro _ _ ⟨rfl, rfl⟩
  refine ops_end ?_
  refine At.env [(0, .agg #[.int .i64 k, .int .i64 line, .int .i64 id, .int .i64 (5), .int .i64 state, .int .i64 head, .slice a m cap, .int .i64 next, .int .i64 told]), (1, .int .i64 node), (2, .int .i64 home), (3, .pointer (some ⟨b1, 0, none⟩)), (6, .pointer (some ⟨b2, 0, none⟩)), (7, .pointer (some ⟨b3, 0, none⟩)), (15, .int .i64 (5)), (17, .bool false), (22, .bool false), (42, .bool false), (50, .bool false), (56, .bool false), (65, .bool true)] ⟨by kernel_rfl, by kernel_rfl, by kernel_rfl, by kernel_rfl, by kernel_rfl, by kernel_rfl, by kernel_rfl, by kernel_rfl, by kernel_rfl, by kernel_rfl, by kernel_rfl, by kernel_rfl, by kernel_rfl, trivial⟩ ?_
  refine at_then_normal ?_
  refine at_ret (by kernel_rfl) ?_
  refine at_backR [.agg #[.int .i64 (5), .int .i64 node, .int .i64 next, .int .i64 id, .int .i64 line, .int .i64 head, .int .i64 (0), .bool false, .slice none 0 0]] (Γ) (rs := [.cell 6 38]) (by kernel_rfl) (.cons (.cell (by kernel_rfl) (retN (off := 0) (vs := [.int .i64 (5), .int .i64 node, .int .i64 next, .int .i64 id, .int .i64 line, .int .i64 head, .int .i64 (0), .bool false, .slice none 0 0]) 9 (fun _ => by kernel_rfl) (holds_own .here) rfl (by exact ⟨rfl, rfl, rfl, rfl, rfl, rfl, rfl, rfl, rfl, trivial⟩))) .nil) (fun w hw => hw.less (.drop .here (.drop .here (.drop .here .refl)))) ?_
  exact ⟨rfl, rfl⟩
set_option maxRecDepth 100000 in
theorem RAsk_6s {W0 : World} {Γ : List Asn} (k line id state head next told : Int) (a : Option Addr) (m cap : Nat) (node home : Int) (xs : List Int) (hm : m = xs.length) (hr : Reads W0 Γ a (ints xs)) (hlx : xs.length ≤ 1099511627776) (h0 : 0 < m) : Tr Try.prog 24 #[.agg #[.int .i64 k, .int .i64 line, .int .i64 id, .int .i64 (6), .int .i64 state, .int .i64 head, .slice a m cap, .int .i64 next, .int .i64 told], .int .i64 node, .int .i64 home] W0 (Γ) (fun r Δ => ∃ a' cap', r = .agg #[.int .i64 (2), .int .i64 node, .int .i64 home, .int .i64 id, .int .i64 line, .int .i64 (head), .int .i64 (state), .bool true, .slice a' m cap'] ∧ Δ = IntsA a' cap' xs :: Γ) := by
  refine Tr.enter (fn := Try.f24) (c := C24 []) (args := [.agg #[.int .i64 k, .int .i64 line, .int .i64 id, .int .i64 (6), .int .i64 state, .int .i64 head, .slice a m cap, .int .i64 next, .int .i64 told], .int .i64 node, .int .i64 home]) 75 Try.func24 (by kernel_rfl) (by kernel_rfl) ?_
  refine At.env [(0, .agg #[.int .i64 k, .int .i64 line, .int .i64 id, .int .i64 (6), .int .i64 state, .int .i64 head, .slice a m cap, .int .i64 next, .int .i64 told]), (1, .int .i64 node), (2, .int .i64 home)] ⟨by kernel_rfl, by kernel_rfl, by kernel_rfl, trivial⟩ ?_
  refine at_seq (x := C24 [0]) (y := C24 [1]) (by kernel_rfl) ?_
  refine at_region (id := 0) 2 (by kernel_rfl) (by kernel_rfl) ?_
  refine s_step 3 (by kernel_rfl) (by kernel_rfl) (st_new (T := 47) (cells := #[.int .i64 k, .int .i64 line, .int .i64 id, .int .i64 (6), .int .i64 state, .int .i64 head, .slice a m cap, .int .i64 next, .int .i64 told]) (fun a => .pointer (some a)) (fun _ => by kernel_rfl)) ?_
  rintro _ _ ⟨b1, rfl, rfl⟩
  refine s_step 6 (by kernel_rfl) (by kernel_rfl) (st_new (T := 38) (cells := #[.int .i64 (0), .int .i64 (0), .int .i64 (0), .int .i64 (0), .int .i64 (0), .int .i64 (0), .int .i64 (0), .bool false, .slice none 0 0]) (fun a => .pointer (some a)) (fun _ => by kernel_rfl)) ?_
  rintro _ _ ⟨b2, rfl, rfl⟩
  refine ops_end ?_
  refine At.env [(0, .agg #[.int .i64 k, .int .i64 line, .int .i64 id, .int .i64 (6), .int .i64 state, .int .i64 head, .slice a m cap, .int .i64 next, .int .i64 told]), (1, .int .i64 node), (2, .int .i64 home), (3, .pointer (some ⟨b1, 0, none⟩)), (6, .pointer (some ⟨b2, 0, none⟩))] ⟨by kernel_rfl, by kernel_rfl, by kernel_rfl, by kernel_rfl, by kernel_rfl, trivial⟩ ?_
  refine at_then_normal ?_
  refine at_seq (x := C24 [1, 0]) (y := C24 [1, 1]) (by kernel_rfl) ?_
  refine at_region (id := 1) 8 (by kernel_rfl) (by kernel_rfl) ?_
  refine s_pure 8 (.int .i64 node) (by kernel_rfl) (by kernel_rfl) (fun _ => by kernel_rfl) ?_
  refine s_pure 9 (.pointer (some ⟨b1, 2, none⟩)) (by kernel_rfl) (by kernel_rfl) (fun _ => by kernel_rfl) ?_
  refine s_load 10 (.int .i64 id) (by kernel_rfl) (by kernel_rfl) (load1 (off := 2) (fun _ => by kernel_rfl) (holds_own (.there .here)) (by kernel_rfl)) ?_
  refine s_pure 11 (.pointer (some ⟨b1, 1, none⟩)) (by kernel_rfl) (by kernel_rfl) (fun _ => by kernel_rfl) ?_
  refine s_load 12 (.int .i64 line) (by kernel_rfl) (by kernel_rfl) (load1 (off := 1) (fun _ => by kernel_rfl) (holds_own (.there .here)) (by kernel_rfl)) ?_
  refine s_pure 13 (.agg #[.int .i64 (0), .int .i64 node, .int .i64 (0), .int .i64 id, .int .i64 line, .int .i64 (0), .int .i64 (0), .bool false, .slice none 0 0]) (by kernel_rfl) (by kernel_rfl) (fun _ => by kernel_rfl) ?_
  refine s_step 7 (by kernel_rfl) (by kernel_rfl) (st_new (T := 38) (cells := #[.int .i64 (0), .int .i64 (0), .int .i64 (0), .int .i64 (0), .int .i64 (0), .int .i64 (0), .int .i64 (0), .bool false, .slice none 0 0]) (fun a => .pointer (some a)) (fun _ => by kernel_rfl)) ?_
  rintro _ _ ⟨b3, rfl, rfl⟩
  refine s_do (by kernel_rfl) (by kernel_rfl) (st_store (off := 0) (vs := [.int .i64 (0), .int .i64 node, .int .i64 (0), .int .i64 id, .int .i64 line, .int .i64 (0), .int .i64 (0), .bool false, .slice none 0 0]) (c' := #[.int .i64 (0), .int .i64 node, .int .i64 (0), .int .i64 id, .int .i64 line, .int .i64 (0), .int .i64 (0), .bool false, .slice none 0 0]) (fun _ => by kernel_rfl) .here (by kernel_rfl) (by kernel_rfl) (by kernel_rfl)) ?_
  rintro _ _ ⟨rfl, rfl⟩
  refine ops_end ?_
  refine At.env [(0, .agg #[.int .i64 k, .int .i64 line, .int .i64 id, .int .i64 (6), .int .i64 state, .int .i64 head, .slice a m cap, .int .i64 next, .int .i64 told]), (1, .int .i64 node), (2, .int .i64 home), (3, .pointer (some ⟨b1, 0, none⟩)), (6, .pointer (some ⟨b2, 0, none⟩)), (7, .pointer (some ⟨b3, 0, none⟩))] ⟨by kernel_rfl, by kernel_rfl, by kernel_rfl, by kernel_rfl, by kernel_rfl, by kernel_rfl, trivial⟩ ?_
  refine at_then_normal ?_
  refine at_seq (x := C24 [1, 1, 0]) (y := C24 [1, 1, 1]) (by kernel_rfl) ?_
  refine at_seq (x := C24 [1, 1, 0, 0]) (y := C24 [1, 1, 0, 1]) (by kernel_rfl) ?_
  refine at_region (id := 2) 2 (by kernel_rfl) (by kernel_rfl) ?_
  refine s_pure 14 (.pointer (some ⟨b1, 3, none⟩)) (by kernel_rfl) (by kernel_rfl) (fun _ => by kernel_rfl) ?_
  refine s_load 15 (.int .i64 (6)) (by kernel_rfl) (by kernel_rfl) (load1 (off := 3) (fun _ => by kernel_rfl) (holds_own (.there (.there .here))) (by kernel_rfl)) ?_
  refine ops_end ?_
  refine At.env [(0, .agg #[.int .i64 k, .int .i64 line, .int .i64 id, .int .i64 (6), .int .i64 state, .int .i64 head, .slice a m cap, .int .i64 next, .int .i64 told]), (1, .int .i64 node), (2, .int .i64 home), (3, .pointer (some ⟨b1, 0, none⟩)), (6, .pointer (some ⟨b2, 0, none⟩)), (7, .pointer (some ⟨b3, 0, none⟩)), (15, .int .i64 (6))] ⟨by kernel_rfl, by kernel_rfl, by kernel_rfl, by kernel_rfl, by kernel_rfl, by kernel_rfl, by kernel_rfl, trivial⟩ ?_
  refine at_then_normal ?_
  refine at_block (i := 0) (x := C24 [1, 1, 0, 1, 0]) (by kernel_rfl) ?_
  refine at_seq (x := C24 [1, 1, 0, 1, 0, 0]) (y := C24 [1, 1, 0, 1, 0, 1]) (by kernel_rfl) ?_
  refine at_region (id := 4) 2 (by kernel_rfl) (by kernel_rfl) ?_
  refine s_pure 18 (.bool false) (by kernel_rfl) (by kernel_rfl) (fun _ => by kernel_rfl) ?_
  refine s_pure 17 (.bool false) (by kernel_rfl) (by kernel_rfl) (fun _ => by kernel_rfl) ?_
  refine ops_end ?_
  refine At.env [(0, .agg #[.int .i64 k, .int .i64 line, .int .i64 id, .int .i64 (6), .int .i64 state, .int .i64 head, .slice a m cap, .int .i64 next, .int .i64 told]), (1, .int .i64 node), (2, .int .i64 home), (3, .pointer (some ⟨b1, 0, none⟩)), (6, .pointer (some ⟨b2, 0, none⟩)), (7, .pointer (some ⟨b3, 0, none⟩)), (15, .int .i64 (6)), (17, .bool false)] ⟨by kernel_rfl, by kernel_rfl, by kernel_rfl, by kernel_rfl, by kernel_rfl, by kernel_rfl, by kernel_rfl, by kernel_rfl, trivial⟩ ?_
  refine at_then_normal ?_
  refine at_false (t := false) (x := C24 [1, 1, 0, 1, 0, 1, 0]) (y := C24 [1, 1, 0, 1, 0, 1, 1]) (o := .tmp 17) (by kernel_rfl) (by kernel_rfl) (by kernel_rfl) rfl ?_
  refine at_seq (x := C24 [1, 1, 0, 1, 0, 1, 1, 0]) (y := C24 [1, 1, 0, 1, 0, 1, 1, 1]) (by kernel_rfl) ?_
  refine at_region (id := 6) 2 (by kernel_rfl) (by kernel_rfl) ?_
  refine s_pure 23 (.bool true) (by kernel_rfl) (by kernel_rfl) (fun _ => by kernel_rfl) ?_
  refine s_pure 22 (.bool true) (by kernel_rfl) (by kernel_rfl) (fun _ => by kernel_rfl) ?_
  refine ops_end ?_
  refine At.env [(0, .agg #[.int .i64 k, .int .i64 line, .int .i64 id, .int .i64 (6), .int .i64 state, .int .i64 head, .slice a m cap, .int .i64 next, .int .i64 told]), (1, .int .i64 node), (2, .int .i64 home), (3, .pointer (some ⟨b1, 0, none⟩)), (6, .pointer (some ⟨b2, 0, none⟩)), (7, .pointer (some ⟨b3, 0, none⟩)), (15, .int .i64 (6)), (17, .bool false), (22, .bool true)] ⟨by kernel_rfl, by kernel_rfl, by kernel_rfl, by kernel_rfl, by kernel_rfl, by kernel_rfl, by kernel_rfl, by kernel_rfl, by kernel_rfl, trivial⟩ ?_
  refine at_then_normal ?_
  refine at_true (t := true) (x := C24 [1, 1, 0, 1, 0, 1, 1, 1, 0]) (y := C24 [1, 1, 0, 1, 0, 1, 1, 1, 1]) (o := .tmp 22) (by kernel_rfl) (by kernel_rfl) (by kernel_rfl) rfl ?_
  refine at_seq (x := C24 [1, 1, 0, 1, 0, 1, 1, 1, 0, 0]) (y := C24 [1, 1, 0, 1, 0, 1, 1, 1, 0, 1]) (by kernel_rfl) ?_
  refine at_region_draw (id := 7) (by kernel_rfl) (by kernel_rfl) ?_
  refine d_pure 0 24 (.int .i64 home) (by kernel_rfl) (by kernel_rfl) (by kernel_rfl) (fun _ => by kernel_rfl) ?_
  refine d_pure 1 25 (.pointer (some ⟨b1, 4, none⟩)) (by kernel_rfl) (by kernel_rfl) (by kernel_rfl) (fun _ => by kernel_rfl) ?_
  refine d_load 2 26 (.int .i64 state) (by kernel_rfl) (by kernel_rfl) (by kernel_rfl) (load1 (off := 4) (fun _ => by kernel_rfl) (holds_own (.there (.there .here))) (by kernel_rfl)) ?_
  refine d_pure 3 27 (.pointer (some ⟨b1, 5, none⟩)) (by kernel_rfl) (by kernel_rfl) (by kernel_rfl) (fun _ => by kernel_rfl) ?_
  refine d_load 4 28 (.int .i64 head) (by kernel_rfl) (by kernel_rfl) (by kernel_rfl) (load1 (off := 5) (fun _ => by kernel_rfl) (holds_own (.there (.there .here))) (by kernel_rfl)) ?_
  refine d_pure 5 29 (.pointer (some ⟨b3, 0, none⟩)) (by kernel_rfl) (by kernel_rfl) (by kernel_rfl) (fun _ => by kernel_rfl) ?_
  refine d_do 6 [5] [3, 1, 0] [4, 2] (by kernel_rfl) (by kernel_rfl) (by kernel_rfl) (st_store (off := 0) (vs := [.int .i64 (2)]) (c' := #[.int .i64 (2), .int .i64 node, .int .i64 (0), .int .i64 id, .int .i64 line, .int .i64 (0), .int .i64 (0), .bool false, .slice none 0 0]) (fun _ => by kernel_rfl) .here (by kernel_rfl) (by kernel_rfl) (by kernel_rfl)) ?_
  rintro _ _ ⟨rfl, rfl⟩
  refine ⟨(stable_cons 4 28 (.int .i64 head) (by kernel_rfl) (by kernel_rfl) (by kernel_rfl) (load1 (off := 5) (fun _ => by kernel_rfl) (holds_own (.there (.there .here))) (by kernel_rfl)) (stable_cons 2 26 (.int .i64 state) (by kernel_rfl) (by kernel_rfl) (by kernel_rfl) (load1 (off := 4) (fun _ => by kernel_rfl) (holds_own (.there (.there .here))) (by kernel_rfl)) stable_nil)), ?_⟩
  refine d_pure 7 30 (.pointer (some ⟨b3, 2, none⟩)) (by kernel_rfl) (by kernel_rfl) (by kernel_rfl) (fun _ => by kernel_rfl) ?_
  refine d_do 8 [7, 0, 6, 5] [3, 1] [4, 2] (by kernel_rfl) (by kernel_rfl) (by kernel_rfl) (st_store (off := 2) (vs := [.int .i64 home]) (c' := #[.int .i64 (2), .int .i64 node, .int .i64 home, .int .i64 id, .int .i64 line, .int .i64 (0), .int .i64 (0), .bool false, .slice none 0 0]) (fun _ => by kernel_rfl) .here (by kernel_rfl) (by kernel_rfl) (by kernel_rfl)) ?_
  rintro _ _ ⟨rfl, rfl⟩
  refine ⟨(stable_cons 4 28 (.int .i64 head) (by kernel_rfl) (by kernel_rfl) (by kernel_rfl) (load1 (off := 5) (fun _ => by kernel_rfl) (holds_own (.there (.there .here))) (by kernel_rfl)) (stable_cons 2 26 (.int .i64 state) (by kernel_rfl) (by kernel_rfl) (by kernel_rfl) (load1 (off := 4) (fun _ => by kernel_rfl) (holds_own (.there (.there .here))) (by kernel_rfl)) stable_nil)), ?_⟩
  refine d_pure 9 31 (.pointer (some ⟨b3, 6, none⟩)) (by kernel_rfl) (by kernel_rfl) (by kernel_rfl) (fun _ => by kernel_rfl) ?_
  refine d_do 10 [9, 2, 8, 0, 1, 5, 6, 7] [3] [4] (by kernel_rfl) (by kernel_rfl) (by kernel_rfl) (st_store (off := 6) (vs := [.int .i64 state]) (c' := #[.int .i64 (2), .int .i64 node, .int .i64 home, .int .i64 id, .int .i64 line, .int .i64 (0), .int .i64 state, .bool false, .slice none 0 0]) (fun _ => by kernel_rfl) .here (by kernel_rfl) (by kernel_rfl) (by kernel_rfl)) ?_
  rintro _ _ ⟨rfl, rfl⟩
  refine ⟨(stable_cons 4 28 (.int .i64 head) (by kernel_rfl) (by kernel_rfl) (by kernel_rfl) (load1 (off := 5) (fun _ => by kernel_rfl) (holds_own (.there (.there .here))) (by kernel_rfl)) stable_nil), ?_⟩
  refine d_pure 11 32 (.pointer (some ⟨b3, 5, none⟩)) (by kernel_rfl) (by kernel_rfl) (by kernel_rfl) (fun _ => by kernel_rfl) ?_
  refine d_do 12 [11, 4, 10, 0, 1, 2, 3, 5, 6, 7, 8, 9] [] [] (by kernel_rfl) (by kernel_rfl) (by kernel_rfl) (st_store (off := 5) (vs := [.int .i64 head]) (c' := #[.int .i64 (2), .int .i64 node, .int .i64 home, .int .i64 id, .int .i64 line, .int .i64 head, .int .i64 state, .bool false, .slice none 0 0]) (fun _ => by kernel_rfl) .here (by kernel_rfl) (by kernel_rfl) (by kernel_rfl)) ?_
  rintro _ _ ⟨rfl, rfl⟩
  refine ⟨stable_nil, ?_⟩
  refine draw_end (by kernel_rfl) ?_
  refine At.env [(0, .agg #[.int .i64 k, .int .i64 line, .int .i64 id, .int .i64 (6), .int .i64 state, .int .i64 head, .slice a m cap, .int .i64 next, .int .i64 told]), (1, .int .i64 node), (2, .int .i64 home), (3, .pointer (some ⟨b1, 0, none⟩)), (6, .pointer (some ⟨b2, 0, none⟩)), (7, .pointer (some ⟨b3, 0, none⟩)), (15, .int .i64 (6)), (17, .bool false), (22, .bool true)] ⟨by kernel_rfl, by kernel_rfl, by kernel_rfl, by kernel_rfl, by kernel_rfl, by kernel_rfl, by kernel_rfl, by kernel_rfl, by kernel_rfl, trivial⟩ ?_
  refine at_then_normal ?_
  refine at_seq (x := C24 [1, 1, 0, 1, 0, 1, 1, 1, 0, 1, 0]) (y := C24 [1, 1, 0, 1, 0, 1, 1, 1, 0, 1, 1]) (by kernel_rfl) ?_
  refine at_region (id := 8) 4 (by kernel_rfl) (by kernel_rfl) ?_
  refine s_pure 33 (.pointer (some ⟨b1, 6, none⟩)) (by kernel_rfl) (by kernel_rfl) (fun _ => by kernel_rfl) ?_
  refine s_load 34 (.slice a m cap) (by kernel_rfl) (by kernel_rfl) (load1 (off := 6) (fun _ => by kernel_rfl) (holds_own (.there (.there .here))) (by kernel_rfl)) ?_
  refine s_pure 35 (.int .i64 ((m : Nat) : Int)) (by kernel_rfl) (by kernel_rfl) (fun _ => by kernel_rfl) ?_
  refine s_pure 36 (.bool true) (by kernel_rfl) (by kernel_rfl) (run_eq (v := .bool (decide ((0 : Int) < ((m : Nat) : Int)))) (fun _ => by kernel_rfl) (congrArg Value.bool (by rw [decide_eq_true (by omega)]))) ?_
  refine ops_end ?_
  refine At.env [(0, .agg #[.int .i64 k, .int .i64 line, .int .i64 id, .int .i64 (6), .int .i64 state, .int .i64 head, .slice a m cap, .int .i64 next, .int .i64 told]), (1, .int .i64 node), (2, .int .i64 home), (3, .pointer (some ⟨b1, 0, none⟩)), (6, .pointer (some ⟨b2, 0, none⟩)), (7, .pointer (some ⟨b3, 0, none⟩)), (15, .int .i64 (6)), (17, .bool false), (22, .bool true), (36, .bool true)] ⟨by kernel_rfl, by kernel_rfl, by kernel_rfl, by kernel_rfl, by kernel_rfl, by kernel_rfl, by kernel_rfl, by kernel_rfl, by kernel_rfl, by kernel_rfl, trivial⟩ ?_
  refine at_then_normal ?_
  refine at_true (t := true) (x := C24 [1, 1, 0, 1, 0, 1, 1, 1, 0, 1, 1, 0]) (y := C24 [1, 1, 0, 1, 0, 1, 1, 1, 0, 1, 1, 1]) (o := .tmp 36) (by kernel_rfl) (by kernel_rfl) (by kernel_rfl) rfl ?_
  refine at_region (id := 9) 7 (by kernel_rfl) (by kernel_rfl) ?_
  refine s_pure 37 (.pointer (some ⟨b1, 6, none⟩)) (by kernel_rfl) (by kernel_rfl) (fun _ => by kernel_rfl) ?_
  refine s_load 38 (.slice a m cap) (by kernel_rfl) (by kernel_rfl) (load1 (off := 6) (fun _ => by kernel_rfl) (holds_own (.there (.there .here))) (by kernel_rfl)) ?_
  refine At.conv (fun w hw => RowsA.none_mk (k := 1) (a := none) hw) ?_
  refine s_step 39 (by kernel_rfl) (by kernel_rfl) (st_append_ints (xs := ([] : List Int)) (ys := xs) (zs := xs) (m1 := 0) (m2 := m) (m := m) (cap2 := cap) 22 22 3 (tinfo 3) (fun _ => by kernel_rfl) (by kernel_rfl) (by kernel_rfl) (by kernel_rfl) (by kernel_rfl) (by kernel_rfl) .here (Reads.conv (fun w hw => hw.less (.drop .here (.drop .here (.drop .here (.drop .here .refl))))) hr) (by first | exact hm | simp | (simp; omega) | omega) (by first | exact hm | simp | (simp; omega) | omega) (by omega) (rfl) (by first | omega | (simp only [List.length_append, List.length_cons, List.length_nil, List.length_take]; omega))) ?_
  rintro _ _ ⟨a1, c1, rfl, rfl⟩
  refine s_pure 40 (.pointer (some ⟨b3, 7, none⟩)) (by kernel_rfl) (by kernel_rfl) (fun _ => by kernel_rfl) ?_
  refine s_do (by kernel_rfl) (by kernel_rfl) (st_store (off := 7) (vs := [.bool true]) (c' := #[.int .i64 (2), .int .i64 node, .int .i64 home, .int .i64 id, .int .i64 line, .int .i64 head, .int .i64 state, .bool true, .slice none 0 0]) (fun _ => by kernel_rfl) (.there .here) (by kernel_rfl) (by kernel_rfl) (by kernel_rfl)) ?_
  rintro _ _ ⟨rfl, rfl⟩
  refine s_pure 41 (.pointer (some ⟨b3, 8, none⟩)) (by kernel_rfl) (by kernel_rfl) (fun _ => by kernel_rfl) ?_
  refine s_do (by kernel_rfl) (by kernel_rfl) (st_store (off := 8) (vs := [.slice a1 m c1]) (c' := #[.int .i64 (2), .int .i64 node, .int .i64 home, .int .i64 id, .int .i64 line, .int .i64 head, .int .i64 state, .bool true, .slice a1 m c1]) (fun _ => by kernel_rfl) .here (by kernel_rfl) (by kernel_rfl) (by kernel_rfl)) ?_
  rintro _ _ ⟨rfl, rfl⟩
  refine ops_end ?_
  refine At.env [(0, .agg #[.int .i64 k, .int .i64 line, .int .i64 id, .int .i64 (6), .int .i64 state, .int .i64 head, .slice a m cap, .int .i64 next, .int .i64 told]), (1, .int .i64 node), (2, .int .i64 home), (3, .pointer (some ⟨b1, 0, none⟩)), (6, .pointer (some ⟨b2, 0, none⟩)), (7, .pointer (some ⟨b3, 0, none⟩)), (15, .int .i64 (6)), (17, .bool false), (22, .bool true), (36, .bool true)] ⟨by kernel_rfl, by kernel_rfl, by kernel_rfl, by kernel_rfl, by kernel_rfl, by kernel_rfl, by kernel_rfl, by kernel_rfl, by kernel_rfl, by kernel_rfl, trivial⟩ ?_
  refine at_in_normal ?_
  refine at_then_normal ?_
  refine at_seq (x := C24 [1, 1, 1, 0]) (y := C24 [1, 1, 1, 1]) (by kernel_rfl) ?_
  refine at_region (id := 18) 2 (by kernel_rfl) (by kernel_rfl) ?_
  refine s_load 74 (.agg #[.int .i64 (2), .int .i64 node, .int .i64 home, .int .i64 id, .int .i64 line, .int .i64 head, .int .i64 state, .bool true, .slice a1 m c1]) (by kernel_rfl) (by kernel_rfl) (loadN (off := 0) (vs := [.int .i64 (2), .int .i64 node, .int .i64 home, .int .i64 id, .int .i64 line, .int .i64 head, .int .i64 state, .bool true, .slice a1 m c1]) 9 (fun _ => by kernel_rfl) (holds_own .here) rfl (by exact ⟨rfl, rfl, rfl, rfl, rfl, rfl, rfl, rfl, rfl, trivial⟩)) ?_
  refine s_do (by kernel_rfl) (by kernel_rfl) (st_store (off := 0) (vs := [.int .i64 (2), .int .i64 node, .int .i64 home, .int .i64 id, .int .i64 line, .int .i64 head, .int .i64 state, .bool true, .slice a1 m c1]) (c' := #[.int .i64 (2), .int .i64 node, .int .i64 home, .int .i64 id, .int .i64 line, .int .i64 head, .int .i64 state, .bool true, .slice a1 m c1]) (fun _ => by kernel_rfl) (.there (.there .here)) (by kernel_rfl) (by kernel_rfl) (by kernel_rfl)) ?_
  rintro _ _ ⟨rfl, rfl⟩
  refine ops_end ?_
  refine At.env [(0, .agg #[.int .i64 k, .int .i64 line, .int .i64 id, .int .i64 (6), .int .i64 state, .int .i64 head, .slice a m cap, .int .i64 next, .int .i64 told]), (1, .int .i64 node), (2, .int .i64 home), (3, .pointer (some ⟨b1, 0, none⟩)), (6, .pointer (some ⟨b2, 0, none⟩)), (7, .pointer (some ⟨b3, 0, none⟩)), (15, .int .i64 (6)), (17, .bool false), (22, .bool true), (36, .bool true)] ⟨by kernel_rfl, by kernel_rfl, by kernel_rfl, by kernel_rfl, by kernel_rfl, by kernel_rfl, by kernel_rfl, by kernel_rfl, by kernel_rfl, by kernel_rfl, trivial⟩ ?_
  refine at_then_normal ?_
  refine at_ret (by kernel_rfl) ?_
  refine at_backR [.agg #[.int .i64 (2), .int .i64 node, .int .i64 home, .int .i64 id, .int .i64 line, .int .i64 head, .int .i64 state, .bool true, .slice a1 m c1]] ((IntsA a1 c1 xs) :: Γ) (rs := [.cell 6 38]) (by kernel_rfl) (.cons (.cell (by kernel_rfl) (retN (off := 0) (vs := [.int .i64 (2), .int .i64 node, .int .i64 home, .int .i64 id, .int .i64 line, .int .i64 head, .int .i64 state, .bool true, .slice a1 m c1]) 9 (fun _ => by kernel_rfl) (holds_own .here) rfl (by exact ⟨rfl, rfl, rfl, rfl, rfl, rfl, rfl, rfl, rfl, trivial⟩))) .nil) (fun w hw => hw.less (.take (.there (.there .here)) (.drop .here (.drop .here (.drop .here .refl))))) ?_
  exact ⟨_, _, rfl, rfl⟩
set_option maxRecDepth 100000 in
theorem RAsk_6n {W0 : World} {Γ : List Asn} (k line id state head next told : Int) (a : Option Addr) (cap : Nat) (node home : Int) : Tr Try.prog 24 #[.agg #[.int .i64 k, .int .i64 line, .int .i64 id, .int .i64 (6), .int .i64 state, .int .i64 head, .slice a 0 cap, .int .i64 next, .int .i64 told], .int .i64 node, .int .i64 home] W0 (Γ) (fun r Δ => r = .agg #[.int .i64 (2), .int .i64 node, .int .i64 home, .int .i64 id, .int .i64 line, .int .i64 (head), .int .i64 (state), .bool false, .slice none 0 0] ∧ Δ = Γ) := by
  refine Tr.enter (fn := Try.f24) (c := C24 []) (args := [.agg #[.int .i64 k, .int .i64 line, .int .i64 id, .int .i64 (6), .int .i64 state, .int .i64 head, .slice a 0 cap, .int .i64 next, .int .i64 told], .int .i64 node, .int .i64 home]) 75 Try.func24 (by kernel_rfl) (by kernel_rfl) ?_
  refine At.env [(0, .agg #[.int .i64 k, .int .i64 line, .int .i64 id, .int .i64 (6), .int .i64 state, .int .i64 head, .slice a 0 cap, .int .i64 next, .int .i64 told]), (1, .int .i64 node), (2, .int .i64 home)] ⟨by kernel_rfl, by kernel_rfl, by kernel_rfl, trivial⟩ ?_
  refine at_seq (x := C24 [0]) (y := C24 [1]) (by kernel_rfl) ?_
  refine at_region (id := 0) 2 (by kernel_rfl) (by kernel_rfl) ?_
  refine s_step 3 (by kernel_rfl) (by kernel_rfl) (st_new (T := 47) (cells := #[.int .i64 k, .int .i64 line, .int .i64 id, .int .i64 (6), .int .i64 state, .int .i64 head, .slice a 0 cap, .int .i64 next, .int .i64 told]) (fun a => .pointer (some a)) (fun _ => by kernel_rfl)) ?_
  rintro _ _ ⟨b1, rfl, rfl⟩
  refine s_step 6 (by kernel_rfl) (by kernel_rfl) (st_new (T := 38) (cells := #[.int .i64 (0), .int .i64 (0), .int .i64 (0), .int .i64 (0), .int .i64 (0), .int .i64 (0), .int .i64 (0), .bool false, .slice none 0 0]) (fun a => .pointer (some a)) (fun _ => by kernel_rfl)) ?_
  rintro _ _ ⟨b2, rfl, rfl⟩
  refine ops_end ?_
  refine At.env [(0, .agg #[.int .i64 k, .int .i64 line, .int .i64 id, .int .i64 (6), .int .i64 state, .int .i64 head, .slice a 0 cap, .int .i64 next, .int .i64 told]), (1, .int .i64 node), (2, .int .i64 home), (3, .pointer (some ⟨b1, 0, none⟩)), (6, .pointer (some ⟨b2, 0, none⟩))] ⟨by kernel_rfl, by kernel_rfl, by kernel_rfl, by kernel_rfl, by kernel_rfl, trivial⟩ ?_
  refine at_then_normal ?_
  refine at_seq (x := C24 [1, 0]) (y := C24 [1, 1]) (by kernel_rfl) ?_
  refine at_region (id := 1) 8 (by kernel_rfl) (by kernel_rfl) ?_
  refine s_pure 8 (.int .i64 node) (by kernel_rfl) (by kernel_rfl) (fun _ => by kernel_rfl) ?_
  refine s_pure 9 (.pointer (some ⟨b1, 2, none⟩)) (by kernel_rfl) (by kernel_rfl) (fun _ => by kernel_rfl) ?_
  refine s_load 10 (.int .i64 id) (by kernel_rfl) (by kernel_rfl) (load1 (off := 2) (fun _ => by kernel_rfl) (holds_own (.there .here)) (by kernel_rfl)) ?_
  refine s_pure 11 (.pointer (some ⟨b1, 1, none⟩)) (by kernel_rfl) (by kernel_rfl) (fun _ => by kernel_rfl) ?_
  refine s_load 12 (.int .i64 line) (by kernel_rfl) (by kernel_rfl) (load1 (off := 1) (fun _ => by kernel_rfl) (holds_own (.there .here)) (by kernel_rfl)) ?_
  refine s_pure 13 (.agg #[.int .i64 (0), .int .i64 node, .int .i64 (0), .int .i64 id, .int .i64 line, .int .i64 (0), .int .i64 (0), .bool false, .slice none 0 0]) (by kernel_rfl) (by kernel_rfl) (fun _ => by kernel_rfl) ?_
  refine s_step 7 (by kernel_rfl) (by kernel_rfl) (st_new (T := 38) (cells := #[.int .i64 (0), .int .i64 (0), .int .i64 (0), .int .i64 (0), .int .i64 (0), .int .i64 (0), .int .i64 (0), .bool false, .slice none 0 0]) (fun a => .pointer (some a)) (fun _ => by kernel_rfl)) ?_
  rintro _ _ ⟨b3, rfl, rfl⟩
  refine s_do (by kernel_rfl) (by kernel_rfl) (st_store (off := 0) (vs := [.int .i64 (0), .int .i64 node, .int .i64 (0), .int .i64 id, .int .i64 line, .int .i64 (0), .int .i64 (0), .bool false, .slice none 0 0]) (c' := #[.int .i64 (0), .int .i64 node, .int .i64 (0), .int .i64 id, .int .i64 line, .int .i64 (0), .int .i64 (0), .bool false, .slice none 0 0]) (fun _ => by kernel_rfl) .here (by kernel_rfl) (by kernel_rfl) (by kernel_rfl)) ?_
  rintro _ _ ⟨rfl, rfl⟩
  refine ops_end ?_
  refine At.env [(0, .agg #[.int .i64 k, .int .i64 line, .int .i64 id, .int .i64 (6), .int .i64 state, .int .i64 head, .slice a 0 cap, .int .i64 next, .int .i64 told]), (1, .int .i64 node), (2, .int .i64 home), (3, .pointer (some ⟨b1, 0, none⟩)), (6, .pointer (some ⟨b2, 0, none⟩)), (7, .pointer (some ⟨b3, 0, none⟩))] ⟨by kernel_rfl, by kernel_rfl, by kernel_rfl, by kernel_rfl, by kernel_rfl, by kernel_rfl, trivial⟩ ?_
  refine at_then_normal ?_
  refine at_seq (x := C24 [1, 1, 0]) (y := C24 [1, 1, 1]) (by kernel_rfl) ?_
  refine at_seq (x := C24 [1, 1, 0, 0]) (y := C24 [1, 1, 0, 1]) (by kernel_rfl) ?_
  refine at_region (id := 2) 2 (by kernel_rfl) (by kernel_rfl) ?_
  refine s_pure 14 (.pointer (some ⟨b1, 3, none⟩)) (by kernel_rfl) (by kernel_rfl) (fun _ => by kernel_rfl) ?_
  refine s_load 15 (.int .i64 (6)) (by kernel_rfl) (by kernel_rfl) (load1 (off := 3) (fun _ => by kernel_rfl) (holds_own (.there (.there .here))) (by kernel_rfl)) ?_
  refine ops_end ?_
  refine At.env [(0, .agg #[.int .i64 k, .int .i64 line, .int .i64 id, .int .i64 (6), .int .i64 state, .int .i64 head, .slice a 0 cap, .int .i64 next, .int .i64 told]), (1, .int .i64 node), (2, .int .i64 home), (3, .pointer (some ⟨b1, 0, none⟩)), (6, .pointer (some ⟨b2, 0, none⟩)), (7, .pointer (some ⟨b3, 0, none⟩)), (15, .int .i64 (6))] ⟨by kernel_rfl, by kernel_rfl, by kernel_rfl, by kernel_rfl, by kernel_rfl, by kernel_rfl, by kernel_rfl, trivial⟩ ?_
  refine at_then_normal ?_
  refine at_block (i := 0) (x := C24 [1, 1, 0, 1, 0]) (by kernel_rfl) ?_
  refine at_seq (x := C24 [1, 1, 0, 1, 0, 0]) (y := C24 [1, 1, 0, 1, 0, 1]) (by kernel_rfl) ?_
  refine at_region (id := 4) 2 (by kernel_rfl) (by kernel_rfl) ?_
  refine s_pure 18 (.bool false) (by kernel_rfl) (by kernel_rfl) (fun _ => by kernel_rfl) ?_
  refine s_pure 17 (.bool false) (by kernel_rfl) (by kernel_rfl) (fun _ => by kernel_rfl) ?_
  refine ops_end ?_
  refine At.env [(0, .agg #[.int .i64 k, .int .i64 line, .int .i64 id, .int .i64 (6), .int .i64 state, .int .i64 head, .slice a 0 cap, .int .i64 next, .int .i64 told]), (1, .int .i64 node), (2, .int .i64 home), (3, .pointer (some ⟨b1, 0, none⟩)), (6, .pointer (some ⟨b2, 0, none⟩)), (7, .pointer (some ⟨b3, 0, none⟩)), (15, .int .i64 (6)), (17, .bool false)] ⟨by kernel_rfl, by kernel_rfl, by kernel_rfl, by kernel_rfl, by kernel_rfl, by kernel_rfl, by kernel_rfl, by kernel_rfl, trivial⟩ ?_
  refine at_then_normal ?_
  refine at_false (t := false) (x := C24 [1, 1, 0, 1, 0, 1, 0]) (y := C24 [1, 1, 0, 1, 0, 1, 1]) (o := .tmp 17) (by kernel_rfl) (by kernel_rfl) (by kernel_rfl) rfl ?_
  refine at_seq (x := C24 [1, 1, 0, 1, 0, 1, 1, 0]) (y := C24 [1, 1, 0, 1, 0, 1, 1, 1]) (by kernel_rfl) ?_
  refine at_region (id := 6) 2 (by kernel_rfl) (by kernel_rfl) ?_
  refine s_pure 23 (.bool true) (by kernel_rfl) (by kernel_rfl) (fun _ => by kernel_rfl) ?_
  refine s_pure 22 (.bool true) (by kernel_rfl) (by kernel_rfl) (fun _ => by kernel_rfl) ?_
  refine ops_end ?_
  refine At.env [(0, .agg #[.int .i64 k, .int .i64 line, .int .i64 id, .int .i64 (6), .int .i64 state, .int .i64 head, .slice a 0 cap, .int .i64 next, .int .i64 told]), (1, .int .i64 node), (2, .int .i64 home), (3, .pointer (some ⟨b1, 0, none⟩)), (6, .pointer (some ⟨b2, 0, none⟩)), (7, .pointer (some ⟨b3, 0, none⟩)), (15, .int .i64 (6)), (17, .bool false), (22, .bool true)] ⟨by kernel_rfl, by kernel_rfl, by kernel_rfl, by kernel_rfl, by kernel_rfl, by kernel_rfl, by kernel_rfl, by kernel_rfl, by kernel_rfl, trivial⟩ ?_
  refine at_then_normal ?_
  refine at_true (t := true) (x := C24 [1, 1, 0, 1, 0, 1, 1, 1, 0]) (y := C24 [1, 1, 0, 1, 0, 1, 1, 1, 1]) (o := .tmp 22) (by kernel_rfl) (by kernel_rfl) (by kernel_rfl) rfl ?_
  refine at_seq (x := C24 [1, 1, 0, 1, 0, 1, 1, 1, 0, 0]) (y := C24 [1, 1, 0, 1, 0, 1, 1, 1, 0, 1]) (by kernel_rfl) ?_
  refine at_region_draw (id := 7) (by kernel_rfl) (by kernel_rfl) ?_
  refine d_pure 0 24 (.int .i64 home) (by kernel_rfl) (by kernel_rfl) (by kernel_rfl) (fun _ => by kernel_rfl) ?_
  refine d_pure 1 25 (.pointer (some ⟨b1, 4, none⟩)) (by kernel_rfl) (by kernel_rfl) (by kernel_rfl) (fun _ => by kernel_rfl) ?_
  refine d_load 2 26 (.int .i64 state) (by kernel_rfl) (by kernel_rfl) (by kernel_rfl) (load1 (off := 4) (fun _ => by kernel_rfl) (holds_own (.there (.there .here))) (by kernel_rfl)) ?_
  refine d_pure 3 27 (.pointer (some ⟨b1, 5, none⟩)) (by kernel_rfl) (by kernel_rfl) (by kernel_rfl) (fun _ => by kernel_rfl) ?_
  refine d_load 4 28 (.int .i64 head) (by kernel_rfl) (by kernel_rfl) (by kernel_rfl) (load1 (off := 5) (fun _ => by kernel_rfl) (holds_own (.there (.there .here))) (by kernel_rfl)) ?_
  refine d_pure 5 29 (.pointer (some ⟨b3, 0, none⟩)) (by kernel_rfl) (by kernel_rfl) (by kernel_rfl) (fun _ => by kernel_rfl) ?_
  refine d_do 6 [5] [3, 1, 0] [4, 2] (by kernel_rfl) (by kernel_rfl) (by kernel_rfl) (st_store (off := 0) (vs := [.int .i64 (2)]) (c' := #[.int .i64 (2), .int .i64 node, .int .i64 (0), .int .i64 id, .int .i64 line, .int .i64 (0), .int .i64 (0), .bool false, .slice none 0 0]) (fun _ => by kernel_rfl) .here (by kernel_rfl) (by kernel_rfl) (by kernel_rfl)) ?_
  rintro _ _ ⟨rfl, rfl⟩
  refine ⟨(stable_cons 4 28 (.int .i64 head) (by kernel_rfl) (by kernel_rfl) (by kernel_rfl) (load1 (off := 5) (fun _ => by kernel_rfl) (holds_own (.there (.there .here))) (by kernel_rfl)) (stable_cons 2 26 (.int .i64 state) (by kernel_rfl) (by kernel_rfl) (by kernel_rfl) (load1 (off := 4) (fun _ => by kernel_rfl) (holds_own (.there (.there .here))) (by kernel_rfl)) stable_nil)), ?_⟩
  refine d_pure 7 30 (.pointer (some ⟨b3, 2, none⟩)) (by kernel_rfl) (by kernel_rfl) (by kernel_rfl) (fun _ => by kernel_rfl) ?_
  refine d_do 8 [7, 0, 6, 5] [3, 1] [4, 2] (by kernel_rfl) (by kernel_rfl) (by kernel_rfl) (st_store (off := 2) (vs := [.int .i64 home]) (c' := #[.int .i64 (2), .int .i64 node, .int .i64 home, .int .i64 id, .int .i64 line, .int .i64 (0), .int .i64 (0), .bool false, .slice none 0 0]) (fun _ => by kernel_rfl) .here (by kernel_rfl) (by kernel_rfl) (by kernel_rfl)) ?_
  rintro _ _ ⟨rfl, rfl⟩
  refine ⟨(stable_cons 4 28 (.int .i64 head) (by kernel_rfl) (by kernel_rfl) (by kernel_rfl) (load1 (off := 5) (fun _ => by kernel_rfl) (holds_own (.there (.there .here))) (by kernel_rfl)) (stable_cons 2 26 (.int .i64 state) (by kernel_rfl) (by kernel_rfl) (by kernel_rfl) (load1 (off := 4) (fun _ => by kernel_rfl) (holds_own (.there (.there .here))) (by kernel_rfl)) stable_nil)), ?_⟩
  refine d_pure 9 31 (.pointer (some ⟨b3, 6, none⟩)) (by kernel_rfl) (by kernel_rfl) (by kernel_rfl) (fun _ => by kernel_rfl) ?_
  refine d_do 10 [9, 2, 8, 0, 1, 5, 6, 7] [3] [4] (by kernel_rfl) (by kernel_rfl) (by kernel_rfl) (st_store (off := 6) (vs := [.int .i64 state]) (c' := #[.int .i64 (2), .int .i64 node, .int .i64 home, .int .i64 id, .int .i64 line, .int .i64 (0), .int .i64 state, .bool false, .slice none 0 0]) (fun _ => by kernel_rfl) .here (by kernel_rfl) (by kernel_rfl) (by kernel_rfl)) ?_
  rintro _ _ ⟨rfl, rfl⟩
  refine ⟨(stable_cons 4 28 (.int .i64 head) (by kernel_rfl) (by kernel_rfl) (by kernel_rfl) (load1 (off := 5) (fun _ => by kernel_rfl) (holds_own (.there (.there .here))) (by kernel_rfl)) stable_nil), ?_⟩
  refine d_pure 11 32 (.pointer (some ⟨b3, 5, none⟩)) (by kernel_rfl) (by kernel_rfl) (by kernel_rfl) (fun _ => by kernel_rfl) ?_
  refine d_do 12 [11, 4, 10, 0, 1, 2, 3, 5, 6, 7, 8, 9] [] [] (by kernel_rfl) (by kernel_rfl) (by kernel_rfl) (st_store (off := 5) (vs := [.int .i64 head]) (c' := #[.int .i64 (2), .int .i64 node, .int .i64 home, .int .i64 id, .int .i64 line, .int .i64 head, .int .i64 state, .bool false, .slice none 0 0]) (fun _ => by kernel_rfl) .here (by kernel_rfl) (by kernel_rfl) (by kernel_rfl)) ?_
  rintro _ _ ⟨rfl, rfl⟩
  refine ⟨stable_nil, ?_⟩
  refine draw_end (by kernel_rfl) ?_
  refine At.env [(0, .agg #[.int .i64 k, .int .i64 line, .int .i64 id, .int .i64 (6), .int .i64 state, .int .i64 head, .slice a 0 cap, .int .i64 next, .int .i64 told]), (1, .int .i64 node), (2, .int .i64 home), (3, .pointer (some ⟨b1, 0, none⟩)), (6, .pointer (some ⟨b2, 0, none⟩)), (7, .pointer (some ⟨b3, 0, none⟩)), (15, .int .i64 (6)), (17, .bool false), (22, .bool true)] ⟨by kernel_rfl, by kernel_rfl, by kernel_rfl, by kernel_rfl, by kernel_rfl, by kernel_rfl, by kernel_rfl, by kernel_rfl, by kernel_rfl, trivial⟩ ?_
  refine at_then_normal ?_
  refine at_seq (x := C24 [1, 1, 0, 1, 0, 1, 1, 1, 0, 1, 0]) (y := C24 [1, 1, 0, 1, 0, 1, 1, 1, 0, 1, 1]) (by kernel_rfl) ?_
  refine at_region (id := 8) 4 (by kernel_rfl) (by kernel_rfl) ?_
  refine s_pure 33 (.pointer (some ⟨b1, 6, none⟩)) (by kernel_rfl) (by kernel_rfl) (fun _ => by kernel_rfl) ?_
  refine s_load 34 (.slice a 0 cap) (by kernel_rfl) (by kernel_rfl) (load1 (off := 6) (fun _ => by kernel_rfl) (holds_own (.there (.there .here))) (by kernel_rfl)) ?_
  refine s_pure 35 (.int .i64 (0)) (by kernel_rfl) (by kernel_rfl) (fun _ => by kernel_rfl) ?_
  refine s_pure 36 (.bool false) (by kernel_rfl) (by kernel_rfl) (fun _ => by kernel_rfl) ?_
  refine ops_end ?_
  refine At.env [(0, .agg #[.int .i64 k, .int .i64 line, .int .i64 id, .int .i64 (6), .int .i64 state, .int .i64 head, .slice a 0 cap, .int .i64 next, .int .i64 told]), (1, .int .i64 node), (2, .int .i64 home), (3, .pointer (some ⟨b1, 0, none⟩)), (6, .pointer (some ⟨b2, 0, none⟩)), (7, .pointer (some ⟨b3, 0, none⟩)), (15, .int .i64 (6)), (17, .bool false), (22, .bool true), (36, .bool false)] ⟨by kernel_rfl, by kernel_rfl, by kernel_rfl, by kernel_rfl, by kernel_rfl, by kernel_rfl, by kernel_rfl, by kernel_rfl, by kernel_rfl, by kernel_rfl, trivial⟩ ?_
  refine at_then_normal ?_
  refine at_false (t := false) (x := C24 [1, 1, 0, 1, 0, 1, 1, 1, 0, 1, 1, 0]) (y := C24 [1, 1, 0, 1, 0, 1, 1, 1, 0, 1, 1, 1]) (o := .tmp 36) (by kernel_rfl) (by kernel_rfl) (by kernel_rfl) rfl ?_
  refine at_skip (by kernel_rfl) ?_
  refine at_in_normal ?_
  refine at_then_normal ?_
  refine at_seq (x := C24 [1, 1, 1, 0]) (y := C24 [1, 1, 1, 1]) (by kernel_rfl) ?_
  refine at_region (id := 18) 2 (by kernel_rfl) (by kernel_rfl) ?_
  refine s_load 74 (.agg #[.int .i64 (2), .int .i64 node, .int .i64 home, .int .i64 id, .int .i64 line, .int .i64 head, .int .i64 state, .bool false, .slice none 0 0]) (by kernel_rfl) (by kernel_rfl) (loadN (off := 0) (vs := [.int .i64 (2), .int .i64 node, .int .i64 home, .int .i64 id, .int .i64 line, .int .i64 head, .int .i64 state, .bool false, .slice none 0 0]) 9 (fun _ => by kernel_rfl) (holds_own .here) rfl (by exact ⟨rfl, rfl, rfl, rfl, rfl, rfl, rfl, rfl, rfl, trivial⟩)) ?_
  refine s_do (by kernel_rfl) (by kernel_rfl) (st_store (off := 0) (vs := [.int .i64 (2), .int .i64 node, .int .i64 home, .int .i64 id, .int .i64 line, .int .i64 head, .int .i64 state, .bool false, .slice none 0 0]) (c' := #[.int .i64 (2), .int .i64 node, .int .i64 home, .int .i64 id, .int .i64 line, .int .i64 head, .int .i64 state, .bool false, .slice none 0 0]) (fun _ => by kernel_rfl) (.there .here) (by kernel_rfl) (by kernel_rfl) (by kernel_rfl)) ?_
  rintro _ _ ⟨rfl, rfl⟩
  refine ops_end ?_
  refine At.env [(0, .agg #[.int .i64 k, .int .i64 line, .int .i64 id, .int .i64 (6), .int .i64 state, .int .i64 head, .slice a 0 cap, .int .i64 next, .int .i64 told]), (1, .int .i64 node), (2, .int .i64 home), (3, .pointer (some ⟨b1, 0, none⟩)), (6, .pointer (some ⟨b2, 0, none⟩)), (7, .pointer (some ⟨b3, 0, none⟩)), (15, .int .i64 (6)), (17, .bool false), (22, .bool true), (36, .bool false)] ⟨by kernel_rfl, by kernel_rfl, by kernel_rfl, by kernel_rfl, by kernel_rfl, by kernel_rfl, by kernel_rfl, by kernel_rfl, by kernel_rfl, by kernel_rfl, trivial⟩ ?_
  refine at_then_normal ?_
  refine at_ret (by kernel_rfl) ?_
  refine at_backR [.agg #[.int .i64 (2), .int .i64 node, .int .i64 home, .int .i64 id, .int .i64 line, .int .i64 head, .int .i64 state, .bool false, .slice none 0 0]] (Γ) (rs := [.cell 6 38]) (by kernel_rfl) (.cons (.cell (by kernel_rfl) (retN (off := 0) (vs := [.int .i64 (2), .int .i64 node, .int .i64 home, .int .i64 id, .int .i64 line, .int .i64 head, .int .i64 state, .bool false, .slice none 0 0]) 9 (fun _ => by kernel_rfl) (holds_own .here) rfl (by exact ⟨rfl, rfl, rfl, rfl, rfl, rfl, rfl, rfl, rfl, trivial⟩))) .nil) (fun w hw => hw.less (.drop .here (.drop .here (.drop .here .refl)))) ?_
  exact ⟨rfl, rfl⟩
theorem RAsk_6 {W0 : World} {Γ : List Asn} (k line id state head next told : Int) (a : Option Addr) (m cap : Nat) (node home : Int) (xs : List Int) (hm : m = xs.length) (hr : Reads W0 Γ a (ints xs)) (hlx : xs.length ≤ 1099511627776) : Tr Try.prog 24 #[.agg #[.int .i64 k, .int .i64 line, .int .i64 id, .int .i64 (6), .int .i64 state, .int .i64 head, .slice a m cap, .int .i64 next, .int .i64 told], .int .i64 node, .int .i64 home] W0 Γ (fun r Δ => ∃ a' cap', r = .agg #[.int .i64 (2), .int .i64 node, .int .i64 home, .int .i64 id, .int .i64 line, .int .i64 (head), .int .i64 (state), .bool (decide ((0 : Int) < ((m : Nat) : Int))), .slice a' m cap'] ∧ Δ = IntsA a' cap' xs :: Γ) := by
  rcases Nat.eq_zero_or_pos m with h0 | h0
  · subst h0
    obtain rfl : xs = [] := List.eq_nil_of_length_eq_zero hm.symm
    refine Tr.conseq (RAsk_6n k line id state head next told a cap node home) ?_
    rintro r Δ ⟨rfl, rfl⟩
    exact ⟨_, ⟨none, 0, rfl, rfl⟩, fun w hw => RowsA.none_mk hw⟩
  · refine Tr.mono (RAsk_6s k line id state head next told a m cap node home xs hm hr hlx h0) ?_
    rintro r Δ ⟨a', cap', rfl, rfl⟩
    exact ⟨a', cap', by rw [decide_eq_true (show (0 : Int) < ((m : Nat) : Int) by omega)], rfl⟩
theorem RAsk_in {W0 : World} {Γ : List Asn} (s : Int) (h1 : ¬ s < 1) (h6 : ¬ 6 < s) (k line id state head next told : Int) (a : Option Addr) (m cap : Nat) (node home : Int) (xs : List Int) (hm : m = xs.length) (hr : Reads W0 Γ a (ints xs)) (hlx : xs.length ≤ 1099511627776) : Tr Try.prog 24 #[.agg #[.int .i64 k, .int .i64 line, .int .i64 id, .int .i64 s, .int .i64 state, .int .i64 head, .slice a m cap, .int .i64 next, .int .i64 told], .int .i64 node, .int .i64 home] W0 Γ (fun r Δ => ∃ a' m' cap', r = .agg #[.int .i64 (kindI s), .int .i64 node, .int .i64 (toI s home head next), .int .i64 id, .int .i64 line, .int .i64 (ptrI s node head next), .int .i64 (stateI s state), .bool (flagI s xs.length), .slice a' m' cap'] ∧ m' = (dataI s xs).length ∧ Δ = IntsA a' cap' (dataI s xs) :: Γ) := by
  have hs : s = 1 ∨ s = 2 ∨ s = 3 ∨ s = 4 ∨ s = 5 ∨ s = 6 := by omega
  rcases hs with rfl | rfl | rfl | rfl | rfl | rfl
  · refine Tr.conseq (RAsk_1 k line id state head next told a m cap node home) ?_
    rintro r Δ ⟨rfl, rfl⟩
    exact ⟨_, ⟨none, 0, 0, rfl, rfl, rfl⟩, fun w hw => RowsA.none_mk hw⟩
  · refine Tr.conseq (RAsk_2 k line id state head next told a m cap node home) ?_
    rintro r Δ ⟨rfl, rfl⟩
    exact ⟨_, ⟨none, 0, 0, rfl, rfl, rfl⟩, fun w hw => RowsA.none_mk hw⟩
  · refine Tr.conseq (RAsk_3 k line id state head next told a m cap node home) ?_
    rintro r Δ ⟨rfl, rfl⟩
    exact ⟨_, ⟨none, 0, 0, rfl, rfl, rfl⟩, fun w hw => RowsA.none_mk hw⟩
  · refine Tr.conseq (RAsk_4 k line id state head next told a m cap node home) ?_
    rintro r Δ ⟨rfl, rfl⟩
    exact ⟨_, ⟨none, 0, 0, rfl, rfl, rfl⟩, fun w hw => RowsA.none_mk hw⟩
  · refine Tr.conseq (RAsk_5 k line id state head next told a m cap node home) ?_
    rintro r Δ ⟨rfl, rfl⟩
    exact ⟨_, ⟨none, 0, 0, rfl, rfl, rfl⟩, fun w hw => RowsA.none_mk hw⟩
  · refine Tr.mono (RAsk_6 k line id state head next told a m cap node home xs hm hr hlx) ?_
    rintro r Δ ⟨a', cap', rfl, rfl⟩
    refine ⟨a', m, cap', ?_, hm, rfl⟩
    subst hm
    have : decide ((0 : Int) < ((xs.length : Nat) : Int)) = flagI 6 xs.length := by simp [flagI]
    rw [this]; rfl
noncomputable def C28 (p : List Nat) : Code := codeAt (bodyOf Try.f28) p
set_option maxRecDepth 100000 in
theorem RFits_tr {W0 : World} {Γ : List Asn} (s : Int) (k line id state head next told : Int) (a : Option Addr) (m cap : Nat) (pk pf pt pid pl pp ps : Int) (pfl : Bool) (pa : Option Addr) (pm pc : Nat) (xs : List Int) (hm : m = xs.length) (hr : Reads W0 Γ a (ints xs)) (hlx : xs.length ≤ 1099511627776) : Tr Try.prog 28 #[.agg #[.int .i64 k, .int .i64 line, .int .i64 id, .int .i64 s, .int .i64 state, .int .i64 head, .slice a m cap, .int .i64 next, .int .i64 told], .agg #[.int .i64 pk, .int .i64 pf, .int .i64 pt, .int .i64 pid, .int .i64 pl, .int .i64 pp, .int .i64 ps, .bool pfl, .slice pa pm pc]] W0 (Γ) (fun r Δ => r = .bool (fitsB s id line pk pid pl) ∧ Δ = Γ) := by
  refine Tr.enter (fn := Try.f28) (c := C28 []) (args := [.agg #[.int .i64 k, .int .i64 line, .int .i64 id, .int .i64 s, .int .i64 state, .int .i64 head, .slice a m cap, .int .i64 next, .int .i64 told], .agg #[.int .i64 pk, .int .i64 pf, .int .i64 pt, .int .i64 pid, .int .i64 pl, .int .i64 pp, .int .i64 ps, .bool pfl, .slice pa pm pc]]) 32 Try.func28 (by kernel_rfl) (by kernel_rfl) ?_
  refine At.env [(0, .agg #[.int .i64 k, .int .i64 line, .int .i64 id, .int .i64 s, .int .i64 state, .int .i64 head, .slice a m cap, .int .i64 next, .int .i64 told]), (1, .agg #[.int .i64 pk, .int .i64 pf, .int .i64 pt, .int .i64 pid, .int .i64 pl, .int .i64 pp, .int .i64 ps, .bool pfl, .slice pa pm pc])] ⟨by kernel_rfl, by kernel_rfl, trivial⟩ ?_
  refine at_seq (x := C28 [0]) (y := C28 [1]) (by kernel_rfl) ?_
  refine at_region (id := 0) 3 (by kernel_rfl) (by kernel_rfl) ?_
  refine s_step 2 (by kernel_rfl) (by kernel_rfl) (st_new (T := 47) (cells := #[.int .i64 k, .int .i64 line, .int .i64 id, .int .i64 s, .int .i64 state, .int .i64 head, .slice a m cap, .int .i64 next, .int .i64 told]) (fun a => .pointer (some a)) (fun _ => by kernel_rfl)) ?_
  rintro _ _ ⟨b1, rfl, rfl⟩
  refine s_step 3 (by kernel_rfl) (by kernel_rfl) (st_new (T := 38) (cells := #[.int .i64 pk, .int .i64 pf, .int .i64 pt, .int .i64 pid, .int .i64 pl, .int .i64 pp, .int .i64 ps, .bool pfl, .slice pa pm pc]) (fun a => .pointer (some a)) (fun _ => by kernel_rfl)) ?_
  rintro _ _ ⟨b2, rfl, rfl⟩
  refine s_pure 4 (.bool false) (by kernel_rfl) (by kernel_rfl) (fun _ => by kernel_rfl) ?_
  refine ops_end ?_
  refine At.env [(0, .agg #[.int .i64 k, .int .i64 line, .int .i64 id, .int .i64 s, .int .i64 state, .int .i64 head, .slice a m cap, .int .i64 next, .int .i64 told]), (1, .agg #[.int .i64 pk, .int .i64 pf, .int .i64 pt, .int .i64 pid, .int .i64 pl, .int .i64 pp, .int .i64 ps, .bool pfl, .slice pa pm pc]), (2, .pointer (some ⟨b1, 0, none⟩)), (3, .pointer (some ⟨b2, 0, none⟩)), (4, .bool false)] ⟨by kernel_rfl, by kernel_rfl, by kernel_rfl, by kernel_rfl, by kernel_rfl, trivial⟩ ?_
  refine at_then_normal ?_
  refine at_seq (x := C28 [1, 0]) (y := C28 [1, 1]) (by kernel_rfl) ?_
  refine at_region (id := 1) 5 (by kernel_rfl) (by kernel_rfl) ?_
  refine s_load 6 (.agg #[.int .i64 k, .int .i64 line, .int .i64 id, .int .i64 s, .int .i64 state, .int .i64 head, .slice a m cap, .int .i64 next, .int .i64 told]) (by kernel_rfl) (by kernel_rfl) (loadN (off := 0) (vs := [.int .i64 k, .int .i64 line, .int .i64 id, .int .i64 s, .int .i64 state, .int .i64 head, .slice a m cap, .int .i64 next, .int .i64 told]) 9 (fun _ => by kernel_rfl) (holds_own (.there .here)) rfl (by exact ⟨rfl, rfl, rfl, rfl, rfl, rfl, rfl, rfl, rfl, trivial⟩)) ?_
  rcases Decidable.em (s < (1 : Int)) with h1 | h1
  · refine s_quiet 7 (.agg #[.int .i64 (0), .int .i64 (0), .int .i64 (0), .int .i64 (0), .int .i64 (0), .int .i64 (0), .int .i64 (0), .bool false, .slice none 0 0]) 24 #[.agg #[.int .i64 k, .int .i64 line, .int .i64 id, .int .i64 s, .int .i64 state, .int .i64 head, .slice a m cap, .int .i64 next, .int .i64 told], .int .i64 (0), .int .i64 (0)] (by kernel_rfl) (by kernel_rfl) (fun _ => by kernel_rfl) (RAsk_other s (by omega) (by omega) (by omega) (by omega) (by omega) (by omega) k line id state head next told a m cap (0) (0)) ?_
    refine s_pure 8 (.int .i64 (0)) (by kernel_rfl) (by kernel_rfl) (fun _ => by kernel_rfl) ?_
    refine s_quiet 9 (.int .i64 (0)) 32 #[.int .i64 (0)] (by kernel_rfl) (by kernel_rfl) (fun _ => by kernel_rfl) (Tr.as (RAnswer_tr (0)) (show Value.int .i64 (answerI (0)) = .int .i64 (0) from by rfl)) ?_
    refine s_pure 5 (.int .i64 (0)) (by kernel_rfl) (by kernel_rfl) (fun _ => by kernel_rfl) ?_
    refine ops_end ?_
    refine At.env [(0, .agg #[.int .i64 k, .int .i64 line, .int .i64 id, .int .i64 s, .int .i64 state, .int .i64 head, .slice a m cap, .int .i64 next, .int .i64 told]), (1, .agg #[.int .i64 pk, .int .i64 pf, .int .i64 pt, .int .i64 pid, .int .i64 pl, .int .i64 pp, .int .i64 ps, .bool pfl, .slice pa pm pc]), (2, .pointer (some ⟨b1, 0, none⟩)), (3, .pointer (some ⟨b2, 0, none⟩)), (4, .bool false), (5, .int .i64 (0))] ⟨by kernel_rfl, by kernel_rfl, by kernel_rfl, by kernel_rfl, by kernel_rfl, by kernel_rfl, trivial⟩ ?_
    refine at_then_normal ?_
    refine at_seq (x := C28 [1, 1, 0]) (y := C28 [1, 1, 1]) (by kernel_rfl) ?_
    refine at_region (id := 2) 23 (by kernel_rfl) (by kernel_rfl) ?_
    refine s_pure 10 (.int .i64 (0)) (by kernel_rfl) (by kernel_rfl) (fun _ => by kernel_rfl) ?_
    refine s_pure 11 (.bool false) (by kernel_rfl) (by kernel_rfl) (fun _ => by kernel_rfl) ?_
    refine s_pure 12 (.bool false) (by kernel_rfl) (by kernel_rfl) (fun _ => by kernel_rfl) ?_
    refine s_pass 13 (by kernel_rfl) (by kernel_rfl) ?_
    refine s_pass 14 (by kernel_rfl) (by kernel_rfl) ?_
    refine s_pass 15 (by kernel_rfl) (by kernel_rfl) ?_
    refine s_pass 16 (by kernel_rfl) (by kernel_rfl) ?_
    refine s_pure 17 (.bool false) (by kernel_rfl) (by kernel_rfl) (fun _ => by kernel_rfl) ?_
    refine s_pure 18 (.bool false) (by kernel_rfl) (by kernel_rfl) (fun _ => by kernel_rfl) ?_
    refine s_pass 19 (by kernel_rfl) (by kernel_rfl) ?_
    refine s_pass 20 (by kernel_rfl) (by kernel_rfl) ?_
    refine s_pass 21 (by kernel_rfl) (by kernel_rfl) ?_
    refine s_pass 22 (by kernel_rfl) (by kernel_rfl) ?_
    refine s_pass 23 (by kernel_rfl) (by kernel_rfl) ?_
    refine s_pure 24 (.bool false) (by kernel_rfl) (by kernel_rfl) (fun _ => by kernel_rfl) ?_
    refine s_pure 25 (.bool false) (by kernel_rfl) (by kernel_rfl) (fun _ => by kernel_rfl) ?_
    refine s_pass 26 (by kernel_rfl) (by kernel_rfl) ?_
    refine s_pass 27 (by kernel_rfl) (by kernel_rfl) ?_
    refine s_pass 28 (by kernel_rfl) (by kernel_rfl) ?_
    refine s_pass 29 (by kernel_rfl) (by kernel_rfl) ?_
    refine s_pass 30 (by kernel_rfl) (by kernel_rfl) ?_
    refine s_pure 31 (.bool false) (by kernel_rfl) (by kernel_rfl) (fun _ => by kernel_rfl) ?_
    refine s_pure 4 (.bool false) (by kernel_rfl) (by kernel_rfl) (fun _ => by kernel_rfl) ?_
    refine ops_end ?_
    refine At.env [(0, .agg #[.int .i64 k, .int .i64 line, .int .i64 id, .int .i64 s, .int .i64 state, .int .i64 head, .slice a m cap, .int .i64 next, .int .i64 told]), (1, .agg #[.int .i64 pk, .int .i64 pf, .int .i64 pt, .int .i64 pid, .int .i64 pl, .int .i64 pp, .int .i64 ps, .bool pfl, .slice pa pm pc]), (2, .pointer (some ⟨b1, 0, none⟩)), (3, .pointer (some ⟨b2, 0, none⟩)), (4, .bool false), (5, .int .i64 (0))] ⟨by kernel_rfl, by kernel_rfl, by kernel_rfl, by kernel_rfl, by kernel_rfl, by kernel_rfl, trivial⟩ ?_
    refine at_then_normal ?_
    refine at_ret (by kernel_rfl) ?_
    refine at_backR [.bool false] (Γ) (rs := [.tmp 4]) (by kernel_rfl) (.cons (.tmp (by kernel_rfl)) .nil) (fun w hw => hw.less (.drop .here (.drop .here .refl))) ?_
    exact ⟨congrArg Value.bool ((fits_not (by omega)).symm), rfl⟩
  · rcases Decidable.em ((6 : Int) < s) with h2 | h2
    · refine s_quiet 7 (.agg #[.int .i64 (0), .int .i64 (0), .int .i64 (0), .int .i64 (0), .int .i64 (0), .int .i64 (0), .int .i64 (0), .bool false, .slice none 0 0]) 24 #[.agg #[.int .i64 k, .int .i64 line, .int .i64 id, .int .i64 s, .int .i64 state, .int .i64 head, .slice a m cap, .int .i64 next, .int .i64 told], .int .i64 (0), .int .i64 (0)] (by kernel_rfl) (by kernel_rfl) (fun _ => by kernel_rfl) (RAsk_other s (by omega) (by omega) (by omega) (by omega) (by omega) (by omega) k line id state head next told a m cap (0) (0)) ?_
      refine s_pure 8 (.int .i64 (0)) (by kernel_rfl) (by kernel_rfl) (fun _ => by kernel_rfl) ?_
      refine s_quiet 9 (.int .i64 (0)) 32 #[.int .i64 (0)] (by kernel_rfl) (by kernel_rfl) (fun _ => by kernel_rfl) (Tr.as (RAnswer_tr (0)) (show Value.int .i64 (answerI (0)) = .int .i64 (0) from by rfl)) ?_
      refine s_pure 5 (.int .i64 (0)) (by kernel_rfl) (by kernel_rfl) (fun _ => by kernel_rfl) ?_
      refine ops_end ?_
      refine At.env [(0, .agg #[.int .i64 k, .int .i64 line, .int .i64 id, .int .i64 s, .int .i64 state, .int .i64 head, .slice a m cap, .int .i64 next, .int .i64 told]), (1, .agg #[.int .i64 pk, .int .i64 pf, .int .i64 pt, .int .i64 pid, .int .i64 pl, .int .i64 pp, .int .i64 ps, .bool pfl, .slice pa pm pc]), (2, .pointer (some ⟨b1, 0, none⟩)), (3, .pointer (some ⟨b2, 0, none⟩)), (4, .bool false), (5, .int .i64 (0))] ⟨by kernel_rfl, by kernel_rfl, by kernel_rfl, by kernel_rfl, by kernel_rfl, by kernel_rfl, trivial⟩ ?_
      refine at_then_normal ?_
      refine at_seq (x := C28 [1, 1, 0]) (y := C28 [1, 1, 1]) (by kernel_rfl) ?_
      refine at_region (id := 2) 23 (by kernel_rfl) (by kernel_rfl) ?_
      refine s_pure 10 (.int .i64 (0)) (by kernel_rfl) (by kernel_rfl) (fun _ => by kernel_rfl) ?_
      refine s_pure 11 (.bool false) (by kernel_rfl) (by kernel_rfl) (fun _ => by kernel_rfl) ?_
      refine s_pure 12 (.bool false) (by kernel_rfl) (by kernel_rfl) (fun _ => by kernel_rfl) ?_
      refine s_pass 13 (by kernel_rfl) (by kernel_rfl) ?_
      refine s_pass 14 (by kernel_rfl) (by kernel_rfl) ?_
      refine s_pass 15 (by kernel_rfl) (by kernel_rfl) ?_
      refine s_pass 16 (by kernel_rfl) (by kernel_rfl) ?_
      refine s_pure 17 (.bool false) (by kernel_rfl) (by kernel_rfl) (fun _ => by kernel_rfl) ?_
      refine s_pure 18 (.bool false) (by kernel_rfl) (by kernel_rfl) (fun _ => by kernel_rfl) ?_
      refine s_pass 19 (by kernel_rfl) (by kernel_rfl) ?_
      refine s_pass 20 (by kernel_rfl) (by kernel_rfl) ?_
      refine s_pass 21 (by kernel_rfl) (by kernel_rfl) ?_
      refine s_pass 22 (by kernel_rfl) (by kernel_rfl) ?_
      refine s_pass 23 (by kernel_rfl) (by kernel_rfl) ?_
      refine s_pure 24 (.bool false) (by kernel_rfl) (by kernel_rfl) (fun _ => by kernel_rfl) ?_
      refine s_pure 25 (.bool false) (by kernel_rfl) (by kernel_rfl) (fun _ => by kernel_rfl) ?_
      refine s_pass 26 (by kernel_rfl) (by kernel_rfl) ?_
      refine s_pass 27 (by kernel_rfl) (by kernel_rfl) ?_
      refine s_pass 28 (by kernel_rfl) (by kernel_rfl) ?_
      refine s_pass 29 (by kernel_rfl) (by kernel_rfl) ?_
      refine s_pass 30 (by kernel_rfl) (by kernel_rfl) ?_
      refine s_pure 31 (.bool false) (by kernel_rfl) (by kernel_rfl) (fun _ => by kernel_rfl) ?_
      refine s_pure 4 (.bool false) (by kernel_rfl) (by kernel_rfl) (fun _ => by kernel_rfl) ?_
      refine ops_end ?_
      refine At.env [(0, .agg #[.int .i64 k, .int .i64 line, .int .i64 id, .int .i64 s, .int .i64 state, .int .i64 head, .slice a m cap, .int .i64 next, .int .i64 told]), (1, .agg #[.int .i64 pk, .int .i64 pf, .int .i64 pt, .int .i64 pid, .int .i64 pl, .int .i64 pp, .int .i64 ps, .bool pfl, .slice pa pm pc]), (2, .pointer (some ⟨b1, 0, none⟩)), (3, .pointer (some ⟨b2, 0, none⟩)), (4, .bool false), (5, .int .i64 (0))] ⟨by kernel_rfl, by kernel_rfl, by kernel_rfl, by kernel_rfl, by kernel_rfl, by kernel_rfl, trivial⟩ ?_
      refine at_then_normal ?_
      refine at_ret (by kernel_rfl) ?_
      refine at_backR [.bool false] (Γ) (rs := [.tmp 4]) (by kernel_rfl) (.cons (.tmp (by kernel_rfl)) .nil) (fun w hw => hw.less (.drop .here (.drop .here .refl))) ?_
      exact ⟨congrArg Value.bool ((fits_not (by omega)).symm), rfl⟩
    · refine s_call 7 24 #[.agg #[.int .i64 k, .int .i64 line, .int .i64 id, .int .i64 s, .int .i64 state, .int .i64 head, .slice a m cap, .int .i64 next, .int .i64 told], .int .i64 (0), .int .i64 (0)] (by kernel_rfl) (by kernel_rfl) (fun _ => by kernel_rfl) (RAsk_in s h1 h2 k line id state head next told a m cap (0) (0) xs (hm) (Reads.conv (fun w hw => hw.less (.drop .here (.drop .here .refl))) hr) (hlx)) ?_
      rintro _ _ ⟨a1, m1, c1, rfl, hm1, rfl⟩
      refine s_pure 8 (.int .i64 (kindI s)) (by kernel_rfl) (by kernel_rfl) (fun _ => by kernel_rfl) ?_
      refine s_quiet 9 (.int .i64 (answerI (kindI s))) 32 #[.int .i64 (kindI s)] (by kernel_rfl) (by kernel_rfl) (fun _ => by kernel_rfl) (RAnswer_tr (kindI s)) ?_
      refine s_pure 5 (.int .i64 (answerI (kindI s))) (by kernel_rfl) (by kernel_rfl) (fun _ => by kernel_rfl) ?_
      refine ops_end ?_
      refine At.env [(0, .agg #[.int .i64 k, .int .i64 line, .int .i64 id, .int .i64 s, .int .i64 state, .int .i64 head, .slice a m cap, .int .i64 next, .int .i64 told]), (1, .agg #[.int .i64 pk, .int .i64 pf, .int .i64 pt, .int .i64 pid, .int .i64 pl, .int .i64 pp, .int .i64 ps, .bool pfl, .slice pa pm pc]), (2, .pointer (some ⟨b1, 0, none⟩)), (3, .pointer (some ⟨b2, 0, none⟩)), (4, .bool false), (5, .int .i64 (answerI (kindI s)))] ⟨by kernel_rfl, by kernel_rfl, by kernel_rfl, by kernel_rfl, by kernel_rfl, by kernel_rfl, trivial⟩ ?_
      refine at_then_normal ?_
      refine at_seq (x := C28 [1, 1, 0]) (y := C28 [1, 1, 1]) (by kernel_rfl) ?_
      refine at_region (id := 2) 23 (by kernel_rfl) (by kernel_rfl) ?_
      refine s_pure 10 (.int .i64 (answerI (kindI s))) (by kernel_rfl) (by kernel_rfl) (fun _ => by kernel_rfl) ?_
      refine s_pure 11 (.bool true) (by kernel_rfl) (by kernel_rfl) (run_eq (v := .bool (decide ((0 : Int) < (answerI (kindI s))))) (fun _ => by kernel_rfl) (congrArg Value.bool (by rw [decide_eq_true (answer_pos h1 h2)]))) ?_
      refine s_pure 12 (.bool true) (by kernel_rfl) (by kernel_rfl) (fun _ => by kernel_rfl) ?_
      refine s_pure 13 (.pointer (some ⟨b2, 0, none⟩)) (by kernel_rfl) (by kernel_rfl) (fun _ => by kernel_rfl) ?_
      refine s_load 14 (.int .i64 pk) (by kernel_rfl) (by kernel_rfl) (load1 (off := 0) (fun _ => by kernel_rfl) (holds_own (.there .here)) (by kernel_rfl)) ?_
      refine s_pure 15 (.int .i64 (answerI (kindI s))) (by kernel_rfl) (by kernel_rfl) (fun _ => by kernel_rfl) ?_
      rcases Decidable.em (pk = (answerI (kindI s))) with h3 | h3
      · refine s_pure 16 (.bool true) (by kernel_rfl) (by kernel_rfl) (run_eq (v := .bool (decide (pk = (answerI (kindI s))))) (fun _ => by kernel_rfl) (congrArg Value.bool (by rw [decide_eq_true h3]))) ?_
        refine s_pure 17 (.bool true) (by kernel_rfl) (by kernel_rfl) (fun _ => by kernel_rfl) ?_
        refine s_pure 18 (.bool true) (by kernel_rfl) (by kernel_rfl) (fun _ => by kernel_rfl) ?_
        refine s_pure 19 (.pointer (some ⟨b2, 3, none⟩)) (by kernel_rfl) (by kernel_rfl) (fun _ => by kernel_rfl) ?_
        refine s_load 20 (.int .i64 pid) (by kernel_rfl) (by kernel_rfl) (load1 (off := 3) (fun _ => by kernel_rfl) (holds_own (.there .here)) (by kernel_rfl)) ?_
        refine s_pure 21 (.pointer (some ⟨b1, 2, none⟩)) (by kernel_rfl) (by kernel_rfl) (fun _ => by kernel_rfl) ?_
        refine s_load 22 (.int .i64 id) (by kernel_rfl) (by kernel_rfl) (load1 (off := 2) (fun _ => by kernel_rfl) (holds_own (.there (.there .here))) (by kernel_rfl)) ?_
        rcases Decidable.em (pid = id) with h4 | h4
        · refine s_pure 23 (.bool true) (by kernel_rfl) (by kernel_rfl) (run_eq (v := .bool (decide (pid = id))) (fun _ => by kernel_rfl) (congrArg Value.bool (by rw [decide_eq_true h4]))) ?_
          refine s_pure 24 (.bool true) (by kernel_rfl) (by kernel_rfl) (fun _ => by kernel_rfl) ?_
          refine s_pure 25 (.bool true) (by kernel_rfl) (by kernel_rfl) (fun _ => by kernel_rfl) ?_
          refine s_pure 26 (.pointer (some ⟨b2, 4, none⟩)) (by kernel_rfl) (by kernel_rfl) (fun _ => by kernel_rfl) ?_
          refine s_load 27 (.int .i64 pl) (by kernel_rfl) (by kernel_rfl) (load1 (off := 4) (fun _ => by kernel_rfl) (holds_own (.there .here)) (by kernel_rfl)) ?_
          refine s_pure 28 (.pointer (some ⟨b1, 1, none⟩)) (by kernel_rfl) (by kernel_rfl) (fun _ => by kernel_rfl) ?_
          refine s_load 29 (.int .i64 line) (by kernel_rfl) (by kernel_rfl) (load1 (off := 1) (fun _ => by kernel_rfl) (holds_own (.there (.there .here))) (by kernel_rfl)) ?_
          rcases Decidable.em (pl = line) with h5 | h5
          · refine s_pure 30 (.bool true) (by kernel_rfl) (by kernel_rfl) (run_eq (v := .bool (decide (pl = line))) (fun _ => by kernel_rfl) (congrArg Value.bool (by rw [decide_eq_true h5]))) ?_
            refine s_pure 31 (.bool true) (by kernel_rfl) (by kernel_rfl) (fun _ => by kernel_rfl) ?_
            refine s_pure 4 (.bool true) (by kernel_rfl) (by kernel_rfl) (fun _ => by kernel_rfl) ?_
            refine ops_end ?_
            refine At.env [(0, .agg #[.int .i64 k, .int .i64 line, .int .i64 id, .int .i64 s, .int .i64 state, .int .i64 head, .slice a m cap, .int .i64 next, .int .i64 told]), (1, .agg #[.int .i64 pk, .int .i64 pf, .int .i64 pt, .int .i64 pid, .int .i64 pl, .int .i64 pp, .int .i64 ps, .bool pfl, .slice pa pm pc]), (2, .pointer (some ⟨b1, 0, none⟩)), (3, .pointer (some ⟨b2, 0, none⟩)), (4, .bool true), (5, .int .i64 (answerI (kindI s)))] ⟨by kernel_rfl, by kernel_rfl, by kernel_rfl, by kernel_rfl, by kernel_rfl, by kernel_rfl, trivial⟩ ?_
            refine at_then_normal ?_
            refine at_ret (by kernel_rfl) ?_
            refine at_backR [.bool true] (Γ) (rs := [.tmp 4]) (by kernel_rfl) (.cons (.tmp (by kernel_rfl)) .nil) (fun w hw => hw.less (.drop .here (.drop .here (.drop .here .refl)))) ?_
            exact ⟨congrArg Value.bool (by simp [fitsB, wantI, answer_ne h1 h2, *]), rfl⟩
          · refine s_pure 30 (.bool false) (by kernel_rfl) (by kernel_rfl) (run_eq (v := .bool (decide (pl = line))) (fun _ => by kernel_rfl) (congrArg Value.bool (by rw [decide_eq_false h5]))) ?_
            refine s_pure 31 (.bool false) (by kernel_rfl) (by kernel_rfl) (fun _ => by kernel_rfl) ?_
            refine s_pure 4 (.bool false) (by kernel_rfl) (by kernel_rfl) (fun _ => by kernel_rfl) ?_
            refine ops_end ?_
            refine At.env [(0, .agg #[.int .i64 k, .int .i64 line, .int .i64 id, .int .i64 s, .int .i64 state, .int .i64 head, .slice a m cap, .int .i64 next, .int .i64 told]), (1, .agg #[.int .i64 pk, .int .i64 pf, .int .i64 pt, .int .i64 pid, .int .i64 pl, .int .i64 pp, .int .i64 ps, .bool pfl, .slice pa pm pc]), (2, .pointer (some ⟨b1, 0, none⟩)), (3, .pointer (some ⟨b2, 0, none⟩)), (4, .bool false), (5, .int .i64 (answerI (kindI s)))] ⟨by kernel_rfl, by kernel_rfl, by kernel_rfl, by kernel_rfl, by kernel_rfl, by kernel_rfl, trivial⟩ ?_
            refine at_then_normal ?_
            refine at_ret (by kernel_rfl) ?_
            refine at_backR [.bool false] (Γ) (rs := [.tmp 4]) (by kernel_rfl) (.cons (.tmp (by kernel_rfl)) .nil) (fun w hw => hw.less (.drop .here (.drop .here (.drop .here .refl)))) ?_
            exact ⟨congrArg Value.bool (by simp [fitsB, wantI, answer_ne h1 h2, *]), rfl⟩
        · refine s_pure 23 (.bool false) (by kernel_rfl) (by kernel_rfl) (run_eq (v := .bool (decide (pid = id))) (fun _ => by kernel_rfl) (congrArg Value.bool (by rw [decide_eq_false h4]))) ?_
          refine s_pure 24 (.bool false) (by kernel_rfl) (by kernel_rfl) (fun _ => by kernel_rfl) ?_
          refine s_pure 25 (.bool false) (by kernel_rfl) (by kernel_rfl) (fun _ => by kernel_rfl) ?_
          refine s_pass 26 (by kernel_rfl) (by kernel_rfl) ?_
          refine s_pass 27 (by kernel_rfl) (by kernel_rfl) ?_
          refine s_pass 28 (by kernel_rfl) (by kernel_rfl) ?_
          refine s_pass 29 (by kernel_rfl) (by kernel_rfl) ?_
          refine s_pass 30 (by kernel_rfl) (by kernel_rfl) ?_
          refine s_pure 31 (.bool false) (by kernel_rfl) (by kernel_rfl) (fun _ => by kernel_rfl) ?_
          refine s_pure 4 (.bool false) (by kernel_rfl) (by kernel_rfl) (fun _ => by kernel_rfl) ?_
          refine ops_end ?_
          refine At.env [(0, .agg #[.int .i64 k, .int .i64 line, .int .i64 id, .int .i64 s, .int .i64 state, .int .i64 head, .slice a m cap, .int .i64 next, .int .i64 told]), (1, .agg #[.int .i64 pk, .int .i64 pf, .int .i64 pt, .int .i64 pid, .int .i64 pl, .int .i64 pp, .int .i64 ps, .bool pfl, .slice pa pm pc]), (2, .pointer (some ⟨b1, 0, none⟩)), (3, .pointer (some ⟨b2, 0, none⟩)), (4, .bool false), (5, .int .i64 (answerI (kindI s)))] ⟨by kernel_rfl, by kernel_rfl, by kernel_rfl, by kernel_rfl, by kernel_rfl, by kernel_rfl, trivial⟩ ?_
          refine at_then_normal ?_
          refine at_ret (by kernel_rfl) ?_
          refine at_backR [.bool false] (Γ) (rs := [.tmp 4]) (by kernel_rfl) (.cons (.tmp (by kernel_rfl)) .nil) (fun w hw => hw.less (.drop .here (.drop .here (.drop .here .refl)))) ?_
          exact ⟨congrArg Value.bool (by simp [fitsB, wantI, answer_ne h1 h2, *]), rfl⟩
      · refine s_pure 16 (.bool false) (by kernel_rfl) (by kernel_rfl) (run_eq (v := .bool (decide (pk = (answerI (kindI s))))) (fun _ => by kernel_rfl) (congrArg Value.bool (by rw [decide_eq_false h3]))) ?_
        refine s_pure 17 (.bool false) (by kernel_rfl) (by kernel_rfl) (fun _ => by kernel_rfl) ?_
        refine s_pure 18 (.bool false) (by kernel_rfl) (by kernel_rfl) (fun _ => by kernel_rfl) ?_
        refine s_pass 19 (by kernel_rfl) (by kernel_rfl) ?_
        refine s_pass 20 (by kernel_rfl) (by kernel_rfl) ?_
        refine s_pass 21 (by kernel_rfl) (by kernel_rfl) ?_
        refine s_pass 22 (by kernel_rfl) (by kernel_rfl) ?_
        refine s_pass 23 (by kernel_rfl) (by kernel_rfl) ?_
        refine s_pure 24 (.bool false) (by kernel_rfl) (by kernel_rfl) (fun _ => by kernel_rfl) ?_
        refine s_pure 25 (.bool false) (by kernel_rfl) (by kernel_rfl) (fun _ => by kernel_rfl) ?_
        refine s_pass 26 (by kernel_rfl) (by kernel_rfl) ?_
        refine s_pass 27 (by kernel_rfl) (by kernel_rfl) ?_
        refine s_pass 28 (by kernel_rfl) (by kernel_rfl) ?_
        refine s_pass 29 (by kernel_rfl) (by kernel_rfl) ?_
        refine s_pass 30 (by kernel_rfl) (by kernel_rfl) ?_
        refine s_pure 31 (.bool false) (by kernel_rfl) (by kernel_rfl) (fun _ => by kernel_rfl) ?_
        refine s_pure 4 (.bool false) (by kernel_rfl) (by kernel_rfl) (fun _ => by kernel_rfl) ?_
        refine ops_end ?_
        refine At.env [(0, .agg #[.int .i64 k, .int .i64 line, .int .i64 id, .int .i64 s, .int .i64 state, .int .i64 head, .slice a m cap, .int .i64 next, .int .i64 told]), (1, .agg #[.int .i64 pk, .int .i64 pf, .int .i64 pt, .int .i64 pid, .int .i64 pl, .int .i64 pp, .int .i64 ps, .bool pfl, .slice pa pm pc]), (2, .pointer (some ⟨b1, 0, none⟩)), (3, .pointer (some ⟨b2, 0, none⟩)), (4, .bool false), (5, .int .i64 (answerI (kindI s)))] ⟨by kernel_rfl, by kernel_rfl, by kernel_rfl, by kernel_rfl, by kernel_rfl, by kernel_rfl, trivial⟩ ?_
        refine at_then_normal ?_
        refine at_ret (by kernel_rfl) ?_
        refine at_backR [.bool false] (Γ) (rs := [.tmp 4]) (by kernel_rfl) (.cons (.tmp (by kernel_rfl)) .nil) (fun w hw => hw.less (.drop .here (.drop .here (.drop .here .refl)))) ?_
        exact ⟨congrArg Value.bool (by simp [fitsB, wantI, answer_ne h1 h2, *]), rfl⟩
end Go.Proofs.Ytpcffplbedbpkaa
