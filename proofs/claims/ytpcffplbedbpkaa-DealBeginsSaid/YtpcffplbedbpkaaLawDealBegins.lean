/- The law DealBegins answers true at every input. -/
import Derived.Test.YtpcffplbedbpkaaDealA
namespace Go.Proofs.Ytpcffplbedbpkaa
open Go Go.RowKit
noncomputable def C7 (p : List Nat) : Code := codeAt (bodyOf Try.f7) p
set_option maxRecDepth 100000 in
theorem DealBegins_tr {W0 : World} (k line id node home : Int) : Tr Try.prog 7 #[.int .i64 k, .int .i64 line, .int .i64 id, .int .i64 node, .int .i64 home] W0 ([]) (fun r _ => r = .bool true) := by
  refine Tr.enter (fn := Try.f7) (c := C7 []) (args := [.int .i64 k, .int .i64 line, .int .i64 id, .int .i64 node, .int .i64 home]) 141 Try.func7 (by kernel_rfl) (by kernel_rfl) ?_
  refine At.env [(0, .int .i64 k), (1, .int .i64 line), (2, .int .i64 id), (3, .int .i64 node), (4, .int .i64 home)] ⟨by kernel_rfl, by kernel_rfl, by kernel_rfl, by kernel_rfl, by kernel_rfl, trivial⟩ ?_
  refine at_seq (x := C7 [0]) (y := C7 [1]) (by kernel_rfl) ?_
  refine at_region (id := 0) 1 (by kernel_rfl) (by kernel_rfl) ?_
  refine s_pure 10 (.bool false) (by kernel_rfl) (by kernel_rfl) (fun _ => by kernel_rfl) ?_
  refine ops_end ?_
  refine At.env [(0, .int .i64 k), (1, .int .i64 line), (2, .int .i64 id), (3, .int .i64 node), (4, .int .i64 home), (10, .bool false)] ⟨by kernel_rfl, by kernel_rfl, by kernel_rfl, by kernel_rfl, by kernel_rfl, by kernel_rfl, trivial⟩ ?_
  refine at_then_normal ?_
  refine at_seq (x := C7 [1, 0]) (y := C7 [1, 1]) (by kernel_rfl) ?_
  refine at_region (id := 1) 16 (by kernel_rfl) (by kernel_rfl) ?_
  refine s_pure 14 (.int .i64 k) (by kernel_rfl) (by kernel_rfl) (fun _ => by kernel_rfl) ?_
  refine s_quiet 15 (.int .i64 (k % 3)) 12 #[.int .i64 k, .int .i64 (3)] (by kernel_rfl) (by kernel_rfl) (fun _ => by kernel_rfl) (Within_tr (k) (3) (by omega) (by omega)) ?_
  refine s_pure 16 (.int .i64 (1 + (k % 3))) (by kernel_rfl) (by kernel_rfl) (run_eq (v := .int .i64 (IntKind.i64.wrap (1 + (k % 3)))) (fun _ => by kernel_rfl) (by rw [wrap_in (by omega) (by omega)])) ?_
  refine s_pure 17 (.int .i64 line) (by kernel_rfl) (by kernel_rfl) (fun _ => by kernel_rfl) ?_
  refine s_quiet 18 (.int .i64 (line % 8)) 12 #[.int .i64 line, .int .i64 (8)] (by kernel_rfl) (by kernel_rfl) (fun _ => by kernel_rfl) (Within_tr (line) (8) (by omega) (by omega)) ?_
  refine s_pure 19 (.int .i64 id) (by kernel_rfl) (by kernel_rfl) (fun _ => by kernel_rfl) ?_
  refine s_quiet 20 (.int .i64 (id % 4096)) 12 #[.int .i64 id, .int .i64 (4096)] (by kernel_rfl) (by kernel_rfl) (fun _ => by kernel_rfl) (Within_tr (id) (4096) (by omega) (by omega)) ?_
  refine s_pure 21 (.int .i64 node) (by kernel_rfl) (by kernel_rfl) (fun _ => by kernel_rfl) ?_
  refine s_quiet 22 (.int .i64 (node % 6)) 12 #[.int .i64 node, .int .i64 (6)] (by kernel_rfl) (by kernel_rfl) (fun _ => by kernel_rfl) (Within_tr (node) (6) (by omega) (by omega)) ?_
  refine s_pure 23 (.int .i64 home) (by kernel_rfl) (by kernel_rfl) (fun _ => by kernel_rfl) ?_
  refine s_quiet 24 (.int .i64 (home % 6)) 12 #[.int .i64 home, .int .i64 (6)] (by kernel_rfl) (by kernel_rfl) (fun _ => by kernel_rfl) (Within_tr (home) (6) (by omega) (by omega)) ?_
  refine s_pure 0 (.int .i64 (1 + (k % 3))) (by kernel_rfl) (by kernel_rfl) (fun _ => by kernel_rfl) ?_
  refine s_pure 1 (.int .i64 (line % 8)) (by kernel_rfl) (by kernel_rfl) (fun _ => by kernel_rfl) ?_
  refine s_pure 2 (.int .i64 (id % 4096)) (by kernel_rfl) (by kernel_rfl) (fun _ => by kernel_rfl) ?_
  refine s_pure 3 (.int .i64 (node % 6)) (by kernel_rfl) (by kernel_rfl) (fun _ => by kernel_rfl) ?_
  refine s_pure 4 (.int .i64 (home % 6)) (by kernel_rfl) (by kernel_rfl) (fun _ => by kernel_rfl) ?_
  refine ops_end ?_
  refine At.env [(0, .int .i64 (1 + (k % 3))), (1, .int .i64 (line % 8)), (2, .int .i64 (id % 4096)), (3, .int .i64 (node % 6)), (4, .int .i64 (home % 6)), (10, .bool false)] ⟨by kernel_rfl, by kernel_rfl, by kernel_rfl, by kernel_rfl, by kernel_rfl, by kernel_rfl, trivial⟩ ?_
  refine at_then_normal ?_
  refine at_seq (x := C7 [1, 1, 0]) (y := C7 [1, 1, 1]) (by kernel_rfl) ?_
  refine at_region (id := 2) 6 (by kernel_rfl) (by kernel_rfl) ?_
  refine s_pure 25 (.int .i64 (1 + (k % 3))) (by kernel_rfl) (by kernel_rfl) (fun _ => by kernel_rfl) ?_
  refine s_pure 26 (.int .i64 (line % 8)) (by kernel_rfl) (by kernel_rfl) (fun _ => by kernel_rfl) ?_
  refine s_pure 27 (.int .i64 (id % 4096)) (by kernel_rfl) (by kernel_rfl) (fun _ => by kernel_rfl) ?_
  refine s_quiet 28 (.agg #[.int .i64 (1 + (k % 3)), .int .i64 (line % 8), .int .i64 (id % 4096), .int .i64 (1), .int .i64 (0), .int .i64 (-1), .slice none 0 0, .int .i64 (-1), .int .i64 (-1)]) 30 #[.int .i64 (1 + (k % 3)), .int .i64 (line % 8), .int .i64 (id % 4096)] (by kernel_rfl) (by kernel_rfl) (fun _ => by kernel_rfl) (Begin_tr (1 + (k % 3)) (line % 8) (id % 4096)) ?_
  refine s_step 11 (by kernel_rfl) (by kernel_rfl) (st_new (T := 36) (cells := #[.int .i64 (0), .int .i64 (0), .int .i64 (0), .int .i64 (0), .int .i64 (0), .int .i64 (0), .slice none 0 0, .int .i64 (0), .int .i64 (0)]) (fun a => .pointer (some a)) (fun _ => by kernel_rfl)) ?_
  rintro _ _ ⟨b1, rfl, rfl⟩
  refine s_do (by kernel_rfl) (by kernel_rfl) (st_store (off := 0) (vs := [.int .i64 (1 + (k % 3)), .int .i64 (line % 8), .int .i64 (id % 4096), .int .i64 (1), .int .i64 (0), .int .i64 (-1), .slice none 0 0, .int .i64 (-1), .int .i64 (-1)]) (c' := #[.int .i64 (1 + (k % 3)), .int .i64 (line % 8), .int .i64 (id % 4096), .int .i64 (1), .int .i64 (0), .int .i64 (-1), .slice none 0 0, .int .i64 (-1), .int .i64 (-1)]) (fun _ => by kernel_rfl) .here (by kernel_rfl) (by kernel_rfl) (by kernel_rfl)) ?_
  rintro _ _ ⟨rfl, rfl⟩
  refine ops_end ?_
  refine At.env [(0, .int .i64 (1 + (k % 3))), (1, .int .i64 (line % 8)), (2, .int .i64 (id % 4096)), (3, .int .i64 (node % 6)), (4, .int .i64 (home % 6)), (10, .bool false), (11, .pointer (some ⟨b1, 0, none⟩))] ⟨by kernel_rfl, by kernel_rfl, by kernel_rfl, by kernel_rfl, by kernel_rfl, by kernel_rfl, by kernel_rfl, trivial⟩ ?_
  refine at_then_normal ?_
  refine at_seq (x := C7 [1, 1, 1, 0]) (y := C7 [1, 1, 1, 1]) (by kernel_rfl) ?_
  refine at_seq (x := C7 [1, 1, 1, 0, 0]) (y := C7 [1, 1, 1, 0, 1]) (by kernel_rfl) ?_
  refine at_region (id := 3) 47 (by kernel_rfl) (by kernel_rfl) ?_
  refine s_pure 29 (.pointer (some ⟨b1, 0, none⟩)) (by kernel_rfl) (by kernel_rfl) (fun _ => by kernel_rfl) ?_
  refine s_load 30 (.int .i64 (1 + (k % 3))) (by kernel_rfl) (by kernel_rfl) (load1 (off := 0) (fun _ => by kernel_rfl) (holds_own .here) (by kernel_rfl)) ?_
  refine s_pure 31 (.int .i64 (1 + (k % 3))) (by kernel_rfl) (by kernel_rfl) (fun _ => by kernel_rfl) ?_
  refine s_pure 32 (.bool false) (by kernel_rfl) (by kernel_rfl) (run_eq (v := .bool (!(decide ((1 + (k % 3)) = (1 + (k % 3)))))) (fun _ => by kernel_rfl) (congrArg Value.bool (by rw [decide_eq_true rfl]; rfl))) ?_
  refine s_pure 33 (.bool false) (by kernel_rfl) (by kernel_rfl) (fun _ => by kernel_rfl) ?_
  refine s_pure 34 (.pointer (some ⟨b1, 1, none⟩)) (by kernel_rfl) (by kernel_rfl) (fun _ => by kernel_rfl) ?_
  refine s_load 35 (.int .i64 (line % 8)) (by kernel_rfl) (by kernel_rfl) (load1 (off := 1) (fun _ => by kernel_rfl) (holds_own .here) (by kernel_rfl)) ?_
  refine s_pure 36 (.int .i64 (line % 8)) (by kernel_rfl) (by kernel_rfl) (fun _ => by kernel_rfl) ?_
  refine s_pure 37 (.bool false) (by kernel_rfl) (by kernel_rfl) (run_eq (v := .bool (!(decide ((line % 8) = (line % 8))))) (fun _ => by kernel_rfl) (congrArg Value.bool (by rw [decide_eq_true rfl]; rfl))) ?_
  refine s_pure 38 (.bool false) (by kernel_rfl) (by kernel_rfl) (fun _ => by kernel_rfl) ?_
  refine s_pure 39 (.bool false) (by kernel_rfl) (by kernel_rfl) (fun _ => by kernel_rfl) ?_
  refine s_pure 40 (.pointer (some ⟨b1, 2, none⟩)) (by kernel_rfl) (by kernel_rfl) (fun _ => by kernel_rfl) ?_
  refine s_load 41 (.int .i64 (id % 4096)) (by kernel_rfl) (by kernel_rfl) (load1 (off := 2) (fun _ => by kernel_rfl) (holds_own .here) (by kernel_rfl)) ?_
  refine s_pure 42 (.int .i64 (id % 4096)) (by kernel_rfl) (by kernel_rfl) (fun _ => by kernel_rfl) ?_
  refine s_pure 43 (.bool false) (by kernel_rfl) (by kernel_rfl) (run_eq (v := .bool (!(decide ((id % 4096) = (id % 4096))))) (fun _ => by kernel_rfl) (congrArg Value.bool (by rw [decide_eq_true rfl]; rfl))) ?_
  refine s_pure 44 (.bool false) (by kernel_rfl) (by kernel_rfl) (fun _ => by kernel_rfl) ?_
  refine s_pure 45 (.bool false) (by kernel_rfl) (by kernel_rfl) (fun _ => by kernel_rfl) ?_
  refine s_pure 46 (.pointer (some ⟨b1, 3, none⟩)) (by kernel_rfl) (by kernel_rfl) (fun _ => by kernel_rfl) ?_
  refine s_load 47 (.int .i64 (1)) (by kernel_rfl) (by kernel_rfl) (load1 (off := 3) (fun _ => by kernel_rfl) (holds_own .here) (by kernel_rfl)) ?_
  refine s_pure 48 (.bool false) (by kernel_rfl) (by kernel_rfl) (fun _ => by kernel_rfl) ?_
  refine s_pure 49 (.bool false) (by kernel_rfl) (by kernel_rfl) (fun _ => by kernel_rfl) ?_
  refine s_pure 50 (.bool false) (by kernel_rfl) (by kernel_rfl) (fun _ => by kernel_rfl) ?_
  refine s_pure 51 (.pointer (some ⟨b1, 4, none⟩)) (by kernel_rfl) (by kernel_rfl) (fun _ => by kernel_rfl) ?_
  refine s_load 52 (.int .i64 (0)) (by kernel_rfl) (by kernel_rfl) (load1 (off := 4) (fun _ => by kernel_rfl) (holds_own .here) (by kernel_rfl)) ?_
  refine s_pure 53 (.bool false) (by kernel_rfl) (by kernel_rfl) (fun _ => by kernel_rfl) ?_
  refine s_pure 54 (.bool false) (by kernel_rfl) (by kernel_rfl) (fun _ => by kernel_rfl) ?_
  refine s_pure 55 (.bool false) (by kernel_rfl) (by kernel_rfl) (fun _ => by kernel_rfl) ?_
  refine s_pure 56 (.pointer (some ⟨b1, 5, none⟩)) (by kernel_rfl) (by kernel_rfl) (fun _ => by kernel_rfl) ?_
  refine s_load 57 (.int .i64 (-1)) (by kernel_rfl) (by kernel_rfl) (load1 (off := 5) (fun _ => by kernel_rfl) (holds_own .here) (by kernel_rfl)) ?_
  refine s_pure 58 (.bool false) (by kernel_rfl) (by kernel_rfl) (fun _ => by kernel_rfl) ?_
  refine s_pure 59 (.bool false) (by kernel_rfl) (by kernel_rfl) (fun _ => by kernel_rfl) ?_
  refine s_pure 60 (.bool false) (by kernel_rfl) (by kernel_rfl) (fun _ => by kernel_rfl) ?_
  refine s_pure 61 (.pointer (some ⟨b1, 7, none⟩)) (by kernel_rfl) (by kernel_rfl) (fun _ => by kernel_rfl) ?_
  refine s_load 62 (.int .i64 (-1)) (by kernel_rfl) (by kernel_rfl) (load1 (off := 7) (fun _ => by kernel_rfl) (holds_own .here) (by kernel_rfl)) ?_
  refine s_pure 63 (.bool false) (by kernel_rfl) (by kernel_rfl) (fun _ => by kernel_rfl) ?_
  refine s_pure 64 (.bool false) (by kernel_rfl) (by kernel_rfl) (fun _ => by kernel_rfl) ?_
  refine s_pure 65 (.bool false) (by kernel_rfl) (by kernel_rfl) (fun _ => by kernel_rfl) ?_
  refine s_pure 66 (.pointer (some ⟨b1, 8, none⟩)) (by kernel_rfl) (by kernel_rfl) (fun _ => by kernel_rfl) ?_
  refine s_load 67 (.int .i64 (-1)) (by kernel_rfl) (by kernel_rfl) (load1 (off := 8) (fun _ => by kernel_rfl) (holds_own .here) (by kernel_rfl)) ?_
  refine s_pure 68 (.bool false) (by kernel_rfl) (by kernel_rfl) (fun _ => by kernel_rfl) ?_
  refine s_pure 69 (.bool false) (by kernel_rfl) (by kernel_rfl) (fun _ => by kernel_rfl) ?_
  refine s_pure 70 (.bool false) (by kernel_rfl) (by kernel_rfl) (fun _ => by kernel_rfl) ?_
  refine s_pure 71 (.pointer (some ⟨b1, 6, none⟩)) (by kernel_rfl) (by kernel_rfl) (fun _ => by kernel_rfl) ?_
  refine s_load 72 (.slice none 0 0) (by kernel_rfl) (by kernel_rfl) (load1 (off := 6) (fun _ => by kernel_rfl) (holds_own .here) (by kernel_rfl)) ?_
  refine s_pure 73 (.int .i64 (0)) (by kernel_rfl) (by kernel_rfl) (fun _ => by kernel_rfl) ?_
  refine s_pure 74 (.bool false) (by kernel_rfl) (by kernel_rfl) (fun _ => by kernel_rfl) ?_
  refine s_pure 75 (.bool false) (by kernel_rfl) (by kernel_rfl) (fun _ => by kernel_rfl) ?_
  refine ops_end ?_
  refine At.env [(0, .int .i64 (1 + (k % 3))), (1, .int .i64 (line % 8)), (2, .int .i64 (id % 4096)), (3, .int .i64 (node % 6)), (4, .int .i64 (home % 6)), (10, .bool false), (11, .pointer (some ⟨b1, 0, none⟩)), (75, .bool false)] ⟨by kernel_rfl, by kernel_rfl, by kernel_rfl, by kernel_rfl, by kernel_rfl, by kernel_rfl, by kernel_rfl, by kernel_rfl, trivial⟩ ?_
  refine at_then_normal ?_
  refine at_false (t := false) (x := C7 [1, 1, 1, 0, 1, 0]) (y := C7 [1, 1, 1, 0, 1, 1]) (o := .tmp 75) (by kernel_rfl) (by kernel_rfl) (by kernel_rfl) rfl ?_
  refine at_skip (by kernel_rfl) ?_
  refine at_then_normal ?_
  refine at_seq (x := C7 [1, 1, 1, 1, 0]) (y := C7 [1, 1, 1, 1, 1]) (by kernel_rfl) ?_
  refine at_region (id := 5) 6 (by kernel_rfl) (by kernel_rfl) ?_
  refine s_load 76 (.agg #[.int .i64 (1 + (k % 3)), .int .i64 (line % 8), .int .i64 (id % 4096), .int .i64 (1), .int .i64 (0), .int .i64 (-1), .slice none 0 0, .int .i64 (-1), .int .i64 (-1)]) (by kernel_rfl) (by kernel_rfl) (loadN (off := 0) (vs := [.int .i64 (1 + (k % 3)), .int .i64 (line % 8), .int .i64 (id % 4096), .int .i64 (1), .int .i64 (0), .int .i64 (-1), .slice none 0 0, .int .i64 (-1), .int .i64 (-1)]) 9 (fun _ => by kernel_rfl) (holds_own .here) rfl (by exact ⟨rfl, rfl, rfl, rfl, rfl, rfl, rfl, rfl, rfl, trivial⟩)) ?_
  refine s_pure 77 (.int .i64 (node % 6)) (by kernel_rfl) (by kernel_rfl) (fun _ => by kernel_rfl) ?_
  refine s_pure 78 (.int .i64 (home % 6)) (by kernel_rfl) (by kernel_rfl) (fun _ => by kernel_rfl) ?_
  refine s_quiet 79 (.agg #[.int .i64 (1), .int .i64 (node % 6), .int .i64 (home % 6), .int .i64 (id % 4096), .int .i64 (line % 8), .int .i64 (0), .int .i64 (0), .bool false, .slice none 0 0]) 20 #[.agg #[.int .i64 (1 + (k % 3)), .int .i64 (line % 8), .int .i64 (id % 4096), .int .i64 (1), .int .i64 (0), .int .i64 (-1), .slice none 0 0, .int .i64 (-1), .int .i64 (-1)], .int .i64 (node % 6), .int .i64 (home % 6)] (by kernel_rfl) (by kernel_rfl) (fun _ => by kernel_rfl) (Ask_1 (1 + (k % 3)) (line % 8) (id % 4096) (0) ((-1)) ((-1)) ((-1)) none 0 0 (node % 6) (home % 6)) ?_
  refine s_step 12 (by kernel_rfl) (by kernel_rfl) (st_new (T := 38) (cells := #[.int .i64 (0), .int .i64 (0), .int .i64 (0), .int .i64 (0), .int .i64 (0), .int .i64 (0), .int .i64 (0), .bool false, .slice none 0 0]) (fun a => .pointer (some a)) (fun _ => by kernel_rfl)) ?_
  rintro _ _ ⟨b2, rfl, rfl⟩
  refine s_do (by kernel_rfl) (by kernel_rfl) (st_store (off := 0) (vs := [.int .i64 (1), .int .i64 (node % 6), .int .i64 (home % 6), .int .i64 (id % 4096), .int .i64 (line % 8), .int .i64 (0), .int .i64 (0), .bool false, .slice none 0 0]) (c' := #[.int .i64 (1), .int .i64 (node % 6), .int .i64 (home % 6), .int .i64 (id % 4096), .int .i64 (line % 8), .int .i64 (0), .int .i64 (0), .bool false, .slice none 0 0]) (fun _ => by kernel_rfl) .here (by kernel_rfl) (by kernel_rfl) (by kernel_rfl)) ?_
  rintro _ _ ⟨rfl, rfl⟩
  refine ops_end ?_
  refine At.env [(0, .int .i64 (1 + (k % 3))), (1, .int .i64 (line % 8)), (2, .int .i64 (id % 4096)), (3, .int .i64 (node % 6)), (4, .int .i64 (home % 6)), (10, .bool false), (11, .pointer (some ⟨b1, 0, none⟩)), (12, .pointer (some ⟨b2, 0, none⟩)), (75, .bool false)] ⟨by kernel_rfl, by kernel_rfl, by kernel_rfl, by kernel_rfl, by kernel_rfl, by kernel_rfl, by kernel_rfl, by kernel_rfl, by kernel_rfl, trivial⟩ ?_
  refine at_then_normal ?_
  refine at_seq (x := C7 [1, 1, 1, 1, 1, 0]) (y := C7 [1, 1, 1, 1, 1, 1]) (by kernel_rfl) ?_
  refine at_seq (x := C7 [1, 1, 1, 1, 1, 0, 0]) (y := C7 [1, 1, 1, 1, 1, 0, 1]) (by kernel_rfl) ?_
  refine at_region (id := 6) 47 (by kernel_rfl) (by kernel_rfl) ?_
  refine s_pure 80 (.pointer (some ⟨b2, 0, none⟩)) (by kernel_rfl) (by kernel_rfl) (fun _ => by kernel_rfl) ?_
  refine s_load 81 (.int .i64 (1)) (by kernel_rfl) (by kernel_rfl) (load1 (off := 0) (fun _ => by kernel_rfl) (holds_own .here) (by kernel_rfl)) ?_
  refine s_pure 82 (.bool false) (by kernel_rfl) (by kernel_rfl) (fun _ => by kernel_rfl) ?_
  refine s_pure 83 (.bool false) (by kernel_rfl) (by kernel_rfl) (fun _ => by kernel_rfl) ?_
  refine s_pure 84 (.pointer (some ⟨b2, 1, none⟩)) (by kernel_rfl) (by kernel_rfl) (fun _ => by kernel_rfl) ?_
  refine s_load 85 (.int .i64 (node % 6)) (by kernel_rfl) (by kernel_rfl) (load1 (off := 1) (fun _ => by kernel_rfl) (holds_own .here) (by kernel_rfl)) ?_
  refine s_pure 86 (.int .i64 (node % 6)) (by kernel_rfl) (by kernel_rfl) (fun _ => by kernel_rfl) ?_
  refine s_pure 87 (.bool false) (by kernel_rfl) (by kernel_rfl) (run_eq (v := .bool (!(decide ((node % 6) = (node % 6))))) (fun _ => by kernel_rfl) (congrArg Value.bool (by rw [decide_eq_true rfl]; rfl))) ?_
  refine s_pure 88 (.bool false) (by kernel_rfl) (by kernel_rfl) (fun _ => by kernel_rfl) ?_
  refine s_pure 89 (.bool false) (by kernel_rfl) (by kernel_rfl) (fun _ => by kernel_rfl) ?_
  refine s_pure 90 (.pointer (some ⟨b2, 2, none⟩)) (by kernel_rfl) (by kernel_rfl) (fun _ => by kernel_rfl) ?_
  refine s_load 91 (.int .i64 (home % 6)) (by kernel_rfl) (by kernel_rfl) (load1 (off := 2) (fun _ => by kernel_rfl) (holds_own .here) (by kernel_rfl)) ?_
  refine s_pure 92 (.int .i64 (home % 6)) (by kernel_rfl) (by kernel_rfl) (fun _ => by kernel_rfl) ?_
  refine s_pure 93 (.bool false) (by kernel_rfl) (by kernel_rfl) (run_eq (v := .bool (!(decide ((home % 6) = (home % 6))))) (fun _ => by kernel_rfl) (congrArg Value.bool (by rw [decide_eq_true rfl]; rfl))) ?_
  refine s_pure 94 (.bool false) (by kernel_rfl) (by kernel_rfl) (fun _ => by kernel_rfl) ?_
  refine s_pure 95 (.bool false) (by kernel_rfl) (by kernel_rfl) (fun _ => by kernel_rfl) ?_
  refine s_pure 96 (.pointer (some ⟨b2, 3, none⟩)) (by kernel_rfl) (by kernel_rfl) (fun _ => by kernel_rfl) ?_
  refine s_load 97 (.int .i64 (id % 4096)) (by kernel_rfl) (by kernel_rfl) (load1 (off := 3) (fun _ => by kernel_rfl) (holds_own .here) (by kernel_rfl)) ?_
  refine s_pure 98 (.int .i64 (id % 4096)) (by kernel_rfl) (by kernel_rfl) (fun _ => by kernel_rfl) ?_
  refine s_pure 99 (.bool false) (by kernel_rfl) (by kernel_rfl) (run_eq (v := .bool (!(decide ((id % 4096) = (id % 4096))))) (fun _ => by kernel_rfl) (congrArg Value.bool (by rw [decide_eq_true rfl]; rfl))) ?_
  refine s_pure 100 (.bool false) (by kernel_rfl) (by kernel_rfl) (fun _ => by kernel_rfl) ?_
  refine s_pure 101 (.bool false) (by kernel_rfl) (by kernel_rfl) (fun _ => by kernel_rfl) ?_
  refine s_pure 102 (.pointer (some ⟨b2, 4, none⟩)) (by kernel_rfl) (by kernel_rfl) (fun _ => by kernel_rfl) ?_
  refine s_load 103 (.int .i64 (line % 8)) (by kernel_rfl) (by kernel_rfl) (load1 (off := 4) (fun _ => by kernel_rfl) (holds_own .here) (by kernel_rfl)) ?_
  refine s_pure 104 (.int .i64 (line % 8)) (by kernel_rfl) (by kernel_rfl) (fun _ => by kernel_rfl) ?_
  refine s_pure 105 (.bool false) (by kernel_rfl) (by kernel_rfl) (run_eq (v := .bool (!(decide ((line % 8) = (line % 8))))) (fun _ => by kernel_rfl) (congrArg Value.bool (by rw [decide_eq_true rfl]; rfl))) ?_
  refine s_pure 106 (.bool false) (by kernel_rfl) (by kernel_rfl) (fun _ => by kernel_rfl) ?_
  refine s_pure 107 (.bool false) (by kernel_rfl) (by kernel_rfl) (fun _ => by kernel_rfl) ?_
  refine s_pure 108 (.pointer (some ⟨b2, 5, none⟩)) (by kernel_rfl) (by kernel_rfl) (fun _ => by kernel_rfl) ?_
  refine s_load 109 (.int .i64 (0)) (by kernel_rfl) (by kernel_rfl) (load1 (off := 5) (fun _ => by kernel_rfl) (holds_own .here) (by kernel_rfl)) ?_
  refine s_pure 110 (.bool false) (by kernel_rfl) (by kernel_rfl) (fun _ => by kernel_rfl) ?_
  refine s_pure 111 (.bool false) (by kernel_rfl) (by kernel_rfl) (fun _ => by kernel_rfl) ?_
  refine s_pure 112 (.bool false) (by kernel_rfl) (by kernel_rfl) (fun _ => by kernel_rfl) ?_
  refine s_pure 113 (.pointer (some ⟨b2, 6, none⟩)) (by kernel_rfl) (by kernel_rfl) (fun _ => by kernel_rfl) ?_
  refine s_load 114 (.int .i64 (0)) (by kernel_rfl) (by kernel_rfl) (load1 (off := 6) (fun _ => by kernel_rfl) (holds_own .here) (by kernel_rfl)) ?_
  refine s_pure 115 (.bool false) (by kernel_rfl) (by kernel_rfl) (fun _ => by kernel_rfl) ?_
  refine s_pure 116 (.bool false) (by kernel_rfl) (by kernel_rfl) (fun _ => by kernel_rfl) ?_
  refine s_pure 117 (.bool false) (by kernel_rfl) (by kernel_rfl) (fun _ => by kernel_rfl) ?_
  refine s_pure 118 (.pointer (some ⟨b2, 7, none⟩)) (by kernel_rfl) (by kernel_rfl) (fun _ => by kernel_rfl) ?_
  refine s_load 119 (.bool false) (by kernel_rfl) (by kernel_rfl) (load1 (off := 7) (fun _ => by kernel_rfl) (holds_own .here) (by kernel_rfl)) ?_
  refine s_pure 120 (.bool false) (by kernel_rfl) (by kernel_rfl) (fun _ => by kernel_rfl) ?_
  refine s_pure 121 (.bool false) (by kernel_rfl) (by kernel_rfl) (fun _ => by kernel_rfl) ?_
  refine s_pure 122 (.pointer (some ⟨b2, 8, none⟩)) (by kernel_rfl) (by kernel_rfl) (fun _ => by kernel_rfl) ?_
  refine s_load 123 (.slice none 0 0) (by kernel_rfl) (by kernel_rfl) (load1 (off := 8) (fun _ => by kernel_rfl) (holds_own .here) (by kernel_rfl)) ?_
  refine s_pure 124 (.int .i64 (0)) (by kernel_rfl) (by kernel_rfl) (fun _ => by kernel_rfl) ?_
  refine s_pure 125 (.bool false) (by kernel_rfl) (by kernel_rfl) (fun _ => by kernel_rfl) ?_
  refine s_pure 126 (.bool false) (by kernel_rfl) (by kernel_rfl) (fun _ => by kernel_rfl) ?_
  refine ops_end ?_
  refine At.env [(0, .int .i64 (1 + (k % 3))), (1, .int .i64 (line % 8)), (2, .int .i64 (id % 4096)), (3, .int .i64 (node % 6)), (4, .int .i64 (home % 6)), (10, .bool false), (11, .pointer (some ⟨b1, 0, none⟩)), (12, .pointer (some ⟨b2, 0, none⟩)), (75, .bool false), (126, .bool false)] ⟨by kernel_rfl, by kernel_rfl, by kernel_rfl, by kernel_rfl, by kernel_rfl, by kernel_rfl, by kernel_rfl, by kernel_rfl, by kernel_rfl, by kernel_rfl, trivial⟩ ?_
  refine at_then_normal ?_
  refine at_false (t := false) (x := C7 [1, 1, 1, 1, 1, 0, 1, 0]) (y := C7 [1, 1, 1, 1, 1, 0, 1, 1]) (o := .tmp 126) (by kernel_rfl) (by kernel_rfl) (by kernel_rfl) rfl ?_
  refine at_skip (by kernel_rfl) ?_
  refine at_then_normal ?_
  refine at_seq (x := C7 [1, 1, 1, 1, 1, 1, 0]) (y := C7 [1, 1, 1, 1, 1, 1, 1]) (by kernel_rfl) ?_
  refine at_seq (x := C7 [1, 1, 1, 1, 1, 1, 0, 0]) (y := C7 [1, 1, 1, 1, 1, 1, 0, 1]) (by kernel_rfl) ?_
  refine at_region (id := 8) 1 (by kernel_rfl) (by kernel_rfl) ?_
  refine s_pure 13 (.int .i64 (0)) (by kernel_rfl) (by kernel_rfl) (fun _ => by kernel_rfl) ?_
  refine ops_end ?_
  refine At.env [(0, .int .i64 (1 + (k % 3))), (1, .int .i64 (line % 8)), (2, .int .i64 (id % 4096)), (3, .int .i64 (node % 6)), (4, .int .i64 (home % 6)), (10, .bool false), (11, .pointer (some ⟨b1, 0, none⟩)), (12, .pointer (some ⟨b2, 0, none⟩)), (13, .int .i64 (0)), (75, .bool false), (126, .bool false)] ⟨by kernel_rfl, by kernel_rfl, by kernel_rfl, by kernel_rfl, by kernel_rfl, by kernel_rfl, by kernel_rfl, by kernel_rfl, by kernel_rfl, by kernel_rfl, by kernel_rfl, trivial⟩ ?_
  refine at_then_normal ?_
  refine at_block (i := 0) (x := C7 [1, 1, 1, 1, 1, 1, 0, 1, 0]) (by kernel_rfl) ?_
  refine at_unroll (x := C7 [1, 1, 1, 1, 1, 1, 0, 1, 0, 0]) 12 (by kernel_rfl) ?_
  refine at_rounds ?_
  refine at_seq (x := C7 [1, 1, 1, 1, 1, 1, 0, 1, 0, 0, 0]) (y := C7 [1, 1, 1, 1, 1, 1, 0, 1, 0, 0, 1]) (by kernel_rfl) ?_
  refine at_seq (x := C7 [1, 1, 1, 1, 1, 1, 0, 1, 0, 0, 0, 0]) (y := C7 [1, 1, 1, 1, 1, 1, 0, 1, 0, 0, 0, 1]) (by kernel_rfl) ?_
  refine at_region (id := 9) 2 (by kernel_rfl) (by kernel_rfl) ?_
  refine s_pure 127 (.int .i64 (0)) (by kernel_rfl) (by kernel_rfl) (fun _ => by kernel_rfl) ?_
  refine s_pure 128 (.bool true) (by kernel_rfl) (by kernel_rfl) (fun _ => by kernel_rfl) ?_
  refine ops_end ?_
  refine At.env [(0, .int .i64 (1 + (k % 3))), (1, .int .i64 (line % 8)), (2, .int .i64 (id % 4096)), (3, .int .i64 (node % 6)), (4, .int .i64 (home % 6)), (10, .bool false), (11, .pointer (some ⟨b1, 0, none⟩)), (12, .pointer (some ⟨b2, 0, none⟩)), (13, .int .i64 (0)), (75, .bool false), (126, .bool false), (128, .bool true)] ⟨by kernel_rfl, by kernel_rfl, by kernel_rfl, by kernel_rfl, by kernel_rfl, by kernel_rfl, by kernel_rfl, by kernel_rfl, by kernel_rfl, by kernel_rfl, by kernel_rfl, by kernel_rfl, trivial⟩ ?_
  refine at_then_normal ?_
  refine at_true (t := true) (x := C7 [1, 1, 1, 1, 1, 1, 0, 1, 0, 0, 0, 1, 0]) (y := C7 [1, 1, 1, 1, 1, 1, 0, 1, 0, 0, 0, 1, 1]) (o := .tmp 128) (by kernel_rfl) (by kernel_rfl) (by kernel_rfl) rfl ?_
  refine at_skip (by kernel_rfl) ?_
  refine at_then_normal ?_
  refine at_seq (x := C7 [1, 1, 1, 1, 1, 1, 0, 1, 0, 0, 1, 0]) (y := C7 [1, 1, 1, 1, 1, 1, 0, 1, 0, 0, 1, 1]) (by kernel_rfl) ?_
  refine at_block (i := 1) (x := C7 [1, 1, 1, 1, 1, 1, 0, 1, 0, 0, 1, 0, 0]) (by kernel_rfl) ?_
  refine at_seq (x := C7 [1, 1, 1, 1, 1, 1, 0, 1, 0, 0, 1, 0, 0, 0]) (y := C7 [1, 1, 1, 1, 1, 1, 0, 1, 0, 0, 1, 0, 0, 1]) (by kernel_rfl) ?_
  refine at_region (id := 11) 9 (by kernel_rfl) (by kernel_rfl) ?_
  refine s_load 131 (.agg #[.int .i64 (1 + (k % 3)), .int .i64 (line % 8), .int .i64 (id % 4096), .int .i64 (1), .int .i64 (0), .int .i64 (-1), .slice none 0 0, .int .i64 (-1), .int .i64 (-1)]) (by kernel_rfl) (by kernel_rfl) (loadN (off := 0) (vs := [.int .i64 (1 + (k % 3)), .int .i64 (line % 8), .int .i64 (id % 4096), .int .i64 (1), .int .i64 (0), .int .i64 (-1), .slice none 0 0, .int .i64 (-1), .int .i64 (-1)]) 9 (fun _ => by kernel_rfl) (holds_own (.there .here)) rfl (by exact ⟨rfl, rfl, rfl, rfl, rfl, rfl, rfl, rfl, rfl, trivial⟩)) ?_
  refine s_pure 132 (.int .i64 (0)) (by kernel_rfl) (by kernel_rfl) (fun _ => by kernel_rfl) ?_
  refine s_pure 133 (.int .i64 (line % 8)) (by kernel_rfl) (by kernel_rfl) (fun _ => by kernel_rfl) ?_
  refine s_pure 134 (.int .i64 (id % 4096)) (by kernel_rfl) (by kernel_rfl) (fun _ => by kernel_rfl) ?_
  refine s_pure 135 (.agg #[.int .i64 (0), .int .i64 (0), .int .i64 (0), .int .i64 (id % 4096), .int .i64 (line % 8), .int .i64 (3), .int .i64 (1), .bool true, .slice none 0 0]) (by kernel_rfl) (by kernel_rfl) (fun _ => by kernel_rfl) ?_
  refine s_quiet 136 (.bool false) 27 #[.agg #[.int .i64 (1 + (k % 3)), .int .i64 (line % 8), .int .i64 (id % 4096), .int .i64 (1), .int .i64 (0), .int .i64 (-1), .slice none 0 0, .int .i64 (-1), .int .i64 (-1)], .agg #[.int .i64 (0), .int .i64 (0), .int .i64 (0), .int .i64 (id % 4096), .int .i64 (line % 8), .int .i64 (3), .int .i64 (1), .bool true, .slice none 0 0]] (by kernel_rfl) (by kernel_rfl) (fun _ => by kernel_rfl) (Tr.as (Fits_tr (1) (1 + (k % 3)) (line % 8) (id % 4096) (0) ((-1)) ((-1)) ((-1)) none 0 0 (0) (0) (0) (id % 4096) (line % 8) (3) (1) true none 0 0) (congrArg Value.bool (show fitsB (1) (id % 4096) (line % 8) (0) (id % 4096) (line % 8) = false from by simp [fitsB, wantI, answerI, kindI]))) ?_
  refine s_pure 137 (.int .i64 (0)) (by kernel_rfl) (by kernel_rfl) (fun _ => by kernel_rfl) ?_
  refine s_pure 138 (.bool false) (by kernel_rfl) (by kernel_rfl) (fun _ => by kernel_rfl) ?_
  refine s_pure 139 (.bool false) (by kernel_rfl) (by kernel_rfl) (fun _ => by kernel_rfl) ?_
  refine ops_end ?_
  refine At.env [(0, .int .i64 (1 + (k % 3))), (1, .int .i64 (line % 8)), (2, .int .i64 (id % 4096)), (3, .int .i64 (node % 6)), (4, .int .i64 (home % 6)), (10, .bool false), (11, .pointer (some ⟨b1, 0, none⟩)), (12, .pointer (some ⟨b2, 0, none⟩)), (13, .int .i64 (0)), (75, .bool false), (126, .bool false), (128, .bool true), (139, .bool false)] ⟨by kernel_rfl, by kernel_rfl, by kernel_rfl, by kernel_rfl, by kernel_rfl, by kernel_rfl, by kernel_rfl, by kernel_rfl, by kernel_rfl, by kernel_rfl, by kernel_rfl, by kernel_rfl, by kernel_rfl, trivial⟩ ?_
  refine at_then_normal ?_
  refine at_false (t := false) (x := C7 [1, 1, 1, 1, 1, 1, 0, 1, 0, 0, 1, 0, 0, 1, 0]) (y := C7 [1, 1, 1, 1, 1, 1, 0, 1, 0, 0, 1, 0, 0, 1, 1]) (o := .tmp 139) (by kernel_rfl) (by kernel_rfl) (by kernel_rfl) rfl ?_
  refine at_skip (by kernel_rfl) ?_
  refine at_in_normal ?_
  refine at_then_normal ?_
  refine at_region (id := 10) 3 (by kernel_rfl) (by kernel_rfl) ?_
  refine s_pure 129 (.int .i64 (0)) (by kernel_rfl) (by kernel_rfl) (fun _ => by kernel_rfl) ?_
  refine s_pure 130 (.int .i64 (1)) (by kernel_rfl) (by kernel_rfl) (fun _ => by kernel_rfl) ?_
  refine s_pure 13 (.int .i64 (1)) (by kernel_rfl) (by kernel_rfl) (fun _ => by kernel_rfl) ?_
  refine ops_end ?_
  refine At.env [(0, .int .i64 (1 + (k % 3))), (1, .int .i64 (line % 8)), (2, .int .i64 (id % 4096)), (3, .int .i64 (node % 6)), (4, .int .i64 (home % 6)), (10, .bool false), (11, .pointer (some ⟨b1, 0, none⟩)), (12, .pointer (some ⟨b2, 0, none⟩)), (13, .int .i64 (1)), (75, .bool false), (126, .bool false), (128, .bool true), (139, .bool false)] ⟨by kernel_rfl, by kernel_rfl, by kernel_rfl, by kernel_rfl, by kernel_rfl, by kernel_rfl, by kernel_rfl, by kernel_rfl, by kernel_rfl, by kernel_rfl, by kernel_rfl, by kernel_rfl, by kernel_rfl, trivial⟩ ?_
  refine at_round_normal ?_
  refine at_rounds ?_
  refine at_seq (x := C7 [1, 1, 1, 1, 1, 1, 0, 1, 0, 0, 0]) (y := C7 [1, 1, 1, 1, 1, 1, 0, 1, 0, 0, 1]) (by kernel_rfl) ?_
  refine at_seq (x := C7 [1, 1, 1, 1, 1, 1, 0, 1, 0, 0, 0, 0]) (y := C7 [1, 1, 1, 1, 1, 1, 0, 1, 0, 0, 0, 1]) (by kernel_rfl) ?_
  refine at_region (id := 9) 2 (by kernel_rfl) (by kernel_rfl) ?_
  refine s_pure 127 (.int .i64 (1)) (by kernel_rfl) (by kernel_rfl) (fun _ => by kernel_rfl) ?_
  refine s_pure 128 (.bool true) (by kernel_rfl) (by kernel_rfl) (fun _ => by kernel_rfl) ?_
  refine ops_end ?_
  refine At.env [(0, .int .i64 (1 + (k % 3))), (1, .int .i64 (line % 8)), (2, .int .i64 (id % 4096)), (3, .int .i64 (node % 6)), (4, .int .i64 (home % 6)), (10, .bool false), (11, .pointer (some ⟨b1, 0, none⟩)), (12, .pointer (some ⟨b2, 0, none⟩)), (13, .int .i64 (1)), (75, .bool false), (126, .bool false), (128, .bool true), (139, .bool false)] ⟨by kernel_rfl, by kernel_rfl, by kernel_rfl, by kernel_rfl, by kernel_rfl, by kernel_rfl, by kernel_rfl, by kernel_rfl, by kernel_rfl, by kernel_rfl, by kernel_rfl, by kernel_rfl, by kernel_rfl, trivial⟩ ?_
  refine at_then_normal ?_
  refine at_true (t := true) (x := C7 [1, 1, 1, 1, 1, 1, 0, 1, 0, 0, 0, 1, 0]) (y := C7 [1, 1, 1, 1, 1, 1, 0, 1, 0, 0, 0, 1, 1]) (o := .tmp 128) (by kernel_rfl) (by kernel_rfl) (by kernel_rfl) rfl ?_
  refine at_skip (by kernel_rfl) ?_
  refine at_then_normal ?_
  refine at_seq (x := C7 [1, 1, 1, 1, 1, 1, 0, 1, 0, 0, 1, 0]) (y := C7 [1, 1, 1, 1, 1, 1, 0, 1, 0, 0, 1, 1]) (by kernel_rfl) ?_
  refine at_block (i := 1) (x := C7 [1, 1, 1, 1, 1, 1, 0, 1, 0, 0, 1, 0, 0]) (by kernel_rfl) ?_
  refine at_seq (x := C7 [1, 1, 1, 1, 1, 1, 0, 1, 0, 0, 1, 0, 0, 0]) (y := C7 [1, 1, 1, 1, 1, 1, 0, 1, 0, 0, 1, 0, 0, 1]) (by kernel_rfl) ?_
  refine at_region (id := 11) 9 (by kernel_rfl) (by kernel_rfl) ?_
  refine s_load 131 (.agg #[.int .i64 (1 + (k % 3)), .int .i64 (line % 8), .int .i64 (id % 4096), .int .i64 (1), .int .i64 (0), .int .i64 (-1), .slice none 0 0, .int .i64 (-1), .int .i64 (-1)]) (by kernel_rfl) (by kernel_rfl) (loadN (off := 0) (vs := [.int .i64 (1 + (k % 3)), .int .i64 (line % 8), .int .i64 (id % 4096), .int .i64 (1), .int .i64 (0), .int .i64 (-1), .slice none 0 0, .int .i64 (-1), .int .i64 (-1)]) 9 (fun _ => by kernel_rfl) (holds_own (.there .here)) rfl (by exact ⟨rfl, rfl, rfl, rfl, rfl, rfl, rfl, rfl, rfl, trivial⟩)) ?_
  refine s_pure 132 (.int .i64 (1)) (by kernel_rfl) (by kernel_rfl) (fun _ => by kernel_rfl) ?_
  refine s_pure 133 (.int .i64 (line % 8)) (by kernel_rfl) (by kernel_rfl) (fun _ => by kernel_rfl) ?_
  refine s_pure 134 (.int .i64 (id % 4096)) (by kernel_rfl) (by kernel_rfl) (fun _ => by kernel_rfl) ?_
  refine s_pure 135 (.agg #[.int .i64 (1), .int .i64 (0), .int .i64 (0), .int .i64 (id % 4096), .int .i64 (line % 8), .int .i64 (3), .int .i64 (1), .bool true, .slice none 0 0]) (by kernel_rfl) (by kernel_rfl) (fun _ => by kernel_rfl) ?_
  refine s_quiet 136 (.bool false) 27 #[.agg #[.int .i64 (1 + (k % 3)), .int .i64 (line % 8), .int .i64 (id % 4096), .int .i64 (1), .int .i64 (0), .int .i64 (-1), .slice none 0 0, .int .i64 (-1), .int .i64 (-1)], .agg #[.int .i64 (1), .int .i64 (0), .int .i64 (0), .int .i64 (id % 4096), .int .i64 (line % 8), .int .i64 (3), .int .i64 (1), .bool true, .slice none 0 0]] (by kernel_rfl) (by kernel_rfl) (fun _ => by kernel_rfl) (Tr.as (Fits_tr (1) (1 + (k % 3)) (line % 8) (id % 4096) (0) ((-1)) ((-1)) ((-1)) none 0 0 (1) (0) (0) (id % 4096) (line % 8) (3) (1) true none 0 0) (congrArg Value.bool (show fitsB (1) (id % 4096) (line % 8) (1) (id % 4096) (line % 8) = false from by simp [fitsB, wantI, answerI, kindI]))) ?_
  refine s_pure 137 (.int .i64 (1)) (by kernel_rfl) (by kernel_rfl) (fun _ => by kernel_rfl) ?_
  refine s_pure 138 (.bool false) (by kernel_rfl) (by kernel_rfl) (fun _ => by kernel_rfl) ?_
  refine s_pure 139 (.bool false) (by kernel_rfl) (by kernel_rfl) (fun _ => by kernel_rfl) ?_
  refine ops_end ?_
  refine At.env [(0, .int .i64 (1 + (k % 3))), (1, .int .i64 (line % 8)), (2, .int .i64 (id % 4096)), (3, .int .i64 (node % 6)), (4, .int .i64 (home % 6)), (10, .bool false), (11, .pointer (some ⟨b1, 0, none⟩)), (12, .pointer (some ⟨b2, 0, none⟩)), (13, .int .i64 (1)), (75, .bool false), (126, .bool false), (128, .bool true), (139, .bool false)] ⟨by kernel_rfl, by kernel_rfl, by kernel_rfl, by kernel_rfl, by kernel_rfl, by kernel_rfl, by kernel_rfl, by kernel_rfl, by kernel_rfl, by kernel_rfl, by kernel_rfl, by kernel_rfl, by kernel_rfl, trivial⟩ ?_
  refine at_then_normal ?_
  refine at_false (t := false) (x := C7 [1, 1, 1, 1, 1, 1, 0, 1, 0, 0, 1, 0, 0, 1, 0]) (y := C7 [1, 1, 1, 1, 1, 1, 0, 1, 0, 0, 1, 0, 0, 1, 1]) (o := .tmp 139) (by kernel_rfl) (by kernel_rfl) (by kernel_rfl) rfl ?_
  refine at_skip (by kernel_rfl) ?_
  refine at_in_normal ?_
  refine at_then_normal ?_
  refine at_region (id := 10) 3 (by kernel_rfl) (by kernel_rfl) ?_
  refine s_pure 129 (.int .i64 (1)) (by kernel_rfl) (by kernel_rfl) (fun _ => by kernel_rfl) ?_
  refine s_pure 130 (.int .i64 (2)) (by kernel_rfl) (by kernel_rfl) (fun _ => by kernel_rfl) ?_
  refine s_pure 13 (.int .i64 (2)) (by kernel_rfl) (by kernel_rfl) (fun _ => by kernel_rfl) ?_
  refine ops_end ?_
  refine At.env [(0, .int .i64 (1 + (k % 3))), (1, .int .i64 (line % 8)), (2, .int .i64 (id % 4096)), (3, .int .i64 (node % 6)), (4, .int .i64 (home % 6)), (10, .bool false), (11, .pointer (some ⟨b1, 0, none⟩)), (12, .pointer (some ⟨b2, 0, none⟩)), (13, .int .i64 (2)), (75, .bool false), (126, .bool false), (128, .bool true), (139, .bool false)] ⟨by kernel_rfl, by kernel_rfl, by kernel_rfl, by kernel_rfl, by kernel_rfl, by kernel_rfl, by kernel_rfl, by kernel_rfl, by kernel_rfl, by kernel_rfl, by kernel_rfl, by kernel_rfl, by kernel_rfl, trivial⟩ ?_
  refine at_round_normal ?_
  refine at_rounds ?_
  refine at_seq (x := C7 [1, 1, 1, 1, 1, 1, 0, 1, 0, 0, 0]) (y := C7 [1, 1, 1, 1, 1, 1, 0, 1, 0, 0, 1]) (by kernel_rfl) ?_
  refine at_seq (x := C7 [1, 1, 1, 1, 1, 1, 0, 1, 0, 0, 0, 0]) (y := C7 [1, 1, 1, 1, 1, 1, 0, 1, 0, 0, 0, 1]) (by kernel_rfl) ?_
  refine at_region (id := 9) 2 (by kernel_rfl) (by kernel_rfl) ?_
  refine s_pure 127 (.int .i64 (2)) (by kernel_rfl) (by kernel_rfl) (fun _ => by kernel_rfl) ?_
  refine s_pure 128 (.bool true) (by kernel_rfl) (by kernel_rfl) (fun _ => by kernel_rfl) ?_
  refine ops_end ?_
  refine At.env [(0, .int .i64 (1 + (k % 3))), (1, .int .i64 (line % 8)), (2, .int .i64 (id % 4096)), (3, .int .i64 (node % 6)), (4, .int .i64 (home % 6)), (10, .bool false), (11, .pointer (some ⟨b1, 0, none⟩)), (12, .pointer (some ⟨b2, 0, none⟩)), (13, .int .i64 (2)), (75, .bool false), (126, .bool false), (128, .bool true), (139, .bool false)] ⟨by kernel_rfl, by kernel_rfl, by kernel_rfl, by kernel_rfl, by kernel_rfl, by kernel_rfl, by kernel_rfl, by kernel_rfl, by kernel_rfl, by kernel_rfl, by kernel_rfl, by kernel_rfl, by kernel_rfl, trivial⟩ ?_
  refine at_then_normal ?_
  refine at_true (t := true) (x := C7 [1, 1, 1, 1, 1, 1, 0, 1, 0, 0, 0, 1, 0]) (y := C7 [1, 1, 1, 1, 1, 1, 0, 1, 0, 0, 0, 1, 1]) (o := .tmp 128) (by kernel_rfl) (by kernel_rfl) (by kernel_rfl) rfl ?_
  refine at_skip (by kernel_rfl) ?_
  refine at_then_normal ?_
  refine at_seq (x := C7 [1, 1, 1, 1, 1, 1, 0, 1, 0, 0, 1, 0]) (y := C7 [1, 1, 1, 1, 1, 1, 0, 1, 0, 0, 1, 1]) (by kernel_rfl) ?_
  refine at_block (i := 1) (x := C7 [1, 1, 1, 1, 1, 1, 0, 1, 0, 0, 1, 0, 0]) (by kernel_rfl) ?_
  refine at_seq (x := C7 [1, 1, 1, 1, 1, 1, 0, 1, 0, 0, 1, 0, 0, 0]) (y := C7 [1, 1, 1, 1, 1, 1, 0, 1, 0, 0, 1, 0, 0, 1]) (by kernel_rfl) ?_
  refine at_region (id := 11) 9 (by kernel_rfl) (by kernel_rfl) ?_
  refine s_load 131 (.agg #[.int .i64 (1 + (k % 3)), .int .i64 (line % 8), .int .i64 (id % 4096), .int .i64 (1), .int .i64 (0), .int .i64 (-1), .slice none 0 0, .int .i64 (-1), .int .i64 (-1)]) (by kernel_rfl) (by kernel_rfl) (loadN (off := 0) (vs := [.int .i64 (1 + (k % 3)), .int .i64 (line % 8), .int .i64 (id % 4096), .int .i64 (1), .int .i64 (0), .int .i64 (-1), .slice none 0 0, .int .i64 (-1), .int .i64 (-1)]) 9 (fun _ => by kernel_rfl) (holds_own (.there .here)) rfl (by exact ⟨rfl, rfl, rfl, rfl, rfl, rfl, rfl, rfl, rfl, trivial⟩)) ?_
  refine s_pure 132 (.int .i64 (2)) (by kernel_rfl) (by kernel_rfl) (fun _ => by kernel_rfl) ?_
  refine s_pure 133 (.int .i64 (line % 8)) (by kernel_rfl) (by kernel_rfl) (fun _ => by kernel_rfl) ?_
  refine s_pure 134 (.int .i64 (id % 4096)) (by kernel_rfl) (by kernel_rfl) (fun _ => by kernel_rfl) ?_
  refine s_pure 135 (.agg #[.int .i64 (2), .int .i64 (0), .int .i64 (0), .int .i64 (id % 4096), .int .i64 (line % 8), .int .i64 (3), .int .i64 (1), .bool true, .slice none 0 0]) (by kernel_rfl) (by kernel_rfl) (fun _ => by kernel_rfl) ?_
  refine s_quiet 136 (.bool false) 27 #[.agg #[.int .i64 (1 + (k % 3)), .int .i64 (line % 8), .int .i64 (id % 4096), .int .i64 (1), .int .i64 (0), .int .i64 (-1), .slice none 0 0, .int .i64 (-1), .int .i64 (-1)], .agg #[.int .i64 (2), .int .i64 (0), .int .i64 (0), .int .i64 (id % 4096), .int .i64 (line % 8), .int .i64 (3), .int .i64 (1), .bool true, .slice none 0 0]] (by kernel_rfl) (by kernel_rfl) (fun _ => by kernel_rfl) (Tr.as (Fits_tr (1) (1 + (k % 3)) (line % 8) (id % 4096) (0) ((-1)) ((-1)) ((-1)) none 0 0 (2) (0) (0) (id % 4096) (line % 8) (3) (1) true none 0 0) (congrArg Value.bool (show fitsB (1) (id % 4096) (line % 8) (2) (id % 4096) (line % 8) = false from by simp [fitsB, wantI, answerI, kindI]))) ?_
  refine s_pure 137 (.int .i64 (2)) (by kernel_rfl) (by kernel_rfl) (fun _ => by kernel_rfl) ?_
  refine s_pure 138 (.bool false) (by kernel_rfl) (by kernel_rfl) (fun _ => by kernel_rfl) ?_
  refine s_pure 139 (.bool false) (by kernel_rfl) (by kernel_rfl) (fun _ => by kernel_rfl) ?_
  refine ops_end ?_
  refine At.env [(0, .int .i64 (1 + (k % 3))), (1, .int .i64 (line % 8)), (2, .int .i64 (id % 4096)), (3, .int .i64 (node % 6)), (4, .int .i64 (home % 6)), (10, .bool false), (11, .pointer (some ⟨b1, 0, none⟩)), (12, .pointer (some ⟨b2, 0, none⟩)), (13, .int .i64 (2)), (75, .bool false), (126, .bool false), (128, .bool true), (139, .bool false)] ⟨by kernel_rfl, by kernel_rfl, by kernel_rfl, by kernel_rfl, by kernel_rfl, by kernel_rfl, by kernel_rfl, by kernel_rfl, by kernel_rfl, by kernel_rfl, by kernel_rfl, by kernel_rfl, by kernel_rfl, trivial⟩ ?_
  refine at_then_normal ?_
  refine at_false (t := false) (x := C7 [1, 1, 1, 1, 1, 1, 0, 1, 0, 0, 1, 0, 0, 1, 0]) (y := C7 [1, 1, 1, 1, 1, 1, 0, 1, 0, 0, 1, 0, 0, 1, 1]) (o := .tmp 139) (by kernel_rfl) (by kernel_rfl) (by kernel_rfl) rfl ?_
  refine at_skip (by kernel_rfl) ?_
  refine at_in_normal ?_
  refine at_then_normal ?_
  refine at_region (id := 10) 3 (by kernel_rfl) (by kernel_rfl) ?_
  refine s_pure 129 (.int .i64 (2)) (by kernel_rfl) (by kernel_rfl) (fun _ => by kernel_rfl) ?_
  refine s_pure 130 (.int .i64 (3)) (by kernel_rfl) (by kernel_rfl) (fun _ => by kernel_rfl) ?_
  refine s_pure 13 (.int .i64 (3)) (by kernel_rfl) (by kernel_rfl) (fun _ => by kernel_rfl) ?_
  refine ops_end ?_
  refine At.env [(0, .int .i64 (1 + (k % 3))), (1, .int .i64 (line % 8)), (2, .int .i64 (id % 4096)), (3, .int .i64 (node % 6)), (4, .int .i64 (home % 6)), (10, .bool false), (11, .pointer (some ⟨b1, 0, none⟩)), (12, .pointer (some ⟨b2, 0, none⟩)), (13, .int .i64 (3)), (75, .bool false), (126, .bool false), (128, .bool true), (139, .bool false)] ⟨by kernel_rfl, by kernel_rfl, by kernel_rfl, by kernel_rfl, by kernel_rfl, by kernel_rfl, by kernel_rfl, by kernel_rfl, by kernel_rfl, by kernel_rfl, by kernel_rfl, by kernel_rfl, by kernel_rfl, trivial⟩ ?_
  refine at_round_normal ?_
  refine at_rounds ?_
  refine at_seq (x := C7 [1, 1, 1, 1, 1, 1, 0, 1, 0, 0, 0]) (y := C7 [1, 1, 1, 1, 1, 1, 0, 1, 0, 0, 1]) (by kernel_rfl) ?_
  refine at_seq (x := C7 [1, 1, 1, 1, 1, 1, 0, 1, 0, 0, 0, 0]) (y := C7 [1, 1, 1, 1, 1, 1, 0, 1, 0, 0, 0, 1]) (by kernel_rfl) ?_
  refine at_region (id := 9) 2 (by kernel_rfl) (by kernel_rfl) ?_
  refine s_pure 127 (.int .i64 (3)) (by kernel_rfl) (by kernel_rfl) (fun _ => by kernel_rfl) ?_
  refine s_pure 128 (.bool true) (by kernel_rfl) (by kernel_rfl) (fun _ => by kernel_rfl) ?_
  refine ops_end ?_
  refine At.env [(0, .int .i64 (1 + (k % 3))), (1, .int .i64 (line % 8)), (2, .int .i64 (id % 4096)), (3, .int .i64 (node % 6)), (4, .int .i64 (home % 6)), (10, .bool false), (11, .pointer (some ⟨b1, 0, none⟩)), (12, .pointer (some ⟨b2, 0, none⟩)), (13, .int .i64 (3)), (75, .bool false), (126, .bool false), (128, .bool true), (139, .bool false)] ⟨by kernel_rfl, by kernel_rfl, by kernel_rfl, by kernel_rfl, by kernel_rfl, by kernel_rfl, by kernel_rfl, by kernel_rfl, by kernel_rfl, by kernel_rfl, by kernel_rfl, by kernel_rfl, by kernel_rfl, trivial⟩ ?_
  refine at_then_normal ?_
  refine at_true (t := true) (x := C7 [1, 1, 1, 1, 1, 1, 0, 1, 0, 0, 0, 1, 0]) (y := C7 [1, 1, 1, 1, 1, 1, 0, 1, 0, 0, 0, 1, 1]) (o := .tmp 128) (by kernel_rfl) (by kernel_rfl) (by kernel_rfl) rfl ?_
  refine at_skip (by kernel_rfl) ?_
  refine at_then_normal ?_
  refine at_seq (x := C7 [1, 1, 1, 1, 1, 1, 0, 1, 0, 0, 1, 0]) (y := C7 [1, 1, 1, 1, 1, 1, 0, 1, 0, 0, 1, 1]) (by kernel_rfl) ?_
  refine at_block (i := 1) (x := C7 [1, 1, 1, 1, 1, 1, 0, 1, 0, 0, 1, 0, 0]) (by kernel_rfl) ?_
  refine at_seq (x := C7 [1, 1, 1, 1, 1, 1, 0, 1, 0, 0, 1, 0, 0, 0]) (y := C7 [1, 1, 1, 1, 1, 1, 0, 1, 0, 0, 1, 0, 0, 1]) (by kernel_rfl) ?_
  refine at_region (id := 11) 9 (by kernel_rfl) (by kernel_rfl) ?_
  refine s_load 131 (.agg #[.int .i64 (1 + (k % 3)), .int .i64 (line % 8), .int .i64 (id % 4096), .int .i64 (1), .int .i64 (0), .int .i64 (-1), .slice none 0 0, .int .i64 (-1), .int .i64 (-1)]) (by kernel_rfl) (by kernel_rfl) (loadN (off := 0) (vs := [.int .i64 (1 + (k % 3)), .int .i64 (line % 8), .int .i64 (id % 4096), .int .i64 (1), .int .i64 (0), .int .i64 (-1), .slice none 0 0, .int .i64 (-1), .int .i64 (-1)]) 9 (fun _ => by kernel_rfl) (holds_own (.there .here)) rfl (by exact ⟨rfl, rfl, rfl, rfl, rfl, rfl, rfl, rfl, rfl, trivial⟩)) ?_
  refine s_pure 132 (.int .i64 (3)) (by kernel_rfl) (by kernel_rfl) (fun _ => by kernel_rfl) ?_
  refine s_pure 133 (.int .i64 (line % 8)) (by kernel_rfl) (by kernel_rfl) (fun _ => by kernel_rfl) ?_
  refine s_pure 134 (.int .i64 (id % 4096)) (by kernel_rfl) (by kernel_rfl) (fun _ => by kernel_rfl) ?_
  refine s_pure 135 (.agg #[.int .i64 (3), .int .i64 (0), .int .i64 (0), .int .i64 (id % 4096), .int .i64 (line % 8), .int .i64 (3), .int .i64 (1), .bool true, .slice none 0 0]) (by kernel_rfl) (by kernel_rfl) (fun _ => by kernel_rfl) ?_
  refine s_quiet 136 (.bool false) 27 #[.agg #[.int .i64 (1 + (k % 3)), .int .i64 (line % 8), .int .i64 (id % 4096), .int .i64 (1), .int .i64 (0), .int .i64 (-1), .slice none 0 0, .int .i64 (-1), .int .i64 (-1)], .agg #[.int .i64 (3), .int .i64 (0), .int .i64 (0), .int .i64 (id % 4096), .int .i64 (line % 8), .int .i64 (3), .int .i64 (1), .bool true, .slice none 0 0]] (by kernel_rfl) (by kernel_rfl) (fun _ => by kernel_rfl) (Tr.as (Fits_tr (1) (1 + (k % 3)) (line % 8) (id % 4096) (0) ((-1)) ((-1)) ((-1)) none 0 0 (3) (0) (0) (id % 4096) (line % 8) (3) (1) true none 0 0) (congrArg Value.bool (show fitsB (1) (id % 4096) (line % 8) (3) (id % 4096) (line % 8) = false from by simp [fitsB, wantI, answerI, kindI]))) ?_
  refine s_pure 137 (.int .i64 (3)) (by kernel_rfl) (by kernel_rfl) (fun _ => by kernel_rfl) ?_
  refine s_pure 138 (.bool false) (by kernel_rfl) (by kernel_rfl) (fun _ => by kernel_rfl) ?_
  refine s_pure 139 (.bool false) (by kernel_rfl) (by kernel_rfl) (fun _ => by kernel_rfl) ?_
  refine ops_end ?_
  refine At.env [(0, .int .i64 (1 + (k % 3))), (1, .int .i64 (line % 8)), (2, .int .i64 (id % 4096)), (3, .int .i64 (node % 6)), (4, .int .i64 (home % 6)), (10, .bool false), (11, .pointer (some ⟨b1, 0, none⟩)), (12, .pointer (some ⟨b2, 0, none⟩)), (13, .int .i64 (3)), (75, .bool false), (126, .bool false), (128, .bool true), (139, .bool false)] ⟨by kernel_rfl, by kernel_rfl, by kernel_rfl, by kernel_rfl, by kernel_rfl, by kernel_rfl, by kernel_rfl, by kernel_rfl, by kernel_rfl, by kernel_rfl, by kernel_rfl, by kernel_rfl, by kernel_rfl, trivial⟩ ?_
  refine at_then_normal ?_
  refine at_false (t := false) (x := C7 [1, 1, 1, 1, 1, 1, 0, 1, 0, 0, 1, 0, 0, 1, 0]) (y := C7 [1, 1, 1, 1, 1, 1, 0, 1, 0, 0, 1, 0, 0, 1, 1]) (o := .tmp 139) (by kernel_rfl) (by kernel_rfl) (by kernel_rfl) rfl ?_
  refine at_skip (by kernel_rfl) ?_
  refine at_in_normal ?_
  refine at_then_normal ?_
  refine at_region (id := 10) 3 (by kernel_rfl) (by kernel_rfl) ?_
  refine s_pure 129 (.int .i64 (3)) (by kernel_rfl) (by kernel_rfl) (fun _ => by kernel_rfl) ?_
  refine s_pure 130 (.int .i64 (4)) (by kernel_rfl) (by kernel_rfl) (fun _ => by kernel_rfl) ?_
  refine s_pure 13 (.int .i64 (4)) (by kernel_rfl) (by kernel_rfl) (fun _ => by kernel_rfl) ?_
  refine ops_end ?_
  refine At.env [(0, .int .i64 (1 + (k % 3))), (1, .int .i64 (line % 8)), (2, .int .i64 (id % 4096)), (3, .int .i64 (node % 6)), (4, .int .i64 (home % 6)), (10, .bool false), (11, .pointer (some ⟨b1, 0, none⟩)), (12, .pointer (some ⟨b2, 0, none⟩)), (13, .int .i64 (4)), (75, .bool false), (126, .bool false), (128, .bool true), (139, .bool false)] ⟨by kernel_rfl, by kernel_rfl, by kernel_rfl, by kernel_rfl, by kernel_rfl, by kernel_rfl, by kernel_rfl, by kernel_rfl, by kernel_rfl, by kernel_rfl, by kernel_rfl, by kernel_rfl, by kernel_rfl, trivial⟩ ?_
  refine at_round_normal ?_
  refine at_rounds ?_
  refine at_seq (x := C7 [1, 1, 1, 1, 1, 1, 0, 1, 0, 0, 0]) (y := C7 [1, 1, 1, 1, 1, 1, 0, 1, 0, 0, 1]) (by kernel_rfl) ?_
  refine at_seq (x := C7 [1, 1, 1, 1, 1, 1, 0, 1, 0, 0, 0, 0]) (y := C7 [1, 1, 1, 1, 1, 1, 0, 1, 0, 0, 0, 1]) (by kernel_rfl) ?_
  refine at_region (id := 9) 2 (by kernel_rfl) (by kernel_rfl) ?_
  refine s_pure 127 (.int .i64 (4)) (by kernel_rfl) (by kernel_rfl) (fun _ => by kernel_rfl) ?_
  refine s_pure 128 (.bool true) (by kernel_rfl) (by kernel_rfl) (fun _ => by kernel_rfl) ?_
  refine ops_end ?_
  refine At.env [(0, .int .i64 (1 + (k % 3))), (1, .int .i64 (line % 8)), (2, .int .i64 (id % 4096)), (3, .int .i64 (node % 6)), (4, .int .i64 (home % 6)), (10, .bool false), (11, .pointer (some ⟨b1, 0, none⟩)), (12, .pointer (some ⟨b2, 0, none⟩)), (13, .int .i64 (4)), (75, .bool false), (126, .bool false), (128, .bool true), (139, .bool false)] ⟨by kernel_rfl, by kernel_rfl, by kernel_rfl, by kernel_rfl, by kernel_rfl, by kernel_rfl, by kernel_rfl, by kernel_rfl, by kernel_rfl, by kernel_rfl, by kernel_rfl, by kernel_rfl, by kernel_rfl, trivial⟩ ?_
  refine at_then_normal ?_
  refine at_true (t := true) (x := C7 [1, 1, 1, 1, 1, 1, 0, 1, 0, 0, 0, 1, 0]) (y := C7 [1, 1, 1, 1, 1, 1, 0, 1, 0, 0, 0, 1, 1]) (o := .tmp 128) (by kernel_rfl) (by kernel_rfl) (by kernel_rfl) rfl ?_
  refine at_skip (by kernel_rfl) ?_
  refine at_then_normal ?_
  refine at_seq (x := C7 [1, 1, 1, 1, 1, 1, 0, 1, 0, 0, 1, 0]) (y := C7 [1, 1, 1, 1, 1, 1, 0, 1, 0, 0, 1, 1]) (by kernel_rfl) ?_
  refine at_block (i := 1) (x := C7 [1, 1, 1, 1, 1, 1, 0, 1, 0, 0, 1, 0, 0]) (by kernel_rfl) ?_
  refine at_seq (x := C7 [1, 1, 1, 1, 1, 1, 0, 1, 0, 0, 1, 0, 0, 0]) (y := C7 [1, 1, 1, 1, 1, 1, 0, 1, 0, 0, 1, 0, 0, 1]) (by kernel_rfl) ?_
  refine at_region (id := 11) 9 (by kernel_rfl) (by kernel_rfl) ?_
  refine s_load 131 (.agg #[.int .i64 (1 + (k % 3)), .int .i64 (line % 8), .int .i64 (id % 4096), .int .i64 (1), .int .i64 (0), .int .i64 (-1), .slice none 0 0, .int .i64 (-1), .int .i64 (-1)]) (by kernel_rfl) (by kernel_rfl) (loadN (off := 0) (vs := [.int .i64 (1 + (k % 3)), .int .i64 (line % 8), .int .i64 (id % 4096), .int .i64 (1), .int .i64 (0), .int .i64 (-1), .slice none 0 0, .int .i64 (-1), .int .i64 (-1)]) 9 (fun _ => by kernel_rfl) (holds_own (.there .here)) rfl (by exact ⟨rfl, rfl, rfl, rfl, rfl, rfl, rfl, rfl, rfl, trivial⟩)) ?_
  refine s_pure 132 (.int .i64 (4)) (by kernel_rfl) (by kernel_rfl) (fun _ => by kernel_rfl) ?_
  refine s_pure 133 (.int .i64 (line % 8)) (by kernel_rfl) (by kernel_rfl) (fun _ => by kernel_rfl) ?_
  refine s_pure 134 (.int .i64 (id % 4096)) (by kernel_rfl) (by kernel_rfl) (fun _ => by kernel_rfl) ?_
  refine s_pure 135 (.agg #[.int .i64 (4), .int .i64 (0), .int .i64 (0), .int .i64 (id % 4096), .int .i64 (line % 8), .int .i64 (3), .int .i64 (1), .bool true, .slice none 0 0]) (by kernel_rfl) (by kernel_rfl) (fun _ => by kernel_rfl) ?_
  refine s_quiet 136 (.bool false) 27 #[.agg #[.int .i64 (1 + (k % 3)), .int .i64 (line % 8), .int .i64 (id % 4096), .int .i64 (1), .int .i64 (0), .int .i64 (-1), .slice none 0 0, .int .i64 (-1), .int .i64 (-1)], .agg #[.int .i64 (4), .int .i64 (0), .int .i64 (0), .int .i64 (id % 4096), .int .i64 (line % 8), .int .i64 (3), .int .i64 (1), .bool true, .slice none 0 0]] (by kernel_rfl) (by kernel_rfl) (fun _ => by kernel_rfl) (Tr.as (Fits_tr (1) (1 + (k % 3)) (line % 8) (id % 4096) (0) ((-1)) ((-1)) ((-1)) none 0 0 (4) (0) (0) (id % 4096) (line % 8) (3) (1) true none 0 0) (congrArg Value.bool (show fitsB (1) (id % 4096) (line % 8) (4) (id % 4096) (line % 8) = false from by simp [fitsB, wantI, answerI, kindI]))) ?_
  refine s_pure 137 (.int .i64 (4)) (by kernel_rfl) (by kernel_rfl) (fun _ => by kernel_rfl) ?_
  refine s_pure 138 (.bool false) (by kernel_rfl) (by kernel_rfl) (fun _ => by kernel_rfl) ?_
  refine s_pure 139 (.bool false) (by kernel_rfl) (by kernel_rfl) (fun _ => by kernel_rfl) ?_
  refine ops_end ?_
  refine At.env [(0, .int .i64 (1 + (k % 3))), (1, .int .i64 (line % 8)), (2, .int .i64 (id % 4096)), (3, .int .i64 (node % 6)), (4, .int .i64 (home % 6)), (10, .bool false), (11, .pointer (some ⟨b1, 0, none⟩)), (12, .pointer (some ⟨b2, 0, none⟩)), (13, .int .i64 (4)), (75, .bool false), (126, .bool false), (128, .bool true), (139, .bool false)] ⟨by kernel_rfl, by kernel_rfl, by kernel_rfl, by kernel_rfl, by kernel_rfl, by kernel_rfl, by kernel_rfl, by kernel_rfl, by kernel_rfl, by kernel_rfl, by kernel_rfl, by kernel_rfl, by kernel_rfl, trivial⟩ ?_
  refine at_then_normal ?_
  refine at_false (t := false) (x := C7 [1, 1, 1, 1, 1, 1, 0, 1, 0, 0, 1, 0, 0, 1, 0]) (y := C7 [1, 1, 1, 1, 1, 1, 0, 1, 0, 0, 1, 0, 0, 1, 1]) (o := .tmp 139) (by kernel_rfl) (by kernel_rfl) (by kernel_rfl) rfl ?_
  refine at_skip (by kernel_rfl) ?_
  refine at_in_normal ?_
  refine at_then_normal ?_
  refine at_region (id := 10) 3 (by kernel_rfl) (by kernel_rfl) ?_
  refine s_pure 129 (.int .i64 (4)) (by kernel_rfl) (by kernel_rfl) (fun _ => by kernel_rfl) ?_
  refine s_pure 130 (.int .i64 (5)) (by kernel_rfl) (by kernel_rfl) (fun _ => by kernel_rfl) ?_
  refine s_pure 13 (.int .i64 (5)) (by kernel_rfl) (by kernel_rfl) (fun _ => by kernel_rfl) ?_
  refine ops_end ?_
  refine At.env [(0, .int .i64 (1 + (k % 3))), (1, .int .i64 (line % 8)), (2, .int .i64 (id % 4096)), (3, .int .i64 (node % 6)), (4, .int .i64 (home % 6)), (10, .bool false), (11, .pointer (some ⟨b1, 0, none⟩)), (12, .pointer (some ⟨b2, 0, none⟩)), (13, .int .i64 (5)), (75, .bool false), (126, .bool false), (128, .bool true), (139, .bool false)] ⟨by kernel_rfl, by kernel_rfl, by kernel_rfl, by kernel_rfl, by kernel_rfl, by kernel_rfl, by kernel_rfl, by kernel_rfl, by kernel_rfl, by kernel_rfl, by kernel_rfl, by kernel_rfl, by kernel_rfl, trivial⟩ ?_
  refine at_round_normal ?_
  refine at_rounds ?_
  refine at_seq (x := C7 [1, 1, 1, 1, 1, 1, 0, 1, 0, 0, 0]) (y := C7 [1, 1, 1, 1, 1, 1, 0, 1, 0, 0, 1]) (by kernel_rfl) ?_
  refine at_seq (x := C7 [1, 1, 1, 1, 1, 1, 0, 1, 0, 0, 0, 0]) (y := C7 [1, 1, 1, 1, 1, 1, 0, 1, 0, 0, 0, 1]) (by kernel_rfl) ?_
  refine at_region (id := 9) 2 (by kernel_rfl) (by kernel_rfl) ?_
  refine s_pure 127 (.int .i64 (5)) (by kernel_rfl) (by kernel_rfl) (fun _ => by kernel_rfl) ?_
  refine s_pure 128 (.bool true) (by kernel_rfl) (by kernel_rfl) (fun _ => by kernel_rfl) ?_
  refine ops_end ?_
  refine At.env [(0, .int .i64 (1 + (k % 3))), (1, .int .i64 (line % 8)), (2, .int .i64 (id % 4096)), (3, .int .i64 (node % 6)), (4, .int .i64 (home % 6)), (10, .bool false), (11, .pointer (some ⟨b1, 0, none⟩)), (12, .pointer (some ⟨b2, 0, none⟩)), (13, .int .i64 (5)), (75, .bool false), (126, .bool false), (128, .bool true), (139, .bool false)] ⟨by kernel_rfl, by kernel_rfl, by kernel_rfl, by kernel_rfl, by kernel_rfl, by kernel_rfl, by kernel_rfl, by kernel_rfl, by kernel_rfl, by kernel_rfl, by kernel_rfl, by kernel_rfl, by kernel_rfl, trivial⟩ ?_
  refine at_then_normal ?_
  refine at_true (t := true) (x := C7 [1, 1, 1, 1, 1, 1, 0, 1, 0, 0, 0, 1, 0]) (y := C7 [1, 1, 1, 1, 1, 1, 0, 1, 0, 0, 0, 1, 1]) (o := .tmp 128) (by kernel_rfl) (by kernel_rfl) (by kernel_rfl) rfl ?_
  refine at_skip (by kernel_rfl) ?_
  refine at_then_normal ?_
  refine at_seq (x := C7 [1, 1, 1, 1, 1, 1, 0, 1, 0, 0, 1, 0]) (y := C7 [1, 1, 1, 1, 1, 1, 0, 1, 0, 0, 1, 1]) (by kernel_rfl) ?_
  refine at_block (i := 1) (x := C7 [1, 1, 1, 1, 1, 1, 0, 1, 0, 0, 1, 0, 0]) (by kernel_rfl) ?_
  refine at_seq (x := C7 [1, 1, 1, 1, 1, 1, 0, 1, 0, 0, 1, 0, 0, 0]) (y := C7 [1, 1, 1, 1, 1, 1, 0, 1, 0, 0, 1, 0, 0, 1]) (by kernel_rfl) ?_
  refine at_region (id := 11) 9 (by kernel_rfl) (by kernel_rfl) ?_
  refine s_load 131 (.agg #[.int .i64 (1 + (k % 3)), .int .i64 (line % 8), .int .i64 (id % 4096), .int .i64 (1), .int .i64 (0), .int .i64 (-1), .slice none 0 0, .int .i64 (-1), .int .i64 (-1)]) (by kernel_rfl) (by kernel_rfl) (loadN (off := 0) (vs := [.int .i64 (1 + (k % 3)), .int .i64 (line % 8), .int .i64 (id % 4096), .int .i64 (1), .int .i64 (0), .int .i64 (-1), .slice none 0 0, .int .i64 (-1), .int .i64 (-1)]) 9 (fun _ => by kernel_rfl) (holds_own (.there .here)) rfl (by exact ⟨rfl, rfl, rfl, rfl, rfl, rfl, rfl, rfl, rfl, trivial⟩)) ?_
  refine s_pure 132 (.int .i64 (5)) (by kernel_rfl) (by kernel_rfl) (fun _ => by kernel_rfl) ?_
  refine s_pure 133 (.int .i64 (line % 8)) (by kernel_rfl) (by kernel_rfl) (fun _ => by kernel_rfl) ?_
  refine s_pure 134 (.int .i64 (id % 4096)) (by kernel_rfl) (by kernel_rfl) (fun _ => by kernel_rfl) ?_
  refine s_pure 135 (.agg #[.int .i64 (5), .int .i64 (0), .int .i64 (0), .int .i64 (id % 4096), .int .i64 (line % 8), .int .i64 (3), .int .i64 (1), .bool true, .slice none 0 0]) (by kernel_rfl) (by kernel_rfl) (fun _ => by kernel_rfl) ?_
  refine s_quiet 136 (.bool false) 27 #[.agg #[.int .i64 (1 + (k % 3)), .int .i64 (line % 8), .int .i64 (id % 4096), .int .i64 (1), .int .i64 (0), .int .i64 (-1), .slice none 0 0, .int .i64 (-1), .int .i64 (-1)], .agg #[.int .i64 (5), .int .i64 (0), .int .i64 (0), .int .i64 (id % 4096), .int .i64 (line % 8), .int .i64 (3), .int .i64 (1), .bool true, .slice none 0 0]] (by kernel_rfl) (by kernel_rfl) (fun _ => by kernel_rfl) (Tr.as (Fits_tr (1) (1 + (k % 3)) (line % 8) (id % 4096) (0) ((-1)) ((-1)) ((-1)) none 0 0 (5) (0) (0) (id % 4096) (line % 8) (3) (1) true none 0 0) (congrArg Value.bool (show fitsB (1) (id % 4096) (line % 8) (5) (id % 4096) (line % 8) = false from by simp [fitsB, wantI, answerI, kindI]))) ?_
  refine s_pure 137 (.int .i64 (5)) (by kernel_rfl) (by kernel_rfl) (fun _ => by kernel_rfl) ?_
  refine s_pure 138 (.bool false) (by kernel_rfl) (by kernel_rfl) (fun _ => by kernel_rfl) ?_
  refine s_pure 139 (.bool false) (by kernel_rfl) (by kernel_rfl) (fun _ => by kernel_rfl) ?_
  refine ops_end ?_
  refine At.env [(0, .int .i64 (1 + (k % 3))), (1, .int .i64 (line % 8)), (2, .int .i64 (id % 4096)), (3, .int .i64 (node % 6)), (4, .int .i64 (home % 6)), (10, .bool false), (11, .pointer (some ⟨b1, 0, none⟩)), (12, .pointer (some ⟨b2, 0, none⟩)), (13, .int .i64 (5)), (75, .bool false), (126, .bool false), (128, .bool true), (139, .bool false)] ⟨by kernel_rfl, by kernel_rfl, by kernel_rfl, by kernel_rfl, by kernel_rfl, by kernel_rfl, by kernel_rfl, by kernel_rfl, by kernel_rfl, by kernel_rfl, by kernel_rfl, by kernel_rfl, by kernel_rfl, trivial⟩ ?_
  refine at_then_normal ?_
  refine at_false (t := false) (x := C7 [1, 1, 1, 1, 1, 1, 0, 1, 0, 0, 1, 0, 0, 1, 0]) (y := C7 [1, 1, 1, 1, 1, 1, 0, 1, 0, 0, 1, 0, 0, 1, 1]) (o := .tmp 139) (by kernel_rfl) (by kernel_rfl) (by kernel_rfl) rfl ?_
  refine at_skip (by kernel_rfl) ?_
  refine at_in_normal ?_
  refine at_then_normal ?_
  refine at_region (id := 10) 3 (by kernel_rfl) (by kernel_rfl) ?_
  refine s_pure 129 (.int .i64 (5)) (by kernel_rfl) (by kernel_rfl) (fun _ => by kernel_rfl) ?_
  refine s_pure 130 (.int .i64 (6)) (by kernel_rfl) (by kernel_rfl) (fun _ => by kernel_rfl) ?_
  refine s_pure 13 (.int .i64 (6)) (by kernel_rfl) (by kernel_rfl) (fun _ => by kernel_rfl) ?_
  refine ops_end ?_
  refine At.env [(0, .int .i64 (1 + (k % 3))), (1, .int .i64 (line % 8)), (2, .int .i64 (id % 4096)), (3, .int .i64 (node % 6)), (4, .int .i64 (home % 6)), (10, .bool false), (11, .pointer (some ⟨b1, 0, none⟩)), (12, .pointer (some ⟨b2, 0, none⟩)), (13, .int .i64 (6)), (75, .bool false), (126, .bool false), (128, .bool true), (139, .bool false)] ⟨by kernel_rfl, by kernel_rfl, by kernel_rfl, by kernel_rfl, by kernel_rfl, by kernel_rfl, by kernel_rfl, by kernel_rfl, by kernel_rfl, by kernel_rfl, by kernel_rfl, by kernel_rfl, by kernel_rfl, trivial⟩ ?_
  refine at_round_normal ?_
  refine at_rounds ?_
  refine at_seq (x := C7 [1, 1, 1, 1, 1, 1, 0, 1, 0, 0, 0]) (y := C7 [1, 1, 1, 1, 1, 1, 0, 1, 0, 0, 1]) (by kernel_rfl) ?_
  refine at_seq (x := C7 [1, 1, 1, 1, 1, 1, 0, 1, 0, 0, 0, 0]) (y := C7 [1, 1, 1, 1, 1, 1, 0, 1, 0, 0, 0, 1]) (by kernel_rfl) ?_
  refine at_region (id := 9) 2 (by kernel_rfl) (by kernel_rfl) ?_
  refine s_pure 127 (.int .i64 (6)) (by kernel_rfl) (by kernel_rfl) (fun _ => by kernel_rfl) ?_
  refine s_pure 128 (.bool true) (by kernel_rfl) (by kernel_rfl) (fun _ => by kernel_rfl) ?_
  refine ops_end ?_
  refine At.env [(0, .int .i64 (1 + (k % 3))), (1, .int .i64 (line % 8)), (2, .int .i64 (id % 4096)), (3, .int .i64 (node % 6)), (4, .int .i64 (home % 6)), (10, .bool false), (11, .pointer (some ⟨b1, 0, none⟩)), (12, .pointer (some ⟨b2, 0, none⟩)), (13, .int .i64 (6)), (75, .bool false), (126, .bool false), (128, .bool true), (139, .bool false)] ⟨by kernel_rfl, by kernel_rfl, by kernel_rfl, by kernel_rfl, by kernel_rfl, by kernel_rfl, by kernel_rfl, by kernel_rfl, by kernel_rfl, by kernel_rfl, by kernel_rfl, by kernel_rfl, by kernel_rfl, trivial⟩ ?_
  refine at_then_normal ?_
  refine at_true (t := true) (x := C7 [1, 1, 1, 1, 1, 1, 0, 1, 0, 0, 0, 1, 0]) (y := C7 [1, 1, 1, 1, 1, 1, 0, 1, 0, 0, 0, 1, 1]) (o := .tmp 128) (by kernel_rfl) (by kernel_rfl) (by kernel_rfl) rfl ?_
  refine at_skip (by kernel_rfl) ?_
  refine at_then_normal ?_
  refine at_seq (x := C7 [1, 1, 1, 1, 1, 1, 0, 1, 0, 0, 1, 0]) (y := C7 [1, 1, 1, 1, 1, 1, 0, 1, 0, 0, 1, 1]) (by kernel_rfl) ?_
  refine at_block (i := 1) (x := C7 [1, 1, 1, 1, 1, 1, 0, 1, 0, 0, 1, 0, 0]) (by kernel_rfl) ?_
  refine at_seq (x := C7 [1, 1, 1, 1, 1, 1, 0, 1, 0, 0, 1, 0, 0, 0]) (y := C7 [1, 1, 1, 1, 1, 1, 0, 1, 0, 0, 1, 0, 0, 1]) (by kernel_rfl) ?_
  refine at_region (id := 11) 9 (by kernel_rfl) (by kernel_rfl) ?_
  refine s_load 131 (.agg #[.int .i64 (1 + (k % 3)), .int .i64 (line % 8), .int .i64 (id % 4096), .int .i64 (1), .int .i64 (0), .int .i64 (-1), .slice none 0 0, .int .i64 (-1), .int .i64 (-1)]) (by kernel_rfl) (by kernel_rfl) (loadN (off := 0) (vs := [.int .i64 (1 + (k % 3)), .int .i64 (line % 8), .int .i64 (id % 4096), .int .i64 (1), .int .i64 (0), .int .i64 (-1), .slice none 0 0, .int .i64 (-1), .int .i64 (-1)]) 9 (fun _ => by kernel_rfl) (holds_own (.there .here)) rfl (by exact ⟨rfl, rfl, rfl, rfl, rfl, rfl, rfl, rfl, rfl, trivial⟩)) ?_
  refine s_pure 132 (.int .i64 (6)) (by kernel_rfl) (by kernel_rfl) (fun _ => by kernel_rfl) ?_
  refine s_pure 133 (.int .i64 (line % 8)) (by kernel_rfl) (by kernel_rfl) (fun _ => by kernel_rfl) ?_
  refine s_pure 134 (.int .i64 (id % 4096)) (by kernel_rfl) (by kernel_rfl) (fun _ => by kernel_rfl) ?_
  refine s_pure 135 (.agg #[.int .i64 (6), .int .i64 (0), .int .i64 (0), .int .i64 (id % 4096), .int .i64 (line % 8), .int .i64 (3), .int .i64 (1), .bool true, .slice none 0 0]) (by kernel_rfl) (by kernel_rfl) (fun _ => by kernel_rfl) ?_
  refine s_quiet 136 (.bool false) 27 #[.agg #[.int .i64 (1 + (k % 3)), .int .i64 (line % 8), .int .i64 (id % 4096), .int .i64 (1), .int .i64 (0), .int .i64 (-1), .slice none 0 0, .int .i64 (-1), .int .i64 (-1)], .agg #[.int .i64 (6), .int .i64 (0), .int .i64 (0), .int .i64 (id % 4096), .int .i64 (line % 8), .int .i64 (3), .int .i64 (1), .bool true, .slice none 0 0]] (by kernel_rfl) (by kernel_rfl) (fun _ => by kernel_rfl) (Tr.as (Fits_tr (1) (1 + (k % 3)) (line % 8) (id % 4096) (0) ((-1)) ((-1)) ((-1)) none 0 0 (6) (0) (0) (id % 4096) (line % 8) (3) (1) true none 0 0) (congrArg Value.bool (show fitsB (1) (id % 4096) (line % 8) (6) (id % 4096) (line % 8) = false from by simp [fitsB, wantI, answerI, kindI]))) ?_
  refine s_pure 137 (.int .i64 (6)) (by kernel_rfl) (by kernel_rfl) (fun _ => by kernel_rfl) ?_
  refine s_pure 138 (.bool false) (by kernel_rfl) (by kernel_rfl) (fun _ => by kernel_rfl) ?_
  refine s_pure 139 (.bool false) (by kernel_rfl) (by kernel_rfl) (fun _ => by kernel_rfl) ?_
  refine ops_end ?_
  refine At.env [(0, .int .i64 (1 + (k % 3))), (1, .int .i64 (line % 8)), (2, .int .i64 (id % 4096)), (3, .int .i64 (node % 6)), (4, .int .i64 (home % 6)), (10, .bool false), (11, .pointer (some ⟨b1, 0, none⟩)), (12, .pointer (some ⟨b2, 0, none⟩)), (13, .int .i64 (6)), (75, .bool false), (126, .bool false), (128, .bool true), (139, .bool false)] ⟨by kernel_rfl, by kernel_rfl, by kernel_rfl, by kernel_rfl, by kernel_rfl, by kernel_rfl, by kernel_rfl, by kernel_rfl, by kernel_rfl, by kernel_rfl, by kernel_rfl, by kernel_rfl, by kernel_rfl, trivial⟩ ?_
  refine at_then_normal ?_
  refine at_false (t := false) (x := C7 [1, 1, 1, 1, 1, 1, 0, 1, 0, 0, 1, 0, 0, 1, 0]) (y := C7 [1, 1, 1, 1, 1, 1, 0, 1, 0, 0, 1, 0, 0, 1, 1]) (o := .tmp 139) (by kernel_rfl) (by kernel_rfl) (by kernel_rfl) rfl ?_
  refine at_skip (by kernel_rfl) ?_
  refine at_in_normal ?_
  refine at_then_normal ?_
  refine at_region (id := 10) 3 (by kernel_rfl) (by kernel_rfl) ?_
  refine s_pure 129 (.int .i64 (6)) (by kernel_rfl) (by kernel_rfl) (fun _ => by kernel_rfl) ?_
  refine s_pure 130 (.int .i64 (7)) (by kernel_rfl) (by kernel_rfl) (fun _ => by kernel_rfl) ?_
  refine s_pure 13 (.int .i64 (7)) (by kernel_rfl) (by kernel_rfl) (fun _ => by kernel_rfl) ?_
  refine ops_end ?_
  refine At.env [(0, .int .i64 (1 + (k % 3))), (1, .int .i64 (line % 8)), (2, .int .i64 (id % 4096)), (3, .int .i64 (node % 6)), (4, .int .i64 (home % 6)), (10, .bool false), (11, .pointer (some ⟨b1, 0, none⟩)), (12, .pointer (some ⟨b2, 0, none⟩)), (13, .int .i64 (7)), (75, .bool false), (126, .bool false), (128, .bool true), (139, .bool false)] ⟨by kernel_rfl, by kernel_rfl, by kernel_rfl, by kernel_rfl, by kernel_rfl, by kernel_rfl, by kernel_rfl, by kernel_rfl, by kernel_rfl, by kernel_rfl, by kernel_rfl, by kernel_rfl, by kernel_rfl, trivial⟩ ?_
  refine at_round_normal ?_
  refine at_rounds ?_
  refine at_seq (x := C7 [1, 1, 1, 1, 1, 1, 0, 1, 0, 0, 0]) (y := C7 [1, 1, 1, 1, 1, 1, 0, 1, 0, 0, 1]) (by kernel_rfl) ?_
  refine at_seq (x := C7 [1, 1, 1, 1, 1, 1, 0, 1, 0, 0, 0, 0]) (y := C7 [1, 1, 1, 1, 1, 1, 0, 1, 0, 0, 0, 1]) (by kernel_rfl) ?_
  refine at_region (id := 9) 2 (by kernel_rfl) (by kernel_rfl) ?_
  refine s_pure 127 (.int .i64 (7)) (by kernel_rfl) (by kernel_rfl) (fun _ => by kernel_rfl) ?_
  refine s_pure 128 (.bool true) (by kernel_rfl) (by kernel_rfl) (fun _ => by kernel_rfl) ?_
  refine ops_end ?_
  refine At.env [(0, .int .i64 (1 + (k % 3))), (1, .int .i64 (line % 8)), (2, .int .i64 (id % 4096)), (3, .int .i64 (node % 6)), (4, .int .i64 (home % 6)), (10, .bool false), (11, .pointer (some ⟨b1, 0, none⟩)), (12, .pointer (some ⟨b2, 0, none⟩)), (13, .int .i64 (7)), (75, .bool false), (126, .bool false), (128, .bool true), (139, .bool false)] ⟨by kernel_rfl, by kernel_rfl, by kernel_rfl, by kernel_rfl, by kernel_rfl, by kernel_rfl, by kernel_rfl, by kernel_rfl, by kernel_rfl, by kernel_rfl, by kernel_rfl, by kernel_rfl, by kernel_rfl, trivial⟩ ?_
  refine at_then_normal ?_
  refine at_true (t := true) (x := C7 [1, 1, 1, 1, 1, 1, 0, 1, 0, 0, 0, 1, 0]) (y := C7 [1, 1, 1, 1, 1, 1, 0, 1, 0, 0, 0, 1, 1]) (o := .tmp 128) (by kernel_rfl) (by kernel_rfl) (by kernel_rfl) rfl ?_
  refine at_skip (by kernel_rfl) ?_
  refine at_then_normal ?_
  refine at_seq (x := C7 [1, 1, 1, 1, 1, 1, 0, 1, 0, 0, 1, 0]) (y := C7 [1, 1, 1, 1, 1, 1, 0, 1, 0, 0, 1, 1]) (by kernel_rfl) ?_
  refine at_block (i := 1) (x := C7 [1, 1, 1, 1, 1, 1, 0, 1, 0, 0, 1, 0, 0]) (by kernel_rfl) ?_
  refine at_seq (x := C7 [1, 1, 1, 1, 1, 1, 0, 1, 0, 0, 1, 0, 0, 0]) (y := C7 [1, 1, 1, 1, 1, 1, 0, 1, 0, 0, 1, 0, 0, 1]) (by kernel_rfl) ?_
  refine at_region (id := 11) 9 (by kernel_rfl) (by kernel_rfl) ?_
  refine s_load 131 (.agg #[.int .i64 (1 + (k % 3)), .int .i64 (line % 8), .int .i64 (id % 4096), .int .i64 (1), .int .i64 (0), .int .i64 (-1), .slice none 0 0, .int .i64 (-1), .int .i64 (-1)]) (by kernel_rfl) (by kernel_rfl) (loadN (off := 0) (vs := [.int .i64 (1 + (k % 3)), .int .i64 (line % 8), .int .i64 (id % 4096), .int .i64 (1), .int .i64 (0), .int .i64 (-1), .slice none 0 0, .int .i64 (-1), .int .i64 (-1)]) 9 (fun _ => by kernel_rfl) (holds_own (.there .here)) rfl (by exact ⟨rfl, rfl, rfl, rfl, rfl, rfl, rfl, rfl, rfl, trivial⟩)) ?_
  refine s_pure 132 (.int .i64 (7)) (by kernel_rfl) (by kernel_rfl) (fun _ => by kernel_rfl) ?_
  refine s_pure 133 (.int .i64 (line % 8)) (by kernel_rfl) (by kernel_rfl) (fun _ => by kernel_rfl) ?_
  refine s_pure 134 (.int .i64 (id % 4096)) (by kernel_rfl) (by kernel_rfl) (fun _ => by kernel_rfl) ?_
  refine s_pure 135 (.agg #[.int .i64 (7), .int .i64 (0), .int .i64 (0), .int .i64 (id % 4096), .int .i64 (line % 8), .int .i64 (3), .int .i64 (1), .bool true, .slice none 0 0]) (by kernel_rfl) (by kernel_rfl) (fun _ => by kernel_rfl) ?_
  refine s_quiet 136 (.bool true) 27 #[.agg #[.int .i64 (1 + (k % 3)), .int .i64 (line % 8), .int .i64 (id % 4096), .int .i64 (1), .int .i64 (0), .int .i64 (-1), .slice none 0 0, .int .i64 (-1), .int .i64 (-1)], .agg #[.int .i64 (7), .int .i64 (0), .int .i64 (0), .int .i64 (id % 4096), .int .i64 (line % 8), .int .i64 (3), .int .i64 (1), .bool true, .slice none 0 0]] (by kernel_rfl) (by kernel_rfl) (fun _ => by kernel_rfl) (Tr.as (Fits_tr (1) (1 + (k % 3)) (line % 8) (id % 4096) (0) ((-1)) ((-1)) ((-1)) none 0 0 (7) (0) (0) (id % 4096) (line % 8) (3) (1) true none 0 0) (congrArg Value.bool (show fitsB (1) (id % 4096) (line % 8) (7) (id % 4096) (line % 8) = true from by simp [fitsB, wantI, answerI, kindI]))) ?_
  refine s_pure 137 (.int .i64 (7)) (by kernel_rfl) (by kernel_rfl) (fun _ => by kernel_rfl) ?_
  refine s_pure 138 (.bool true) (by kernel_rfl) (by kernel_rfl) (fun _ => by kernel_rfl) ?_
  refine s_pure 139 (.bool false) (by kernel_rfl) (by kernel_rfl) (fun _ => by kernel_rfl) ?_
  refine ops_end ?_
  refine At.env [(0, .int .i64 (1 + (k % 3))), (1, .int .i64 (line % 8)), (2, .int .i64 (id % 4096)), (3, .int .i64 (node % 6)), (4, .int .i64 (home % 6)), (10, .bool false), (11, .pointer (some ⟨b1, 0, none⟩)), (12, .pointer (some ⟨b2, 0, none⟩)), (13, .int .i64 (7)), (75, .bool false), (126, .bool false), (128, .bool true), (139, .bool false)] ⟨by kernel_rfl, by kernel_rfl, by kernel_rfl, by kernel_rfl, by kernel_rfl, by kernel_rfl, by kernel_rfl, by kernel_rfl, by kernel_rfl, by kernel_rfl, by kernel_rfl, by kernel_rfl, by kernel_rfl, trivial⟩ ?_
  refine at_then_normal ?_
  refine at_false (t := false) (x := C7 [1, 1, 1, 1, 1, 1, 0, 1, 0, 0, 1, 0, 0, 1, 0]) (y := C7 [1, 1, 1, 1, 1, 1, 0, 1, 0, 0, 1, 0, 0, 1, 1]) (o := .tmp 139) (by kernel_rfl) (by kernel_rfl) (by kernel_rfl) rfl ?_
  refine at_skip (by kernel_rfl) ?_
  refine at_in_normal ?_
  refine at_then_normal ?_
  refine at_region (id := 10) 3 (by kernel_rfl) (by kernel_rfl) ?_
  refine s_pure 129 (.int .i64 (7)) (by kernel_rfl) (by kernel_rfl) (fun _ => by kernel_rfl) ?_
  refine s_pure 130 (.int .i64 (8)) (by kernel_rfl) (by kernel_rfl) (fun _ => by kernel_rfl) ?_
  refine s_pure 13 (.int .i64 (8)) (by kernel_rfl) (by kernel_rfl) (fun _ => by kernel_rfl) ?_
  refine ops_end ?_
  refine At.env [(0, .int .i64 (1 + (k % 3))), (1, .int .i64 (line % 8)), (2, .int .i64 (id % 4096)), (3, .int .i64 (node % 6)), (4, .int .i64 (home % 6)), (10, .bool false), (11, .pointer (some ⟨b1, 0, none⟩)), (12, .pointer (some ⟨b2, 0, none⟩)), (13, .int .i64 (8)), (75, .bool false), (126, .bool false), (128, .bool true), (139, .bool false)] ⟨by kernel_rfl, by kernel_rfl, by kernel_rfl, by kernel_rfl, by kernel_rfl, by kernel_rfl, by kernel_rfl, by kernel_rfl, by kernel_rfl, by kernel_rfl, by kernel_rfl, by kernel_rfl, by kernel_rfl, trivial⟩ ?_
  refine at_round_normal ?_
  refine at_rounds ?_
  refine at_seq (x := C7 [1, 1, 1, 1, 1, 1, 0, 1, 0, 0, 0]) (y := C7 [1, 1, 1, 1, 1, 1, 0, 1, 0, 0, 1]) (by kernel_rfl) ?_
  refine at_seq (x := C7 [1, 1, 1, 1, 1, 1, 0, 1, 0, 0, 0, 0]) (y := C7 [1, 1, 1, 1, 1, 1, 0, 1, 0, 0, 0, 1]) (by kernel_rfl) ?_
  refine at_region (id := 9) 2 (by kernel_rfl) (by kernel_rfl) ?_
  refine s_pure 127 (.int .i64 (8)) (by kernel_rfl) (by kernel_rfl) (fun _ => by kernel_rfl) ?_
  refine s_pure 128 (.bool true) (by kernel_rfl) (by kernel_rfl) (fun _ => by kernel_rfl) ?_
  refine ops_end ?_
  refine At.env [(0, .int .i64 (1 + (k % 3))), (1, .int .i64 (line % 8)), (2, .int .i64 (id % 4096)), (3, .int .i64 (node % 6)), (4, .int .i64 (home % 6)), (10, .bool false), (11, .pointer (some ⟨b1, 0, none⟩)), (12, .pointer (some ⟨b2, 0, none⟩)), (13, .int .i64 (8)), (75, .bool false), (126, .bool false), (128, .bool true), (139, .bool false)] ⟨by kernel_rfl, by kernel_rfl, by kernel_rfl, by kernel_rfl, by kernel_rfl, by kernel_rfl, by kernel_rfl, by kernel_rfl, by kernel_rfl, by kernel_rfl, by kernel_rfl, by kernel_rfl, by kernel_rfl, trivial⟩ ?_
  refine at_then_normal ?_
  refine at_true (t := true) (x := C7 [1, 1, 1, 1, 1, 1, 0, 1, 0, 0, 0, 1, 0]) (y := C7 [1, 1, 1, 1, 1, 1, 0, 1, 0, 0, 0, 1, 1]) (o := .tmp 128) (by kernel_rfl) (by kernel_rfl) (by kernel_rfl) rfl ?_
  refine at_skip (by kernel_rfl) ?_
  refine at_then_normal ?_
  refine at_seq (x := C7 [1, 1, 1, 1, 1, 1, 0, 1, 0, 0, 1, 0]) (y := C7 [1, 1, 1, 1, 1, 1, 0, 1, 0, 0, 1, 1]) (by kernel_rfl) ?_
  refine at_block (i := 1) (x := C7 [1, 1, 1, 1, 1, 1, 0, 1, 0, 0, 1, 0, 0]) (by kernel_rfl) ?_
  refine at_seq (x := C7 [1, 1, 1, 1, 1, 1, 0, 1, 0, 0, 1, 0, 0, 0]) (y := C7 [1, 1, 1, 1, 1, 1, 0, 1, 0, 0, 1, 0, 0, 1]) (by kernel_rfl) ?_
  refine at_region (id := 11) 9 (by kernel_rfl) (by kernel_rfl) ?_
  refine s_load 131 (.agg #[.int .i64 (1 + (k % 3)), .int .i64 (line % 8), .int .i64 (id % 4096), .int .i64 (1), .int .i64 (0), .int .i64 (-1), .slice none 0 0, .int .i64 (-1), .int .i64 (-1)]) (by kernel_rfl) (by kernel_rfl) (loadN (off := 0) (vs := [.int .i64 (1 + (k % 3)), .int .i64 (line % 8), .int .i64 (id % 4096), .int .i64 (1), .int .i64 (0), .int .i64 (-1), .slice none 0 0, .int .i64 (-1), .int .i64 (-1)]) 9 (fun _ => by kernel_rfl) (holds_own (.there .here)) rfl (by exact ⟨rfl, rfl, rfl, rfl, rfl, rfl, rfl, rfl, rfl, trivial⟩)) ?_
  refine s_pure 132 (.int .i64 (8)) (by kernel_rfl) (by kernel_rfl) (fun _ => by kernel_rfl) ?_
  refine s_pure 133 (.int .i64 (line % 8)) (by kernel_rfl) (by kernel_rfl) (fun _ => by kernel_rfl) ?_
  refine s_pure 134 (.int .i64 (id % 4096)) (by kernel_rfl) (by kernel_rfl) (fun _ => by kernel_rfl) ?_
  refine s_pure 135 (.agg #[.int .i64 (8), .int .i64 (0), .int .i64 (0), .int .i64 (id % 4096), .int .i64 (line % 8), .int .i64 (3), .int .i64 (1), .bool true, .slice none 0 0]) (by kernel_rfl) (by kernel_rfl) (fun _ => by kernel_rfl) ?_
  refine s_quiet 136 (.bool false) 27 #[.agg #[.int .i64 (1 + (k % 3)), .int .i64 (line % 8), .int .i64 (id % 4096), .int .i64 (1), .int .i64 (0), .int .i64 (-1), .slice none 0 0, .int .i64 (-1), .int .i64 (-1)], .agg #[.int .i64 (8), .int .i64 (0), .int .i64 (0), .int .i64 (id % 4096), .int .i64 (line % 8), .int .i64 (3), .int .i64 (1), .bool true, .slice none 0 0]] (by kernel_rfl) (by kernel_rfl) (fun _ => by kernel_rfl) (Tr.as (Fits_tr (1) (1 + (k % 3)) (line % 8) (id % 4096) (0) ((-1)) ((-1)) ((-1)) none 0 0 (8) (0) (0) (id % 4096) (line % 8) (3) (1) true none 0 0) (congrArg Value.bool (show fitsB (1) (id % 4096) (line % 8) (8) (id % 4096) (line % 8) = false from by simp [fitsB, wantI, answerI, kindI]))) ?_
  refine s_pure 137 (.int .i64 (8)) (by kernel_rfl) (by kernel_rfl) (fun _ => by kernel_rfl) ?_
  refine s_pure 138 (.bool false) (by kernel_rfl) (by kernel_rfl) (fun _ => by kernel_rfl) ?_
  refine s_pure 139 (.bool false) (by kernel_rfl) (by kernel_rfl) (fun _ => by kernel_rfl) ?_
  refine ops_end ?_
  refine At.env [(0, .int .i64 (1 + (k % 3))), (1, .int .i64 (line % 8)), (2, .int .i64 (id % 4096)), (3, .int .i64 (node % 6)), (4, .int .i64 (home % 6)), (10, .bool false), (11, .pointer (some ⟨b1, 0, none⟩)), (12, .pointer (some ⟨b2, 0, none⟩)), (13, .int .i64 (8)), (75, .bool false), (126, .bool false), (128, .bool true), (139, .bool false)] ⟨by kernel_rfl, by kernel_rfl, by kernel_rfl, by kernel_rfl, by kernel_rfl, by kernel_rfl, by kernel_rfl, by kernel_rfl, by kernel_rfl, by kernel_rfl, by kernel_rfl, by kernel_rfl, by kernel_rfl, trivial⟩ ?_
  refine at_then_normal ?_
  refine at_false (t := false) (x := C7 [1, 1, 1, 1, 1, 1, 0, 1, 0, 0, 1, 0, 0, 1, 0]) (y := C7 [1, 1, 1, 1, 1, 1, 0, 1, 0, 0, 1, 0, 0, 1, 1]) (o := .tmp 139) (by kernel_rfl) (by kernel_rfl) (by kernel_rfl) rfl ?_
  refine at_skip (by kernel_rfl) ?_
  refine at_in_normal ?_
  refine at_then_normal ?_
  refine at_region (id := 10) 3 (by kernel_rfl) (by kernel_rfl) ?_
  refine s_pure 129 (.int .i64 (8)) (by kernel_rfl) (by kernel_rfl) (fun _ => by kernel_rfl) ?_
  refine s_pure 130 (.int .i64 (9)) (by kernel_rfl) (by kernel_rfl) (fun _ => by kernel_rfl) ?_
  refine s_pure 13 (.int .i64 (9)) (by kernel_rfl) (by kernel_rfl) (fun _ => by kernel_rfl) ?_
  refine ops_end ?_
  refine At.env [(0, .int .i64 (1 + (k % 3))), (1, .int .i64 (line % 8)), (2, .int .i64 (id % 4096)), (3, .int .i64 (node % 6)), (4, .int .i64 (home % 6)), (10, .bool false), (11, .pointer (some ⟨b1, 0, none⟩)), (12, .pointer (some ⟨b2, 0, none⟩)), (13, .int .i64 (9)), (75, .bool false), (126, .bool false), (128, .bool true), (139, .bool false)] ⟨by kernel_rfl, by kernel_rfl, by kernel_rfl, by kernel_rfl, by kernel_rfl, by kernel_rfl, by kernel_rfl, by kernel_rfl, by kernel_rfl, by kernel_rfl, by kernel_rfl, by kernel_rfl, by kernel_rfl, trivial⟩ ?_
  refine at_round_normal ?_
  refine at_rounds ?_
  refine at_seq (x := C7 [1, 1, 1, 1, 1, 1, 0, 1, 0, 0, 0]) (y := C7 [1, 1, 1, 1, 1, 1, 0, 1, 0, 0, 1]) (by kernel_rfl) ?_
  refine at_seq (x := C7 [1, 1, 1, 1, 1, 1, 0, 1, 0, 0, 0, 0]) (y := C7 [1, 1, 1, 1, 1, 1, 0, 1, 0, 0, 0, 1]) (by kernel_rfl) ?_
  refine at_region (id := 9) 2 (by kernel_rfl) (by kernel_rfl) ?_
  refine s_pure 127 (.int .i64 (9)) (by kernel_rfl) (by kernel_rfl) (fun _ => by kernel_rfl) ?_
  refine s_pure 128 (.bool true) (by kernel_rfl) (by kernel_rfl) (fun _ => by kernel_rfl) ?_
  refine ops_end ?_
  refine At.env [(0, .int .i64 (1 + (k % 3))), (1, .int .i64 (line % 8)), (2, .int .i64 (id % 4096)), (3, .int .i64 (node % 6)), (4, .int .i64 (home % 6)), (10, .bool false), (11, .pointer (some ⟨b1, 0, none⟩)), (12, .pointer (some ⟨b2, 0, none⟩)), (13, .int .i64 (9)), (75, .bool false), (126, .bool false), (128, .bool true), (139, .bool false)] ⟨by kernel_rfl, by kernel_rfl, by kernel_rfl, by kernel_rfl, by kernel_rfl, by kernel_rfl, by kernel_rfl, by kernel_rfl, by kernel_rfl, by kernel_rfl, by kernel_rfl, by kernel_rfl, by kernel_rfl, trivial⟩ ?_
  refine at_then_normal ?_
  refine at_true (t := true) (x := C7 [1, 1, 1, 1, 1, 1, 0, 1, 0, 0, 0, 1, 0]) (y := C7 [1, 1, 1, 1, 1, 1, 0, 1, 0, 0, 0, 1, 1]) (o := .tmp 128) (by kernel_rfl) (by kernel_rfl) (by kernel_rfl) rfl ?_
  refine at_skip (by kernel_rfl) ?_
  refine at_then_normal ?_
  refine at_seq (x := C7 [1, 1, 1, 1, 1, 1, 0, 1, 0, 0, 1, 0]) (y := C7 [1, 1, 1, 1, 1, 1, 0, 1, 0, 0, 1, 1]) (by kernel_rfl) ?_
  refine at_block (i := 1) (x := C7 [1, 1, 1, 1, 1, 1, 0, 1, 0, 0, 1, 0, 0]) (by kernel_rfl) ?_
  refine at_seq (x := C7 [1, 1, 1, 1, 1, 1, 0, 1, 0, 0, 1, 0, 0, 0]) (y := C7 [1, 1, 1, 1, 1, 1, 0, 1, 0, 0, 1, 0, 0, 1]) (by kernel_rfl) ?_
  refine at_region (id := 11) 9 (by kernel_rfl) (by kernel_rfl) ?_
  refine s_load 131 (.agg #[.int .i64 (1 + (k % 3)), .int .i64 (line % 8), .int .i64 (id % 4096), .int .i64 (1), .int .i64 (0), .int .i64 (-1), .slice none 0 0, .int .i64 (-1), .int .i64 (-1)]) (by kernel_rfl) (by kernel_rfl) (loadN (off := 0) (vs := [.int .i64 (1 + (k % 3)), .int .i64 (line % 8), .int .i64 (id % 4096), .int .i64 (1), .int .i64 (0), .int .i64 (-1), .slice none 0 0, .int .i64 (-1), .int .i64 (-1)]) 9 (fun _ => by kernel_rfl) (holds_own (.there .here)) rfl (by exact ⟨rfl, rfl, rfl, rfl, rfl, rfl, rfl, rfl, rfl, trivial⟩)) ?_
  refine s_pure 132 (.int .i64 (9)) (by kernel_rfl) (by kernel_rfl) (fun _ => by kernel_rfl) ?_
  refine s_pure 133 (.int .i64 (line % 8)) (by kernel_rfl) (by kernel_rfl) (fun _ => by kernel_rfl) ?_
  refine s_pure 134 (.int .i64 (id % 4096)) (by kernel_rfl) (by kernel_rfl) (fun _ => by kernel_rfl) ?_
  refine s_pure 135 (.agg #[.int .i64 (9), .int .i64 (0), .int .i64 (0), .int .i64 (id % 4096), .int .i64 (line % 8), .int .i64 (3), .int .i64 (1), .bool true, .slice none 0 0]) (by kernel_rfl) (by kernel_rfl) (fun _ => by kernel_rfl) ?_
  refine s_quiet 136 (.bool false) 27 #[.agg #[.int .i64 (1 + (k % 3)), .int .i64 (line % 8), .int .i64 (id % 4096), .int .i64 (1), .int .i64 (0), .int .i64 (-1), .slice none 0 0, .int .i64 (-1), .int .i64 (-1)], .agg #[.int .i64 (9), .int .i64 (0), .int .i64 (0), .int .i64 (id % 4096), .int .i64 (line % 8), .int .i64 (3), .int .i64 (1), .bool true, .slice none 0 0]] (by kernel_rfl) (by kernel_rfl) (fun _ => by kernel_rfl) (Tr.as (Fits_tr (1) (1 + (k % 3)) (line % 8) (id % 4096) (0) ((-1)) ((-1)) ((-1)) none 0 0 (9) (0) (0) (id % 4096) (line % 8) (3) (1) true none 0 0) (congrArg Value.bool (show fitsB (1) (id % 4096) (line % 8) (9) (id % 4096) (line % 8) = false from by simp [fitsB, wantI, answerI, kindI]))) ?_
  refine s_pure 137 (.int .i64 (9)) (by kernel_rfl) (by kernel_rfl) (fun _ => by kernel_rfl) ?_
  refine s_pure 138 (.bool false) (by kernel_rfl) (by kernel_rfl) (fun _ => by kernel_rfl) ?_
  refine s_pure 139 (.bool false) (by kernel_rfl) (by kernel_rfl) (fun _ => by kernel_rfl) ?_
  refine ops_end ?_
  refine At.env [(0, .int .i64 (1 + (k % 3))), (1, .int .i64 (line % 8)), (2, .int .i64 (id % 4096)), (3, .int .i64 (node % 6)), (4, .int .i64 (home % 6)), (10, .bool false), (11, .pointer (some ⟨b1, 0, none⟩)), (12, .pointer (some ⟨b2, 0, none⟩)), (13, .int .i64 (9)), (75, .bool false), (126, .bool false), (128, .bool true), (139, .bool false)] ⟨by kernel_rfl, by kernel_rfl, by kernel_rfl, by kernel_rfl, by kernel_rfl, by kernel_rfl, by kernel_rfl, by kernel_rfl, by kernel_rfl, by kernel_rfl, by kernel_rfl, by kernel_rfl, by kernel_rfl, trivial⟩ ?_
  refine at_then_normal ?_
  refine at_false (t := false) (x := C7 [1, 1, 1, 1, 1, 1, 0, 1, 0, 0, 1, 0, 0, 1, 0]) (y := C7 [1, 1, 1, 1, 1, 1, 0, 1, 0, 0, 1, 0, 0, 1, 1]) (o := .tmp 139) (by kernel_rfl) (by kernel_rfl) (by kernel_rfl) rfl ?_
  refine at_skip (by kernel_rfl) ?_
  refine at_in_normal ?_
  refine at_then_normal ?_
  refine at_region (id := 10) 3 (by kernel_rfl) (by kernel_rfl) ?_
  refine s_pure 129 (.int .i64 (9)) (by kernel_rfl) (by kernel_rfl) (fun _ => by kernel_rfl) ?_
  refine s_pure 130 (.int .i64 (10)) (by kernel_rfl) (by kernel_rfl) (fun _ => by kernel_rfl) ?_
  refine s_pure 13 (.int .i64 (10)) (by kernel_rfl) (by kernel_rfl) (fun _ => by kernel_rfl) ?_
  refine ops_end ?_
  refine At.env [(0, .int .i64 (1 + (k % 3))), (1, .int .i64 (line % 8)), (2, .int .i64 (id % 4096)), (3, .int .i64 (node % 6)), (4, .int .i64 (home % 6)), (10, .bool false), (11, .pointer (some ⟨b1, 0, none⟩)), (12, .pointer (some ⟨b2, 0, none⟩)), (13, .int .i64 (10)), (75, .bool false), (126, .bool false), (128, .bool true), (139, .bool false)] ⟨by kernel_rfl, by kernel_rfl, by kernel_rfl, by kernel_rfl, by kernel_rfl, by kernel_rfl, by kernel_rfl, by kernel_rfl, by kernel_rfl, by kernel_rfl, by kernel_rfl, by kernel_rfl, by kernel_rfl, trivial⟩ ?_
  refine at_round_normal ?_
  refine at_rounds ?_
  refine at_seq (x := C7 [1, 1, 1, 1, 1, 1, 0, 1, 0, 0, 0]) (y := C7 [1, 1, 1, 1, 1, 1, 0, 1, 0, 0, 1]) (by kernel_rfl) ?_
  refine at_seq (x := C7 [1, 1, 1, 1, 1, 1, 0, 1, 0, 0, 0, 0]) (y := C7 [1, 1, 1, 1, 1, 1, 0, 1, 0, 0, 0, 1]) (by kernel_rfl) ?_
  refine at_region (id := 9) 2 (by kernel_rfl) (by kernel_rfl) ?_
  refine s_pure 127 (.int .i64 (10)) (by kernel_rfl) (by kernel_rfl) (fun _ => by kernel_rfl) ?_
  refine s_pure 128 (.bool true) (by kernel_rfl) (by kernel_rfl) (fun _ => by kernel_rfl) ?_
  refine ops_end ?_
  refine At.env [(0, .int .i64 (1 + (k % 3))), (1, .int .i64 (line % 8)), (2, .int .i64 (id % 4096)), (3, .int .i64 (node % 6)), (4, .int .i64 (home % 6)), (10, .bool false), (11, .pointer (some ⟨b1, 0, none⟩)), (12, .pointer (some ⟨b2, 0, none⟩)), (13, .int .i64 (10)), (75, .bool false), (126, .bool false), (128, .bool true), (139, .bool false)] ⟨by kernel_rfl, by kernel_rfl, by kernel_rfl, by kernel_rfl, by kernel_rfl, by kernel_rfl, by kernel_rfl, by kernel_rfl, by kernel_rfl, by kernel_rfl, by kernel_rfl, by kernel_rfl, by kernel_rfl, trivial⟩ ?_
  refine at_then_normal ?_
  refine at_true (t := true) (x := C7 [1, 1, 1, 1, 1, 1, 0, 1, 0, 0, 0, 1, 0]) (y := C7 [1, 1, 1, 1, 1, 1, 0, 1, 0, 0, 0, 1, 1]) (o := .tmp 128) (by kernel_rfl) (by kernel_rfl) (by kernel_rfl) rfl ?_
  refine at_skip (by kernel_rfl) ?_
  refine at_then_normal ?_
  refine at_seq (x := C7 [1, 1, 1, 1, 1, 1, 0, 1, 0, 0, 1, 0]) (y := C7 [1, 1, 1, 1, 1, 1, 0, 1, 0, 0, 1, 1]) (by kernel_rfl) ?_
  refine at_block (i := 1) (x := C7 [1, 1, 1, 1, 1, 1, 0, 1, 0, 0, 1, 0, 0]) (by kernel_rfl) ?_
  refine at_seq (x := C7 [1, 1, 1, 1, 1, 1, 0, 1, 0, 0, 1, 0, 0, 0]) (y := C7 [1, 1, 1, 1, 1, 1, 0, 1, 0, 0, 1, 0, 0, 1]) (by kernel_rfl) ?_
  refine at_region (id := 11) 9 (by kernel_rfl) (by kernel_rfl) ?_
  refine s_load 131 (.agg #[.int .i64 (1 + (k % 3)), .int .i64 (line % 8), .int .i64 (id % 4096), .int .i64 (1), .int .i64 (0), .int .i64 (-1), .slice none 0 0, .int .i64 (-1), .int .i64 (-1)]) (by kernel_rfl) (by kernel_rfl) (loadN (off := 0) (vs := [.int .i64 (1 + (k % 3)), .int .i64 (line % 8), .int .i64 (id % 4096), .int .i64 (1), .int .i64 (0), .int .i64 (-1), .slice none 0 0, .int .i64 (-1), .int .i64 (-1)]) 9 (fun _ => by kernel_rfl) (holds_own (.there .here)) rfl (by exact ⟨rfl, rfl, rfl, rfl, rfl, rfl, rfl, rfl, rfl, trivial⟩)) ?_
  refine s_pure 132 (.int .i64 (10)) (by kernel_rfl) (by kernel_rfl) (fun _ => by kernel_rfl) ?_
  refine s_pure 133 (.int .i64 (line % 8)) (by kernel_rfl) (by kernel_rfl) (fun _ => by kernel_rfl) ?_
  refine s_pure 134 (.int .i64 (id % 4096)) (by kernel_rfl) (by kernel_rfl) (fun _ => by kernel_rfl) ?_
  refine s_pure 135 (.agg #[.int .i64 (10), .int .i64 (0), .int .i64 (0), .int .i64 (id % 4096), .int .i64 (line % 8), .int .i64 (3), .int .i64 (1), .bool true, .slice none 0 0]) (by kernel_rfl) (by kernel_rfl) (fun _ => by kernel_rfl) ?_
  refine s_quiet 136 (.bool false) 27 #[.agg #[.int .i64 (1 + (k % 3)), .int .i64 (line % 8), .int .i64 (id % 4096), .int .i64 (1), .int .i64 (0), .int .i64 (-1), .slice none 0 0, .int .i64 (-1), .int .i64 (-1)], .agg #[.int .i64 (10), .int .i64 (0), .int .i64 (0), .int .i64 (id % 4096), .int .i64 (line % 8), .int .i64 (3), .int .i64 (1), .bool true, .slice none 0 0]] (by kernel_rfl) (by kernel_rfl) (fun _ => by kernel_rfl) (Tr.as (Fits_tr (1) (1 + (k % 3)) (line % 8) (id % 4096) (0) ((-1)) ((-1)) ((-1)) none 0 0 (10) (0) (0) (id % 4096) (line % 8) (3) (1) true none 0 0) (congrArg Value.bool (show fitsB (1) (id % 4096) (line % 8) (10) (id % 4096) (line % 8) = false from by simp [fitsB, wantI, answerI, kindI]))) ?_
  refine s_pure 137 (.int .i64 (10)) (by kernel_rfl) (by kernel_rfl) (fun _ => by kernel_rfl) ?_
  refine s_pure 138 (.bool false) (by kernel_rfl) (by kernel_rfl) (fun _ => by kernel_rfl) ?_
  refine s_pure 139 (.bool false) (by kernel_rfl) (by kernel_rfl) (fun _ => by kernel_rfl) ?_
  refine ops_end ?_
  refine At.env [(0, .int .i64 (1 + (k % 3))), (1, .int .i64 (line % 8)), (2, .int .i64 (id % 4096)), (3, .int .i64 (node % 6)), (4, .int .i64 (home % 6)), (10, .bool false), (11, .pointer (some ⟨b1, 0, none⟩)), (12, .pointer (some ⟨b2, 0, none⟩)), (13, .int .i64 (10)), (75, .bool false), (126, .bool false), (128, .bool true), (139, .bool false)] ⟨by kernel_rfl, by kernel_rfl, by kernel_rfl, by kernel_rfl, by kernel_rfl, by kernel_rfl, by kernel_rfl, by kernel_rfl, by kernel_rfl, by kernel_rfl, by kernel_rfl, by kernel_rfl, by kernel_rfl, trivial⟩ ?_
  refine at_then_normal ?_
  refine at_false (t := false) (x := C7 [1, 1, 1, 1, 1, 1, 0, 1, 0, 0, 1, 0, 0, 1, 0]) (y := C7 [1, 1, 1, 1, 1, 1, 0, 1, 0, 0, 1, 0, 0, 1, 1]) (o := .tmp 139) (by kernel_rfl) (by kernel_rfl) (by kernel_rfl) rfl ?_
  refine at_skip (by kernel_rfl) ?_
  refine at_in_normal ?_
  refine at_then_normal ?_
  refine at_region (id := 10) 3 (by kernel_rfl) (by kernel_rfl) ?_
  refine s_pure 129 (.int .i64 (10)) (by kernel_rfl) (by kernel_rfl) (fun _ => by kernel_rfl) ?_
  refine s_pure 130 (.int .i64 (11)) (by kernel_rfl) (by kernel_rfl) (fun _ => by kernel_rfl) ?_
  refine s_pure 13 (.int .i64 (11)) (by kernel_rfl) (by kernel_rfl) (fun _ => by kernel_rfl) ?_
  refine ops_end ?_
  refine At.env [(0, .int .i64 (1 + (k % 3))), (1, .int .i64 (line % 8)), (2, .int .i64 (id % 4096)), (3, .int .i64 (node % 6)), (4, .int .i64 (home % 6)), (10, .bool false), (11, .pointer (some ⟨b1, 0, none⟩)), (12, .pointer (some ⟨b2, 0, none⟩)), (13, .int .i64 (11)), (75, .bool false), (126, .bool false), (128, .bool true), (139, .bool false)] ⟨by kernel_rfl, by kernel_rfl, by kernel_rfl, by kernel_rfl, by kernel_rfl, by kernel_rfl, by kernel_rfl, by kernel_rfl, by kernel_rfl, by kernel_rfl, by kernel_rfl, by kernel_rfl, by kernel_rfl, trivial⟩ ?_
  refine at_round_normal ?_
  refine at_rounds ?_
  refine at_seq (x := C7 [1, 1, 1, 1, 1, 1, 0, 1, 0, 0, 0]) (y := C7 [1, 1, 1, 1, 1, 1, 0, 1, 0, 0, 1]) (by kernel_rfl) ?_
  refine at_seq (x := C7 [1, 1, 1, 1, 1, 1, 0, 1, 0, 0, 0, 0]) (y := C7 [1, 1, 1, 1, 1, 1, 0, 1, 0, 0, 0, 1]) (by kernel_rfl) ?_
  refine at_region (id := 9) 2 (by kernel_rfl) (by kernel_rfl) ?_
  refine s_pure 127 (.int .i64 (11)) (by kernel_rfl) (by kernel_rfl) (fun _ => by kernel_rfl) ?_
  refine s_pure 128 (.bool false) (by kernel_rfl) (by kernel_rfl) (fun _ => by kernel_rfl) ?_
  refine ops_end ?_
  refine At.env [(0, .int .i64 (1 + (k % 3))), (1, .int .i64 (line % 8)), (2, .int .i64 (id % 4096)), (3, .int .i64 (node % 6)), (4, .int .i64 (home % 6)), (10, .bool false), (11, .pointer (some ⟨b1, 0, none⟩)), (12, .pointer (some ⟨b2, 0, none⟩)), (13, .int .i64 (11)), (75, .bool false), (126, .bool false), (128, .bool false), (139, .bool false)] ⟨by kernel_rfl, by kernel_rfl, by kernel_rfl, by kernel_rfl, by kernel_rfl, by kernel_rfl, by kernel_rfl, by kernel_rfl, by kernel_rfl, by kernel_rfl, by kernel_rfl, by kernel_rfl, by kernel_rfl, trivial⟩ ?_
  refine at_then_normal ?_
  refine at_false (t := false) (x := C7 [1, 1, 1, 1, 1, 1, 0, 1, 0, 0, 0, 1, 0]) (y := C7 [1, 1, 1, 1, 1, 1, 0, 1, 0, 0, 0, 1, 1]) (o := .tmp 128) (by kernel_rfl) (by kernel_rfl) (by kernel_rfl) rfl ?_
  refine at_exit (i := 0) (by kernel_rfl) ?_
  refine at_then_exit ?_
  refine at_then_exit ?_
  refine at_in_here ?_
  refine at_then_normal ?_
  refine at_seq (x := C7 [1, 1, 1, 1, 1, 1, 1, 0]) (y := C7 [1, 1, 1, 1, 1, 1, 1, 1]) (by kernel_rfl) ?_
  refine at_region (id := 13) 2 (by kernel_rfl) (by kernel_rfl) ?_
  refine s_quiet 140 (.bool true) 22 #[] (by kernel_rfl) (by kernel_rfl) (fun _ => by kernel_rfl) Wakes_tr ?_
  refine s_pure 10 (.bool true) (by kernel_rfl) (by kernel_rfl) (fun _ => by kernel_rfl) ?_
  refine ops_end ?_
  refine At.env [(0, .int .i64 (1 + (k % 3))), (1, .int .i64 (line % 8)), (2, .int .i64 (id % 4096)), (3, .int .i64 (node % 6)), (4, .int .i64 (home % 6)), (10, .bool true), (11, .pointer (some ⟨b1, 0, none⟩)), (12, .pointer (some ⟨b2, 0, none⟩)), (13, .int .i64 (11)), (75, .bool false), (126, .bool false), (128, .bool false), (139, .bool false)] ⟨by kernel_rfl, by kernel_rfl, by kernel_rfl, by kernel_rfl, by kernel_rfl, by kernel_rfl, by kernel_rfl, by kernel_rfl, by kernel_rfl, by kernel_rfl, by kernel_rfl, by kernel_rfl, by kernel_rfl, trivial⟩ ?_
  refine at_then_normal ?_
  refine at_ret (by kernel_rfl) ?_
  refine at_backR [.bool true] [] (rs := [.tmp 10]) (by kernel_rfl) (.cons (.tmp (by kernel_rfl)) .nil) (fun w hw => hw.less (.drop .here (.drop .here .refl))) rfl
end Go.Proofs.Ytpcffplbedbpkaa
