/- The law ServeList answers true at every input. -/
import Derived.Test.YtfpiolnbnfngkaaServeB
namespace Go.Proofs.Ytfpiolnbnfngkaa
open Go Go.RowKit
noncomputable def C5 (p : List Nat) : Code := codeAt (bodyOf Try.f5) p
set_option maxRecDepth 100000 in
theorem ServeList_tr {W0 : World} (line v : Int) : Tr Try.prog 5 #[.int .i64 line, .int .i64 v] W0 ([]) (fun r _ => r = .bool true) := by
  refine Tr.enter (fn := Try.f5) (c := C5 []) (args := [.int .i64 line, .int .i64 v]) 137 Try.func5 (by kernel_rfl) (by kernel_rfl) ?_
  refine At.env [(0, .int .i64 line), (1, .int .i64 v)] ⟨by kernel_rfl, by kernel_rfl, trivial⟩ ?_
  refine at_seq (x := C5 [0]) (y := C5 [1]) (by kernel_rfl) ?_
  refine at_region (id := 0) 1 (by kernel_rfl) (by kernel_rfl) ?_
  refine s_pure 4 (.bool false) (by kernel_rfl) (by kernel_rfl) (fun _ => by kernel_rfl) ?_
  refine ops_end ?_
  refine At.env [(0, .int .i64 line), (1, .int .i64 v), (4, .bool false)] ⟨by kernel_rfl, by kernel_rfl, by kernel_rfl, trivial⟩ ?_
  refine at_then_normal ?_
  refine at_seq (x := C5 [1, 0]) (y := C5 [1, 1]) (by kernel_rfl) ?_
  refine at_region (id := 1) 3 (by kernel_rfl) (by kernel_rfl) ?_
  refine s_pure 19 (.int .i64 line) (by kernel_rfl) (by kernel_rfl) (fun _ => by kernel_rfl) ?_
  refine s_quiet 20 (.int .i64 (line % 8)) 17 #[.int .i64 line, .int .i64 (8)] (by kernel_rfl) (by kernel_rfl) (fun _ => by kernel_rfl) (Within_tr (line) (8) (by omega) (by omega)) ?_
  refine s_pure 0 (.int .i64 (line % 8)) (by kernel_rfl) (by kernel_rfl) (fun _ => by kernel_rfl) ?_
  refine ops_end ?_
  refine At.env [(0, .int .i64 (line % 8)), (1, .int .i64 v), (4, .bool false)] ⟨by kernel_rfl, by kernel_rfl, by kernel_rfl, trivial⟩ ?_
  refine at_then_normal ?_
  refine at_seq (x := C5 [1, 1, 0]) (y := C5 [1, 1, 1]) (by kernel_rfl) ?_
  refine at_region (id := 2) 1 (by kernel_rfl) (by kernel_rfl) ?_
  refine s_step 5 (by kernel_rfl) (by kernel_rfl) (st_new (T := 46) (cells := #[.pointer none, .pointer none, .pointer none]) (fun a => .pointer (some a)) (fun _ => by kernel_rfl)) ?_
  rintro _ _ ⟨b1, rfl, rfl⟩
  refine ops_end ?_
  refine At.env [(0, .int .i64 (line % 8)), (1, .int .i64 v), (4, .bool false), (5, .pointer (some ⟨b1, 0, none⟩))] ⟨by kernel_rfl, by kernel_rfl, by kernel_rfl, by kernel_rfl, trivial⟩ ?_
  refine at_then_normal ?_
  refine at_seq (x := C5 [1, 1, 1, 0]) (y := C5 [1, 1, 1, 1]) (by kernel_rfl) ?_
  refine at_seq (x := C5 [1, 1, 1, 0, 0]) (y := C5 [1, 1, 1, 0, 1]) (by kernel_rfl) ?_
  refine at_region (id := 3) 1 (by kernel_rfl) (by kernel_rfl) ?_
  refine s_pure 21 (.int .i64 (0)) (by kernel_rfl) (by kernel_rfl) (fun _ => by kernel_rfl) ?_
  refine ops_end ?_
  refine At.env [(0, .int .i64 (line % 8)), (1, .int .i64 v), (4, .bool false), (5, .pointer (some ⟨b1, 0, none⟩)), (21, .int .i64 (0))] ⟨by kernel_rfl, by kernel_rfl, by kernel_rfl, by kernel_rfl, by kernel_rfl, trivial⟩ ?_
  refine at_then_normal ?_
  refine at_block (i := 0) (x := C5 [1, 1, 1, 0, 1, 0]) (by kernel_rfl) ?_
  refine at_unroll (x := C5 [1, 1, 1, 0, 1, 0, 0]) 4 (by kernel_rfl) ?_
  refine at_rounds ?_
  refine at_seq (x := C5 [1, 1, 1, 0, 1, 0, 0, 0]) (y := C5 [1, 1, 1, 0, 1, 0, 0, 1]) (by kernel_rfl) ?_
  refine at_region (id := 4) 1 (by kernel_rfl) (by kernel_rfl) ?_
  refine s_pure 22 (.bool true) (by kernel_rfl) (by kernel_rfl) (fun _ => by kernel_rfl) ?_
  refine ops_end ?_
  refine At.env [(0, .int .i64 (line % 8)), (1, .int .i64 v), (4, .bool false), (5, .pointer (some ⟨b1, 0, none⟩)), (21, .int .i64 (0)), (22, .bool true)] ⟨by kernel_rfl, by kernel_rfl, by kernel_rfl, by kernel_rfl, by kernel_rfl, by kernel_rfl, trivial⟩ ?_
  refine at_then_normal ?_
  refine at_seq (x := C5 [1, 1, 1, 0, 1, 0, 0, 1, 0]) (y := C5 [1, 1, 1, 0, 1, 0, 0, 1, 1]) (by kernel_rfl) ?_
  refine at_true (t := true) (x := C5 [1, 1, 1, 0, 1, 0, 0, 1, 0, 0]) (y := C5 [1, 1, 1, 0, 1, 0, 0, 1, 0, 1]) (o := .tmp 22) (by kernel_rfl) (by kernel_rfl) (by kernel_rfl) rfl ?_
  refine at_skip (by kernel_rfl) ?_
  refine at_then_normal ?_
  refine at_seq (x := C5 [1, 1, 1, 0, 1, 0, 0, 1, 1, 0]) (y := C5 [1, 1, 1, 0, 1, 0, 0, 1, 1, 1]) (by kernel_rfl) ?_
  refine at_block (i := 1) (x := C5 [1, 1, 1, 0, 1, 0, 0, 1, 1, 0, 0]) (by kernel_rfl) ?_
  refine at_seq (x := C5 [1, 1, 1, 0, 1, 0, 0, 1, 1, 0, 0, 0]) (y := C5 [1, 1, 1, 0, 1, 0, 0, 1, 1, 0, 0, 1]) (by kernel_rfl) ?_
  refine at_region (id := 5) 2 (by kernel_rfl) (by kernel_rfl) ?_
  refine s_pure 23 (.int .i64 (0)) (by kernel_rfl) (by kernel_rfl) (fun _ => by kernel_rfl) ?_
  refine s_pure 6 (.int .i64 (0)) (by kernel_rfl) (by kernel_rfl) (fun _ => by kernel_rfl) ?_
  refine ops_end ?_
  refine At.env [(0, .int .i64 (line % 8)), (1, .int .i64 v), (4, .bool false), (5, .pointer (some ⟨b1, 0, none⟩)), (6, .int .i64 (0)), (21, .int .i64 (0)), (22, .bool true)] ⟨by kernel_rfl, by kernel_rfl, by kernel_rfl, by kernel_rfl, by kernel_rfl, by kernel_rfl, by kernel_rfl, trivial⟩ ?_
  refine at_then_normal ?_
  refine at_seq (x := C5 [1, 1, 1, 0, 1, 0, 0, 1, 1, 0, 0, 1, 0]) (y := C5 [1, 1, 1, 0, 1, 0, 0, 1, 1, 0, 0, 1, 1]) (by kernel_rfl) ?_
  refine at_region (id := 6) 4 (by kernel_rfl) (by kernel_rfl) ?_
  refine s_pure 24 (.int .i64 (0)) (by kernel_rfl) (by kernel_rfl) (fun _ => by kernel_rfl) ?_
  refine s_call 25 13 #[.int .i64 (1), .int .i64 (1)] (by kernel_rfl) (by kernel_rfl) (fun _ => by kernel_rfl) (New_tr (1) (1)) ?_
  rintro _ _ ⟨b2, rfl, rfl⟩
  refine At.conv (Γ' := [CacheA b2 (⟨[], 1, 1, 0⟩ : CacheS), Asn.own b1 (.cells #[.pointer none, .pointer none, .pointer none] 46 (0, 0))]) (fun w hw => hw) ?_
  refine s_pure 26 (.pointer (some ⟨b1, 0, none⟩)) (by kernel_rfl) (by kernel_rfl) (fun _ => by kernel_rfl) ?_
  refine s_do (by kernel_rfl) (by kernel_rfl) (st_store (off := 0) (vs := [.pointer (some ⟨b2, 0, none⟩)]) (c' := #[.pointer (some ⟨b2, 0, none⟩), .pointer none, .pointer none]) (fun _ => by kernel_rfl) (.there .here) (by kernel_rfl) (by kernel_rfl) (by kernel_rfl)) ?_
  rintro _ _ ⟨rfl, rfl⟩
  refine ops_end ?_
  refine At.env [(0, .int .i64 (line % 8)), (1, .int .i64 v), (4, .bool false), (5, .pointer (some ⟨b1, 0, none⟩)), (6, .int .i64 (0)), (21, .int .i64 (0)), (22, .bool true)] ⟨by kernel_rfl, by kernel_rfl, by kernel_rfl, by kernel_rfl, by kernel_rfl, by kernel_rfl, by kernel_rfl, trivial⟩ ?_
  refine at_then_normal ?_
  refine at_seq (x := C5 [1, 1, 1, 0, 1, 0, 0, 1, 1, 0, 0, 1, 1, 0]) (y := C5 [1, 1, 1, 0, 1, 0, 0, 1, 1, 0, 0, 1, 1, 1]) (by kernel_rfl) ?_
  refine at_seq (x := C5 [1, 1, 1, 0, 1, 0, 0, 1, 1, 0, 0, 1, 1, 0, 0]) (y := C5 [1, 1, 1, 0, 1, 0, 0, 1, 1, 0, 0, 1, 1, 0, 1]) (by kernel_rfl) ?_
  refine at_region (id := 7) 4 (by kernel_rfl) (by kernel_rfl) ?_
  refine s_pure 27 (.int .i64 (0)) (by kernel_rfl) (by kernel_rfl) (fun _ => by kernel_rfl) ?_
  refine s_pure 28 (.pointer (some ⟨b1, 0, none⟩)) (by kernel_rfl) (by kernel_rfl) (fun _ => by kernel_rfl) ?_
  refine s_load 29 (.pointer (some ⟨b2, 0, none⟩)) (by kernel_rfl) (by kernel_rfl) (load1 (off := 0) (fun _ => by kernel_rfl) (holds_own .here) (by kernel_rfl)) ?_
  refine s_pure 30 (.bool false) (by kernel_rfl) (by kernel_rfl) (fun _ => by kernel_rfl) ?_
  refine ops_end ?_
  refine At.env [(0, .int .i64 (line % 8)), (1, .int .i64 v), (4, .bool false), (5, .pointer (some ⟨b1, 0, none⟩)), (6, .int .i64 (0)), (21, .int .i64 (0)), (22, .bool true), (30, .bool false)] ⟨by kernel_rfl, by kernel_rfl, by kernel_rfl, by kernel_rfl, by kernel_rfl, by kernel_rfl, by kernel_rfl, by kernel_rfl, trivial⟩ ?_
  refine at_then_normal ?_
  refine at_false (t := false) (x := C5 [1, 1, 1, 0, 1, 0, 0, 1, 1, 0, 0, 1, 1, 0, 1, 0]) (y := C5 [1, 1, 1, 0, 1, 0, 0, 1, 1, 0, 0, 1, 1, 0, 1, 1]) (o := .tmp 30) (by kernel_rfl) (by kernel_rfl) (by kernel_rfl) rfl ?_
  refine at_skip (by kernel_rfl) ?_
  refine at_then_normal ?_
  refine at_seq (x := C5 [1, 1, 1, 0, 1, 0, 0, 1, 1, 0, 0, 1, 1, 1, 0]) (y := C5 [1, 1, 1, 0, 1, 0, 0, 1, 1, 0, 0, 1, 1, 1, 1]) (by kernel_rfl) ?_
  refine at_region (id := 9) 6 (by kernel_rfl) (by kernel_rfl) ?_
  refine s_pure 31 (.int .i64 (0)) (by kernel_rfl) (by kernel_rfl) (fun _ => by kernel_rfl) ?_
  refine s_pure 32 (.int .i64 (1)) (by kernel_rfl) (by kernel_rfl) (fun _ => by kernel_rfl) ?_
  refine s_pure 33 (.int .i64 (0)) (by kernel_rfl) (by kernel_rfl) (fun _ => by kernel_rfl) ?_
  refine s_pure 34 (.int .i64 (-1)) (by kernel_rfl) (by kernel_rfl) (fun _ => by kernel_rfl) ?_
  refine s_pure 7 (.int .i64 (1)) (by kernel_rfl) (by kernel_rfl) (fun _ => by kernel_rfl) ?_
  refine s_pure 8 (.int .i64 (-1)) (by kernel_rfl) (by kernel_rfl) (fun _ => by kernel_rfl) ?_
  refine ops_end ?_
  refine At.env [(0, .int .i64 (line % 8)), (1, .int .i64 v), (4, .bool false), (5, .pointer (some ⟨b1, 0, none⟩)), (6, .int .i64 (0)), (7, .int .i64 (1)), (8, .int .i64 (-1)), (21, .int .i64 (0)), (22, .bool true), (30, .bool false)] ⟨by kernel_rfl, by kernel_rfl, by kernel_rfl, by kernel_rfl, by kernel_rfl, by kernel_rfl, by kernel_rfl, by kernel_rfl, by kernel_rfl, by kernel_rfl, trivial⟩ ?_
  refine at_then_normal ?_
  refine at_seq (x := C5 [1, 1, 1, 0, 1, 0, 0, 1, 1, 0, 0, 1, 1, 1, 1, 0]) (y := C5 [1, 1, 1, 0, 1, 0, 0, 1, 1, 0, 0, 1, 1, 1, 1, 1]) (by kernel_rfl) ?_
  refine at_seq (x := C5 [1, 1, 1, 0, 1, 0, 0, 1, 1, 0, 0, 1, 1, 1, 1, 0, 0]) (y := C5 [1, 1, 1, 0, 1, 0, 0, 1, 1, 0, 0, 1, 1, 1, 1, 0, 1]) (by kernel_rfl) ?_
  refine at_region (id := 10) 2 (by kernel_rfl) (by kernel_rfl) ?_
  refine s_pure 35 (.int .i64 (0)) (by kernel_rfl) (by kernel_rfl) (fun _ => by kernel_rfl) ?_
  refine s_pure 36 (.bool false) (by kernel_rfl) (by kernel_rfl) (fun _ => by kernel_rfl) ?_
  refine ops_end ?_
  refine At.env [(0, .int .i64 (line % 8)), (1, .int .i64 v), (4, .bool false), (5, .pointer (some ⟨b1, 0, none⟩)), (6, .int .i64 (0)), (7, .int .i64 (1)), (8, .int .i64 (-1)), (21, .int .i64 (0)), (22, .bool true), (30, .bool false), (36, .bool false)] ⟨by kernel_rfl, by kernel_rfl, by kernel_rfl, by kernel_rfl, by kernel_rfl, by kernel_rfl, by kernel_rfl, by kernel_rfl, by kernel_rfl, by kernel_rfl, by kernel_rfl, trivial⟩ ?_
  refine at_then_normal ?_
  refine at_false (t := false) (x := C5 [1, 1, 1, 0, 1, 0, 0, 1, 1, 0, 0, 1, 1, 1, 1, 0, 1, 0]) (y := C5 [1, 1, 1, 0, 1, 0, 0, 1, 1, 0, 0, 1, 1, 1, 1, 0, 1, 1]) (o := .tmp 36) (by kernel_rfl) (by kernel_rfl) (by kernel_rfl) rfl ?_
  refine at_skip (by kernel_rfl) ?_
  refine at_then_normal ?_
  refine at_region_draw (id := 12) (by kernel_rfl) (by kernel_rfl) ?_
  refine d_pure 0 37 (.int .i64 (0)) (by kernel_rfl) (by kernel_rfl) (by kernel_rfl) (fun _ => by kernel_rfl) ?_
  refine d_pure 1 38 (.pointer (some ⟨b1, 0, none⟩)) (by kernel_rfl) (by kernel_rfl) (by kernel_rfl) (fun _ => by kernel_rfl) ?_
  refine d_load 2 39 (.pointer (some ⟨b2, 0, none⟩)) (by kernel_rfl) (by kernel_rfl) (by kernel_rfl) (load1 (off := 0) (fun _ => by kernel_rfl) (holds_own .here) (by kernel_rfl)) ?_
  refine d_pure 3 40 (.int .i64 (line % 8)) (by kernel_rfl) (by kernel_rfl) (by kernel_rfl) (fun _ => by kernel_rfl) ?_
  refine d_pure 4 41 (.int .i64 (1)) (by kernel_rfl) (by kernel_rfl) (by kernel_rfl) (fun _ => by kernel_rfl) ?_
  refine d_pure 5 42 (.int .i64 (-1)) (by kernel_rfl) (by kernel_rfl) (by kernel_rfl) (fun _ => by kernel_rfl) ?_
  refine d_pure 6 43 (.int .i64 v) (by kernel_rfl) (by kernel_rfl) (by kernel_rfl) (fun _ => by kernel_rfl) ?_
  refine d_step 7 44 [6] [5, 4, 3, 1, 0] [2] (by kernel_rfl) (by kernel_rfl) (by kernel_rfl) (st_new (T := 3) (cells := #[.int .i64 v]) (fun a => .slice (some a) 1 1) (fun _ => by kernel_rfl)) ?_
  rintro _ _ ⟨b3, rfl, rfl⟩
  refine ⟨(stable_cons 2 39 (.pointer (some ⟨b2, 0, none⟩)) (by kernel_rfl) (by kernel_rfl) (by kernel_rfl) (load1 (off := 0) (fun _ => by kernel_rfl) (holds_own (.there .here)) (by kernel_rfl)) stable_nil), ?_⟩
  refine d_call 8 45 [3, 4, 5, 7, 6] [1, 0] [2] 16 #[.int .i64 (line % 8), .int .i64 (1), .int .i64 (-1), .bool false, .slice (some ⟨b3, 0, none⟩) 1 1] (by kernel_rfl) (by kernel_rfl) (by kernel_rfl) (fun _ => by kernel_rfl) (ENew_tr (line % 8) (1) ((-1)) false (some ⟨b3, 0, none⟩) 1 1 ([v] : List Int) (by first | rfl | simp | (simp; omega) | omega) (Reads.own (rows := ints ([v] : List Int)) .here rfl) (by first | (simp; done) | (simp; omega))) ?_
  rintro _ _ ⟨a1, c1, rfl, rfl⟩
  refine ⟨(stable_cons 2 39 (.pointer (some ⟨b2, 0, none⟩)) (by kernel_rfl) (by kernel_rfl) (by kernel_rfl) (load1 (off := 0) (fun _ => by kernel_rfl) (holds_own (.there (.there .here))) (by kernel_rfl)) stable_nil), ?_⟩
  refine Draw.conv (fun w hw => hw.less (.take (.there (.there (.there .here))) (.take .here (.take .here (.take .here .refl))))) (fun w hw => hw.less (.take (.there .here) (.take (.there .here) (.take (.there .here) (.take .here .refl))))) ?_
  refine d_call 9 46 [2, 8, 1, 3, 4, 5, 7, 0, 6] [] [] 15 #[.pointer (some ⟨b2, 0, none⟩), .agg #[.int .i64 (1), .int .i64 (-1), .int .i64 (line % 8), .int .i64 (0), .bool false, .slice a1 1 c1]] (by kernel_rfl) (by kernel_rfl) (by kernel_rfl) (fun _ => by kernel_rfl) (Put_new b2 (⟨[], 1, 1, 0⟩ : CacheS) (1) ((-1)) (line % 8) (0) false a1 1 c1 ([v] : List Int) (by first | rfl | simp | (simp; omega) | omega) (RowsA.reads (k := 1) .here) (by first | (simp; done) | (simp; omega)) (by simp) (by simp) (by simp) (by simp) (by omega) (by simp [idx]) (not_full (by simp))) ?_
  rintro _ _ ⟨rfl, rfl⟩
  refine ⟨stable_nil, ?_⟩
  refine Draw.conv (Γ' := [CacheA b2 (⟨[(⟨(1), ((-1)), (line % 8), (1), false, ([v] : List Int)⟩ : Ent)], 1, 1, 1⟩ : CacheS), IntsA a1 c1 ([v] : List Int), Asn.own b3 (.cells #[.int .i64 v] 3 (0, 0)), Asn.own b1 (.cells #[.pointer (some ⟨b2, 0, none⟩), .pointer none, .pointer none] 46 (0, 0))]) (fun w hw => hw) (fun w hw => hw) ?_
  refine draw_end (by kernel_rfl) ?_
  refine At.env [(0, .int .i64 (line % 8)), (1, .int .i64 v), (4, .bool false), (5, .pointer (some ⟨b1, 0, none⟩)), (6, .int .i64 (0)), (7, .int .i64 (1)), (8, .int .i64 (-1)), (21, .int .i64 (0)), (22, .bool true), (30, .bool false), (36, .bool false)] ⟨by kernel_rfl, by kernel_rfl, by kernel_rfl, by kernel_rfl, by kernel_rfl, by kernel_rfl, by kernel_rfl, by kernel_rfl, by kernel_rfl, by kernel_rfl, by kernel_rfl, trivial⟩ ?_
  refine at_in_normal ?_
  refine at_then_normal ?_
  refine at_region (id := 13) 2 (by kernel_rfl) (by kernel_rfl) ?_
  refine s_pure 47 (.int .i64 (1)) (by kernel_rfl) (by kernel_rfl) (fun _ => by kernel_rfl) ?_
  refine s_pure 21 (.int .i64 (1)) (by kernel_rfl) (by kernel_rfl) (fun _ => by kernel_rfl) ?_
  refine ops_end ?_
  refine At.env [(0, .int .i64 (line % 8)), (1, .int .i64 v), (4, .bool false), (5, .pointer (some ⟨b1, 0, none⟩)), (6, .int .i64 (0)), (7, .int .i64 (1)), (8, .int .i64 (-1)), (21, .int .i64 (1)), (22, .bool true), (30, .bool false), (36, .bool false)] ⟨by kernel_rfl, by kernel_rfl, by kernel_rfl, by kernel_rfl, by kernel_rfl, by kernel_rfl, by kernel_rfl, by kernel_rfl, by kernel_rfl, by kernel_rfl, by kernel_rfl, trivial⟩ ?_
  refine at_round_normal ?_
  refine at_rounds ?_
  refine at_seq (x := C5 [1, 1, 1, 0, 1, 0, 0, 0]) (y := C5 [1, 1, 1, 0, 1, 0, 0, 1]) (by kernel_rfl) ?_
  refine at_region (id := 4) 1 (by kernel_rfl) (by kernel_rfl) ?_
  refine s_pure 22 (.bool true) (by kernel_rfl) (by kernel_rfl) (fun _ => by kernel_rfl) ?_
  refine ops_end ?_
  refine At.env [(0, .int .i64 (line % 8)), (1, .int .i64 v), (4, .bool false), (5, .pointer (some ⟨b1, 0, none⟩)), (6, .int .i64 (0)), (7, .int .i64 (1)), (8, .int .i64 (-1)), (21, .int .i64 (1)), (22, .bool true), (30, .bool false), (36, .bool false)] ⟨by kernel_rfl, by kernel_rfl, by kernel_rfl, by kernel_rfl, by kernel_rfl, by kernel_rfl, by kernel_rfl, by kernel_rfl, by kernel_rfl, by kernel_rfl, by kernel_rfl, trivial⟩ ?_
  refine at_then_normal ?_
  refine at_seq (x := C5 [1, 1, 1, 0, 1, 0, 0, 1, 0]) (y := C5 [1, 1, 1, 0, 1, 0, 0, 1, 1]) (by kernel_rfl) ?_
  refine at_true (t := true) (x := C5 [1, 1, 1, 0, 1, 0, 0, 1, 0, 0]) (y := C5 [1, 1, 1, 0, 1, 0, 0, 1, 0, 1]) (o := .tmp 22) (by kernel_rfl) (by kernel_rfl) (by kernel_rfl) rfl ?_
  refine at_skip (by kernel_rfl) ?_
  refine at_then_normal ?_
  refine at_seq (x := C5 [1, 1, 1, 0, 1, 0, 0, 1, 1, 0]) (y := C5 [1, 1, 1, 0, 1, 0, 0, 1, 1, 1]) (by kernel_rfl) ?_
  refine at_block (i := 1) (x := C5 [1, 1, 1, 0, 1, 0, 0, 1, 1, 0, 0]) (by kernel_rfl) ?_
  refine at_seq (x := C5 [1, 1, 1, 0, 1, 0, 0, 1, 1, 0, 0, 0]) (y := C5 [1, 1, 1, 0, 1, 0, 0, 1, 1, 0, 0, 1]) (by kernel_rfl) ?_
  refine at_region (id := 5) 2 (by kernel_rfl) (by kernel_rfl) ?_
  refine s_pure 23 (.int .i64 (1)) (by kernel_rfl) (by kernel_rfl) (fun _ => by kernel_rfl) ?_
  refine s_pure 6 (.int .i64 (1)) (by kernel_rfl) (by kernel_rfl) (fun _ => by kernel_rfl) ?_
  refine ops_end ?_
  refine At.env [(0, .int .i64 (line % 8)), (1, .int .i64 v), (4, .bool false), (5, .pointer (some ⟨b1, 0, none⟩)), (6, .int .i64 (1)), (7, .int .i64 (1)), (8, .int .i64 (-1)), (21, .int .i64 (1)), (22, .bool true), (30, .bool false), (36, .bool false)] ⟨by kernel_rfl, by kernel_rfl, by kernel_rfl, by kernel_rfl, by kernel_rfl, by kernel_rfl, by kernel_rfl, by kernel_rfl, by kernel_rfl, by kernel_rfl, by kernel_rfl, trivial⟩ ?_
  refine at_then_normal ?_
  refine at_seq (x := C5 [1, 1, 1, 0, 1, 0, 0, 1, 1, 0, 0, 1, 0]) (y := C5 [1, 1, 1, 0, 1, 0, 0, 1, 1, 0, 0, 1, 1]) (by kernel_rfl) ?_
  refine at_region (id := 6) 4 (by kernel_rfl) (by kernel_rfl) ?_
  refine s_pure 24 (.int .i64 (1)) (by kernel_rfl) (by kernel_rfl) (fun _ => by kernel_rfl) ?_
  refine s_call 25 13 #[.int .i64 (1), .int .i64 (1)] (by kernel_rfl) (by kernel_rfl) (fun _ => by kernel_rfl) (New_tr (1) (1)) ?_
  rintro _ _ ⟨b4, rfl, rfl⟩
  refine At.conv (Γ' := [CacheA b4 (⟨[], 1, 1, 0⟩ : CacheS), CacheA b2 (⟨[(⟨(1), ((-1)), (line % 8), (1), false, ([v] : List Int)⟩ : Ent)], 1, 1, 1⟩ : CacheS), IntsA a1 c1 ([v] : List Int), Asn.own b3 (.cells #[.int .i64 v] 3 (0, 0)), Asn.own b1 (.cells #[.pointer (some ⟨b2, 0, none⟩), .pointer none, .pointer none] 46 (0, 0))]) (fun w hw => hw) ?_
  refine s_pure 26 (.pointer (some ⟨b1, 1, none⟩)) (by kernel_rfl) (by kernel_rfl) (fun _ => by kernel_rfl) ?_
  refine s_do (by kernel_rfl) (by kernel_rfl) (st_store (off := 1) (vs := [.pointer (some ⟨b4, 0, none⟩)]) (c' := #[.pointer (some ⟨b2, 0, none⟩), .pointer (some ⟨b4, 0, none⟩), .pointer none]) (fun _ => by kernel_rfl) (.there (.there (.there (.there .here)))) (by kernel_rfl) (by kernel_rfl) (by kernel_rfl)) ?_
  rintro _ _ ⟨rfl, rfl⟩
  refine ops_end ?_
  refine At.env [(0, .int .i64 (line % 8)), (1, .int .i64 v), (4, .bool false), (5, .pointer (some ⟨b1, 0, none⟩)), (6, .int .i64 (1)), (7, .int .i64 (1)), (8, .int .i64 (-1)), (21, .int .i64 (1)), (22, .bool true), (30, .bool false), (36, .bool false)] ⟨by kernel_rfl, by kernel_rfl, by kernel_rfl, by kernel_rfl, by kernel_rfl, by kernel_rfl, by kernel_rfl, by kernel_rfl, by kernel_rfl, by kernel_rfl, by kernel_rfl, trivial⟩ ?_
  refine at_then_normal ?_
  refine at_seq (x := C5 [1, 1, 1, 0, 1, 0, 0, 1, 1, 0, 0, 1, 1, 0]) (y := C5 [1, 1, 1, 0, 1, 0, 0, 1, 1, 0, 0, 1, 1, 1]) (by kernel_rfl) ?_
  refine at_seq (x := C5 [1, 1, 1, 0, 1, 0, 0, 1, 1, 0, 0, 1, 1, 0, 0]) (y := C5 [1, 1, 1, 0, 1, 0, 0, 1, 1, 0, 0, 1, 1, 0, 1]) (by kernel_rfl) ?_
  refine at_region (id := 7) 4 (by kernel_rfl) (by kernel_rfl) ?_
  refine s_pure 27 (.int .i64 (1)) (by kernel_rfl) (by kernel_rfl) (fun _ => by kernel_rfl) ?_
  refine s_pure 28 (.pointer (some ⟨b1, 1, none⟩)) (by kernel_rfl) (by kernel_rfl) (fun _ => by kernel_rfl) ?_
  refine s_load 29 (.pointer (some ⟨b4, 0, none⟩)) (by kernel_rfl) (by kernel_rfl) (load1 (off := 1) (fun _ => by kernel_rfl) (holds_own .here) (by kernel_rfl)) ?_
  refine s_pure 30 (.bool false) (by kernel_rfl) (by kernel_rfl) (fun _ => by kernel_rfl) ?_
  refine ops_end ?_
  refine At.env [(0, .int .i64 (line % 8)), (1, .int .i64 v), (4, .bool false), (5, .pointer (some ⟨b1, 0, none⟩)), (6, .int .i64 (1)), (7, .int .i64 (1)), (8, .int .i64 (-1)), (21, .int .i64 (1)), (22, .bool true), (30, .bool false), (36, .bool false)] ⟨by kernel_rfl, by kernel_rfl, by kernel_rfl, by kernel_rfl, by kernel_rfl, by kernel_rfl, by kernel_rfl, by kernel_rfl, by kernel_rfl, by kernel_rfl, by kernel_rfl, trivial⟩ ?_
  refine at_then_normal ?_
  refine at_false (t := false) (x := C5 [1, 1, 1, 0, 1, 0, 0, 1, 1, 0, 0, 1, 1, 0, 1, 0]) (y := C5 [1, 1, 1, 0, 1, 0, 0, 1, 1, 0, 0, 1, 1, 0, 1, 1]) (o := .tmp 30) (by kernel_rfl) (by kernel_rfl) (by kernel_rfl) rfl ?_
  refine at_skip (by kernel_rfl) ?_
  refine at_then_normal ?_
  refine at_seq (x := C5 [1, 1, 1, 0, 1, 0, 0, 1, 1, 0, 0, 1, 1, 1, 0]) (y := C5 [1, 1, 1, 0, 1, 0, 0, 1, 1, 0, 0, 1, 1, 1, 1]) (by kernel_rfl) ?_
  refine at_region (id := 9) 6 (by kernel_rfl) (by kernel_rfl) ?_
  refine s_pure 31 (.int .i64 (1)) (by kernel_rfl) (by kernel_rfl) (fun _ => by kernel_rfl) ?_
  refine s_pure 32 (.int .i64 (2)) (by kernel_rfl) (by kernel_rfl) (fun _ => by kernel_rfl) ?_
  refine s_pure 33 (.int .i64 (1)) (by kernel_rfl) (by kernel_rfl) (fun _ => by kernel_rfl) ?_
  refine s_pure 34 (.int .i64 (0)) (by kernel_rfl) (by kernel_rfl) (fun _ => by kernel_rfl) ?_
  refine s_pure 7 (.int .i64 (2)) (by kernel_rfl) (by kernel_rfl) (fun _ => by kernel_rfl) ?_
  refine s_pure 8 (.int .i64 (0)) (by kernel_rfl) (by kernel_rfl) (fun _ => by kernel_rfl) ?_
  refine ops_end ?_
  refine At.env [(0, .int .i64 (line % 8)), (1, .int .i64 v), (4, .bool false), (5, .pointer (some ⟨b1, 0, none⟩)), (6, .int .i64 (1)), (7, .int .i64 (2)), (8, .int .i64 (0)), (21, .int .i64 (1)), (22, .bool true), (30, .bool false), (36, .bool false)] ⟨by kernel_rfl, by kernel_rfl, by kernel_rfl, by kernel_rfl, by kernel_rfl, by kernel_rfl, by kernel_rfl, by kernel_rfl, by kernel_rfl, by kernel_rfl, by kernel_rfl, trivial⟩ ?_
  refine at_then_normal ?_
  refine at_seq (x := C5 [1, 1, 1, 0, 1, 0, 0, 1, 1, 0, 0, 1, 1, 1, 1, 0]) (y := C5 [1, 1, 1, 0, 1, 0, 0, 1, 1, 0, 0, 1, 1, 1, 1, 1]) (by kernel_rfl) ?_
  refine at_seq (x := C5 [1, 1, 1, 0, 1, 0, 0, 1, 1, 0, 0, 1, 1, 1, 1, 0, 0]) (y := C5 [1, 1, 1, 0, 1, 0, 0, 1, 1, 0, 0, 1, 1, 1, 1, 0, 1]) (by kernel_rfl) ?_
  refine at_region (id := 10) 2 (by kernel_rfl) (by kernel_rfl) ?_
  refine s_pure 35 (.int .i64 (1)) (by kernel_rfl) (by kernel_rfl) (fun _ => by kernel_rfl) ?_
  refine s_pure 36 (.bool false) (by kernel_rfl) (by kernel_rfl) (fun _ => by kernel_rfl) ?_
  refine ops_end ?_
  refine At.env [(0, .int .i64 (line % 8)), (1, .int .i64 v), (4, .bool false), (5, .pointer (some ⟨b1, 0, none⟩)), (6, .int .i64 (1)), (7, .int .i64 (2)), (8, .int .i64 (0)), (21, .int .i64 (1)), (22, .bool true), (30, .bool false), (36, .bool false)] ⟨by kernel_rfl, by kernel_rfl, by kernel_rfl, by kernel_rfl, by kernel_rfl, by kernel_rfl, by kernel_rfl, by kernel_rfl, by kernel_rfl, by kernel_rfl, by kernel_rfl, trivial⟩ ?_
  refine at_then_normal ?_
  refine at_false (t := false) (x := C5 [1, 1, 1, 0, 1, 0, 0, 1, 1, 0, 0, 1, 1, 1, 1, 0, 1, 0]) (y := C5 [1, 1, 1, 0, 1, 0, 0, 1, 1, 0, 0, 1, 1, 1, 1, 0, 1, 1]) (o := .tmp 36) (by kernel_rfl) (by kernel_rfl) (by kernel_rfl) rfl ?_
  refine at_skip (by kernel_rfl) ?_
  refine at_then_normal ?_
  refine at_region_draw (id := 12) (by kernel_rfl) (by kernel_rfl) ?_
  refine d_pure 0 37 (.int .i64 (1)) (by kernel_rfl) (by kernel_rfl) (by kernel_rfl) (fun _ => by kernel_rfl) ?_
  refine d_pure 1 38 (.pointer (some ⟨b1, 1, none⟩)) (by kernel_rfl) (by kernel_rfl) (by kernel_rfl) (fun _ => by kernel_rfl) ?_
  refine d_load 2 39 (.pointer (some ⟨b4, 0, none⟩)) (by kernel_rfl) (by kernel_rfl) (by kernel_rfl) (load1 (off := 1) (fun _ => by kernel_rfl) (holds_own .here) (by kernel_rfl)) ?_
  refine d_pure 3 40 (.int .i64 (line % 8)) (by kernel_rfl) (by kernel_rfl) (by kernel_rfl) (fun _ => by kernel_rfl) ?_
  refine d_pure 4 41 (.int .i64 (2)) (by kernel_rfl) (by kernel_rfl) (by kernel_rfl) (fun _ => by kernel_rfl) ?_
  refine d_pure 5 42 (.int .i64 (0)) (by kernel_rfl) (by kernel_rfl) (by kernel_rfl) (fun _ => by kernel_rfl) ?_
  refine d_pure 6 43 (.int .i64 v) (by kernel_rfl) (by kernel_rfl) (by kernel_rfl) (fun _ => by kernel_rfl) ?_
  refine d_step 7 44 [6] [5, 4, 3, 1, 0] [2] (by kernel_rfl) (by kernel_rfl) (by kernel_rfl) (st_new (T := 3) (cells := #[.int .i64 v]) (fun a => .slice (some a) 1 1) (fun _ => by kernel_rfl)) ?_
  rintro _ _ ⟨b5, rfl, rfl⟩
  refine ⟨(stable_cons 2 39 (.pointer (some ⟨b4, 0, none⟩)) (by kernel_rfl) (by kernel_rfl) (by kernel_rfl) (load1 (off := 1) (fun _ => by kernel_rfl) (holds_own (.there .here)) (by kernel_rfl)) stable_nil), ?_⟩
  refine d_call 8 45 [3, 4, 5, 7, 6] [1, 0] [2] 16 #[.int .i64 (line % 8), .int .i64 (2), .int .i64 (0), .bool false, .slice (some ⟨b5, 0, none⟩) 1 1] (by kernel_rfl) (by kernel_rfl) (by kernel_rfl) (fun _ => by kernel_rfl) (ENew_tr (line % 8) (2) (0) false (some ⟨b5, 0, none⟩) 1 1 ([v] : List Int) (by first | rfl | simp | (simp; omega) | omega) (Reads.own (rows := ints ([v] : List Int)) .here rfl) (by first | (simp; done) | (simp; omega))) ?_
  rintro _ _ ⟨a2, c2, rfl, rfl⟩
  refine ⟨(stable_cons 2 39 (.pointer (some ⟨b4, 0, none⟩)) (by kernel_rfl) (by kernel_rfl) (by kernel_rfl) (load1 (off := 1) (fun _ => by kernel_rfl) (holds_own (.there (.there .here))) (by kernel_rfl)) stable_nil), ?_⟩
  refine Draw.conv (fun w hw => hw.less (.take (.there (.there (.there .here))) (.take .here (.take .here (.take .here (.take .here (.take .here (.take .here .refl)))))))) (fun w hw => hw.less (.take (.there .here) (.take (.there .here) (.take (.there .here) (.take .here (.take .here (.take .here (.take .here .refl)))))))) ?_
  refine d_call 9 46 [2, 8, 1, 3, 4, 5, 7, 0, 6] [] [] 15 #[.pointer (some ⟨b4, 0, none⟩), .agg #[.int .i64 (2), .int .i64 (0), .int .i64 (line % 8), .int .i64 (0), .bool false, .slice a2 1 c2]] (by kernel_rfl) (by kernel_rfl) (by kernel_rfl) (fun _ => by kernel_rfl) (Put_new b4 (⟨[], 1, 1, 0⟩ : CacheS) (2) (0) (line % 8) (0) false a2 1 c2 ([v] : List Int) (by first | rfl | simp | (simp; omega) | omega) (RowsA.reads (k := 1) .here) (by first | (simp; done) | (simp; omega)) (by simp) (by simp) (by simp) (by simp) (by omega) (by simp [idx]) (not_full (by simp))) ?_
  rintro _ _ ⟨rfl, rfl⟩
  refine ⟨stable_nil, ?_⟩
  refine Draw.conv (Γ' := [CacheA b4 (⟨[(⟨(2), (0), (line % 8), (1), false, ([v] : List Int)⟩ : Ent)], 1, 1, 1⟩ : CacheS), IntsA a2 c2 ([v] : List Int), Asn.own b5 (.cells #[.int .i64 v] 3 (0, 0)), Asn.own b1 (.cells #[.pointer (some ⟨b2, 0, none⟩), .pointer (some ⟨b4, 0, none⟩), .pointer none] 46 (0, 0)), CacheA b2 (⟨[(⟨(1), ((-1)), (line % 8), (1), false, ([v] : List Int)⟩ : Ent)], 1, 1, 1⟩ : CacheS), IntsA a1 c1 ([v] : List Int), Asn.own b3 (.cells #[.int .i64 v] 3 (0, 0))]) (fun w hw => hw) (fun w hw => hw) ?_
  refine draw_end (by kernel_rfl) ?_
  refine At.env [(0, .int .i64 (line % 8)), (1, .int .i64 v), (4, .bool false), (5, .pointer (some ⟨b1, 0, none⟩)), (6, .int .i64 (1)), (7, .int .i64 (2)), (8, .int .i64 (0)), (21, .int .i64 (1)), (22, .bool true), (30, .bool false), (36, .bool false)] ⟨by kernel_rfl, by kernel_rfl, by kernel_rfl, by kernel_rfl, by kernel_rfl, by kernel_rfl, by kernel_rfl, by kernel_rfl, by kernel_rfl, by kernel_rfl, by kernel_rfl, trivial⟩ ?_
  refine at_in_normal ?_
  refine at_then_normal ?_
  refine at_region (id := 13) 2 (by kernel_rfl) (by kernel_rfl) ?_
  refine s_pure 47 (.int .i64 (2)) (by kernel_rfl) (by kernel_rfl) (fun _ => by kernel_rfl) ?_
  refine s_pure 21 (.int .i64 (2)) (by kernel_rfl) (by kernel_rfl) (fun _ => by kernel_rfl) ?_
  refine ops_end ?_
  refine At.env [(0, .int .i64 (line % 8)), (1, .int .i64 v), (4, .bool false), (5, .pointer (some ⟨b1, 0, none⟩)), (6, .int .i64 (1)), (7, .int .i64 (2)), (8, .int .i64 (0)), (21, .int .i64 (2)), (22, .bool true), (30, .bool false), (36, .bool false)] ⟨by kernel_rfl, by kernel_rfl, by kernel_rfl, by kernel_rfl, by kernel_rfl, by kernel_rfl, by kernel_rfl, by kernel_rfl, by kernel_rfl, by kernel_rfl, by kernel_rfl, trivial⟩ ?_
  refine at_round_normal ?_
  refine at_rounds ?_
  refine at_seq (x := C5 [1, 1, 1, 0, 1, 0, 0, 0]) (y := C5 [1, 1, 1, 0, 1, 0, 0, 1]) (by kernel_rfl) ?_
  refine at_region (id := 4) 1 (by kernel_rfl) (by kernel_rfl) ?_
  refine s_pure 22 (.bool true) (by kernel_rfl) (by kernel_rfl) (fun _ => by kernel_rfl) ?_
  refine ops_end ?_
  refine At.env [(0, .int .i64 (line % 8)), (1, .int .i64 v), (4, .bool false), (5, .pointer (some ⟨b1, 0, none⟩)), (6, .int .i64 (1)), (7, .int .i64 (2)), (8, .int .i64 (0)), (21, .int .i64 (2)), (22, .bool true), (30, .bool false), (36, .bool false)] ⟨by kernel_rfl, by kernel_rfl, by kernel_rfl, by kernel_rfl, by kernel_rfl, by kernel_rfl, by kernel_rfl, by kernel_rfl, by kernel_rfl, by kernel_rfl, by kernel_rfl, trivial⟩ ?_
  refine at_then_normal ?_
  refine at_seq (x := C5 [1, 1, 1, 0, 1, 0, 0, 1, 0]) (y := C5 [1, 1, 1, 0, 1, 0, 0, 1, 1]) (by kernel_rfl) ?_
  refine at_true (t := true) (x := C5 [1, 1, 1, 0, 1, 0, 0, 1, 0, 0]) (y := C5 [1, 1, 1, 0, 1, 0, 0, 1, 0, 1]) (o := .tmp 22) (by kernel_rfl) (by kernel_rfl) (by kernel_rfl) rfl ?_
  refine at_skip (by kernel_rfl) ?_
  refine at_then_normal ?_
  refine at_seq (x := C5 [1, 1, 1, 0, 1, 0, 0, 1, 1, 0]) (y := C5 [1, 1, 1, 0, 1, 0, 0, 1, 1, 1]) (by kernel_rfl) ?_
  refine at_block (i := 1) (x := C5 [1, 1, 1, 0, 1, 0, 0, 1, 1, 0, 0]) (by kernel_rfl) ?_
  refine at_seq (x := C5 [1, 1, 1, 0, 1, 0, 0, 1, 1, 0, 0, 0]) (y := C5 [1, 1, 1, 0, 1, 0, 0, 1, 1, 0, 0, 1]) (by kernel_rfl) ?_
  refine at_region (id := 5) 2 (by kernel_rfl) (by kernel_rfl) ?_
  refine s_pure 23 (.int .i64 (2)) (by kernel_rfl) (by kernel_rfl) (fun _ => by kernel_rfl) ?_
  refine s_pure 6 (.int .i64 (2)) (by kernel_rfl) (by kernel_rfl) (fun _ => by kernel_rfl) ?_
  refine ops_end ?_
  refine At.env [(0, .int .i64 (line % 8)), (1, .int .i64 v), (4, .bool false), (5, .pointer (some ⟨b1, 0, none⟩)), (6, .int .i64 (2)), (7, .int .i64 (2)), (8, .int .i64 (0)), (21, .int .i64 (2)), (22, .bool true), (30, .bool false), (36, .bool false)] ⟨by kernel_rfl, by kernel_rfl, by kernel_rfl, by kernel_rfl, by kernel_rfl, by kernel_rfl, by kernel_rfl, by kernel_rfl, by kernel_rfl, by kernel_rfl, by kernel_rfl, trivial⟩ ?_
  refine at_then_normal ?_
  refine at_seq (x := C5 [1, 1, 1, 0, 1, 0, 0, 1, 1, 0, 0, 1, 0]) (y := C5 [1, 1, 1, 0, 1, 0, 0, 1, 1, 0, 0, 1, 1]) (by kernel_rfl) ?_
  refine at_region (id := 6) 4 (by kernel_rfl) (by kernel_rfl) ?_
  refine s_pure 24 (.int .i64 (2)) (by kernel_rfl) (by kernel_rfl) (fun _ => by kernel_rfl) ?_
  refine s_call 25 13 #[.int .i64 (1), .int .i64 (1)] (by kernel_rfl) (by kernel_rfl) (fun _ => by kernel_rfl) (New_tr (1) (1)) ?_
  rintro _ _ ⟨b6, rfl, rfl⟩
  refine At.conv (Γ' := [CacheA b6 (⟨[], 1, 1, 0⟩ : CacheS), CacheA b4 (⟨[(⟨(2), (0), (line % 8), (1), false, ([v] : List Int)⟩ : Ent)], 1, 1, 1⟩ : CacheS), IntsA a2 c2 ([v] : List Int), Asn.own b5 (.cells #[.int .i64 v] 3 (0, 0)), Asn.own b1 (.cells #[.pointer (some ⟨b2, 0, none⟩), .pointer (some ⟨b4, 0, none⟩), .pointer none] 46 (0, 0)), CacheA b2 (⟨[(⟨(1), ((-1)), (line % 8), (1), false, ([v] : List Int)⟩ : Ent)], 1, 1, 1⟩ : CacheS), IntsA a1 c1 ([v] : List Int), Asn.own b3 (.cells #[.int .i64 v] 3 (0, 0))]) (fun w hw => hw) ?_
  refine s_pure 26 (.pointer (some ⟨b1, 2, none⟩)) (by kernel_rfl) (by kernel_rfl) (fun _ => by kernel_rfl) ?_
  refine s_do (by kernel_rfl) (by kernel_rfl) (st_store (off := 2) (vs := [.pointer (some ⟨b6, 0, none⟩)]) (c' := #[.pointer (some ⟨b2, 0, none⟩), .pointer (some ⟨b4, 0, none⟩), .pointer (some ⟨b6, 0, none⟩)]) (fun _ => by kernel_rfl) (.there (.there (.there (.there .here)))) (by kernel_rfl) (by kernel_rfl) (by kernel_rfl)) ?_
  rintro _ _ ⟨rfl, rfl⟩
  refine ops_end ?_
  refine At.env [(0, .int .i64 (line % 8)), (1, .int .i64 v), (4, .bool false), (5, .pointer (some ⟨b1, 0, none⟩)), (6, .int .i64 (2)), (7, .int .i64 (2)), (8, .int .i64 (0)), (21, .int .i64 (2)), (22, .bool true), (30, .bool false), (36, .bool false)] ⟨by kernel_rfl, by kernel_rfl, by kernel_rfl, by kernel_rfl, by kernel_rfl, by kernel_rfl, by kernel_rfl, by kernel_rfl, by kernel_rfl, by kernel_rfl, by kernel_rfl, trivial⟩ ?_
  refine at_then_normal ?_
  refine at_seq (x := C5 [1, 1, 1, 0, 1, 0, 0, 1, 1, 0, 0, 1, 1, 0]) (y := C5 [1, 1, 1, 0, 1, 0, 0, 1, 1, 0, 0, 1, 1, 1]) (by kernel_rfl) ?_
  refine at_seq (x := C5 [1, 1, 1, 0, 1, 0, 0, 1, 1, 0, 0, 1, 1, 0, 0]) (y := C5 [1, 1, 1, 0, 1, 0, 0, 1, 1, 0, 0, 1, 1, 0, 1]) (by kernel_rfl) ?_
  refine at_region (id := 7) 4 (by kernel_rfl) (by kernel_rfl) ?_
  refine s_pure 27 (.int .i64 (2)) (by kernel_rfl) (by kernel_rfl) (fun _ => by kernel_rfl) ?_
  refine s_pure 28 (.pointer (some ⟨b1, 2, none⟩)) (by kernel_rfl) (by kernel_rfl) (fun _ => by kernel_rfl) ?_
  refine s_load 29 (.pointer (some ⟨b6, 0, none⟩)) (by kernel_rfl) (by kernel_rfl) (load1 (off := 2) (fun _ => by kernel_rfl) (holds_own .here) (by kernel_rfl)) ?_
  refine s_pure 30 (.bool false) (by kernel_rfl) (by kernel_rfl) (fun _ => by kernel_rfl) ?_
  refine ops_end ?_
  refine At.env [(0, .int .i64 (line % 8)), (1, .int .i64 v), (4, .bool false), (5, .pointer (some ⟨b1, 0, none⟩)), (6, .int .i64 (2)), (7, .int .i64 (2)), (8, .int .i64 (0)), (21, .int .i64 (2)), (22, .bool true), (30, .bool false), (36, .bool false)] ⟨by kernel_rfl, by kernel_rfl, by kernel_rfl, by kernel_rfl, by kernel_rfl, by kernel_rfl, by kernel_rfl, by kernel_rfl, by kernel_rfl, by kernel_rfl, by kernel_rfl, trivial⟩ ?_
  refine at_then_normal ?_
  refine at_false (t := false) (x := C5 [1, 1, 1, 0, 1, 0, 0, 1, 1, 0, 0, 1, 1, 0, 1, 0]) (y := C5 [1, 1, 1, 0, 1, 0, 0, 1, 1, 0, 0, 1, 1, 0, 1, 1]) (o := .tmp 30) (by kernel_rfl) (by kernel_rfl) (by kernel_rfl) rfl ?_
  refine at_skip (by kernel_rfl) ?_
  refine at_then_normal ?_
  refine at_seq (x := C5 [1, 1, 1, 0, 1, 0, 0, 1, 1, 0, 0, 1, 1, 1, 0]) (y := C5 [1, 1, 1, 0, 1, 0, 0, 1, 1, 0, 0, 1, 1, 1, 1]) (by kernel_rfl) ?_
  refine at_region (id := 9) 6 (by kernel_rfl) (by kernel_rfl) ?_
  refine s_pure 31 (.int .i64 (2)) (by kernel_rfl) (by kernel_rfl) (fun _ => by kernel_rfl) ?_
  refine s_pure 32 (.int .i64 (3)) (by kernel_rfl) (by kernel_rfl) (fun _ => by kernel_rfl) ?_
  refine s_pure 33 (.int .i64 (2)) (by kernel_rfl) (by kernel_rfl) (fun _ => by kernel_rfl) ?_
  refine s_pure 34 (.int .i64 (1)) (by kernel_rfl) (by kernel_rfl) (fun _ => by kernel_rfl) ?_
  refine s_pure 7 (.int .i64 (3)) (by kernel_rfl) (by kernel_rfl) (fun _ => by kernel_rfl) ?_
  refine s_pure 8 (.int .i64 (1)) (by kernel_rfl) (by kernel_rfl) (fun _ => by kernel_rfl) ?_
  refine ops_end ?_
  refine At.env [(0, .int .i64 (line % 8)), (1, .int .i64 v), (4, .bool false), (5, .pointer (some ⟨b1, 0, none⟩)), (6, .int .i64 (2)), (7, .int .i64 (3)), (8, .int .i64 (1)), (21, .int .i64 (2)), (22, .bool true), (30, .bool false), (36, .bool false)] ⟨by kernel_rfl, by kernel_rfl, by kernel_rfl, by kernel_rfl, by kernel_rfl, by kernel_rfl, by kernel_rfl, by kernel_rfl, by kernel_rfl, by kernel_rfl, by kernel_rfl, trivial⟩ ?_
  refine at_then_normal ?_
  refine at_seq (x := C5 [1, 1, 1, 0, 1, 0, 0, 1, 1, 0, 0, 1, 1, 1, 1, 0]) (y := C5 [1, 1, 1, 0, 1, 0, 0, 1, 1, 0, 0, 1, 1, 1, 1, 1]) (by kernel_rfl) ?_
  refine at_seq (x := C5 [1, 1, 1, 0, 1, 0, 0, 1, 1, 0, 0, 1, 1, 1, 1, 0, 0]) (y := C5 [1, 1, 1, 0, 1, 0, 0, 1, 1, 0, 0, 1, 1, 1, 1, 0, 1]) (by kernel_rfl) ?_
  refine at_region (id := 10) 2 (by kernel_rfl) (by kernel_rfl) ?_
  refine s_pure 35 (.int .i64 (2)) (by kernel_rfl) (by kernel_rfl) (fun _ => by kernel_rfl) ?_
  refine s_pure 36 (.bool true) (by kernel_rfl) (by kernel_rfl) (fun _ => by kernel_rfl) ?_
  refine ops_end ?_
  refine At.env [(0, .int .i64 (line % 8)), (1, .int .i64 v), (4, .bool false), (5, .pointer (some ⟨b1, 0, none⟩)), (6, .int .i64 (2)), (7, .int .i64 (3)), (8, .int .i64 (1)), (21, .int .i64 (2)), (22, .bool true), (30, .bool false), (36, .bool true)] ⟨by kernel_rfl, by kernel_rfl, by kernel_rfl, by kernel_rfl, by kernel_rfl, by kernel_rfl, by kernel_rfl, by kernel_rfl, by kernel_rfl, by kernel_rfl, by kernel_rfl, trivial⟩ ?_
  refine at_then_normal ?_
  refine at_true (t := true) (x := C5 [1, 1, 1, 0, 1, 0, 0, 1, 1, 0, 0, 1, 1, 1, 1, 0, 1, 0]) (y := C5 [1, 1, 1, 0, 1, 0, 0, 1, 1, 0, 0, 1, 1, 1, 1, 0, 1, 1]) (o := .tmp 36) (by kernel_rfl) (by kernel_rfl) (by kernel_rfl) rfl ?_
  refine at_region (id := 11) 1 (by kernel_rfl) (by kernel_rfl) ?_
  refine s_pure 7 (.int .i64 (-1)) (by kernel_rfl) (by kernel_rfl) (fun _ => by kernel_rfl) ?_
  refine ops_end ?_
  refine At.env [(0, .int .i64 (line % 8)), (1, .int .i64 v), (4, .bool false), (5, .pointer (some ⟨b1, 0, none⟩)), (6, .int .i64 (2)), (7, .int .i64 (-1)), (8, .int .i64 (1)), (21, .int .i64 (2)), (22, .bool true), (30, .bool false), (36, .bool true)] ⟨by kernel_rfl, by kernel_rfl, by kernel_rfl, by kernel_rfl, by kernel_rfl, by kernel_rfl, by kernel_rfl, by kernel_rfl, by kernel_rfl, by kernel_rfl, by kernel_rfl, trivial⟩ ?_
  refine at_then_normal ?_
  refine at_region_draw (id := 12) (by kernel_rfl) (by kernel_rfl) ?_
  refine d_pure 0 37 (.int .i64 (2)) (by kernel_rfl) (by kernel_rfl) (by kernel_rfl) (fun _ => by kernel_rfl) ?_
  refine d_pure 1 38 (.pointer (some ⟨b1, 2, none⟩)) (by kernel_rfl) (by kernel_rfl) (by kernel_rfl) (fun _ => by kernel_rfl) ?_
  refine d_load 2 39 (.pointer (some ⟨b6, 0, none⟩)) (by kernel_rfl) (by kernel_rfl) (by kernel_rfl) (load1 (off := 2) (fun _ => by kernel_rfl) (holds_own .here) (by kernel_rfl)) ?_
  refine d_pure 3 40 (.int .i64 (line % 8)) (by kernel_rfl) (by kernel_rfl) (by kernel_rfl) (fun _ => by kernel_rfl) ?_
  refine d_pure 4 41 (.int .i64 (-1)) (by kernel_rfl) (by kernel_rfl) (by kernel_rfl) (fun _ => by kernel_rfl) ?_
  refine d_pure 5 42 (.int .i64 (1)) (by kernel_rfl) (by kernel_rfl) (by kernel_rfl) (fun _ => by kernel_rfl) ?_
  refine d_pure 6 43 (.int .i64 v) (by kernel_rfl) (by kernel_rfl) (by kernel_rfl) (fun _ => by kernel_rfl) ?_
  refine d_step 7 44 [6] [5, 4, 3, 1, 0] [2] (by kernel_rfl) (by kernel_rfl) (by kernel_rfl) (st_new (T := 3) (cells := #[.int .i64 v]) (fun a => .slice (some a) 1 1) (fun _ => by kernel_rfl)) ?_
  rintro _ _ ⟨b7, rfl, rfl⟩
  refine ⟨(stable_cons 2 39 (.pointer (some ⟨b6, 0, none⟩)) (by kernel_rfl) (by kernel_rfl) (by kernel_rfl) (load1 (off := 2) (fun _ => by kernel_rfl) (holds_own (.there .here)) (by kernel_rfl)) stable_nil), ?_⟩
  refine d_call 8 45 [3, 4, 5, 7, 6] [1, 0] [2] 16 #[.int .i64 (line % 8), .int .i64 (-1), .int .i64 (1), .bool false, .slice (some ⟨b7, 0, none⟩) 1 1] (by kernel_rfl) (by kernel_rfl) (by kernel_rfl) (fun _ => by kernel_rfl) (ENew_tr (line % 8) ((-1)) (1) false (some ⟨b7, 0, none⟩) 1 1 ([v] : List Int) (by first | rfl | simp | (simp; omega) | omega) (Reads.own (rows := ints ([v] : List Int)) .here rfl) (by first | (simp; done) | (simp; omega))) ?_
  rintro _ _ ⟨a3, c3, rfl, rfl⟩
  refine ⟨(stable_cons 2 39 (.pointer (some ⟨b6, 0, none⟩)) (by kernel_rfl) (by kernel_rfl) (by kernel_rfl) (load1 (off := 2) (fun _ => by kernel_rfl) (holds_own (.there (.there .here))) (by kernel_rfl)) stable_nil), ?_⟩
  refine Draw.conv (fun w hw => hw.less (.take (.there (.there (.there .here))) (.take .here (.take .here (.take .here (.take .here (.take .here (.take .here (.take .here (.take .here (.take .here .refl))))))))))) (fun w hw => hw.less (.take (.there .here) (.take (.there .here) (.take (.there .here) (.take .here (.take .here (.take .here (.take .here (.take .here (.take .here (.take .here .refl))))))))))) ?_
  refine d_call 9 46 [2, 8, 1, 3, 4, 5, 7, 0, 6] [] [] 15 #[.pointer (some ⟨b6, 0, none⟩), .agg #[.int .i64 (-1), .int .i64 (1), .int .i64 (line % 8), .int .i64 (0), .bool false, .slice a3 1 c3]] (by kernel_rfl) (by kernel_rfl) (by kernel_rfl) (fun _ => by kernel_rfl) (Put_new b6 (⟨[], 1, 1, 0⟩ : CacheS) ((-1)) (1) (line % 8) (0) false a3 1 c3 ([v] : List Int) (by first | rfl | simp | (simp; omega) | omega) (RowsA.reads (k := 1) .here) (by first | (simp; done) | (simp; omega)) (by simp) (by simp) (by simp) (by simp) (by omega) (by simp [idx]) (not_full (by simp))) ?_
  rintro _ _ ⟨rfl, rfl⟩
  refine ⟨stable_nil, ?_⟩
  refine Draw.conv (Γ' := [CacheA b6 (⟨[(⟨((-1)), (1), (line % 8), (1), false, ([v] : List Int)⟩ : Ent)], 1, 1, 1⟩ : CacheS), IntsA a3 c3 ([v] : List Int), Asn.own b7 (.cells #[.int .i64 v] 3 (0, 0)), Asn.own b1 (.cells #[.pointer (some ⟨b2, 0, none⟩), .pointer (some ⟨b4, 0, none⟩), .pointer (some ⟨b6, 0, none⟩)] 46 (0, 0)), CacheA b4 (⟨[(⟨(2), (0), (line % 8), (1), false, ([v] : List Int)⟩ : Ent)], 1, 1, 1⟩ : CacheS), IntsA a2 c2 ([v] : List Int), Asn.own b5 (.cells #[.int .i64 v] 3 (0, 0)), CacheA b2 (⟨[(⟨(1), ((-1)), (line % 8), (1), false, ([v] : List Int)⟩ : Ent)], 1, 1, 1⟩ : CacheS), IntsA a1 c1 ([v] : List Int), Asn.own b3 (.cells #[.int .i64 v] 3 (0, 0))]) (fun w hw => hw) (fun w hw => hw) ?_
  refine draw_end (by kernel_rfl) ?_
  refine At.env [(0, .int .i64 (line % 8)), (1, .int .i64 v), (4, .bool false), (5, .pointer (some ⟨b1, 0, none⟩)), (6, .int .i64 (2)), (7, .int .i64 (-1)), (8, .int .i64 (1)), (21, .int .i64 (2)), (22, .bool true), (30, .bool false), (36, .bool true)] ⟨by kernel_rfl, by kernel_rfl, by kernel_rfl, by kernel_rfl, by kernel_rfl, by kernel_rfl, by kernel_rfl, by kernel_rfl, by kernel_rfl, by kernel_rfl, by kernel_rfl, trivial⟩ ?_
  refine at_in_normal ?_
  refine at_then_normal ?_
  refine at_region (id := 13) 2 (by kernel_rfl) (by kernel_rfl) ?_
  refine s_pure 47 (.int .i64 (3)) (by kernel_rfl) (by kernel_rfl) (fun _ => by kernel_rfl) ?_
  refine s_pure 21 (.int .i64 (3)) (by kernel_rfl) (by kernel_rfl) (fun _ => by kernel_rfl) ?_
  refine ops_end ?_
  refine At.env [(0, .int .i64 (line % 8)), (1, .int .i64 v), (4, .bool false), (5, .pointer (some ⟨b1, 0, none⟩)), (6, .int .i64 (2)), (7, .int .i64 (-1)), (8, .int .i64 (1)), (21, .int .i64 (3)), (22, .bool true), (30, .bool false), (36, .bool true)] ⟨by kernel_rfl, by kernel_rfl, by kernel_rfl, by kernel_rfl, by kernel_rfl, by kernel_rfl, by kernel_rfl, by kernel_rfl, by kernel_rfl, by kernel_rfl, by kernel_rfl, trivial⟩ ?_
  refine at_round_normal ?_
  refine at_rounds ?_
  refine at_seq (x := C5 [1, 1, 1, 0, 1, 0, 0, 0]) (y := C5 [1, 1, 1, 0, 1, 0, 0, 1]) (by kernel_rfl) ?_
  refine at_region (id := 4) 1 (by kernel_rfl) (by kernel_rfl) ?_
  refine s_pure 22 (.bool false) (by kernel_rfl) (by kernel_rfl) (fun _ => by kernel_rfl) ?_
  refine ops_end ?_
  refine At.env [(0, .int .i64 (line % 8)), (1, .int .i64 v), (4, .bool false), (5, .pointer (some ⟨b1, 0, none⟩)), (6, .int .i64 (2)), (7, .int .i64 (-1)), (8, .int .i64 (1)), (21, .int .i64 (3)), (22, .bool false), (30, .bool false), (36, .bool true)] ⟨by kernel_rfl, by kernel_rfl, by kernel_rfl, by kernel_rfl, by kernel_rfl, by kernel_rfl, by kernel_rfl, by kernel_rfl, by kernel_rfl, by kernel_rfl, by kernel_rfl, trivial⟩ ?_
  refine at_then_normal ?_
  refine at_seq (x := C5 [1, 1, 1, 0, 1, 0, 0, 1, 0]) (y := C5 [1, 1, 1, 0, 1, 0, 0, 1, 1]) (by kernel_rfl) ?_
  refine at_false (t := false) (x := C5 [1, 1, 1, 0, 1, 0, 0, 1, 0, 0]) (y := C5 [1, 1, 1, 0, 1, 0, 0, 1, 0, 1]) (o := .tmp 22) (by kernel_rfl) (by kernel_rfl) (by kernel_rfl) rfl ?_
  refine at_exit (i := 0) (by kernel_rfl) ?_
  refine at_then_exit ?_
  refine at_then_exit ?_
  refine at_in_here ?_
  refine at_then_normal ?_
  refine at_seq (x := C5 [1, 1, 1, 1, 0]) (y := C5 [1, 1, 1, 1, 1]) (by kernel_rfl) ?_
  refine at_region (id := 14) 11 (by kernel_rfl) (by kernel_rfl) ?_
  refine s_pure 49 (.pointer (some ⟨b1, 0, none⟩)) (by kernel_rfl) (by kernel_rfl) (fun _ => by kernel_rfl) ?_
  refine s_load 50 (.pointer (some ⟨b2, 0, none⟩)) (by kernel_rfl) (by kernel_rfl) (load1 (off := 0) (fun _ => by kernel_rfl) (holds_own (.there (.there (.there .here)))) (by kernel_rfl)) ?_
  refine s_pure 51 (.int .i64 (line % 8)) (by kernel_rfl) (by kernel_rfl) (fun _ => by kernel_rfl) ?_
  refine s_pure 52 (.agg #[.int .i64 (4), .int .i64 (1), .int .i64 (0), .int .i64 (0), .int .i64 (line % 8), .int .i64 (2), .int .i64 (0), .bool false, .slice none 0 0]) (by kernel_rfl) (by kernel_rfl) (fun _ => by kernel_rfl) ?_
  refine At.conv (fun w hw => hw.less (.take (.there (.there (.there (.there (.there (.there (.there .here))))))) (.take .here (.take .here (.take .here (.take .here (.take .here (.take .here (.take .here (.take .here (.take .here .refl))))))))))) ?_
  refine s_call 53 18 #[.pointer (some ⟨b2, 0, none⟩), .agg #[.int .i64 (4), .int .i64 (1), .int .i64 (0), .int .i64 (0), .int .i64 (line % 8), .int .i64 (2), .int .i64 (0), .bool false, .slice none 0 0]] (by kernel_rfl) (by kernel_rfl) (fun _ => by kernel_rfl) (Handle_fwd b2 (⟨[(⟨(1), ((-1)), (line % 8), (1), false, ([v] : List Int)⟩ : Ent)], 1, 1, 1⟩ : CacheS) (1) (0) (0) (line % 8) (2) (0) false none 0 0 (by omega) (by omega) (by omega) (by omega) (by omega) (by omega) (by omega) (by simp) (by simp) (by intro x hx; simp only [List.mem_cons, List.not_mem_nil, or_false] at hx; rcases hx with rfl <;> first | exact Nat.le_of_lt (by decide) | (simp; done) | (simp; omega) | omega) 0 (⟨(1), ((-1)), (line % 8), (1), false, ([v] : List Int)⟩ : Ent) (by simp [idx]) rfl rfl) ?_
  rintro _ _ ⟨rfl, rfl⟩
  refine At.conv (Γ' := [CacheA b2 (⟨[(⟨(2), ((-1)), (line % 8), (1), false, ([v] : List Int)⟩ : Ent)], 1, 1, 1⟩ : CacheS), CacheA b6 (⟨[(⟨((-1)), (1), (line % 8), (1), false, ([v] : List Int)⟩ : Ent)], 1, 1, 1⟩ : CacheS), IntsA a3 c3 ([v] : List Int), Asn.own b7 (.cells #[.int .i64 v] 3 (0, 0)), Asn.own b1 (.cells #[.pointer (some ⟨b2, 0, none⟩), .pointer (some ⟨b4, 0, none⟩), .pointer (some ⟨b6, 0, none⟩)] 46 (0, 0)), CacheA b4 (⟨[(⟨(2), (0), (line % 8), (1), false, ([v] : List Int)⟩ : Ent)], 1, 1, 1⟩ : CacheS), IntsA a2 c2 ([v] : List Int), Asn.own b5 (.cells #[.int .i64 v] 3 (0, 0)), IntsA a1 c1 ([v] : List Int), Asn.own b3 (.cells #[.int .i64 v] 3 (0, 0))]) (fun w hw => hw) ?_
  refine s_pure 48 (.tuple #[.agg #[.int .i64 (8), .int .i64 (0), .int .i64 (1), .int .i64 (0), .int .i64 (line % 8), .int .i64 (0), .int .i64 (0), .bool false, .slice none 0 0], .int .i64 (0)]) (by kernel_rfl) (by kernel_rfl) (fun _ => by kernel_rfl) ?_
  refine s_pure 54 (.agg #[.int .i64 (8), .int .i64 (0), .int .i64 (1), .int .i64 (0), .int .i64 (line % 8), .int .i64 (0), .int .i64 (0), .bool false, .slice none 0 0]) (by kernel_rfl) (by kernel_rfl) (fun _ => by kernel_rfl) ?_
  refine s_pure 55 (.int .i64 (0)) (by kernel_rfl) (by kernel_rfl) (fun _ => by kernel_rfl) ?_
  refine s_step 9 (by kernel_rfl) (by kernel_rfl) (st_new (T := 35) (cells := #[.int .i64 (0), .int .i64 (0), .int .i64 (0), .int .i64 (0), .int .i64 (0), .int .i64 (0), .int .i64 (0), .bool false, .slice none 0 0]) (fun a => .pointer (some a)) (fun _ => by kernel_rfl)) ?_
  rintro _ _ ⟨b8, rfl, rfl⟩
  refine s_do (by kernel_rfl) (by kernel_rfl) (st_store (off := 0) (vs := [.int .i64 (8), .int .i64 (0), .int .i64 (1), .int .i64 (0), .int .i64 (line % 8), .int .i64 (0), .int .i64 (0), .bool false, .slice none 0 0]) (c' := #[.int .i64 (8), .int .i64 (0), .int .i64 (1), .int .i64 (0), .int .i64 (line % 8), .int .i64 (0), .int .i64 (0), .bool false, .slice none 0 0]) (fun _ => by kernel_rfl) .here (by kernel_rfl) (by kernel_rfl) (by kernel_rfl)) ?_
  rintro _ _ ⟨rfl, rfl⟩
  refine s_pure 10 (.int .i64 (0)) (by kernel_rfl) (by kernel_rfl) (fun _ => by kernel_rfl) ?_
  refine ops_end ?_
  refine At.env [(0, .int .i64 (line % 8)), (1, .int .i64 v), (4, .bool false), (5, .pointer (some ⟨b1, 0, none⟩)), (6, .int .i64 (2)), (7, .int .i64 (-1)), (8, .int .i64 (1)), (10, .int .i64 (0)), (21, .int .i64 (3)), (22, .bool false), (30, .bool false), (36, .bool true)] ⟨by kernel_rfl, by kernel_rfl, by kernel_rfl, by kernel_rfl, by kernel_rfl, by kernel_rfl, by kernel_rfl, by kernel_rfl, by kernel_rfl, by kernel_rfl, by kernel_rfl, by kernel_rfl, trivial⟩ ?_
  refine at_then_normal ?_
  refine at_seq (x := C5 [1, 1, 1, 1, 1, 0]) (y := C5 [1, 1, 1, 1, 1, 1]) (by kernel_rfl) ?_
  refine at_region (id := 15) 11 (by kernel_rfl) (by kernel_rfl) ?_
  refine s_pure 57 (.pointer (some ⟨b1, 2, none⟩)) (by kernel_rfl) (by kernel_rfl) (fun _ => by kernel_rfl) ?_
  refine s_load 58 (.pointer (some ⟨b6, 0, none⟩)) (by kernel_rfl) (by kernel_rfl) (load1 (off := 2) (fun _ => by kernel_rfl) (holds_own (.there (.there (.there (.there (.there .here)))))) (by kernel_rfl)) ?_
  refine s_pure 59 (.int .i64 (line % 8)) (by kernel_rfl) (by kernel_rfl) (fun _ => by kernel_rfl) ?_
  refine s_pure 60 (.agg #[.int .i64 (5), .int .i64 (1), .int .i64 (2), .int .i64 (0), .int .i64 (line % 8), .int .i64 (0), .int .i64 (0), .bool false, .slice none 0 0]) (by kernel_rfl) (by kernel_rfl) (fun _ => by kernel_rfl) ?_
  refine At.conv (fun w hw => hw.less (.take (.there (.there .here)) (.take .here (.take .here (.take .here (.take .here (.take .here (.take .here (.take .here (.take .here (.take .here (.take .here .refl)))))))))))) ?_
  refine s_call 61 18 #[.pointer (some ⟨b6, 0, none⟩), .agg #[.int .i64 (5), .int .i64 (1), .int .i64 (2), .int .i64 (0), .int .i64 (line % 8), .int .i64 (0), .int .i64 (0), .bool false, .slice none 0 0]] (by kernel_rfl) (by kernel_rfl) (fun _ => by kernel_rfl) (Handle_back b6 (⟨[(⟨((-1)), (1), (line % 8), (1), false, ([v] : List Int)⟩ : Ent)], 1, 1, 1⟩ : CacheS) (1) (2) (0) (line % 8) (0) (0) false none 0 0 (by omega) (by omega) (by omega) (by omega) (by omega) (by omega) (by omega) (by simp) (by simp) (by intro x hx; simp only [List.mem_cons, List.not_mem_nil, or_false] at hx; rcases hx with rfl <;> first | exact Nat.le_of_lt (by decide) | (simp; done) | (simp; omega) | omega) 0 (⟨((-1)), (1), (line % 8), (1), false, ([v] : List Int)⟩ : Ent) (by simp [idx]) rfl rfl) ?_
  rintro _ _ ⟨rfl, rfl⟩
  refine At.conv (Γ' := [CacheA b6 (⟨[(⟨((-1)), (0), (line % 8), (1), false, ([v] : List Int)⟩ : Ent)], 1, 1, 1⟩ : CacheS), Asn.own b8 (.cells #[.int .i64 (8), .int .i64 (0), .int .i64 (1), .int .i64 (0), .int .i64 (line % 8), .int .i64 (0), .int .i64 (0), .bool false, .slice none 0 0] 35 (0, 0)), CacheA b2 (⟨[(⟨(2), ((-1)), (line % 8), (1), false, ([v] : List Int)⟩ : Ent)], 1, 1, 1⟩ : CacheS), IntsA a3 c3 ([v] : List Int), Asn.own b7 (.cells #[.int .i64 v] 3 (0, 0)), Asn.own b1 (.cells #[.pointer (some ⟨b2, 0, none⟩), .pointer (some ⟨b4, 0, none⟩), .pointer (some ⟨b6, 0, none⟩)] 46 (0, 0)), CacheA b4 (⟨[(⟨(2), (0), (line % 8), (1), false, ([v] : List Int)⟩ : Ent)], 1, 1, 1⟩ : CacheS), IntsA a2 c2 ([v] : List Int), Asn.own b5 (.cells #[.int .i64 v] 3 (0, 0)), IntsA a1 c1 ([v] : List Int), Asn.own b3 (.cells #[.int .i64 v] 3 (0, 0))]) (fun w hw => hw) ?_
  refine s_pure 56 (.tuple #[.agg #[.int .i64 (8), .int .i64 (2), .int .i64 (1), .int .i64 (0), .int .i64 (line % 8), .int .i64 (0), .int .i64 (0), .bool false, .slice none 0 0], .int .i64 (0)]) (by kernel_rfl) (by kernel_rfl) (fun _ => by kernel_rfl) ?_
  refine s_pure 62 (.agg #[.int .i64 (8), .int .i64 (2), .int .i64 (1), .int .i64 (0), .int .i64 (line % 8), .int .i64 (0), .int .i64 (0), .bool false, .slice none 0 0]) (by kernel_rfl) (by kernel_rfl) (fun _ => by kernel_rfl) ?_
  refine s_pure 63 (.int .i64 (0)) (by kernel_rfl) (by kernel_rfl) (fun _ => by kernel_rfl) ?_
  refine s_step 11 (by kernel_rfl) (by kernel_rfl) (st_new (T := 35) (cells := #[.int .i64 (0), .int .i64 (0), .int .i64 (0), .int .i64 (0), .int .i64 (0), .int .i64 (0), .int .i64 (0), .bool false, .slice none 0 0]) (fun a => .pointer (some a)) (fun _ => by kernel_rfl)) ?_
  rintro _ _ ⟨b9, rfl, rfl⟩
  refine s_do (by kernel_rfl) (by kernel_rfl) (st_store (off := 0) (vs := [.int .i64 (8), .int .i64 (2), .int .i64 (1), .int .i64 (0), .int .i64 (line % 8), .int .i64 (0), .int .i64 (0), .bool false, .slice none 0 0]) (c' := #[.int .i64 (8), .int .i64 (2), .int .i64 (1), .int .i64 (0), .int .i64 (line % 8), .int .i64 (0), .int .i64 (0), .bool false, .slice none 0 0]) (fun _ => by kernel_rfl) .here (by kernel_rfl) (by kernel_rfl) (by kernel_rfl)) ?_
  rintro _ _ ⟨rfl, rfl⟩
  refine s_pure 12 (.int .i64 (0)) (by kernel_rfl) (by kernel_rfl) (fun _ => by kernel_rfl) ?_
  refine ops_end ?_
  refine At.env [(0, .int .i64 (line % 8)), (1, .int .i64 v), (4, .bool false), (5, .pointer (some ⟨b1, 0, none⟩)), (6, .int .i64 (2)), (7, .int .i64 (-1)), (8, .int .i64 (1)), (10, .int .i64 (0)), (12, .int .i64 (0)), (21, .int .i64 (3)), (22, .bool false), (30, .bool false), (36, .bool true)] ⟨by kernel_rfl, by kernel_rfl, by kernel_rfl, by kernel_rfl, by kernel_rfl, by kernel_rfl, by kernel_rfl, by kernel_rfl, by kernel_rfl, by kernel_rfl, by kernel_rfl, by kernel_rfl, by kernel_rfl, trivial⟩ ?_
  refine at_then_normal ?_
  refine at_seq (x := C5 [1, 1, 1, 1, 1, 1, 0]) (y := C5 [1, 1, 1, 1, 1, 1, 1]) (by kernel_rfl) ?_
  refine at_region (id := 16) 10 (by kernel_rfl) (by kernel_rfl) ?_
  refine s_pure 65 (.pointer (some ⟨b1, 1, none⟩)) (by kernel_rfl) (by kernel_rfl) (fun _ => by kernel_rfl) ?_
  refine s_load 66 (.pointer (some ⟨b4, 0, none⟩)) (by kernel_rfl) (by kernel_rfl) (load1 (off := 1) (fun _ => by kernel_rfl) (holds_own (.there (.there (.there (.there (.there (.there .here))))))) (by kernel_rfl)) ?_
  refine s_pure 67 (.int .i64 (line % 8)) (by kernel_rfl) (by kernel_rfl) (fun _ => by kernel_rfl) ?_
  refine At.conv (fun w hw => hw.less (.take (.there (.there (.there (.there (.there (.there (.there .here))))))) (.take .here (.take .here (.take .here (.take .here (.take .here (.take .here (.take .here (.take .here (.take .here (.take .here (.take .here .refl))))))))))))) ?_
  refine s_call 68 24 #[.pointer (some ⟨b4, 0, none⟩), .int .i64 (line % 8)] (by kernel_rfl) (by kernel_rfl) (fun _ => by kernel_rfl) (Drop_some b4 (⟨[(⟨(2), (0), (line % 8), (1), false, ([v] : List Int)⟩ : Ent)], 1, 1, 1⟩ : CacheS) (line % 8) (by simp) (by intro x hx; simp only [List.mem_cons, List.not_mem_nil, or_false] at hx; rcases hx with rfl <;> first | exact Nat.le_of_lt (by decide) | (simp; done) | (simp; omega) | omega) 0 (⟨(2), (0), (line % 8), (1), false, ([v] : List Int)⟩ : Ent) (by simp [idx]) rfl) ?_
  rintro _ _ ⟨a4, c4, rfl, rfl⟩
  refine At.conv (Γ' := [IntsA a4 c4 ([v] : List Int), CacheA b4 (⟨[], 1, 1, 1⟩ : CacheS), Asn.own b9 (.cells #[.int .i64 (8), .int .i64 (2), .int .i64 (1), .int .i64 (0), .int .i64 (line % 8), .int .i64 (0), .int .i64 (0), .bool false, .slice none 0 0] 35 (0, 0)), CacheA b6 (⟨[(⟨((-1)), (0), (line % 8), (1), false, ([v] : List Int)⟩ : Ent)], 1, 1, 1⟩ : CacheS), Asn.own b8 (.cells #[.int .i64 (8), .int .i64 (0), .int .i64 (1), .int .i64 (0), .int .i64 (line % 8), .int .i64 (0), .int .i64 (0), .bool false, .slice none 0 0] 35 (0, 0)), CacheA b2 (⟨[(⟨(2), ((-1)), (line % 8), (1), false, ([v] : List Int)⟩ : Ent)], 1, 1, 1⟩ : CacheS), IntsA a3 c3 ([v] : List Int), Asn.own b7 (.cells #[.int .i64 v] 3 (0, 0)), Asn.own b1 (.cells #[.pointer (some ⟨b2, 0, none⟩), .pointer (some ⟨b4, 0, none⟩), .pointer (some ⟨b6, 0, none⟩)] 46 (0, 0)), IntsA a2 c2 ([v] : List Int), Asn.own b5 (.cells #[.int .i64 v] 3 (0, 0)), IntsA a1 c1 ([v] : List Int), Asn.own b3 (.cells #[.int .i64 v] 3 (0, 0))]) (fun w hw => hw) ?_
  refine s_pure 64 (.tuple #[.agg #[.int .i64 (2), .int .i64 (0), .int .i64 (line % 8), .int .i64 (1), .bool false, .slice a4 1 c4], .bool true]) (by kernel_rfl) (by kernel_rfl) (fun _ => by kernel_rfl) ?_
  refine s_pure 69 (.agg #[.int .i64 (2), .int .i64 (0), .int .i64 (line % 8), .int .i64 (1), .bool false, .slice a4 1 c4]) (by kernel_rfl) (by kernel_rfl) (fun _ => by kernel_rfl) ?_
  refine s_pure 70 (.bool true) (by kernel_rfl) (by kernel_rfl) (fun _ => by kernel_rfl) ?_
  refine s_step 13 (by kernel_rfl) (by kernel_rfl) (st_new (T := 31) (cells := #[.int .i64 (0), .int .i64 (0), .int .i64 (0), .int .i64 (0), .bool false, .slice none 0 0]) (fun a => .pointer (some a)) (fun _ => by kernel_rfl)) ?_
  rintro _ _ ⟨b10, rfl, rfl⟩
  refine s_do (by kernel_rfl) (by kernel_rfl) (st_store (off := 0) (vs := [.int .i64 (2), .int .i64 (0), .int .i64 (line % 8), .int .i64 (1), .bool false, .slice a4 1 c4]) (c' := #[.int .i64 (2), .int .i64 (0), .int .i64 (line % 8), .int .i64 (1), .bool false, .slice a4 1 c4]) (fun _ => by kernel_rfl) .here (by kernel_rfl) (by kernel_rfl) (by kernel_rfl)) ?_
  rintro _ _ ⟨rfl, rfl⟩
  refine s_pure 14 (.bool true) (by kernel_rfl) (by kernel_rfl) (fun _ => by kernel_rfl) ?_
  refine ops_end ?_
  refine At.env [(0, .int .i64 (line % 8)), (1, .int .i64 v), (4, .bool false), (5, .pointer (some ⟨b1, 0, none⟩)), (6, .int .i64 (2)), (7, .int .i64 (-1)), (8, .int .i64 (1)), (10, .int .i64 (0)), (12, .int .i64 (0)), (14, .bool true), (21, .int .i64 (3)), (22, .bool false), (30, .bool false), (36, .bool true)] ⟨by kernel_rfl, by kernel_rfl, by kernel_rfl, by kernel_rfl, by kernel_rfl, by kernel_rfl, by kernel_rfl, by kernel_rfl, by kernel_rfl, by kernel_rfl, by kernel_rfl, by kernel_rfl, by kernel_rfl, by kernel_rfl, trivial⟩ ?_
  refine at_then_normal ?_
  refine at_seq (x := C5 [1, 1, 1, 1, 1, 1, 1, 0]) (y := C5 [1, 1, 1, 1, 1, 1, 1, 1]) (by kernel_rfl) ?_
  refine at_region (id := 17) 10 (by kernel_rfl) (by kernel_rfl) ?_
  refine s_pure 72 (.pointer (some ⟨b1, 0, none⟩)) (by kernel_rfl) (by kernel_rfl) (fun _ => by kernel_rfl) ?_
  refine s_load 73 (.pointer (some ⟨b2, 0, none⟩)) (by kernel_rfl) (by kernel_rfl) (load1 (off := 0) (fun _ => by kernel_rfl) (holds_own (.there (.there (.there (.there (.there (.there (.there (.there (.there .here)))))))))) (by kernel_rfl)) ?_
  refine s_pure 74 (.int .i64 (line % 8)) (by kernel_rfl) (by kernel_rfl) (fun _ => by kernel_rfl) ?_
  refine At.conv (fun w hw => hw.less (.take (.there (.there (.there (.there (.there (.there .here)))))) (.take .here (.take .here (.take .here (.take .here (.take .here (.take .here (.take .here (.take .here (.take .here (.take .here (.take .here (.take .here (.take .here .refl))))))))))))))) ?_
  refine s_call 75 20 #[.pointer (some ⟨b2, 0, none⟩), .int .i64 (line % 8)] (by kernel_rfl) (by kernel_rfl) (fun _ => by kernel_rfl) (Find_some b2 (⟨[(⟨(2), ((-1)), (line % 8), (1), false, ([v] : List Int)⟩ : Ent)], 1, 1, 1⟩ : CacheS) (line % 8) (by simp) (by intro x hx; simp only [List.mem_cons, List.not_mem_nil, or_false] at hx; rcases hx with rfl <;> first | exact Nat.le_of_lt (by decide) | (simp; done) | (simp; omega) | omega) 0 (⟨(2), ((-1)), (line % 8), (1), false, ([v] : List Int)⟩ : Ent) (by simp [idx]) rfl) ?_
  rintro _ _ ⟨a5, c5, rfl, rfl⟩
  refine At.conv (Γ' := [IntsA a5 c5 ([v] : List Int), CacheA b2 (⟨[(⟨(2), ((-1)), (line % 8), (1), false, ([v] : List Int)⟩ : Ent)], 1, 1, 1⟩ : CacheS), Asn.own b10 (.cells #[.int .i64 (2), .int .i64 (0), .int .i64 (line % 8), .int .i64 (1), .bool false, .slice a4 1 c4] 31 (0, 0)), IntsA a4 c4 ([v] : List Int), CacheA b4 (⟨[], 1, 1, 1⟩ : CacheS), Asn.own b9 (.cells #[.int .i64 (8), .int .i64 (2), .int .i64 (1), .int .i64 (0), .int .i64 (line % 8), .int .i64 (0), .int .i64 (0), .bool false, .slice none 0 0] 35 (0, 0)), CacheA b6 (⟨[(⟨((-1)), (0), (line % 8), (1), false, ([v] : List Int)⟩ : Ent)], 1, 1, 1⟩ : CacheS), Asn.own b8 (.cells #[.int .i64 (8), .int .i64 (0), .int .i64 (1), .int .i64 (0), .int .i64 (line % 8), .int .i64 (0), .int .i64 (0), .bool false, .slice none 0 0] 35 (0, 0)), IntsA a3 c3 ([v] : List Int), Asn.own b7 (.cells #[.int .i64 v] 3 (0, 0)), Asn.own b1 (.cells #[.pointer (some ⟨b2, 0, none⟩), .pointer (some ⟨b4, 0, none⟩), .pointer (some ⟨b6, 0, none⟩)] 46 (0, 0)), IntsA a2 c2 ([v] : List Int), Asn.own b5 (.cells #[.int .i64 v] 3 (0, 0)), IntsA a1 c1 ([v] : List Int), Asn.own b3 (.cells #[.int .i64 v] 3 (0, 0))]) (fun w hw => hw) ?_
  refine s_pure 71 (.tuple #[.agg #[.int .i64 (2), .int .i64 (-1), .int .i64 (line % 8), .int .i64 (1), .bool false, .slice a5 1 c5], .bool true]) (by kernel_rfl) (by kernel_rfl) (fun _ => by kernel_rfl) ?_
  refine s_pure 76 (.agg #[.int .i64 (2), .int .i64 (-1), .int .i64 (line % 8), .int .i64 (1), .bool false, .slice a5 1 c5]) (by kernel_rfl) (by kernel_rfl) (fun _ => by kernel_rfl) ?_
  refine s_pure 77 (.bool true) (by kernel_rfl) (by kernel_rfl) (fun _ => by kernel_rfl) ?_
  refine s_step 15 (by kernel_rfl) (by kernel_rfl) (st_new (T := 31) (cells := #[.int .i64 (0), .int .i64 (0), .int .i64 (0), .int .i64 (0), .bool false, .slice none 0 0]) (fun a => .pointer (some a)) (fun _ => by kernel_rfl)) ?_
  rintro _ _ ⟨b11, rfl, rfl⟩
  refine s_do (by kernel_rfl) (by kernel_rfl) (st_store (off := 0) (vs := [.int .i64 (2), .int .i64 (-1), .int .i64 (line % 8), .int .i64 (1), .bool false, .slice a5 1 c5]) (c' := #[.int .i64 (2), .int .i64 (-1), .int .i64 (line % 8), .int .i64 (1), .bool false, .slice a5 1 c5]) (fun _ => by kernel_rfl) .here (by kernel_rfl) (by kernel_rfl) (by kernel_rfl)) ?_
  rintro _ _ ⟨rfl, rfl⟩
  refine s_pure 16 (.bool true) (by kernel_rfl) (by kernel_rfl) (fun _ => by kernel_rfl) ?_
  refine ops_end ?_
  refine At.env [(0, .int .i64 (line % 8)), (1, .int .i64 v), (4, .bool false), (5, .pointer (some ⟨b1, 0, none⟩)), (6, .int .i64 (2)), (7, .int .i64 (-1)), (8, .int .i64 (1)), (10, .int .i64 (0)), (12, .int .i64 (0)), (14, .bool true), (15, .pointer (some ⟨b11, 0, none⟩)), (16, .bool true), (21, .int .i64 (3)), (22, .bool false), (30, .bool false), (36, .bool true)] ⟨by kernel_rfl, by kernel_rfl, by kernel_rfl, by kernel_rfl, by kernel_rfl, by kernel_rfl, by kernel_rfl, by kernel_rfl, by kernel_rfl, by kernel_rfl, by kernel_rfl, by kernel_rfl, by kernel_rfl, by kernel_rfl, by kernel_rfl, by kernel_rfl, trivial⟩ ?_
  refine at_then_normal ?_
  refine at_seq (x := C5 [1, 1, 1, 1, 1, 1, 1, 1, 0]) (y := C5 [1, 1, 1, 1, 1, 1, 1, 1, 1]) (by kernel_rfl) ?_
  refine at_region (id := 18) 10 (by kernel_rfl) (by kernel_rfl) ?_
  refine s_pure 79 (.pointer (some ⟨b1, 2, none⟩)) (by kernel_rfl) (by kernel_rfl) (fun _ => by kernel_rfl) ?_
  refine s_load 80 (.pointer (some ⟨b6, 0, none⟩)) (by kernel_rfl) (by kernel_rfl) (load1 (off := 2) (fun _ => by kernel_rfl) (holds_own (.there (.there (.there (.there (.there (.there (.there (.there (.there (.there (.there .here)))))))))))) (by kernel_rfl)) ?_
  refine s_pure 81 (.int .i64 (line % 8)) (by kernel_rfl) (by kernel_rfl) (fun _ => by kernel_rfl) ?_
  refine At.conv (fun w hw => hw.less (.take (.there (.there (.there (.there (.there (.there (.there .here))))))) (.take .here (.take .here (.take .here (.take .here (.take .here (.take .here (.take .here (.take .here (.take .here (.take .here (.take .here (.take .here (.take .here (.take .here (.take .here .refl))))))))))))))))) ?_
  refine s_call 82 20 #[.pointer (some ⟨b6, 0, none⟩), .int .i64 (line % 8)] (by kernel_rfl) (by kernel_rfl) (fun _ => by kernel_rfl) (Find_some b6 (⟨[(⟨((-1)), (0), (line % 8), (1), false, ([v] : List Int)⟩ : Ent)], 1, 1, 1⟩ : CacheS) (line % 8) (by simp) (by intro x hx; simp only [List.mem_cons, List.not_mem_nil, or_false] at hx; rcases hx with rfl <;> first | exact Nat.le_of_lt (by decide) | (simp; done) | (simp; omega) | omega) 0 (⟨((-1)), (0), (line % 8), (1), false, ([v] : List Int)⟩ : Ent) (by simp [idx]) rfl) ?_
  rintro _ _ ⟨a6, c6, rfl, rfl⟩
  refine At.conv (Γ' := [IntsA a6 c6 ([v] : List Int), CacheA b6 (⟨[(⟨((-1)), (0), (line % 8), (1), false, ([v] : List Int)⟩ : Ent)], 1, 1, 1⟩ : CacheS), Asn.own b11 (.cells #[.int .i64 (2), .int .i64 (-1), .int .i64 (line % 8), .int .i64 (1), .bool false, .slice a5 1 c5] 31 (0, 0)), IntsA a5 c5 ([v] : List Int), CacheA b2 (⟨[(⟨(2), ((-1)), (line % 8), (1), false, ([v] : List Int)⟩ : Ent)], 1, 1, 1⟩ : CacheS), Asn.own b10 (.cells #[.int .i64 (2), .int .i64 (0), .int .i64 (line % 8), .int .i64 (1), .bool false, .slice a4 1 c4] 31 (0, 0)), IntsA a4 c4 ([v] : List Int), CacheA b4 (⟨[], 1, 1, 1⟩ : CacheS), Asn.own b9 (.cells #[.int .i64 (8), .int .i64 (2), .int .i64 (1), .int .i64 (0), .int .i64 (line % 8), .int .i64 (0), .int .i64 (0), .bool false, .slice none 0 0] 35 (0, 0)), Asn.own b8 (.cells #[.int .i64 (8), .int .i64 (0), .int .i64 (1), .int .i64 (0), .int .i64 (line % 8), .int .i64 (0), .int .i64 (0), .bool false, .slice none 0 0] 35 (0, 0)), IntsA a3 c3 ([v] : List Int), Asn.own b7 (.cells #[.int .i64 v] 3 (0, 0)), Asn.own b1 (.cells #[.pointer (some ⟨b2, 0, none⟩), .pointer (some ⟨b4, 0, none⟩), .pointer (some ⟨b6, 0, none⟩)] 46 (0, 0)), IntsA a2 c2 ([v] : List Int), Asn.own b5 (.cells #[.int .i64 v] 3 (0, 0)), IntsA a1 c1 ([v] : List Int), Asn.own b3 (.cells #[.int .i64 v] 3 (0, 0))]) (fun w hw => hw) ?_
  refine s_pure 78 (.tuple #[.agg #[.int .i64 (-1), .int .i64 (0), .int .i64 (line % 8), .int .i64 (1), .bool false, .slice a6 1 c6], .bool true]) (by kernel_rfl) (by kernel_rfl) (fun _ => by kernel_rfl) ?_
  refine s_pure 83 (.agg #[.int .i64 (-1), .int .i64 (0), .int .i64 (line % 8), .int .i64 (1), .bool false, .slice a6 1 c6]) (by kernel_rfl) (by kernel_rfl) (fun _ => by kernel_rfl) ?_
  refine s_pure 84 (.bool true) (by kernel_rfl) (by kernel_rfl) (fun _ => by kernel_rfl) ?_
  refine s_step 17 (by kernel_rfl) (by kernel_rfl) (st_new (T := 31) (cells := #[.int .i64 (0), .int .i64 (0), .int .i64 (0), .int .i64 (0), .bool false, .slice none 0 0]) (fun a => .pointer (some a)) (fun _ => by kernel_rfl)) ?_
  rintro _ _ ⟨b12, rfl, rfl⟩
  refine s_do (by kernel_rfl) (by kernel_rfl) (st_store (off := 0) (vs := [.int .i64 (-1), .int .i64 (0), .int .i64 (line % 8), .int .i64 (1), .bool false, .slice a6 1 c6]) (c' := #[.int .i64 (-1), .int .i64 (0), .int .i64 (line % 8), .int .i64 (1), .bool false, .slice a6 1 c6]) (fun _ => by kernel_rfl) .here (by kernel_rfl) (by kernel_rfl) (by kernel_rfl)) ?_
  rintro _ _ ⟨rfl, rfl⟩
  refine s_pure 18 (.bool true) (by kernel_rfl) (by kernel_rfl) (fun _ => by kernel_rfl) ?_
  refine ops_end ?_
  refine At.env [(0, .int .i64 (line % 8)), (1, .int .i64 v), (4, .bool false), (5, .pointer (some ⟨b1, 0, none⟩)), (6, .int .i64 (2)), (7, .int .i64 (-1)), (8, .int .i64 (1)), (10, .int .i64 (0)), (12, .int .i64 (0)), (14, .bool true), (15, .pointer (some ⟨b11, 0, none⟩)), (16, .bool true), (17, .pointer (some ⟨b12, 0, none⟩)), (18, .bool true), (21, .int .i64 (3)), (22, .bool false), (30, .bool false), (36, .bool true)] ⟨by kernel_rfl, by kernel_rfl, by kernel_rfl, by kernel_rfl, by kernel_rfl, by kernel_rfl, by kernel_rfl, by kernel_rfl, by kernel_rfl, by kernel_rfl, by kernel_rfl, by kernel_rfl, by kernel_rfl, by kernel_rfl, by kernel_rfl, by kernel_rfl, by kernel_rfl, by kernel_rfl, trivial⟩ ?_
  refine at_then_normal ?_
  refine at_seq (x := C5 [1, 1, 1, 1, 1, 1, 1, 1, 1, 0]) (y := C5 [1, 1, 1, 1, 1, 1, 1, 1, 1, 1]) (by kernel_rfl) ?_
  refine at_region (id := 19) 53 (by kernel_rfl) (by kernel_rfl) ?_
  refine s_pure 85 (.int .i64 (0)) (by kernel_rfl) (by kernel_rfl) (fun _ => by kernel_rfl) ?_
  refine s_pure 86 (.bool true) (by kernel_rfl) (by kernel_rfl) (fun _ => by kernel_rfl) ?_
  refine s_pure 87 (.bool true) (by kernel_rfl) (by kernel_rfl) (fun _ => by kernel_rfl) ?_
  refine s_pure 88 (.int .i64 (0)) (by kernel_rfl) (by kernel_rfl) (fun _ => by kernel_rfl) ?_
  refine s_pure 89 (.bool true) (by kernel_rfl) (by kernel_rfl) (fun _ => by kernel_rfl) ?_
  refine s_pure 90 (.bool true) (by kernel_rfl) (by kernel_rfl) (fun _ => by kernel_rfl) ?_
  refine s_pure 91 (.bool true) (by kernel_rfl) (by kernel_rfl) (fun _ => by kernel_rfl) ?_
  refine s_pure 92 (.bool true) (by kernel_rfl) (by kernel_rfl) (fun _ => by kernel_rfl) ?_
  refine s_pure 93 (.bool true) (by kernel_rfl) (by kernel_rfl) (fun _ => by kernel_rfl) ?_
  refine s_pure 94 (.bool true) (by kernel_rfl) (by kernel_rfl) (fun _ => by kernel_rfl) ?_
  refine s_pure 95 (.bool true) (by kernel_rfl) (by kernel_rfl) (fun _ => by kernel_rfl) ?_
  refine s_pure 96 (.bool true) (by kernel_rfl) (by kernel_rfl) (fun _ => by kernel_rfl) ?_
  refine s_pure 97 (.bool true) (by kernel_rfl) (by kernel_rfl) (fun _ => by kernel_rfl) ?_
  refine s_pure 98 (.bool true) (by kernel_rfl) (by kernel_rfl) (fun _ => by kernel_rfl) ?_
  refine s_pure 99 (.bool true) (by kernel_rfl) (by kernel_rfl) (fun _ => by kernel_rfl) ?_
  refine s_pure 100 (.bool true) (by kernel_rfl) (by kernel_rfl) (fun _ => by kernel_rfl) ?_
  refine s_pure 101 (.pointer (some ⟨b11, 0, none⟩)) (by kernel_rfl) (by kernel_rfl) (fun _ => by kernel_rfl) ?_
  refine s_load 102 (.agg #[.int .i64 (2), .int .i64 (-1)]) (by kernel_rfl) (by kernel_rfl) (loadN (off := 0) (vs := [.int .i64 (2), .int .i64 (-1)]) 2 (fun _ => by kernel_rfl) (holds_own (.there (.there (.there .here)))) rfl (by exact ⟨rfl, rfl, trivial⟩)) ?_
  refine s_quiet 103 (.bool true) 25 #[.agg #[.int .i64 (2), .int .i64 (-1)]] (by kernel_rfl) (by kernel_rfl) (fun _ => by kernel_rfl) (Tr.as (Head_tr (2) ((-1))) (congrArg Value.bool (by decide))) ?_
  refine s_pure 104 (.bool true) (by kernel_rfl) (by kernel_rfl) (fun _ => by kernel_rfl) ?_
  refine s_pure 105 (.bool true) (by kernel_rfl) (by kernel_rfl) (fun _ => by kernel_rfl) ?_
  refine s_pure 106 (.pointer (some ⟨b11, 0, none⟩)) (by kernel_rfl) (by kernel_rfl) (fun _ => by kernel_rfl) ?_
  refine s_pure 107 (.pointer (some ⟨b11, 0, none⟩)) (by kernel_rfl) (by kernel_rfl) (fun _ => by kernel_rfl) ?_
  refine s_load 108 (.int .i64 (2)) (by kernel_rfl) (by kernel_rfl) (load1 (off := 0) (fun _ => by kernel_rfl) (holds_own (.there (.there (.there .here)))) (by kernel_rfl)) ?_
  refine s_pure 109 (.bool true) (by kernel_rfl) (by kernel_rfl) (fun _ => by kernel_rfl) ?_
  refine s_pure 110 (.bool true) (by kernel_rfl) (by kernel_rfl) (fun _ => by kernel_rfl) ?_
  refine s_pure 111 (.bool true) (by kernel_rfl) (by kernel_rfl) (fun _ => by kernel_rfl) ?_
  refine s_pure 112 (.pointer (some ⟨b12, 0, none⟩)) (by kernel_rfl) (by kernel_rfl) (fun _ => by kernel_rfl) ?_
  refine s_load 113 (.agg #[.int .i64 (-1), .int .i64 (0)]) (by kernel_rfl) (by kernel_rfl) (loadN (off := 0) (vs := [.int .i64 (-1), .int .i64 (0)]) 2 (fun _ => by kernel_rfl) (holds_own .here) rfl (by exact ⟨rfl, rfl, trivial⟩)) ?_
  refine s_quiet 114 (.bool true) 26 #[.agg #[.int .i64 (-1), .int .i64 (0)]] (by kernel_rfl) (by kernel_rfl) (fun _ => by kernel_rfl) (Tr.as (Tail_tr ((-1)) (0)) (congrArg Value.bool (by decide))) ?_
  refine s_pure 115 (.bool true) (by kernel_rfl) (by kernel_rfl) (fun _ => by kernel_rfl) ?_
  refine s_pure 116 (.bool true) (by kernel_rfl) (by kernel_rfl) (fun _ => by kernel_rfl) ?_
  refine s_pure 117 (.pointer (some ⟨b12, 0, none⟩)) (by kernel_rfl) (by kernel_rfl) (fun _ => by kernel_rfl) ?_
  refine s_pure 118 (.pointer (some ⟨b12, 1, none⟩)) (by kernel_rfl) (by kernel_rfl) (fun _ => by kernel_rfl) ?_
  refine s_load 119 (.int .i64 (0)) (by kernel_rfl) (by kernel_rfl) (load1 (off := 1) (fun _ => by kernel_rfl) (holds_own .here) (by kernel_rfl)) ?_
  refine s_pure 120 (.bool true) (by kernel_rfl) (by kernel_rfl) (fun _ => by kernel_rfl) ?_
  refine s_pure 121 (.bool true) (by kernel_rfl) (by kernel_rfl) (fun _ => by kernel_rfl) ?_
  refine s_pure 122 (.bool true) (by kernel_rfl) (by kernel_rfl) (fun _ => by kernel_rfl) ?_
  refine s_load 123 (.agg #[.int .i64 (2), .int .i64 (-1), .int .i64 (line % 8), .int .i64 (1), .bool false, .slice a5 1 c5]) (by kernel_rfl) (by kernel_rfl) (loadN (off := 0) (vs := [.int .i64 (2), .int .i64 (-1), .int .i64 (line % 8), .int .i64 (1), .bool false, .slice a5 1 c5]) 6 (fun _ => by kernel_rfl) (holds_own (.there (.there (.there .here)))) rfl (by exact ⟨rfl, rfl, rfl, rfl, rfl, rfl, trivial⟩)) ?_
  refine s_quiet 124 (.int .i64 v) 22 #[.agg #[.int .i64 (2), .int .i64 (-1), .int .i64 (line % 8), .int .i64 (1), .bool false, .slice a5 1 c5], .int .i64 (0)] (by kernel_rfl) (by kernel_rfl) (fun _ => by kernel_rfl) (Word_tr (2) ((-1)) (line % 8) (1) false a5 1 c5 0 ([v] : List Int) (v) (by first | rfl | simp | (simp; omega) | omega) (by first | decide | omega | (simp; done)) (RowsA.reads (k := 1) (.there (.there (.there (.there .here))))) rfl) ?_
  refine s_pure 125 (.int .i64 v) (by kernel_rfl) (by kernel_rfl) (fun _ => by kernel_rfl) ?_
  refine s_pure 126 (.bool true) (by kernel_rfl) (by kernel_rfl) (run_eq (v := .bool (decide (v = v))) (fun _ => by kernel_rfl) (congrArg Value.bool (by rw [decide_eq_true rfl]))) ?_
  refine s_pure 127 (.bool true) (by kernel_rfl) (by kernel_rfl) (fun _ => by kernel_rfl) ?_
  refine s_pure 128 (.bool true) (by kernel_rfl) (by kernel_rfl) (fun _ => by kernel_rfl) ?_
  refine s_load 129 (.agg #[.int .i64 (-1), .int .i64 (0), .int .i64 (line % 8), .int .i64 (1), .bool false, .slice a6 1 c6]) (by kernel_rfl) (by kernel_rfl) (loadN (off := 0) (vs := [.int .i64 (-1), .int .i64 (0), .int .i64 (line % 8), .int .i64 (1), .bool false, .slice a6 1 c6]) 6 (fun _ => by kernel_rfl) (holds_own .here) rfl (by exact ⟨rfl, rfl, rfl, rfl, rfl, rfl, trivial⟩)) ?_
  refine s_quiet 130 (.int .i64 v) 22 #[.agg #[.int .i64 (-1), .int .i64 (0), .int .i64 (line % 8), .int .i64 (1), .bool false, .slice a6 1 c6], .int .i64 (0)] (by kernel_rfl) (by kernel_rfl) (fun _ => by kernel_rfl) (Word_tr ((-1)) (0) (line % 8) (1) false a6 1 c6 0 ([v] : List Int) (v) (by first | rfl | simp | (simp; omega) | omega) (by first | decide | omega | (simp; done)) (RowsA.reads (k := 1) (.there .here)) rfl) ?_
  refine s_pure 131 (.int .i64 v) (by kernel_rfl) (by kernel_rfl) (fun _ => by kernel_rfl) ?_
  refine s_pure 132 (.bool true) (by kernel_rfl) (by kernel_rfl) (run_eq (v := .bool (decide (v = v))) (fun _ => by kernel_rfl) (congrArg Value.bool (by rw [decide_eq_true rfl]))) ?_
  refine s_pure 133 (.bool true) (by kernel_rfl) (by kernel_rfl) (fun _ => by kernel_rfl) ?_
  refine s_pure 134 (.bool true) (by kernel_rfl) (by kernel_rfl) (fun _ => by kernel_rfl) ?_
  refine s_quiet 135 (.bool true) 21 #[] (by kernel_rfl) (by kernel_rfl) (fun _ => by kernel_rfl) Wakes_tr ?_
  refine s_pure 136 (.bool true) (by kernel_rfl) (by kernel_rfl) (fun _ => by kernel_rfl) ?_
  refine s_pure 4 (.bool true) (by kernel_rfl) (by kernel_rfl) (fun _ => by kernel_rfl) ?_
  refine ops_end ?_
  refine At.env [(0, .int .i64 (line % 8)), (1, .int .i64 v), (4, .bool true), (5, .pointer (some ⟨b1, 0, none⟩)), (6, .int .i64 (2)), (7, .int .i64 (-1)), (8, .int .i64 (1)), (10, .int .i64 (0)), (12, .int .i64 (0)), (14, .bool true), (15, .pointer (some ⟨b11, 0, none⟩)), (16, .bool true), (17, .pointer (some ⟨b12, 0, none⟩)), (18, .bool true), (21, .int .i64 (3)), (22, .bool false), (30, .bool false), (36, .bool true)] ⟨by kernel_rfl, by kernel_rfl, by kernel_rfl, by kernel_rfl, by kernel_rfl, by kernel_rfl, by kernel_rfl, by kernel_rfl, by kernel_rfl, by kernel_rfl, by kernel_rfl, by kernel_rfl, by kernel_rfl, by kernel_rfl, by kernel_rfl, by kernel_rfl, by kernel_rfl, by kernel_rfl, trivial⟩ ?_
  refine at_then_normal ?_
  refine at_ret (by kernel_rfl) ?_
  refine at_backR [.bool true] [] (rs := [.tmp 4]) (by kernel_rfl) (.cons (.tmp (by kernel_rfl)) .nil) (fun w hw => hw.less (.drop .here (.drop .here (.drop .here (.drop .here (.drop .here (.drop .here (.drop .here (.drop .here (.drop .here (.drop .here (.drop .here (.drop .here (.drop .here (.drop .here (.drop .here (.drop .here (.drop .here (.drop .here .refl))))))))))))))))))) rfl
end Go.Proofs.Ytfpiolnbnfngkaa
