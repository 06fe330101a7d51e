/- The law ServeTurns answers true at every input. -/
import Derived.Test.YtfpiolnbnfngkaaServeC
namespace Go.Proofs.Ytfpiolnbnfngkaa
open Go Go.RowKit
set_option linter.unusedVariables false
set_option linter.unusedSimpArgs false
noncomputable def C4 (p : List Nat) : Code := codeAt (bodyOf Try.f4) p
set_option maxRecDepth 100000 in
theorem ServeTurns_tr {W0 : World} (fwd back ptr : Int) (dirty : Bool) (a : Option Addr) (m cap : Nat) (xs : List Int) (other : Int) (hm : m = xs.length) (hr : Reads W0 [] a (ints xs)) (hcap : m ≤ cap) : Tr Try.prog 4 #[.int .i64 fwd, .int .i64 back, .int .i64 ptr, .bool dirty, .slice a m cap, .int .i64 other] W0 ([]) (fun r _ => r = .bool true) := by
  refine Tr.enter (fn := Try.f4) (c := C4 []) (args := [.int .i64 fwd, .int .i64 back, .int .i64 ptr, .bool dirty, .slice a m cap, .int .i64 other]) 280 Try.func4 (by kernel_rfl) (by kernel_rfl) ?_
  refine At.env [(0, .int .i64 fwd), (1, .int .i64 back), (2, .int .i64 ptr), (3, .bool dirty), (4, .slice a m cap), (5, .int .i64 other)] ⟨by kernel_rfl, by kernel_rfl, by kernel_rfl, by kernel_rfl, by kernel_rfl, by kernel_rfl, trivial⟩ ?_
  refine at_seq (x := C4 [0]) (y := C4 [1]) (by kernel_rfl) ?_
  refine at_region (id := 0) 1 (by kernel_rfl) (by kernel_rfl) ?_
  refine s_pure 12 (.bool false) (by kernel_rfl) (by kernel_rfl) (fun _ => by kernel_rfl) ?_
  refine ops_end ?_
  refine At.env [(0, .int .i64 fwd), (1, .int .i64 back), (2, .int .i64 ptr), (3, .bool dirty), (4, .slice a m cap), (5, .int .i64 other), (12, .bool false)] ⟨by kernel_rfl, by kernel_rfl, by kernel_rfl, by kernel_rfl, by kernel_rfl, by kernel_rfl, by kernel_rfl, trivial⟩ ?_
  refine at_then_normal ?_
  refine at_seq (x := C4 [1, 0]) (y := C4 [1, 1]) (by kernel_rfl) ?_
  refine at_region (id := 1) 2 (by kernel_rfl) (by kernel_rfl) ?_
  refine s_call 22 13 #[.int .i64 (1), .int .i64 (3)] (by kernel_rfl) (by kernel_rfl) (fun _ => by kernel_rfl) (New_tr (1) (3)) ?_
  rintro _ _ ⟨b1, rfl, rfl⟩
  refine At.conv (Γ' := [CacheA b1 (⟨[], 1, 3, 0⟩ : CacheS)]) (fun w hw => hw) ?_
  refine s_pure 13 (.pointer (some ⟨b1, 0, none⟩)) (by kernel_rfl) (by kernel_rfl) (fun _ => by kernel_rfl) ?_
  refine ops_end ?_
  refine At.env [(0, .int .i64 fwd), (1, .int .i64 back), (2, .int .i64 ptr), (3, .bool dirty), (4, .slice a m cap), (5, .int .i64 other), (12, .bool false), (13, .pointer (some ⟨b1, 0, none⟩))] ⟨by kernel_rfl, by kernel_rfl, by kernel_rfl, by kernel_rfl, by kernel_rfl, by kernel_rfl, by kernel_rfl, by kernel_rfl, trivial⟩ ?_
  refine at_then_normal ?_
  refine at_seq (x := C4 [1, 1, 0]) (y := C4 [1, 1, 1]) (by kernel_rfl) ?_
  refine at_seq (x := C4 [1, 1, 0, 0]) (y := C4 [1, 1, 0, 1]) (by kernel_rfl) ?_
  refine at_region (id := 2) 2 (by kernel_rfl) (by kernel_rfl) ?_
  refine s_pure 23 (.pointer (some ⟨b1, 0, none⟩)) (by kernel_rfl) (by kernel_rfl) (fun _ => by kernel_rfl) ?_
  refine s_pure 24 (.bool false) (by kernel_rfl) (by kernel_rfl) (fun _ => by kernel_rfl) ?_
  refine ops_end ?_
  refine At.env [(0, .int .i64 fwd), (1, .int .i64 back), (2, .int .i64 ptr), (3, .bool dirty), (4, .slice a m cap), (5, .int .i64 other), (12, .bool false), (13, .pointer (some ⟨b1, 0, none⟩)), (24, .bool false)] ⟨by kernel_rfl, by kernel_rfl, by kernel_rfl, by kernel_rfl, by kernel_rfl, by kernel_rfl, by kernel_rfl, by kernel_rfl, by kernel_rfl, trivial⟩ ?_
  refine at_then_normal ?_
  refine at_false (t := false) (x := C4 [1, 1, 0, 1, 0]) (y := C4 [1, 1, 0, 1, 1]) (o := .tmp 24) (by kernel_rfl) (by kernel_rfl) (by kernel_rfl) rfl ?_
  refine at_skip (by kernel_rfl) ?_
  refine at_then_normal ?_
  refine at_seq (x := C4 [1, 1, 1, 0]) (y := C4 [1, 1, 1, 1]) (by kernel_rfl) ?_
  refine at_region (id := 4) 12 (by kernel_rfl) (by kernel_rfl) ?_
  refine s_pure 25 (.int .i64 fwd) (by kernel_rfl) (by kernel_rfl) (fun _ => by kernel_rfl) ?_
  refine s_quiet 26 (.int .i64 (fwd % 7)) 17 #[.int .i64 fwd, .int .i64 (7)] (by kernel_rfl) (by kernel_rfl) (fun _ => by kernel_rfl) (Within_tr (fwd) (7) (by omega) (by omega)) ?_
  refine s_pure 27 (.int .i64 ((fwd % 7) - 1)) (by kernel_rfl) (by kernel_rfl) (run_eq (v := .int .i64 (IntKind.i64.wrap ((fwd % 7) - 1))) (fun _ => by kernel_rfl) (by rw [wrap_in (by omega) (by omega)])) ?_
  refine s_pure 28 (.int .i64 back) (by kernel_rfl) (by kernel_rfl) (fun _ => by kernel_rfl) ?_
  refine s_quiet 29 (.int .i64 (back % 7)) 17 #[.int .i64 back, .int .i64 (7)] (by kernel_rfl) (by kernel_rfl) (fun _ => by kernel_rfl) (Within_tr (back) (7) (by omega) (by omega)) ?_
  refine s_pure 30 (.int .i64 ((back % 7) - 1)) (by kernel_rfl) (by kernel_rfl) (run_eq (v := .int .i64 (IntKind.i64.wrap ((back % 7) - 1))) (fun _ => by kernel_rfl) (by rw [wrap_in (by omega) (by omega)])) ?_
  refine s_pure 31 (.int .i64 ptr) (by kernel_rfl) (by kernel_rfl) (fun _ => by kernel_rfl) ?_
  refine s_quiet 32 (.int .i64 (ptr % 7)) 17 #[.int .i64 ptr, .int .i64 (7)] (by kernel_rfl) (by kernel_rfl) (fun _ => by kernel_rfl) (Within_tr (ptr) (7) (by omega) (by omega)) ?_
  refine s_pure 33 (.int .i64 ((ptr % 7) - 1)) (by kernel_rfl) (by kernel_rfl) (run_eq (v := .int .i64 (IntKind.i64.wrap ((ptr % 7) - 1))) (fun _ => by kernel_rfl) (by rw [wrap_in (by omega) (by omega)])) ?_
  refine s_pure 0 (.int .i64 ((fwd % 7) - 1)) (by kernel_rfl) (by kernel_rfl) (fun _ => by kernel_rfl) ?_
  refine s_pure 1 (.int .i64 ((back % 7) - 1)) (by kernel_rfl) (by kernel_rfl) (fun _ => by kernel_rfl) ?_
  refine s_pure 2 (.int .i64 ((ptr % 7) - 1)) (by kernel_rfl) (by kernel_rfl) (fun _ => by kernel_rfl) ?_
  refine ops_end ?_
  refine At.env [(0, .int .i64 ((fwd % 7) - 1)), (1, .int .i64 ((back % 7) - 1)), (2, .int .i64 ((ptr % 7) - 1)), (3, .bool dirty), (4, .slice a m cap), (5, .int .i64 other), (12, .bool false), (13, .pointer (some ⟨b1, 0, none⟩)), (24, .bool false)] ⟨by kernel_rfl, by kernel_rfl, by kernel_rfl, by kernel_rfl, by kernel_rfl, by kernel_rfl, by kernel_rfl, by kernel_rfl, by kernel_rfl, trivial⟩ ?_
  refine at_then_normal ?_
  refine at_seq (x := C4 [1, 1, 1, 1, 0]) (y := C4 [1, 1, 1, 1, 1]) (by kernel_rfl) ?_
  refine at_region (id := 5) 3 (by kernel_rfl) (by kernel_rfl) ?_
  refine s_pure 34 (.slice a m cap) (by kernel_rfl) (by kernel_rfl) (fun _ => by kernel_rfl) ?_
  refine s_call 35 14 #[.slice a m cap, .int .i64 (4)] (by kernel_rfl) (by kernel_rfl) (fun _ => by kernel_rfl) (Cut_tr a m cap 4 xs (by first | rfl | exact hm | assumption | omega | (simp only [List.length_append, List.length_cons, List.length_nil]; omega)) (Reads.conv (fun w hw => hw.less (.drop .here .refl)) hr) (by omega) (by omega)) ?_
  rintro _ _ ⟨a1, m1, c1, rfl, hm1, rfl⟩
  refine s_pure 4 (.slice a1 m1 c1) (by kernel_rfl) (by kernel_rfl) (fun _ => by kernel_rfl) ?_
  refine ops_end ?_
  refine At.env [(0, .int .i64 ((fwd % 7) - 1)), (1, .int .i64 ((back % 7) - 1)), (2, .int .i64 ((ptr % 7) - 1)), (3, .bool dirty), (4, .slice a1 m1 c1), (5, .int .i64 other), (12, .bool false), (13, .pointer (some ⟨b1, 0, none⟩)), (24, .bool false)] ⟨by kernel_rfl, by kernel_rfl, by kernel_rfl, by kernel_rfl, by kernel_rfl, by kernel_rfl, by kernel_rfl, by kernel_rfl, by kernel_rfl, trivial⟩ ?_
  refine at_then_normal ?_
  refine at_seq (x := C4 [1, 1, 1, 1, 1, 0]) (y := C4 [1, 1, 1, 1, 1, 1]) (by kernel_rfl) ?_
  refine at_region (id := 6) 7 (by kernel_rfl) (by kernel_rfl) ?_
  refine s_pure 36 (.pointer (some ⟨b1, 0, none⟩)) (by kernel_rfl) (by kernel_rfl) (fun _ => by kernel_rfl) ?_
  refine s_pure 37 (.int .i64 ((fwd % 7) - 1)) (by kernel_rfl) (by kernel_rfl) (fun _ => by kernel_rfl) ?_
  refine s_pure 38 (.int .i64 ((back % 7) - 1)) (by kernel_rfl) (by kernel_rfl) (fun _ => by kernel_rfl) ?_
  refine s_pure 39 (.bool dirty) (by kernel_rfl) (by kernel_rfl) (fun _ => by kernel_rfl) ?_
  refine s_pure 40 (.slice a1 m1 c1) (by kernel_rfl) (by kernel_rfl) (fun _ => by kernel_rfl) ?_
  refine s_call 41 16 #[.int .i64 (2), .int .i64 ((fwd % 7) - 1), .int .i64 ((back % 7) - 1), .bool dirty, .slice a1 m1 c1] (by kernel_rfl) (by kernel_rfl) (fun _ => by kernel_rfl) (ENew_tr (2) ((fwd % 7) - 1) ((back % 7) - 1) dirty a1 m1 c1 (xs.take 4) (by first | rfl | exact hm | assumption | omega | (simp only [List.length_append, List.length_cons, List.length_nil]; omega)) (RowsA.reads (k := 1) .here) (by simp only [List.length_append, List.length_take, List.length_cons, List.length_nil]; omega)) ?_
  rintro _ _ ⟨a2, c2, rfl, rfl⟩
  refine At.conv (fun w hw => hw.less (.take (.there (.there .here)) (.take .here (.take .here .refl)))) ?_
  refine s_call 42 15 #[.pointer (some ⟨b1, 0, none⟩), .agg #[.int .i64 ((fwd % 7) - 1), .int .i64 ((back % 7) - 1), .int .i64 (2), .int .i64 (0), .bool dirty, .slice a2 m1 c2]] (by kernel_rfl) (by kernel_rfl) (fun _ => by kernel_rfl) (Put_new b1 (⟨[], 1, 3, 0⟩ : CacheS) ((fwd % 7) - 1) ((back % 7) - 1) (2) (0) dirty a2 m1 c2 (xs.take 4) (by first | rfl | exact hm | assumption | omega | (simp only [List.length_append, List.length_cons, List.length_nil]; omega)) (RowsA.reads (k := 1) .here) (by simp only [List.length_append, List.length_take, List.length_cons, List.length_nil]; omega) (by simp) (by simp) (by simp) (by simp) (by omega) (by simp [idx, List.findIdx?_cons]) (not_full (by simp))) ?_
  rintro _ _ ⟨rfl, rfl⟩
  refine At.conv (Γ' := [CacheA b1 (⟨[(⟨((fwd % 7) - 1), ((back % 7) - 1), (2), (1), dirty, (xs.take 4)⟩ : Ent)], 1, 3, 1⟩ : CacheS), IntsA a2 c2 (xs.take 4), IntsA a1 c1 (xs.take 4)]) (fun w hw => hw) ?_
  refine ops_end ?_
  refine At.env [(0, .int .i64 ((fwd % 7) - 1)), (1, .int .i64 ((back % 7) - 1)), (2, .int .i64 ((ptr % 7) - 1)), (3, .bool dirty), (4, .slice a1 m1 c1), (5, .int .i64 other), (12, .bool false), (13, .pointer (some ⟨b1, 0, none⟩)), (24, .bool false)] ⟨by kernel_rfl, by kernel_rfl, by kernel_rfl, by kernel_rfl, by kernel_rfl, by kernel_rfl, by kernel_rfl, by kernel_rfl, by kernel_rfl, trivial⟩ ?_
  refine at_then_normal ?_
  refine at_seq (x := C4 [1, 1, 1, 1, 1, 1, 0]) (y := C4 [1, 1, 1, 1, 1, 1, 1]) (by kernel_rfl) ?_
  refine at_region (id := 7) 5 (by kernel_rfl) (by kernel_rfl) ?_
  refine s_pure 43 (.pointer (some ⟨b1, 0, none⟩)) (by kernel_rfl) (by kernel_rfl) (fun _ => by kernel_rfl) ?_
  refine s_pure 44 (.int .i64 other) (by kernel_rfl) (by kernel_rfl) (fun _ => by kernel_rfl) ?_
  refine s_step 45 (by kernel_rfl) (by kernel_rfl) (st_new (T := 3) (cells := #[.int .i64 other]) (fun a => .slice (some a) 1 1) (fun _ => by kernel_rfl)) ?_
  rintro _ _ ⟨b2, rfl, rfl⟩
  refine s_call 46 16 #[.int .i64 (3), .int .i64 (1), .int .i64 (1), .bool false, .slice (some ⟨b2, 0, none⟩) 1 1] (by kernel_rfl) (by kernel_rfl) (fun _ => by kernel_rfl) (ENew_tr (3) (1) (1) false (some ⟨b2, 0, none⟩) 1 1 ([other] : List Int) (by first | rfl | exact hm | assumption | omega | (simp only [List.length_append, List.length_cons, List.length_nil]; omega)) (Reads.own (rows := ints ([other] : List Int)) .here rfl) (by simp only [List.length_append, List.length_take, List.length_cons, List.length_nil]; omega)) ?_
  rintro _ _ ⟨a3, c3, rfl, rfl⟩
  refine At.conv (fun w hw => hw.less (.take (.there (.there .here)) (.take .here (.take .here (.take .here (.take .here .refl)))))) ?_
  refine s_call 47 15 #[.pointer (some ⟨b1, 0, none⟩), .agg #[.int .i64 (1), .int .i64 (1), .int .i64 (3), .int .i64 (0), .bool false, .slice a3 1 c3]] (by kernel_rfl) (by kernel_rfl) (fun _ => by kernel_rfl) (Put_new b1 (⟨[(⟨((fwd % 7) - 1), ((back % 7) - 1), (2), (1), dirty, (xs.take 4)⟩ : Ent)], 1, 3, 1⟩ : CacheS) (1) (1) (3) (0) false a3 1 c3 ([other] : List Int) (by first | rfl | exact hm | assumption | omega | (simp only [List.length_append, List.length_cons, List.length_nil]; omega)) (RowsA.reads (k := 1) .here) (by simp only [List.length_append, List.length_take, List.length_cons, List.length_nil]; omega) (by simp) (by simp) (by simp) (by simp) (by omega) (by simp [idx, List.findIdx?_cons]) (not_full (by simp))) ?_
  rintro _ _ ⟨rfl, rfl⟩
  refine At.conv (Γ' := [CacheA b1 (⟨[(⟨((fwd % 7) - 1), ((back % 7) - 1), (2), (1), dirty, (xs.take 4)⟩ : Ent), (⟨(1), (1), (3), (2), false, ([other] : List Int)⟩ : Ent)], 1, 3, 2⟩ : CacheS), IntsA a3 c3 ([other] : List Int), Asn.own b2 (.cells #[.int .i64 other] 3 (0, 0)), IntsA a2 c2 (xs.take 4), IntsA a1 c1 (xs.take 4)]) (fun w hw => hw) ?_
  refine ops_end ?_
  refine At.env [(0, .int .i64 ((fwd % 7) - 1)), (1, .int .i64 ((back % 7) - 1)), (2, .int .i64 ((ptr % 7) - 1)), (3, .bool dirty), (4, .slice a1 m1 c1), (5, .int .i64 other), (12, .bool false), (13, .pointer (some ⟨b1, 0, none⟩)), (24, .bool false)] ⟨by kernel_rfl, by kernel_rfl, by kernel_rfl, by kernel_rfl, by kernel_rfl, by kernel_rfl, by kernel_rfl, by kernel_rfl, by kernel_rfl, trivial⟩ ?_
  refine at_then_normal ?_
  refine at_seq (x := C4 [1, 1, 1, 1, 1, 1, 1, 0]) (y := C4 [1, 1, 1, 1, 1, 1, 1, 1]) (by kernel_rfl) ?_
  refine at_region (id := 8) 10 (by kernel_rfl) (by kernel_rfl) ?_
  refine s_pure 49 (.pointer (some ⟨b1, 0, none⟩)) (by kernel_rfl) (by kernel_rfl) (fun _ => by kernel_rfl) ?_
  refine s_pure 50 (.int .i64 ((ptr % 7) - 1)) (by kernel_rfl) (by kernel_rfl) (fun _ => by kernel_rfl) ?_
  refine s_pure 51 (.agg #[.int .i64 (4), .int .i64 (4), .int .i64 (5), .int .i64 (9), .int .i64 (2), .int .i64 ((ptr % 7) - 1), .int .i64 (0), .bool false, .slice none 0 0]) (by kernel_rfl) (by kernel_rfl) (fun _ => by kernel_rfl) ?_
  refine At.conv (fun w hw => hw.less (.take .here (.take .here (.take .here (.take .here (.take .here .refl)))))) ?_
  refine s_call 52 18 #[.pointer (some ⟨b1, 0, none⟩), .agg #[.int .i64 (4), .int .i64 (4), .int .i64 (5), .int .i64 (9), .int .i64 (2), .int .i64 ((ptr % 7) - 1), .int .i64 (0), .bool false, .slice none 0 0]] (by kernel_rfl) (by kernel_rfl) (fun _ => by kernel_rfl) (Handle_fwd b1 (⟨[(⟨((fwd % 7) - 1), ((back % 7) - 1), (2), (1), dirty, (xs.take 4)⟩ : Ent), (⟨(1), (1), (3), (2), false, ([other] : List Int)⟩ : Ent)], 1, 3, 2⟩ : CacheS) (4) (5) (9) (2) ((ptr % 7) - 1) (0) false none 0 0 (by omega) (by omega) (by omega) (by omega) (by omega) (by omega) (by omega) (by simp) (by simp) (by intro x hx; simp only [List.mem_cons, List.not_mem_nil, or_false] at hx; rcases hx with rfl | rfl <;> first | exact Nat.le_of_lt (by decide) | (simp; done) | (simp; omega) | (simp only [List.length_append, List.length_take, List.length_cons, List.length_nil]; omega)) 0 (⟨((fwd % 7) - 1), ((back % 7) - 1), (2), (1), dirty, (xs.take 4)⟩ : Ent) (by simp [idx, List.findIdx?_cons]) rfl rfl) ?_
  rintro _ _ ⟨rfl, rfl⟩
  refine At.conv (Γ' := [CacheA b1 (⟨[(⟨((ptr % 7) - 1), ((back % 7) - 1), (2), (1), dirty, (xs.take 4)⟩ : Ent), (⟨(1), (1), (3), (2), false, ([other] : List Int)⟩ : Ent)], 1, 3, 2⟩ : CacheS), IntsA a3 c3 ([other] : List Int), Asn.own b2 (.cells #[.int .i64 other] 3 (0, 0)), IntsA a2 c2 (xs.take 4), IntsA a1 c1 (xs.take 4)]) (fun w hw => hw) ?_
  refine s_pure 48 (.tuple #[.agg #[.int .i64 (8), .int .i64 (5), .int .i64 (4), .int .i64 (9), .int .i64 (2), .int .i64 (0), .int .i64 (0), .bool false, .slice none 0 0], .int .i64 (0)]) (by kernel_rfl) (by kernel_rfl) (fun _ => by kernel_rfl) ?_
  refine s_pure 53 (.agg #[.int .i64 (8), .int .i64 (5), .int .i64 (4), .int .i64 (9), .int .i64 (2), .int .i64 (0), .int .i64 (0), .bool false, .slice none 0 0]) (by kernel_rfl) (by kernel_rfl) (fun _ => by kernel_rfl) ?_
  refine s_pure 54 (.int .i64 (0)) (by kernel_rfl) (by kernel_rfl) (fun _ => by kernel_rfl) ?_
  refine s_step 14 (by kernel_rfl) (by kernel_rfl) (st_new (T := 35) (cells := #[.int .i64 (0), .int .i64 (0), .int .i64 (0), .int .i64 (0), .int .i64 (0), .int .i64 (0), .int .i64 (0), .bool false, .slice none 0 0]) (fun a => .pointer (some a)) (fun _ => by kernel_rfl)) ?_
  rintro _ _ ⟨b3, rfl, rfl⟩
  refine s_do (by kernel_rfl) (by kernel_rfl) (st_store (off := 0) (vs := [.int .i64 (8), .int .i64 (5), .int .i64 (4), .int .i64 (9), .int .i64 (2), .int .i64 (0), .int .i64 (0), .bool false, .slice none 0 0]) (c' := #[.int .i64 (8), .int .i64 (5), .int .i64 (4), .int .i64 (9), .int .i64 (2), .int .i64 (0), .int .i64 (0), .bool false, .slice none 0 0]) (fun _ => by kernel_rfl) .here (by kernel_rfl) (by kernel_rfl) (by kernel_rfl)) ?_
  rintro _ _ ⟨rfl, rfl⟩
  refine s_pure 15 (.int .i64 (0)) (by kernel_rfl) (by kernel_rfl) (fun _ => by kernel_rfl) ?_
  refine ops_end ?_
  refine At.env [(0, .int .i64 ((fwd % 7) - 1)), (1, .int .i64 ((back % 7) - 1)), (2, .int .i64 ((ptr % 7) - 1)), (3, .bool dirty), (4, .slice a1 m1 c1), (5, .int .i64 other), (12, .bool false), (13, .pointer (some ⟨b1, 0, none⟩)), (14, .pointer (some ⟨b3, 0, none⟩)), (15, .int .i64 (0)), (24, .bool false)] ⟨by kernel_rfl, by kernel_rfl, by kernel_rfl, by kernel_rfl, by kernel_rfl, by kernel_rfl, by kernel_rfl, by kernel_rfl, by kernel_rfl, by kernel_rfl, by kernel_rfl, trivial⟩ ?_
  refine at_then_normal ?_
  refine at_seq (x := C4 [1, 1, 1, 1, 1, 1, 1, 1, 0]) (y := C4 [1, 1, 1, 1, 1, 1, 1, 1, 1]) (by kernel_rfl) ?_
  refine at_region (id := 9) 8 (by kernel_rfl) (by kernel_rfl) ?_
  refine s_pure 56 (.pointer (some ⟨b1, 0, none⟩)) (by kernel_rfl) (by kernel_rfl) (fun _ => by kernel_rfl) ?_
  refine At.conv (fun w hw => hw.less (.take (.there .here) (.take .here (.take .here (.take .here (.take .here (.take .here .refl))))))) ?_
  refine s_call 57 20 #[.pointer (some ⟨b1, 0, none⟩), .int .i64 (2)] (by kernel_rfl) (by kernel_rfl) (fun _ => by kernel_rfl) (Find_some b1 (⟨[(⟨((ptr % 7) - 1), ((back % 7) - 1), (2), (1), dirty, (xs.take 4)⟩ : Ent), (⟨(1), (1), (3), (2), false, ([other] : List Int)⟩ : Ent)], 1, 3, 2⟩ : CacheS) (2) (by simp) (by intro x hx; simp only [List.mem_cons, List.not_mem_nil, or_false] at hx; rcases hx with rfl | rfl <;> first | exact Nat.le_of_lt (by decide) | (simp; done) | (simp; omega) | (simp only [List.length_append, List.length_take, List.length_cons, List.length_nil]; omega)) 0 (⟨((ptr % 7) - 1), ((back % 7) - 1), (2), (1), dirty, (xs.take 4)⟩ : Ent) (by simp [idx, List.findIdx?_cons]) rfl) ?_
  rintro _ _ ⟨a4, c4, rfl, rfl⟩
  refine At.conv (Γ' := [IntsA a4 c4 (xs.take 4), CacheA b1 (⟨[(⟨((ptr % 7) - 1), ((back % 7) - 1), (2), (1), dirty, (xs.take 4)⟩ : Ent), (⟨(1), (1), (3), (2), false, ([other] : List Int)⟩ : Ent)], 1, 3, 2⟩ : CacheS), Asn.own b3 (.cells #[.int .i64 (8), .int .i64 (5), .int .i64 (4), .int .i64 (9), .int .i64 (2), .int .i64 (0), .int .i64 (0), .bool false, .slice none 0 0] 35 (0, 0)), IntsA a3 c3 ([other] : List Int), Asn.own b2 (.cells #[.int .i64 other] 3 (0, 0)), IntsA a2 c2 (xs.take 4), IntsA a1 c1 (xs.take 4)]) (fun w hw => hw) ?_
  refine s_pure 55 (.tuple #[.agg #[.int .i64 ((ptr % 7) - 1), .int .i64 ((back % 7) - 1), .int .i64 (2), .int .i64 (1), .bool dirty, .slice a4 ((xs.take 4).length) c4], .bool true]) (by kernel_rfl) (by kernel_rfl) (fun _ => by kernel_rfl) ?_
  refine s_pure 58 (.agg #[.int .i64 ((ptr % 7) - 1), .int .i64 ((back % 7) - 1), .int .i64 (2), .int .i64 (1), .bool dirty, .slice a4 ((xs.take 4).length) c4]) (by kernel_rfl) (by kernel_rfl) (fun _ => by kernel_rfl) ?_
  refine s_pure 59 (.bool true) (by kernel_rfl) (by kernel_rfl) (fun _ => by kernel_rfl) ?_
  refine s_step 16 (by kernel_rfl) (by kernel_rfl) (st_new (T := 31) (cells := #[.int .i64 (0), .int .i64 (0), .int .i64 (0), .int .i64 (0), .bool false, .slice none 0 0]) (fun a => .pointer (some a)) (fun _ => by kernel_rfl)) ?_
  rintro _ _ ⟨b4, rfl, rfl⟩
  refine s_do (by kernel_rfl) (by kernel_rfl) (st_store (off := 0) (vs := [.int .i64 ((ptr % 7) - 1), .int .i64 ((back % 7) - 1), .int .i64 (2), .int .i64 (1), .bool dirty, .slice a4 ((xs.take 4).length) c4]) (c' := #[.int .i64 ((ptr % 7) - 1), .int .i64 ((back % 7) - 1), .int .i64 (2), .int .i64 (1), .bool dirty, .slice a4 ((xs.take 4).length) c4]) (fun _ => by kernel_rfl) .here (by kernel_rfl) (by kernel_rfl) (by kernel_rfl)) ?_
  rintro _ _ ⟨rfl, rfl⟩
  refine s_pure 17 (.bool true) (by kernel_rfl) (by kernel_rfl) (fun _ => by kernel_rfl) ?_
  refine ops_end ?_
  refine At.env [(0, .int .i64 ((fwd % 7) - 1)), (1, .int .i64 ((back % 7) - 1)), (2, .int .i64 ((ptr % 7) - 1)), (3, .bool dirty), (4, .slice a1 m1 c1), (5, .int .i64 other), (12, .bool false), (13, .pointer (some ⟨b1, 0, none⟩)), (14, .pointer (some ⟨b3, 0, none⟩)), (15, .int .i64 (0)), (16, .pointer (some ⟨b4, 0, none⟩)), (24, .bool false)] ⟨by kernel_rfl, by kernel_rfl, by kernel_rfl, by kernel_rfl, by kernel_rfl, by kernel_rfl, by kernel_rfl, by kernel_rfl, by kernel_rfl, by kernel_rfl, by kernel_rfl, by kernel_rfl, trivial⟩ ?_
  refine at_then_normal ?_
  refine at_seq (x := C4 [1, 1, 1, 1, 1, 1, 1, 1, 1, 0]) (y := C4 [1, 1, 1, 1, 1, 1, 1, 1, 1, 1]) (by kernel_rfl) ?_
  refine at_seq (x := C4 [1, 1, 1, 1, 1, 1, 1, 1, 1, 0, 0]) (y := C4 [1, 1, 1, 1, 1, 1, 1, 1, 1, 0, 1]) (by kernel_rfl) ?_
  refine at_region (id := 10) 52 (by kernel_rfl) (by kernel_rfl) ?_
  refine s_pure 60 (.int .i64 (0)) (by kernel_rfl) (by kernel_rfl) (fun _ => by kernel_rfl) ?_
  refine s_pure 61 (.bool false) (by kernel_rfl) (by kernel_rfl) (fun _ => by kernel_rfl) ?_
  refine s_pure 62 (.bool false) (by kernel_rfl) (by kernel_rfl) (fun _ => by kernel_rfl) ?_
  refine s_pure 63 (.pointer (some ⟨b3, 0, none⟩)) (by kernel_rfl) (by kernel_rfl) (fun _ => by kernel_rfl) ?_
  refine s_load 64 (.int .i64 (8)) (by kernel_rfl) (by kernel_rfl) (load1 (off := 0) (fun _ => by kernel_rfl) (holds_own (.there (.there (.there .here)))) (by kernel_rfl)) ?_
  refine s_pure 65 (.bool false) (by kernel_rfl) (by kernel_rfl) (fun _ => by kernel_rfl) ?_
  refine s_pure 66 (.bool false) (by kernel_rfl) (by kernel_rfl) (fun _ => by kernel_rfl) ?_
  refine s_pure 67 (.bool false) (by kernel_rfl) (by kernel_rfl) (fun _ => by kernel_rfl) ?_
  refine s_pure 68 (.pointer (some ⟨b3, 1, none⟩)) (by kernel_rfl) (by kernel_rfl) (fun _ => by kernel_rfl) ?_
  refine s_load 69 (.int .i64 (5)) (by kernel_rfl) (by kernel_rfl) (load1 (off := 1) (fun _ => by kernel_rfl) (holds_own (.there (.there (.there .here)))) (by kernel_rfl)) ?_
  refine s_pure 70 (.bool false) (by kernel_rfl) (by kernel_rfl) (fun _ => by kernel_rfl) ?_
  refine s_pure 71 (.bool false) (by kernel_rfl) (by kernel_rfl) (fun _ => by kernel_rfl) ?_
  refine s_pure 72 (.bool false) (by kernel_rfl) (by kernel_rfl) (fun _ => by kernel_rfl) ?_
  refine s_pure 73 (.pointer (some ⟨b3, 2, none⟩)) (by kernel_rfl) (by kernel_rfl) (fun _ => by kernel_rfl) ?_
  refine s_load 74 (.int .i64 (4)) (by kernel_rfl) (by kernel_rfl) (load1 (off := 2) (fun _ => by kernel_rfl) (holds_own (.there (.there (.there .here)))) (by kernel_rfl)) ?_
  refine s_pure 75 (.bool false) (by kernel_rfl) (by kernel_rfl) (fun _ => by kernel_rfl) ?_
  refine s_pure 76 (.bool false) (by kernel_rfl) (by kernel_rfl) (fun _ => by kernel_rfl) ?_
  refine s_pure 77 (.bool false) (by kernel_rfl) (by kernel_rfl) (fun _ => by kernel_rfl) ?_
  refine s_pure 78 (.pointer (some ⟨b3, 3, none⟩)) (by kernel_rfl) (by kernel_rfl) (fun _ => by kernel_rfl) ?_
  refine s_load 79 (.int .i64 (9)) (by kernel_rfl) (by kernel_rfl) (load1 (off := 3) (fun _ => by kernel_rfl) (holds_own (.there (.there (.there .here)))) (by kernel_rfl)) ?_
  refine s_pure 80 (.bool false) (by kernel_rfl) (by kernel_rfl) (fun _ => by kernel_rfl) ?_
  refine s_pure 81 (.bool false) (by kernel_rfl) (by kernel_rfl) (fun _ => by kernel_rfl) ?_
  refine s_pure 82 (.bool false) (by kernel_rfl) (by kernel_rfl) (fun _ => by kernel_rfl) ?_
  refine s_pure 83 (.pointer (some ⟨b3, 4, none⟩)) (by kernel_rfl) (by kernel_rfl) (fun _ => by kernel_rfl) ?_
  refine s_load 84 (.int .i64 (2)) (by kernel_rfl) (by kernel_rfl) (load1 (off := 4) (fun _ => by kernel_rfl) (holds_own (.there (.there (.there .here)))) (by kernel_rfl)) ?_
  refine s_pure 85 (.bool false) (by kernel_rfl) (by kernel_rfl) (fun _ => by kernel_rfl) ?_
  refine s_pure 86 (.bool false) (by kernel_rfl) (by kernel_rfl) (fun _ => by kernel_rfl) ?_
  refine s_pure 87 (.bool false) (by kernel_rfl) (by kernel_rfl) (fun _ => by kernel_rfl) ?_
  refine s_pure 88 (.pointer (some ⟨b3, 5, none⟩)) (by kernel_rfl) (by kernel_rfl) (fun _ => by kernel_rfl) ?_
  refine s_load 89 (.int .i64 (0)) (by kernel_rfl) (by kernel_rfl) (load1 (off := 5) (fun _ => by kernel_rfl) (holds_own (.there (.there (.there .here)))) (by kernel_rfl)) ?_
  refine s_pure 90 (.bool false) (by kernel_rfl) (by kernel_rfl) (fun _ => by kernel_rfl) ?_
  refine s_pure 91 (.bool false) (by kernel_rfl) (by kernel_rfl) (fun _ => by kernel_rfl) ?_
  refine s_pure 92 (.bool false) (by kernel_rfl) (by kernel_rfl) (fun _ => by kernel_rfl) ?_
  refine s_pure 93 (.pointer (some ⟨b4, 0, none⟩)) (by kernel_rfl) (by kernel_rfl) (fun _ => by kernel_rfl) ?_
  refine s_pure 94 (.pointer (some ⟨b4, 0, none⟩)) (by kernel_rfl) (by kernel_rfl) (fun _ => by kernel_rfl) ?_
  refine s_load 95 (.int .i64 ((ptr % 7) - 1)) (by kernel_rfl) (by kernel_rfl) (load1 (off := 0) (fun _ => by kernel_rfl) (holds_own .here) (by kernel_rfl)) ?_
  refine s_pure 96 (.int .i64 ((ptr % 7) - 1)) (by kernel_rfl) (by kernel_rfl) (fun _ => by kernel_rfl) ?_
  refine s_pure 97 (.bool false) (by kernel_rfl) (by kernel_rfl) (run_eq (v := .bool (!(decide (((ptr % 7) - 1) = ((ptr % 7) - 1))))) (fun _ => by kernel_rfl) (congrArg Value.bool (by rw [decide_eq_true rfl]; rfl))) ?_
  refine s_pure 98 (.bool false) (by kernel_rfl) (by kernel_rfl) (fun _ => by kernel_rfl) ?_
  refine s_pure 99 (.bool false) (by kernel_rfl) (by kernel_rfl) (fun _ => by kernel_rfl) ?_
  refine s_pure 100 (.pointer (some ⟨b4, 0, none⟩)) (by kernel_rfl) (by kernel_rfl) (fun _ => by kernel_rfl) ?_
  refine s_pure 101 (.pointer (some ⟨b4, 1, none⟩)) (by kernel_rfl) (by kernel_rfl) (fun _ => by kernel_rfl) ?_
  refine s_load 102 (.int .i64 ((back % 7) - 1)) (by kernel_rfl) (by kernel_rfl) (load1 (off := 1) (fun _ => by kernel_rfl) (holds_own .here) (by kernel_rfl)) ?_
  refine s_pure 103 (.int .i64 ((back % 7) - 1)) (by kernel_rfl) (by kernel_rfl) (fun _ => by kernel_rfl) ?_
  refine s_pure 104 (.bool false) (by kernel_rfl) (by kernel_rfl) (run_eq (v := .bool (!(decide (((back % 7) - 1) = ((back % 7) - 1))))) (fun _ => by kernel_rfl) (congrArg Value.bool (by rw [decide_eq_true rfl]; rfl))) ?_
  refine s_pure 105 (.bool false) (by kernel_rfl) (by kernel_rfl) (fun _ => by kernel_rfl) ?_
  refine s_pure 106 (.bool false) (by kernel_rfl) (by kernel_rfl) (fun _ => by kernel_rfl) ?_
  refine s_pure 107 (.pointer (some ⟨b4, 4, none⟩)) (by kernel_rfl) (by kernel_rfl) (fun _ => by kernel_rfl) ?_
  refine s_load 108 (.bool dirty) (by kernel_rfl) (by kernel_rfl) (load1 (off := 4) (fun _ => by kernel_rfl) (holds_own .here) (by kernel_rfl)) ?_
  refine s_pure 109 (.bool dirty) (by kernel_rfl) (by kernel_rfl) (fun _ => by kernel_rfl) ?_
  refine s_pure 110 (.bool false) (by kernel_rfl) (by kernel_rfl) (run_eq (v := .bool (!(dirty == dirty))) (fun _ => by kernel_rfl) (congrArg Value.bool (by rw [beq_self_eq_true]; rfl))) ?_
  refine s_pure 111 (.bool false) (by kernel_rfl) (by kernel_rfl) (fun _ => by kernel_rfl) ?_
  refine ops_end ?_
  refine At.env [(0, .int .i64 ((fwd % 7) - 1)), (1, .int .i64 ((back % 7) - 1)), (2, .int .i64 ((ptr % 7) - 1)), (3, .bool dirty), (4, .slice a1 m1 c1), (5, .int .i64 other), (12, .bool false), (13, .pointer (some ⟨b1, 0, none⟩)), (14, .pointer (some ⟨b3, 0, none⟩)), (15, .int .i64 (0)), (16, .pointer (some ⟨b4, 0, none⟩)), (24, .bool false), (111, .bool false)] ⟨by kernel_rfl, by kernel_rfl, by kernel_rfl, by kernel_rfl, by kernel_rfl, by kernel_rfl, by kernel_rfl, by kernel_rfl, by kernel_rfl, by kernel_rfl, by kernel_rfl, by kernel_rfl, by kernel_rfl, trivial⟩ ?_
  refine at_then_normal ?_
  refine at_false (t := false) (x := C4 [1, 1, 1, 1, 1, 1, 1, 1, 1, 0, 1, 0]) (y := C4 [1, 1, 1, 1, 1, 1, 1, 1, 1, 0, 1, 1]) (o := .tmp 111) (by kernel_rfl) (by kernel_rfl) (by kernel_rfl) rfl ?_
  refine at_skip (by kernel_rfl) ?_
  refine at_then_normal ?_
  refine at_seq (x := C4 [1, 1, 1, 1, 1, 1, 1, 1, 1, 1, 0]) (y := C4 [1, 1, 1, 1, 1, 1, 1, 1, 1, 1, 1]) (by kernel_rfl) ?_
  refine at_region (id := 12) 9 (by kernel_rfl) (by kernel_rfl) ?_
  refine s_pure 113 (.pointer (some ⟨b1, 0, none⟩)) (by kernel_rfl) (by kernel_rfl) (fun _ => by kernel_rfl) ?_
  refine s_pure 114 (.int .i64 ((fwd % 7) - 1)) (by kernel_rfl) (by kernel_rfl) (fun _ => by kernel_rfl) ?_
  refine s_pure 115 (.agg #[.int .i64 (5), .int .i64 (0), .int .i64 (0), .int .i64 (0), .int .i64 (2), .int .i64 ((fwd % 7) - 1), .int .i64 (0), .bool false, .slice none 0 0]) (by kernel_rfl) (by kernel_rfl) (fun _ => by kernel_rfl) ?_
  refine At.conv (fun w hw => hw.less (.take (.there (.there .here)) (.take .here (.take .here (.take .here (.take .here (.take .here (.take .here (.take .here .refl))))))))) ?_
  refine s_call 116 18 #[.pointer (some ⟨b1, 0, none⟩), .agg #[.int .i64 (5), .int .i64 (0), .int .i64 (0), .int .i64 (0), .int .i64 (2), .int .i64 ((fwd % 7) - 1), .int .i64 (0), .bool false, .slice none 0 0]] (by kernel_rfl) (by kernel_rfl) (fun _ => by kernel_rfl) (Handle_back b1 (⟨[(⟨((ptr % 7) - 1), ((back % 7) - 1), (2), (1), dirty, (xs.take 4)⟩ : Ent), (⟨(1), (1), (3), (2), false, ([other] : List Int)⟩ : Ent)], 1, 3, 2⟩ : CacheS) (0) (0) (0) (2) ((fwd % 7) - 1) (0) false none 0 0 (by omega) (by omega) (by omega) (by omega) (by omega) (by omega) (by omega) (by simp) (by simp) (by intro x hx; simp only [List.mem_cons, List.not_mem_nil, or_false] at hx; rcases hx with rfl | rfl <;> first | exact Nat.le_of_lt (by decide) | (simp; done) | (simp; omega) | (simp only [List.length_append, List.length_take, List.length_cons, List.length_nil]; omega)) 0 (⟨((ptr % 7) - 1), ((back % 7) - 1), (2), (1), dirty, (xs.take 4)⟩ : Ent) (by simp [idx, List.findIdx?_cons]) rfl rfl) ?_
  rintro _ _ ⟨rfl, rfl⟩
  refine At.conv (Γ' := [CacheA b1 (⟨[(⟨((ptr % 7) - 1), ((fwd % 7) - 1), (2), (1), dirty, (xs.take 4)⟩ : Ent), (⟨(1), (1), (3), (2), false, ([other] : List Int)⟩ : Ent)], 1, 3, 2⟩ : CacheS), Asn.own b4 (.cells #[.int .i64 ((ptr % 7) - 1), .int .i64 ((back % 7) - 1), .int .i64 (2), .int .i64 (1), .bool dirty, .slice a4 ((xs.take 4).length) c4] 31 (0, 0)), IntsA a4 c4 (xs.take 4), Asn.own b3 (.cells #[.int .i64 (8), .int .i64 (5), .int .i64 (4), .int .i64 (9), .int .i64 (2), .int .i64 (0), .int .i64 (0), .bool false, .slice none 0 0] 35 (0, 0)), IntsA a3 c3 ([other] : List Int), Asn.own b2 (.cells #[.int .i64 other] 3 (0, 0)), IntsA a2 c2 (xs.take 4), IntsA a1 c1 (xs.take 4)]) (fun w hw => hw) ?_
  refine s_pure 112 (.tuple #[.agg #[.int .i64 (8), .int .i64 (0), .int .i64 (0), .int .i64 (0), .int .i64 (2), .int .i64 (0), .int .i64 (0), .bool false, .slice none 0 0], .int .i64 (0)]) (by kernel_rfl) (by kernel_rfl) (fun _ => by kernel_rfl) ?_
  refine s_pure 117 (.agg #[.int .i64 (8), .int .i64 (0), .int .i64 (0), .int .i64 (0), .int .i64 (2), .int .i64 (0), .int .i64 (0), .bool false, .slice none 0 0]) (by kernel_rfl) (by kernel_rfl) (fun _ => by kernel_rfl) ?_
  refine s_pure 118 (.int .i64 (0)) (by kernel_rfl) (by kernel_rfl) (fun _ => by kernel_rfl) ?_
  refine s_do (by kernel_rfl) (by kernel_rfl) (st_store (off := 0) (vs := [.int .i64 (8), .int .i64 (0), .int .i64 (0), .int .i64 (0), .int .i64 (2), .int .i64 (0), .int .i64 (0), .bool false, .slice none 0 0]) (c' := #[.int .i64 (8), .int .i64 (0), .int .i64 (0), .int .i64 (0), .int .i64 (2), .int .i64 (0), .int .i64 (0), .bool false, .slice none 0 0]) (fun _ => by kernel_rfl) (.there (.there (.there .here))) (by kernel_rfl) (by kernel_rfl) (by kernel_rfl)) ?_
  rintro _ _ ⟨rfl, rfl⟩
  refine s_pure 15 (.int .i64 (0)) (by kernel_rfl) (by kernel_rfl) (fun _ => by kernel_rfl) ?_
  refine ops_end ?_
  refine At.env [(0, .int .i64 ((fwd % 7) - 1)), (1, .int .i64 ((back % 7) - 1)), (2, .int .i64 ((ptr % 7) - 1)), (3, .bool dirty), (4, .slice a1 m1 c1), (5, .int .i64 other), (12, .bool false), (13, .pointer (some ⟨b1, 0, none⟩)), (14, .pointer (some ⟨b3, 0, none⟩)), (15, .int .i64 (0)), (16, .pointer (some ⟨b4, 0, none⟩)), (24, .bool false), (111, .bool false)] ⟨by kernel_rfl, by kernel_rfl, by kernel_rfl, by kernel_rfl, by kernel_rfl, by kernel_rfl, by kernel_rfl, by kernel_rfl, by kernel_rfl, by kernel_rfl, by kernel_rfl, by kernel_rfl, by kernel_rfl, trivial⟩ ?_
  refine at_then_normal ?_
  refine at_seq (x := C4 [1, 1, 1, 1, 1, 1, 1, 1, 1, 1, 1, 0]) (y := C4 [1, 1, 1, 1, 1, 1, 1, 1, 1, 1, 1, 1]) (by kernel_rfl) ?_
  refine at_region (id := 13) 6 (by kernel_rfl) (by kernel_rfl) ?_
  refine s_pure 120 (.pointer (some ⟨b1, 0, none⟩)) (by kernel_rfl) (by kernel_rfl) (fun _ => by kernel_rfl) ?_
  refine At.conv (fun w hw => hw.less (.take (.there .here) (.take .here (.take .here (.take .here (.take .here (.take .here (.take .here (.take .here .refl))))))))) ?_
  refine s_call 121 20 #[.pointer (some ⟨b1, 0, none⟩), .int .i64 (2)] (by kernel_rfl) (by kernel_rfl) (fun _ => by kernel_rfl) (Find_some b1 (⟨[(⟨((ptr % 7) - 1), ((fwd % 7) - 1), (2), (1), dirty, (xs.take 4)⟩ : Ent), (⟨(1), (1), (3), (2), false, ([other] : List Int)⟩ : Ent)], 1, 3, 2⟩ : CacheS) (2) (by simp) (by intro x hx; simp only [List.mem_cons, List.not_mem_nil, or_false] at hx; rcases hx with rfl | rfl <;> first | exact Nat.le_of_lt (by decide) | (simp; done) | (simp; omega) | (simp only [List.length_append, List.length_take, List.length_cons, List.length_nil]; omega)) 0 (⟨((ptr % 7) - 1), ((fwd % 7) - 1), (2), (1), dirty, (xs.take 4)⟩ : Ent) (by simp [idx, List.findIdx?_cons]) rfl) ?_
  rintro _ _ ⟨a5, c5, rfl, rfl⟩
  refine At.conv (Γ' := [IntsA a5 c5 (xs.take 4), CacheA b1 (⟨[(⟨((ptr % 7) - 1), ((fwd % 7) - 1), (2), (1), dirty, (xs.take 4)⟩ : Ent), (⟨(1), (1), (3), (2), false, ([other] : List Int)⟩ : Ent)], 1, 3, 2⟩ : CacheS), Asn.own b3 (.cells #[.int .i64 (8), .int .i64 (0), .int .i64 (0), .int .i64 (0), .int .i64 (2), .int .i64 (0), .int .i64 (0), .bool false, .slice none 0 0] 35 (0, 0)), Asn.own b4 (.cells #[.int .i64 ((ptr % 7) - 1), .int .i64 ((back % 7) - 1), .int .i64 (2), .int .i64 (1), .bool dirty, .slice a4 ((xs.take 4).length) c4] 31 (0, 0)), IntsA a4 c4 (xs.take 4), IntsA a3 c3 ([other] : List Int), Asn.own b2 (.cells #[.int .i64 other] 3 (0, 0)), IntsA a2 c2 (xs.take 4), IntsA a1 c1 (xs.take 4)]) (fun w hw => hw) ?_
  refine s_pure 119 (.tuple #[.agg #[.int .i64 ((ptr % 7) - 1), .int .i64 ((fwd % 7) - 1), .int .i64 (2), .int .i64 (1), .bool dirty, .slice a5 ((xs.take 4).length) c5], .bool true]) (by kernel_rfl) (by kernel_rfl) (fun _ => by kernel_rfl) ?_
  refine s_pure 122 (.agg #[.int .i64 ((ptr % 7) - 1), .int .i64 ((fwd % 7) - 1), .int .i64 (2), .int .i64 (1), .bool dirty, .slice a5 ((xs.take 4).length) c5]) (by kernel_rfl) (by kernel_rfl) (fun _ => by kernel_rfl) ?_
  refine s_pure 123 (.bool true) (by kernel_rfl) (by kernel_rfl) (fun _ => by kernel_rfl) ?_
  refine s_do (by kernel_rfl) (by kernel_rfl) (st_store (off := 0) (vs := [.int .i64 ((ptr % 7) - 1), .int .i64 ((fwd % 7) - 1), .int .i64 (2), .int .i64 (1), .bool dirty, .slice a5 ((xs.take 4).length) c5]) (c' := #[.int .i64 ((ptr % 7) - 1), .int .i64 ((fwd % 7) - 1), .int .i64 (2), .int .i64 (1), .bool dirty, .slice a5 ((xs.take 4).length) c5]) (fun _ => by kernel_rfl) (.there (.there (.there .here))) (by kernel_rfl) (by kernel_rfl) (by kernel_rfl)) ?_
  rintro _ _ ⟨rfl, rfl⟩
  refine ops_end ?_
  refine At.env [(0, .int .i64 ((fwd % 7) - 1)), (1, .int .i64 ((back % 7) - 1)), (2, .int .i64 ((ptr % 7) - 1)), (3, .bool dirty), (4, .slice a1 m1 c1), (5, .int .i64 other), (12, .bool false), (13, .pointer (some ⟨b1, 0, none⟩)), (14, .pointer (some ⟨b3, 0, none⟩)), (15, .int .i64 (0)), (16, .pointer (some ⟨b4, 0, none⟩)), (24, .bool false), (111, .bool false)] ⟨by kernel_rfl, by kernel_rfl, by kernel_rfl, by kernel_rfl, by kernel_rfl, by kernel_rfl, by kernel_rfl, by kernel_rfl, by kernel_rfl, by kernel_rfl, by kernel_rfl, by kernel_rfl, by kernel_rfl, trivial⟩ ?_
  refine at_then_normal ?_
  refine at_seq (x := C4 [1, 1, 1, 1, 1, 1, 1, 1, 1, 1, 1, 1, 0]) (y := C4 [1, 1, 1, 1, 1, 1, 1, 1, 1, 1, 1, 1, 1]) (by kernel_rfl) ?_
  refine at_seq (x := C4 [1, 1, 1, 1, 1, 1, 1, 1, 1, 1, 1, 1, 0, 0]) (y := C4 [1, 1, 1, 1, 1, 1, 1, 1, 1, 1, 1, 1, 0, 1]) (by kernel_rfl) ?_
  refine at_region (id := 14) 28 (by kernel_rfl) (by kernel_rfl) ?_
  refine s_pure 124 (.int .i64 (0)) (by kernel_rfl) (by kernel_rfl) (fun _ => by kernel_rfl) ?_
  refine s_pure 125 (.bool false) (by kernel_rfl) (by kernel_rfl) (fun _ => by kernel_rfl) ?_
  refine s_pure 126 (.bool false) (by kernel_rfl) (by kernel_rfl) (fun _ => by kernel_rfl) ?_
  refine s_pure 127 (.pointer (some ⟨b3, 0, none⟩)) (by kernel_rfl) (by kernel_rfl) (fun _ => by kernel_rfl) ?_
  refine s_load 128 (.int .i64 (8)) (by kernel_rfl) (by kernel_rfl) (load1 (off := 0) (fun _ => by kernel_rfl) (holds_own (.there (.there (.there .here)))) (by kernel_rfl)) ?_
  refine s_pure 129 (.bool false) (by kernel_rfl) (by kernel_rfl) (fun _ => by kernel_rfl) ?_
  refine s_pure 130 (.bool false) (by kernel_rfl) (by kernel_rfl) (fun _ => by kernel_rfl) ?_
  refine s_pure 131 (.bool false) (by kernel_rfl) (by kernel_rfl) (fun _ => by kernel_rfl) ?_
  refine s_pure 132 (.pointer (some ⟨b4, 0, none⟩)) (by kernel_rfl) (by kernel_rfl) (fun _ => by kernel_rfl) ?_
  refine s_pure 133 (.pointer (some ⟨b4, 0, none⟩)) (by kernel_rfl) (by kernel_rfl) (fun _ => by kernel_rfl) ?_
  refine s_load 134 (.int .i64 ((ptr % 7) - 1)) (by kernel_rfl) (by kernel_rfl) (load1 (off := 0) (fun _ => by kernel_rfl) (holds_own .here) (by kernel_rfl)) ?_
  refine s_pure 135 (.int .i64 ((ptr % 7) - 1)) (by kernel_rfl) (by kernel_rfl) (fun _ => by kernel_rfl) ?_
  refine s_pure 136 (.bool false) (by kernel_rfl) (by kernel_rfl) (run_eq (v := .bool (!(decide (((ptr % 7) - 1) = ((ptr % 7) - 1))))) (fun _ => by kernel_rfl) (congrArg Value.bool (by rw [decide_eq_true rfl]; rfl))) ?_
  refine s_pure 137 (.bool false) (by kernel_rfl) (by kernel_rfl) (fun _ => by kernel_rfl) ?_
  refine s_pure 138 (.bool false) (by kernel_rfl) (by kernel_rfl) (fun _ => by kernel_rfl) ?_
  refine s_pure 139 (.pointer (some ⟨b4, 0, none⟩)) (by kernel_rfl) (by kernel_rfl) (fun _ => by kernel_rfl) ?_
  refine s_pure 140 (.pointer (some ⟨b4, 1, none⟩)) (by kernel_rfl) (by kernel_rfl) (fun _ => by kernel_rfl) ?_
  refine s_load 141 (.int .i64 ((fwd % 7) - 1)) (by kernel_rfl) (by kernel_rfl) (load1 (off := 1) (fun _ => by kernel_rfl) (holds_own .here) (by kernel_rfl)) ?_
  refine s_pure 142 (.int .i64 ((fwd % 7) - 1)) (by kernel_rfl) (by kernel_rfl) (fun _ => by kernel_rfl) ?_
  refine s_pure 143 (.bool false) (by kernel_rfl) (by kernel_rfl) (run_eq (v := .bool (!(decide (((fwd % 7) - 1) = ((fwd % 7) - 1))))) (fun _ => by kernel_rfl) (congrArg Value.bool (by rw [decide_eq_true rfl]; rfl))) ?_
  refine s_pure 144 (.bool false) (by kernel_rfl) (by kernel_rfl) (fun _ => by kernel_rfl) ?_
  refine s_pure 145 (.bool false) (by kernel_rfl) (by kernel_rfl) (fun _ => by kernel_rfl) ?_
  refine s_pure 146 (.pointer (some ⟨b4, 5, none⟩)) (by kernel_rfl) (by kernel_rfl) (fun _ => by kernel_rfl) ?_
  refine s_load 147 (.slice a5 ((xs.take 4).length) c5) (by kernel_rfl) (by kernel_rfl) (load1 (off := 5) (fun _ => by kernel_rfl) (holds_own .here) (by kernel_rfl)) ?_
  refine s_pure 148 (.slice a1 m1 c1) (by kernel_rfl) (by kernel_rfl) (fun _ => by kernel_rfl) ?_
  refine s_quiet 149 (.bool true) 19 #[.slice a5 ((xs.take 4).length) c5, .slice a1 m1 c1] (by kernel_rfl) (by kernel_rfl) (fun _ => by kernel_rfl) (KSame_tr a5 ((xs.take 4).length) c5 a1 m1 c1 (xs.take 4) (by first | rfl | exact hm | assumption | omega | (simp only [List.length_append, List.length_cons, List.length_nil]; omega)) (by first | rfl | exact hm | assumption | omega | (simp only [List.length_append, List.length_cons, List.length_nil]; omega)) (RowsA.reads (k := 1) (.there .here)) (RowsA.reads (k := 1) (.there (.there (.there (.there (.there (.there (.there (.there .here))))))))) (by simp only [List.length_append, List.length_take, List.length_cons, List.length_nil]; omega)) ?_
  refine s_pure 150 (.bool false) (by kernel_rfl) (by kernel_rfl) (fun _ => by kernel_rfl) ?_
  refine s_pure 151 (.bool false) (by kernel_rfl) (by kernel_rfl) (fun _ => by kernel_rfl) ?_
  refine ops_end ?_
  refine At.env [(0, .int .i64 ((fwd % 7) - 1)), (1, .int .i64 ((back % 7) - 1)), (2, .int .i64 ((ptr % 7) - 1)), (3, .bool dirty), (4, .slice a1 m1 c1), (5, .int .i64 other), (12, .bool false), (13, .pointer (some ⟨b1, 0, none⟩)), (14, .pointer (some ⟨b3, 0, none⟩)), (15, .int .i64 (0)), (16, .pointer (some ⟨b4, 0, none⟩)), (24, .bool false), (111, .bool false), (151, .bool false)] ⟨by kernel_rfl, by kernel_rfl, by kernel_rfl, by kernel_rfl, by kernel_rfl, by kernel_rfl, by kernel_rfl, by kernel_rfl, by kernel_rfl, by kernel_rfl, by kernel_rfl, by kernel_rfl, by kernel_rfl, by kernel_rfl, trivial⟩ ?_
  refine at_then_normal ?_
  refine at_false (t := false) (x := C4 [1, 1, 1, 1, 1, 1, 1, 1, 1, 1, 1, 1, 0, 1, 0]) (y := C4 [1, 1, 1, 1, 1, 1, 1, 1, 1, 1, 1, 1, 0, 1, 1]) (o := .tmp 151) (by kernel_rfl) (by kernel_rfl) (by kernel_rfl) rfl ?_
  refine at_skip (by kernel_rfl) ?_
  refine at_then_normal ?_
  refine at_seq (x := C4 [1, 1, 1, 1, 1, 1, 1, 1, 1, 1, 1, 1, 1, 0]) (y := C4 [1, 1, 1, 1, 1, 1, 1, 1, 1, 1, 1, 1, 1, 1]) (by kernel_rfl) ?_
  refine at_region (id := 16) 8 (by kernel_rfl) (by kernel_rfl) ?_
  refine s_pure 153 (.pointer (some ⟨b1, 0, none⟩)) (by kernel_rfl) (by kernel_rfl) (fun _ => by kernel_rfl) ?_
  refine s_pure 154 (.agg #[.int .i64 (3), .int .i64 (0), .int .i64 (0), .int .i64 (0), .int .i64 (2), .int .i64 (3), .int .i64 (0), .bool false, .slice none 0 0]) (by kernel_rfl) (by kernel_rfl) (fun _ => by kernel_rfl) ?_
  refine At.conv (fun w hw => hw.less (.take (.there (.there .here)) (.take .here (.take .here (.take .here (.take .here (.take .here (.take .here (.take .here (.take .here .refl)))))))))) ?_
  refine s_call 155 18 #[.pointer (some ⟨b1, 0, none⟩), .agg #[.int .i64 (3), .int .i64 (0), .int .i64 (0), .int .i64 (0), .int .i64 (2), .int .i64 (3), .int .i64 (0), .bool false, .slice none 0 0]] (by kernel_rfl) (by kernel_rfl) (fun _ => by kernel_rfl) (Handle_attach b1 (⟨[(⟨((ptr % 7) - 1), ((fwd % 7) - 1), (2), (1), dirty, (xs.take 4)⟩ : Ent), (⟨(1), (1), (3), (2), false, ([other] : List Int)⟩ : Ent)], 1, 3, 2⟩ : CacheS) (0) (0) (0) (2) (3) (0) false none 0 0 (by omega) (by omega) (by omega) (by omega) (by omega) (by omega) (by omega) (by simp) (by simp) (by intro x hx; simp only [List.mem_cons, List.not_mem_nil, or_false] at hx; rcases hx with rfl | rfl <;> first | exact Nat.le_of_lt (by decide) | (simp; done) | (simp; omega) | (simp only [List.length_append, List.length_take, List.length_cons, List.length_nil]; omega)) 0 (⟨((ptr % 7) - 1), ((fwd % 7) - 1), (2), (1), dirty, (xs.take 4)⟩ : Ent) (by simp [idx, List.findIdx?_cons]) rfl rfl) ?_
  rintro _ _ ⟨a6, c6, rfl, rfl⟩
  refine At.conv (Γ' := [IntsA a6 c6 (xs.take 4), CacheA b1 (⟨[(⟨((ptr % 7) - 1), (3), (2), (1), false, (xs.take 4)⟩ : Ent), (⟨(1), (1), (3), (2), false, ([other] : List Int)⟩ : Ent)], 1, 3, 2⟩ : CacheS), Asn.own b4 (.cells #[.int .i64 ((ptr % 7) - 1), .int .i64 ((fwd % 7) - 1), .int .i64 (2), .int .i64 (1), .bool dirty, .slice a5 ((xs.take 4).length) c5] 31 (0, 0)), IntsA a5 c5 (xs.take 4), Asn.own b3 (.cells #[.int .i64 (8), .int .i64 (0), .int .i64 (0), .int .i64 (0), .int .i64 (2), .int .i64 (0), .int .i64 (0), .bool false, .slice none 0 0] 35 (0, 0)), IntsA a4 c4 (xs.take 4), IntsA a3 c3 ([other] : List Int), Asn.own b2 (.cells #[.int .i64 other] 3 (0, 0)), IntsA a2 c2 (xs.take 4), IntsA a1 c1 (xs.take 4)]) (fun w hw => hw) ?_
  refine s_pure 152 (.tuple #[.agg #[.int .i64 (9), .int .i64 (0), .int .i64 (0), .int .i64 (0), .int .i64 (2), .int .i64 (0), .int .i64 (0), .bool dirty, .slice a6 ((xs.take 4).length) c6], .int .i64 (0)]) (by kernel_rfl) (by kernel_rfl) (fun _ => by kernel_rfl) ?_
  refine s_pure 156 (.agg #[.int .i64 (9), .int .i64 (0), .int .i64 (0), .int .i64 (0), .int .i64 (2), .int .i64 (0), .int .i64 (0), .bool dirty, .slice a6 ((xs.take 4).length) c6]) (by kernel_rfl) (by kernel_rfl) (fun _ => by kernel_rfl) ?_
  refine s_pure 157 (.int .i64 (0)) (by kernel_rfl) (by kernel_rfl) (fun _ => by kernel_rfl) ?_
  refine s_do (by kernel_rfl) (by kernel_rfl) (st_store (off := 0) (vs := [.int .i64 (9), .int .i64 (0), .int .i64 (0), .int .i64 (0), .int .i64 (2), .int .i64 (0), .int .i64 (0), .bool dirty, .slice a6 ((xs.take 4).length) c6]) (c' := #[.int .i64 (9), .int .i64 (0), .int .i64 (0), .int .i64 (0), .int .i64 (2), .int .i64 (0), .int .i64 (0), .bool dirty, .slice a6 ((xs.take 4).length) c6]) (fun _ => by kernel_rfl) (.there (.there (.there (.there .here)))) (by kernel_rfl) (by kernel_rfl) (by kernel_rfl)) ?_
  rintro _ _ ⟨rfl, rfl⟩
  refine s_pure 15 (.int .i64 (0)) (by kernel_rfl) (by kernel_rfl) (fun _ => by kernel_rfl) ?_
  refine ops_end ?_
  refine At.env [(0, .int .i64 ((fwd % 7) - 1)), (1, .int .i64 ((back % 7) - 1)), (2, .int .i64 ((ptr % 7) - 1)), (3, .bool dirty), (4, .slice a1 m1 c1), (5, .int .i64 other), (12, .bool false), (13, .pointer (some ⟨b1, 0, none⟩)), (14, .pointer (some ⟨b3, 0, none⟩)), (15, .int .i64 (0)), (16, .pointer (some ⟨b4, 0, none⟩)), (24, .bool false), (111, .bool false), (151, .bool false)] ⟨by kernel_rfl, by kernel_rfl, by kernel_rfl, by kernel_rfl, by kernel_rfl, by kernel_rfl, by kernel_rfl, by kernel_rfl, by kernel_rfl, by kernel_rfl, by kernel_rfl, by kernel_rfl, by kernel_rfl, by kernel_rfl, trivial⟩ ?_
  refine at_then_normal ?_
  refine at_seq (x := C4 [1, 1, 1, 1, 1, 1, 1, 1, 1, 1, 1, 1, 1, 1, 0]) (y := C4 [1, 1, 1, 1, 1, 1, 1, 1, 1, 1, 1, 1, 1, 1, 1]) (by kernel_rfl) ?_
  refine at_region (id := 17) 6 (by kernel_rfl) (by kernel_rfl) ?_
  refine s_pure 159 (.pointer (some ⟨b1, 0, none⟩)) (by kernel_rfl) (by kernel_rfl) (fun _ => by kernel_rfl) ?_
  refine At.conv (fun w hw => hw.less (.take (.there (.there .here)) (.take .here (.take .here (.take .here (.take .here (.take .here (.take .here (.take .here (.take .here (.take .here .refl))))))))))) ?_
  refine s_call 160 20 #[.pointer (some ⟨b1, 0, none⟩), .int .i64 (2)] (by kernel_rfl) (by kernel_rfl) (fun _ => by kernel_rfl) (Find_some b1 (⟨[(⟨((ptr % 7) - 1), (3), (2), (1), false, (xs.take 4)⟩ : Ent), (⟨(1), (1), (3), (2), false, ([other] : List Int)⟩ : Ent)], 1, 3, 2⟩ : CacheS) (2) (by simp) (by intro x hx; simp only [List.mem_cons, List.not_mem_nil, or_false] at hx; rcases hx with rfl | rfl <;> first | exact Nat.le_of_lt (by decide) | (simp; done) | (simp; omega) | (simp only [List.length_append, List.length_take, List.length_cons, List.length_nil]; omega)) 0 (⟨((ptr % 7) - 1), (3), (2), (1), false, (xs.take 4)⟩ : Ent) (by simp [idx, List.findIdx?_cons]) rfl) ?_
  rintro _ _ ⟨a7, c7, rfl, rfl⟩
  refine At.conv (Γ' := [IntsA a7 c7 (xs.take 4), CacheA b1 (⟨[(⟨((ptr % 7) - 1), (3), (2), (1), false, (xs.take 4)⟩ : Ent), (⟨(1), (1), (3), (2), false, ([other] : List Int)⟩ : Ent)], 1, 3, 2⟩ : CacheS), Asn.own b3 (.cells #[.int .i64 (9), .int .i64 (0), .int .i64 (0), .int .i64 (0), .int .i64 (2), .int .i64 (0), .int .i64 (0), .bool dirty, .slice a6 ((xs.take 4).length) c6] 35 (0, 0)), IntsA a6 c6 (xs.take 4), Asn.own b4 (.cells #[.int .i64 ((ptr % 7) - 1), .int .i64 ((fwd % 7) - 1), .int .i64 (2), .int .i64 (1), .bool dirty, .slice a5 ((xs.take 4).length) c5] 31 (0, 0)), IntsA a5 c5 (xs.take 4), IntsA a4 c4 (xs.take 4), IntsA a3 c3 ([other] : List Int), Asn.own b2 (.cells #[.int .i64 other] 3 (0, 0)), IntsA a2 c2 (xs.take 4), IntsA a1 c1 (xs.take 4)]) (fun w hw => hw) ?_
  refine s_pure 158 (.tuple #[.agg #[.int .i64 ((ptr % 7) - 1), .int .i64 (3), .int .i64 (2), .int .i64 (1), .bool false, .slice a7 ((xs.take 4).length) c7], .bool true]) (by kernel_rfl) (by kernel_rfl) (fun _ => by kernel_rfl) ?_
  refine s_pure 161 (.agg #[.int .i64 ((ptr % 7) - 1), .int .i64 (3), .int .i64 (2), .int .i64 (1), .bool false, .slice a7 ((xs.take 4).length) c7]) (by kernel_rfl) (by kernel_rfl) (fun _ => by kernel_rfl) ?_
  refine s_pure 162 (.bool true) (by kernel_rfl) (by kernel_rfl) (fun _ => by kernel_rfl) ?_
  refine s_do (by kernel_rfl) (by kernel_rfl) (st_store (off := 0) (vs := [.int .i64 ((ptr % 7) - 1), .int .i64 (3), .int .i64 (2), .int .i64 (1), .bool false, .slice a7 ((xs.take 4).length) c7]) (c' := #[.int .i64 ((ptr % 7) - 1), .int .i64 (3), .int .i64 (2), .int .i64 (1), .bool false, .slice a7 ((xs.take 4).length) c7]) (fun _ => by kernel_rfl) (.there (.there (.there (.there .here)))) (by kernel_rfl) (by kernel_rfl) (by kernel_rfl)) ?_
  rintro _ _ ⟨rfl, rfl⟩
  refine ops_end ?_
  refine At.env [(0, .int .i64 ((fwd % 7) - 1)), (1, .int .i64 ((back % 7) - 1)), (2, .int .i64 ((ptr % 7) - 1)), (3, .bool dirty), (4, .slice a1 m1 c1), (5, .int .i64 other), (12, .bool false), (13, .pointer (some ⟨b1, 0, none⟩)), (14, .pointer (some ⟨b3, 0, none⟩)), (15, .int .i64 (0)), (16, .pointer (some ⟨b4, 0, none⟩)), (24, .bool false), (111, .bool false), (151, .bool false)] ⟨by kernel_rfl, by kernel_rfl, by kernel_rfl, by kernel_rfl, by kernel_rfl, by kernel_rfl, by kernel_rfl, by kernel_rfl, by kernel_rfl, by kernel_rfl, by kernel_rfl, by kernel_rfl, by kernel_rfl, by kernel_rfl, trivial⟩ ?_
  refine at_then_normal ?_
  refine at_seq (x := C4 [1, 1, 1, 1, 1, 1, 1, 1, 1, 1, 1, 1, 1, 1, 1, 0]) (y := C4 [1, 1, 1, 1, 1, 1, 1, 1, 1, 1, 1, 1, 1, 1, 1, 1]) (by kernel_rfl) ?_
  refine at_seq (x := C4 [1, 1, 1, 1, 1, 1, 1, 1, 1, 1, 1, 1, 1, 1, 1, 0, 0]) (y := C4 [1, 1, 1, 1, 1, 1, 1, 1, 1, 1, 1, 1, 1, 1, 1, 0, 1]) (by kernel_rfl) ?_
  refine at_region (id := 18) 37 (by kernel_rfl) (by kernel_rfl) ?_
  refine s_pure 163 (.int .i64 (0)) (by kernel_rfl) (by kernel_rfl) (fun _ => by kernel_rfl) ?_
  refine s_pure 164 (.bool false) (by kernel_rfl) (by kernel_rfl) (fun _ => by kernel_rfl) ?_
  refine s_pure 165 (.bool false) (by kernel_rfl) (by kernel_rfl) (fun _ => by kernel_rfl) ?_
  refine s_pure 166 (.pointer (some ⟨b3, 0, none⟩)) (by kernel_rfl) (by kernel_rfl) (fun _ => by kernel_rfl) ?_
  refine s_load 167 (.int .i64 (9)) (by kernel_rfl) (by kernel_rfl) (load1 (off := 0) (fun _ => by kernel_rfl) (holds_own (.there (.there (.there .here)))) (by kernel_rfl)) ?_
  refine s_pure 168 (.bool false) (by kernel_rfl) (by kernel_rfl) (fun _ => by kernel_rfl) ?_
  refine s_pure 169 (.bool false) (by kernel_rfl) (by kernel_rfl) (fun _ => by kernel_rfl) ?_
  refine s_pure 170 (.bool false) (by kernel_rfl) (by kernel_rfl) (fun _ => by kernel_rfl) ?_
  refine s_pure 171 (.pointer (some ⟨b3, 7, none⟩)) (by kernel_rfl) (by kernel_rfl) (fun _ => by kernel_rfl) ?_
  refine s_load 172 (.bool dirty) (by kernel_rfl) (by kernel_rfl) (load1 (off := 7) (fun _ => by kernel_rfl) (holds_own (.there (.there (.there .here)))) (by kernel_rfl)) ?_
  refine s_pure 173 (.bool dirty) (by kernel_rfl) (by kernel_rfl) (fun _ => by kernel_rfl) ?_
  refine s_pure 174 (.bool false) (by kernel_rfl) (by kernel_rfl) (run_eq (v := .bool (!(dirty == dirty))) (fun _ => by kernel_rfl) (congrArg Value.bool (by rw [beq_self_eq_true]; rfl))) ?_
  refine s_pure 175 (.bool false) (by kernel_rfl) (by kernel_rfl) (fun _ => by kernel_rfl) ?_
  refine s_pure 176 (.bool false) (by kernel_rfl) (by kernel_rfl) (fun _ => by kernel_rfl) ?_
  refine s_pure 177 (.pointer (some ⟨b3, 8, none⟩)) (by kernel_rfl) (by kernel_rfl) (fun _ => by kernel_rfl) ?_
  refine s_load 178 (.slice a6 ((xs.take 4).length) c6) (by kernel_rfl) (by kernel_rfl) (load1 (off := 8) (fun _ => by kernel_rfl) (holds_own (.there (.there (.there .here)))) (by kernel_rfl)) ?_
  refine s_pure 179 (.slice a1 m1 c1) (by kernel_rfl) (by kernel_rfl) (fun _ => by kernel_rfl) ?_
  refine s_quiet 180 (.bool true) 19 #[.slice a6 ((xs.take 4).length) c6, .slice a1 m1 c1] (by kernel_rfl) (by kernel_rfl) (fun _ => by kernel_rfl) (KSame_tr a6 ((xs.take 4).length) c6 a1 m1 c1 (xs.take 4) (by first | rfl | exact hm | assumption | omega | (simp only [List.length_append, List.length_cons, List.length_nil]; omega)) (by first | rfl | exact hm | assumption | omega | (simp only [List.length_append, List.length_cons, List.length_nil]; omega)) (RowsA.reads (k := 1) (.there (.there (.there (.there .here))))) (RowsA.reads (k := 1) (.there (.there (.there (.there (.there (.there (.there (.there (.there (.there .here))))))))))) (by simp only [List.length_append, List.length_take, List.length_cons, List.length_nil]; omega)) ?_
  refine s_pure 181 (.bool false) (by kernel_rfl) (by kernel_rfl) (fun _ => by kernel_rfl) ?_
  refine s_pure 182 (.bool false) (by kernel_rfl) (by kernel_rfl) (fun _ => by kernel_rfl) ?_
  refine s_pure 183 (.bool false) (by kernel_rfl) (by kernel_rfl) (fun _ => by kernel_rfl) ?_
  refine s_pure 184 (.pointer (some ⟨b4, 0, none⟩)) (by kernel_rfl) (by kernel_rfl) (fun _ => by kernel_rfl) ?_
  refine s_pure 185 (.pointer (some ⟨b4, 1, none⟩)) (by kernel_rfl) (by kernel_rfl) (fun _ => by kernel_rfl) ?_
  refine s_load 186 (.int .i64 (3)) (by kernel_rfl) (by kernel_rfl) (load1 (off := 1) (fun _ => by kernel_rfl) (holds_own .here) (by kernel_rfl)) ?_
  refine s_pure 187 (.bool false) (by kernel_rfl) (by kernel_rfl) (fun _ => by kernel_rfl) ?_
  refine s_pure 188 (.bool false) (by kernel_rfl) (by kernel_rfl) (fun _ => by kernel_rfl) ?_
  refine s_pure 189 (.bool false) (by kernel_rfl) (by kernel_rfl) (fun _ => by kernel_rfl) ?_
  refine s_pure 190 (.pointer (some ⟨b4, 4, none⟩)) (by kernel_rfl) (by kernel_rfl) (fun _ => by kernel_rfl) ?_
  refine s_load 191 (.bool false) (by kernel_rfl) (by kernel_rfl) (load1 (off := 4) (fun _ => by kernel_rfl) (holds_own .here) (by kernel_rfl)) ?_
  refine s_pure 192 (.bool false) (by kernel_rfl) (by kernel_rfl) (fun _ => by kernel_rfl) ?_
  refine s_pure 193 (.bool false) (by kernel_rfl) (by kernel_rfl) (fun _ => by kernel_rfl) ?_
  refine s_pure 194 (.pointer (some ⟨b4, 0, none⟩)) (by kernel_rfl) (by kernel_rfl) (fun _ => by kernel_rfl) ?_
  refine s_pure 195 (.pointer (some ⟨b4, 0, none⟩)) (by kernel_rfl) (by kernel_rfl) (fun _ => by kernel_rfl) ?_
  refine s_load 196 (.int .i64 ((ptr % 7) - 1)) (by kernel_rfl) (by kernel_rfl) (load1 (off := 0) (fun _ => by kernel_rfl) (holds_own .here) (by kernel_rfl)) ?_
  refine s_pure 197 (.int .i64 ((ptr % 7) - 1)) (by kernel_rfl) (by kernel_rfl) (fun _ => by kernel_rfl) ?_
  refine s_pure 198 (.bool false) (by kernel_rfl) (by kernel_rfl) (run_eq (v := .bool (!(decide (((ptr % 7) - 1) = ((ptr % 7) - 1))))) (fun _ => by kernel_rfl) (congrArg Value.bool (by rw [decide_eq_true rfl]; rfl))) ?_
  refine s_pure 199 (.bool false) (by kernel_rfl) (by kernel_rfl) (fun _ => by kernel_rfl) ?_
  refine ops_end ?_
  refine At.env [(0, .int .i64 ((fwd % 7) - 1)), (1, .int .i64 ((back % 7) - 1)), (2, .int .i64 ((ptr % 7) - 1)), (3, .bool dirty), (4, .slice a1 m1 c1), (5, .int .i64 other), (12, .bool false), (13, .pointer (some ⟨b1, 0, none⟩)), (14, .pointer (some ⟨b3, 0, none⟩)), (15, .int .i64 (0)), (16, .pointer (some ⟨b4, 0, none⟩)), (24, .bool false), (111, .bool false), (151, .bool false), (199, .bool false)] ⟨by kernel_rfl, by kernel_rfl, by kernel_rfl, by kernel_rfl, by kernel_rfl, by kernel_rfl, by kernel_rfl, by kernel_rfl, by kernel_rfl, by kernel_rfl, by kernel_rfl, by kernel_rfl, by kernel_rfl, by kernel_rfl, by kernel_rfl, trivial⟩ ?_
  refine at_then_normal ?_
  refine at_false (t := false) (x := C4 [1, 1, 1, 1, 1, 1, 1, 1, 1, 1, 1, 1, 1, 1, 1, 0, 1, 0]) (y := C4 [1, 1, 1, 1, 1, 1, 1, 1, 1, 1, 1, 1, 1, 1, 1, 0, 1, 1]) (o := .tmp 199) (by kernel_rfl) (by kernel_rfl) (by kernel_rfl) rfl ?_
  refine at_skip (by kernel_rfl) ?_
  refine at_then_normal ?_
  refine at_seq (x := C4 [1, 1, 1, 1, 1, 1, 1, 1, 1, 1, 1, 1, 1, 1, 1, 1, 0]) (y := C4 [1, 1, 1, 1, 1, 1, 1, 1, 1, 1, 1, 1, 1, 1, 1, 1, 1]) (by kernel_rfl) ?_
  refine at_region (id := 20) 8 (by kernel_rfl) (by kernel_rfl) ?_
  refine s_pure 201 (.pointer (some ⟨b1, 0, none⟩)) (by kernel_rfl) (by kernel_rfl) (fun _ => by kernel_rfl) ?_
  refine s_pure 202 (.agg #[.int .i64 (6), .int .i64 (0), .int .i64 (0), .int .i64 (0), .int .i64 (2), .int .i64 (0), .int .i64 (0), .bool false, .slice none 0 0]) (by kernel_rfl) (by kernel_rfl) (fun _ => by kernel_rfl) ?_
  refine At.conv (fun w hw => hw.less (.take (.there (.there .here)) (.take .here (.take .here (.take .here (.take .here (.take .here (.take .here (.take .here (.take .here (.take .here (.take .here .refl)))))))))))) ?_
  refine s_call 203 18 #[.pointer (some ⟨b1, 0, none⟩), .agg #[.int .i64 (6), .int .i64 (0), .int .i64 (0), .int .i64 (0), .int .i64 (2), .int .i64 (0), .int .i64 (0), .bool false, .slice none 0 0]] (by kernel_rfl) (by kernel_rfl) (fun _ => by kernel_rfl) (Handle_purge b1 (⟨[(⟨((ptr % 7) - 1), (3), (2), (1), false, (xs.take 4)⟩ : Ent), (⟨(1), (1), (3), (2), false, ([other] : List Int)⟩ : Ent)], 1, 3, 2⟩ : CacheS) (0) (0) (0) (2) (0) (0) false none 0 0 (by omega) (by omega) (by omega) (by omega) (by omega) (by omega) (by omega) (by simp) (by simp) (by intro x hx; simp only [List.mem_cons, List.not_mem_nil, or_false] at hx; rcases hx with rfl | rfl <;> first | exact Nat.le_of_lt (by decide) | (simp; done) | (simp; omega) | (simp only [List.length_append, List.length_take, List.length_cons, List.length_nil]; omega)) 0 (⟨((ptr % 7) - 1), (3), (2), (1), false, (xs.take 4)⟩ : Ent) (by simp [idx, List.findIdx?_cons]) rfl rfl) ?_
  rintro _ _ ⟨a8, c8, rfl, rfl⟩
  refine At.conv (Γ' := [IntsA a8 c8 (xs.take 4), CacheA b1 (⟨[(⟨(1), (1), (3), (2), false, ([other] : List Int)⟩ : Ent)], 1, 3, 2⟩ : CacheS), Asn.own b4 (.cells #[.int .i64 ((ptr % 7) - 1), .int .i64 (3), .int .i64 (2), .int .i64 (1), .bool false, .slice a7 ((xs.take 4).length) c7] 31 (0, 0)), IntsA a7 c7 (xs.take 4), Asn.own b3 (.cells #[.int .i64 (9), .int .i64 (0), .int .i64 (0), .int .i64 (0), .int .i64 (2), .int .i64 (0), .int .i64 (0), .bool dirty, .slice a6 ((xs.take 4).length) c6] 35 (0, 0)), IntsA a6 c6 (xs.take 4), IntsA a5 c5 (xs.take 4), IntsA a4 c4 (xs.take 4), IntsA a3 c3 ([other] : List Int), Asn.own b2 (.cells #[.int .i64 other] 3 (0, 0)), IntsA a2 c2 (xs.take 4), IntsA a1 c1 (xs.take 4)]) (fun w hw => hw) ?_
  refine s_pure 200 (.tuple #[.agg #[.int .i64 (9), .int .i64 (0), .int .i64 (0), .int .i64 (0), .int .i64 (2), .int .i64 ((ptr % 7) - 1), .int .i64 (0), .bool false, .slice a8 ((xs.take 4).length) c8], .int .i64 (0)]) (by kernel_rfl) (by kernel_rfl) (fun _ => by kernel_rfl) ?_
  refine s_pure 204 (.agg #[.int .i64 (9), .int .i64 (0), .int .i64 (0), .int .i64 (0), .int .i64 (2), .int .i64 ((ptr % 7) - 1), .int .i64 (0), .bool false, .slice a8 ((xs.take 4).length) c8]) (by kernel_rfl) (by kernel_rfl) (fun _ => by kernel_rfl) ?_
  refine s_pure 205 (.int .i64 (0)) (by kernel_rfl) (by kernel_rfl) (fun _ => by kernel_rfl) ?_
  refine s_do (by kernel_rfl) (by kernel_rfl) (st_store (off := 0) (vs := [.int .i64 (9), .int .i64 (0), .int .i64 (0), .int .i64 (0), .int .i64 (2), .int .i64 ((ptr % 7) - 1), .int .i64 (0), .bool false, .slice a8 ((xs.take 4).length) c8]) (c' := #[.int .i64 (9), .int .i64 (0), .int .i64 (0), .int .i64 (0), .int .i64 (2), .int .i64 ((ptr % 7) - 1), .int .i64 (0), .bool false, .slice a8 ((xs.take 4).length) c8]) (fun _ => by kernel_rfl) (.there (.there (.there (.there .here)))) (by kernel_rfl) (by kernel_rfl) (by kernel_rfl)) ?_
  rintro _ _ ⟨rfl, rfl⟩
  refine s_pure 15 (.int .i64 (0)) (by kernel_rfl) (by kernel_rfl) (fun _ => by kernel_rfl) ?_
  refine ops_end ?_
  refine At.env [(0, .int .i64 ((fwd % 7) - 1)), (1, .int .i64 ((back % 7) - 1)), (2, .int .i64 ((ptr % 7) - 1)), (3, .bool dirty), (4, .slice a1 m1 c1), (5, .int .i64 other), (12, .bool false), (13, .pointer (some ⟨b1, 0, none⟩)), (14, .pointer (some ⟨b3, 0, none⟩)), (15, .int .i64 (0)), (16, .pointer (some ⟨b4, 0, none⟩)), (24, .bool false), (111, .bool false), (151, .bool false), (199, .bool false)] ⟨by kernel_rfl, by kernel_rfl, by kernel_rfl, by kernel_rfl, by kernel_rfl, by kernel_rfl, by kernel_rfl, by kernel_rfl, by kernel_rfl, by kernel_rfl, by kernel_rfl, by kernel_rfl, by kernel_rfl, by kernel_rfl, by kernel_rfl, trivial⟩ ?_
  refine at_then_normal ?_
  refine at_seq (x := C4 [1, 1, 1, 1, 1, 1, 1, 1, 1, 1, 1, 1, 1, 1, 1, 1, 1, 0]) (y := C4 [1, 1, 1, 1, 1, 1, 1, 1, 1, 1, 1, 1, 1, 1, 1, 1, 1, 1]) (by kernel_rfl) ?_
  refine at_region (id := 21) 8 (by kernel_rfl) (by kernel_rfl) ?_
  refine s_pure 207 (.pointer (some ⟨b1, 0, none⟩)) (by kernel_rfl) (by kernel_rfl) (fun _ => by kernel_rfl) ?_
  refine At.conv (fun w hw => hw.less (.take (.there (.there .here)) (.take .here (.take .here (.take .here (.take .here (.take .here (.take .here (.take .here (.take .here (.take .here (.take .here (.take .here .refl))))))))))))) ?_
  refine s_quiet 208 (.tuple #[.agg #[.int .i64 (0), .int .i64 (0), .int .i64 (0), .int .i64 (0), .bool false, .slice none 0 0], .bool false]) 20 #[.pointer (some ⟨b1, 0, none⟩), .int .i64 (2)] (by kernel_rfl) (by kernel_rfl) (fun _ => by kernel_rfl) (Find_none b1 (⟨[(⟨(1), (1), (3), (2), false, ([other] : List Int)⟩ : Ent)], 1, 3, 2⟩ : CacheS) (2) (by simp) (by simp [idx, List.findIdx?_cons])) ?_
  refine s_pure 206 (.tuple #[.agg #[.int .i64 (0), .int .i64 (0), .int .i64 (0), .int .i64 (0), .bool false, .slice none 0 0], .bool false]) (by kernel_rfl) (by kernel_rfl) (fun _ => by kernel_rfl) ?_
  refine s_pure 209 (.agg #[.int .i64 (0), .int .i64 (0), .int .i64 (0), .int .i64 (0), .bool false, .slice none 0 0]) (by kernel_rfl) (by kernel_rfl) (fun _ => by kernel_rfl) ?_
  refine s_pure 210 (.bool false) (by kernel_rfl) (by kernel_rfl) (fun _ => by kernel_rfl) ?_
  refine s_step 18 (by kernel_rfl) (by kernel_rfl) (st_new (T := 31) (cells := #[.int .i64 (0), .int .i64 (0), .int .i64 (0), .int .i64 (0), .bool false, .slice none 0 0]) (fun a => .pointer (some a)) (fun _ => by kernel_rfl)) ?_
  rintro _ _ ⟨b5, rfl, rfl⟩
  refine s_do (by kernel_rfl) (by kernel_rfl) (st_store (off := 0) (vs := [.int .i64 (0), .int .i64 (0), .int .i64 (0), .int .i64 (0), .bool false, .slice none 0 0]) (c' := #[.int .i64 (0), .int .i64 (0), .int .i64 (0), .int .i64 (0), .bool false, .slice none 0 0]) (fun _ => by kernel_rfl) .here (by kernel_rfl) (by kernel_rfl) (by kernel_rfl)) ?_
  rintro _ _ ⟨rfl, rfl⟩
  refine s_pure 19 (.bool false) (by kernel_rfl) (by kernel_rfl) (fun _ => by kernel_rfl) ?_
  refine ops_end ?_
  refine At.env [(0, .int .i64 ((fwd % 7) - 1)), (1, .int .i64 ((back % 7) - 1)), (2, .int .i64 ((ptr % 7) - 1)), (3, .bool dirty), (4, .slice a1 m1 c1), (5, .int .i64 other), (12, .bool false), (13, .pointer (some ⟨b1, 0, none⟩)), (14, .pointer (some ⟨b3, 0, none⟩)), (15, .int .i64 (0)), (16, .pointer (some ⟨b4, 0, none⟩)), (19, .bool false), (24, .bool false), (111, .bool false), (151, .bool false), (199, .bool false)] ⟨by kernel_rfl, by kernel_rfl, by kernel_rfl, by kernel_rfl, by kernel_rfl, by kernel_rfl, by kernel_rfl, by kernel_rfl, by kernel_rfl, by kernel_rfl, by kernel_rfl, by kernel_rfl, by kernel_rfl, by kernel_rfl, by kernel_rfl, by kernel_rfl, trivial⟩ ?_
  refine at_then_normal ?_
  refine at_seq (x := C4 [1, 1, 1, 1, 1, 1, 1, 1, 1, 1, 1, 1, 1, 1, 1, 1, 1, 1, 0]) (y := C4 [1, 1, 1, 1, 1, 1, 1, 1, 1, 1, 1, 1, 1, 1, 1, 1, 1, 1, 1]) (by kernel_rfl) ?_
  refine at_seq (x := C4 [1, 1, 1, 1, 1, 1, 1, 1, 1, 1, 1, 1, 1, 1, 1, 1, 1, 1, 0, 0]) (y := C4 [1, 1, 1, 1, 1, 1, 1, 1, 1, 1, 1, 1, 1, 1, 1, 1, 1, 1, 0, 1]) (by kernel_rfl) ?_
  refine at_region (id := 22) 27 (by kernel_rfl) (by kernel_rfl) ?_
  refine s_pure 211 (.int .i64 (0)) (by kernel_rfl) (by kernel_rfl) (fun _ => by kernel_rfl) ?_
  refine s_pure 212 (.bool false) (by kernel_rfl) (by kernel_rfl) (fun _ => by kernel_rfl) ?_
  refine s_pure 213 (.bool false) (by kernel_rfl) (by kernel_rfl) (fun _ => by kernel_rfl) ?_
  refine s_pure 214 (.pointer (some ⟨b3, 0, none⟩)) (by kernel_rfl) (by kernel_rfl) (fun _ => by kernel_rfl) ?_
  refine s_load 215 (.int .i64 (9)) (by kernel_rfl) (by kernel_rfl) (load1 (off := 0) (fun _ => by kernel_rfl) (holds_own (.there (.there .here))) (by kernel_rfl)) ?_
  refine s_pure 216 (.bool false) (by kernel_rfl) (by kernel_rfl) (fun _ => by kernel_rfl) ?_
  refine s_pure 217 (.bool false) (by kernel_rfl) (by kernel_rfl) (fun _ => by kernel_rfl) ?_
  refine s_pure 218 (.bool false) (by kernel_rfl) (by kernel_rfl) (fun _ => by kernel_rfl) ?_
  refine s_pure 219 (.pointer (some ⟨b3, 7, none⟩)) (by kernel_rfl) (by kernel_rfl) (fun _ => by kernel_rfl) ?_
  refine s_load 220 (.bool false) (by kernel_rfl) (by kernel_rfl) (load1 (off := 7) (fun _ => by kernel_rfl) (holds_own (.there (.there .here))) (by kernel_rfl)) ?_
  refine s_pure 221 (.bool false) (by kernel_rfl) (by kernel_rfl) (fun _ => by kernel_rfl) ?_
  refine s_pure 222 (.bool false) (by kernel_rfl) (by kernel_rfl) (fun _ => by kernel_rfl) ?_
  refine s_pure 223 (.pointer (some ⟨b3, 5, none⟩)) (by kernel_rfl) (by kernel_rfl) (fun _ => by kernel_rfl) ?_
  refine s_load 224 (.int .i64 ((ptr % 7) - 1)) (by kernel_rfl) (by kernel_rfl) (load1 (off := 5) (fun _ => by kernel_rfl) (holds_own (.there (.there .here))) (by kernel_rfl)) ?_
  refine s_pure 225 (.int .i64 ((ptr % 7) - 1)) (by kernel_rfl) (by kernel_rfl) (fun _ => by kernel_rfl) ?_
  refine s_pure 226 (.bool false) (by kernel_rfl) (by kernel_rfl) (run_eq (v := .bool (!(decide (((ptr % 7) - 1) = ((ptr % 7) - 1))))) (fun _ => by kernel_rfl) (congrArg Value.bool (by rw [decide_eq_true rfl]; rfl))) ?_
  refine s_pure 227 (.bool false) (by kernel_rfl) (by kernel_rfl) (fun _ => by kernel_rfl) ?_
  refine s_pure 228 (.bool false) (by kernel_rfl) (by kernel_rfl) (fun _ => by kernel_rfl) ?_
  refine s_pure 229 (.pointer (some ⟨b3, 8, none⟩)) (by kernel_rfl) (by kernel_rfl) (fun _ => by kernel_rfl) ?_
  refine s_load 230 (.slice a8 ((xs.take 4).length) c8) (by kernel_rfl) (by kernel_rfl) (load1 (off := 8) (fun _ => by kernel_rfl) (holds_own (.there (.there .here))) (by kernel_rfl)) ?_
  refine s_pure 231 (.slice a1 m1 c1) (by kernel_rfl) (by kernel_rfl) (fun _ => by kernel_rfl) ?_
  refine s_quiet 232 (.bool true) 19 #[.slice a8 ((xs.take 4).length) c8, .slice a1 m1 c1] (by kernel_rfl) (by kernel_rfl) (fun _ => by kernel_rfl) (KSame_tr a8 ((xs.take 4).length) c8 a1 m1 c1 (xs.take 4) (by first | rfl | exact hm | assumption | omega | (simp only [List.length_append, List.length_cons, List.length_nil]; omega)) (by first | rfl | exact hm | assumption | omega | (simp only [List.length_append, List.length_cons, List.length_nil]; omega)) (RowsA.reads (k := 1) (.there (.there (.there .here)))) (RowsA.reads (k := 1) (.there (.there (.there (.there (.there (.there (.there (.there (.there (.there (.there (.there .here))))))))))))) (by simp only [List.length_append, List.length_take, List.length_cons, List.length_nil]; omega)) ?_
  refine s_pure 233 (.bool false) (by kernel_rfl) (by kernel_rfl) (fun _ => by kernel_rfl) ?_
  refine s_pure 234 (.bool false) (by kernel_rfl) (by kernel_rfl) (fun _ => by kernel_rfl) ?_
  refine s_pure 235 (.bool false) (by kernel_rfl) (by kernel_rfl) (fun _ => by kernel_rfl) ?_
  refine s_pure 236 (.bool false) (by kernel_rfl) (by kernel_rfl) (fun _ => by kernel_rfl) ?_
  refine s_pure 237 (.bool false) (by kernel_rfl) (by kernel_rfl) (fun _ => by kernel_rfl) ?_
  refine ops_end ?_
  refine At.env [(0, .int .i64 ((fwd % 7) - 1)), (1, .int .i64 ((back % 7) - 1)), (2, .int .i64 ((ptr % 7) - 1)), (3, .bool dirty), (4, .slice a1 m1 c1), (5, .int .i64 other), (12, .bool false), (13, .pointer (some ⟨b1, 0, none⟩)), (14, .pointer (some ⟨b3, 0, none⟩)), (15, .int .i64 (0)), (16, .pointer (some ⟨b4, 0, none⟩)), (19, .bool false), (24, .bool false), (111, .bool false), (151, .bool false), (199, .bool false), (237, .bool false)] ⟨by kernel_rfl, by kernel_rfl, by kernel_rfl, by kernel_rfl, by kernel_rfl, by kernel_rfl, by kernel_rfl, by kernel_rfl, by kernel_rfl, by kernel_rfl, by kernel_rfl, by kernel_rfl, by kernel_rfl, by kernel_rfl, by kernel_rfl, by kernel_rfl, by kernel_rfl, trivial⟩ ?_
  refine at_then_normal ?_
  refine at_false (t := false) (x := C4 [1, 1, 1, 1, 1, 1, 1, 1, 1, 1, 1, 1, 1, 1, 1, 1, 1, 1, 0, 1, 0]) (y := C4 [1, 1, 1, 1, 1, 1, 1, 1, 1, 1, 1, 1, 1, 1, 1, 1, 1, 1, 0, 1, 1]) (o := .tmp 237) (by kernel_rfl) (by kernel_rfl) (by kernel_rfl) rfl ?_
  refine at_skip (by kernel_rfl) ?_
  refine at_then_normal ?_
  refine at_seq (x := C4 [1, 1, 1, 1, 1, 1, 1, 1, 1, 1, 1, 1, 1, 1, 1, 1, 1, 1, 1, 0]) (y := C4 [1, 1, 1, 1, 1, 1, 1, 1, 1, 1, 1, 1, 1, 1, 1, 1, 1, 1, 1, 1]) (by kernel_rfl) ?_
  refine at_region (id := 24) 7 (by kernel_rfl) (by kernel_rfl) ?_
  refine s_pure 239 (.pointer (some ⟨b1, 0, none⟩)) (by kernel_rfl) (by kernel_rfl) (fun _ => by kernel_rfl) ?_
  refine s_pure 240 (.agg #[.int .i64 (6), .int .i64 (0), .int .i64 (0), .int .i64 (0), .int .i64 (2), .int .i64 (0), .int .i64 (0), .bool false, .slice none 0 0]) (by kernel_rfl) (by kernel_rfl) (fun _ => by kernel_rfl) ?_
  refine At.conv (fun w hw => hw.less (.take (.there .here) (.take .here (.take .here (.take .here (.take .here (.take .here (.take .here (.take .here (.take .here (.take .here (.take .here (.take .here (.take .here .refl)))))))))))))) ?_
  refine s_quiet 241 (.tuple #[.agg #[.int .i64 (0), .int .i64 (0), .int .i64 (0), .int .i64 (0), .int .i64 (0), .int .i64 (0), .int .i64 (0), .bool false, .slice none 0 0], .int .i64 (3)]) 18 #[.pointer (some ⟨b1, 0, none⟩), .agg #[.int .i64 (6), .int .i64 (0), .int .i64 (0), .int .i64 (0), .int .i64 (2), .int .i64 (0), .int .i64 (0), .bool false, .slice none 0 0]] (by kernel_rfl) (by kernel_rfl) (fun _ => by kernel_rfl) (Handle_none b1 (⟨[(⟨(1), (1), (3), (2), false, ([other] : List Int)⟩ : Ent)], 1, 3, 2⟩ : CacheS) (6) (0) (0) (0) (2) (0) (0) false none 0 0 (by omega) (by omega) (by omega) (by omega) (by omega) (by omega) (by omega) (by omega) (by simp) (by simp) (by omega) (by simp [idx, List.findIdx?_cons])) ?_
  refine s_pure 238 (.tuple #[.agg #[.int .i64 (0), .int .i64 (0), .int .i64 (0), .int .i64 (0), .int .i64 (0), .int .i64 (0), .int .i64 (0), .bool false, .slice none 0 0], .int .i64 (3)]) (by kernel_rfl) (by kernel_rfl) (fun _ => by kernel_rfl) ?_
  refine s_pure 242 (.agg #[.int .i64 (0), .int .i64 (0), .int .i64 (0), .int .i64 (0), .int .i64 (0), .int .i64 (0), .int .i64 (0), .bool false, .slice none 0 0]) (by kernel_rfl) (by kernel_rfl) (fun _ => by kernel_rfl) ?_
  refine s_pure 243 (.int .i64 (3)) (by kernel_rfl) (by kernel_rfl) (fun _ => by kernel_rfl) ?_
  refine s_pure 15 (.int .i64 (3)) (by kernel_rfl) (by kernel_rfl) (fun _ => by kernel_rfl) ?_
  refine ops_end ?_
  refine At.env [(0, .int .i64 ((fwd % 7) - 1)), (1, .int .i64 ((back % 7) - 1)), (2, .int .i64 ((ptr % 7) - 1)), (3, .bool dirty), (4, .slice a1 m1 c1), (5, .int .i64 other), (12, .bool false), (13, .pointer (some ⟨b1, 0, none⟩)), (14, .pointer (some ⟨b3, 0, none⟩)), (15, .int .i64 (3)), (16, .pointer (some ⟨b4, 0, none⟩)), (19, .bool false), (24, .bool false), (111, .bool false), (151, .bool false), (199, .bool false), (237, .bool false)] ⟨by kernel_rfl, by kernel_rfl, by kernel_rfl, by kernel_rfl, by kernel_rfl, by kernel_rfl, by kernel_rfl, by kernel_rfl, by kernel_rfl, by kernel_rfl, by kernel_rfl, by kernel_rfl, by kernel_rfl, by kernel_rfl, by kernel_rfl, by kernel_rfl, by kernel_rfl, trivial⟩ ?_
  refine at_then_normal ?_
  refine at_seq (x := C4 [1, 1, 1, 1, 1, 1, 1, 1, 1, 1, 1, 1, 1, 1, 1, 1, 1, 1, 1, 1, 0]) (y := C4 [1, 1, 1, 1, 1, 1, 1, 1, 1, 1, 1, 1, 1, 1, 1, 1, 1, 1, 1, 1, 1]) (by kernel_rfl) ?_
  refine at_region (id := 25) 8 (by kernel_rfl) (by kernel_rfl) ?_
  refine s_pure 245 (.pointer (some ⟨b1, 0, none⟩)) (by kernel_rfl) (by kernel_rfl) (fun _ => by kernel_rfl) ?_
  refine At.conv (fun w hw => hw.less (.take .here (.take .here (.take .here (.take .here (.take .here (.take .here (.take .here (.take .here (.take .here (.take .here (.take .here (.take .here (.take .here .refl)))))))))))))) ?_
  refine s_call 246 20 #[.pointer (some ⟨b1, 0, none⟩), .int .i64 (3)] (by kernel_rfl) (by kernel_rfl) (fun _ => by kernel_rfl) (Find_some b1 (⟨[(⟨(1), (1), (3), (2), false, ([other] : List Int)⟩ : Ent)], 1, 3, 2⟩ : CacheS) (3) (by simp) (by intro x hx; simp only [List.mem_cons, List.not_mem_nil, or_false] at hx; rcases hx with rfl <;> first | exact Nat.le_of_lt (by decide) | (simp; done) | (simp; omega) | (simp only [List.length_append, List.length_take, List.length_cons, List.length_nil]; omega)) 0 (⟨(1), (1), (3), (2), false, ([other] : List Int)⟩ : Ent) (by simp [idx, List.findIdx?_cons]) rfl) ?_
  rintro _ _ ⟨a9, c9, rfl, rfl⟩
  refine At.conv (Γ' := [IntsA a9 c9 ([other] : List Int), CacheA b1 (⟨[(⟨(1), (1), (3), (2), false, ([other] : List Int)⟩ : Ent)], 1, 3, 2⟩ : CacheS), Asn.own b5 (.cells #[.int .i64 (0), .int .i64 (0), .int .i64 (0), .int .i64 (0), .bool false, .slice none 0 0] 31 (0, 0)), Asn.own b3 (.cells #[.int .i64 (9), .int .i64 (0), .int .i64 (0), .int .i64 (0), .int .i64 (2), .int .i64 ((ptr % 7) - 1), .int .i64 (0), .bool false, .slice a8 ((xs.take 4).length) c8] 35 (0, 0)), IntsA a8 c8 (xs.take 4), Asn.own b4 (.cells #[.int .i64 ((ptr % 7) - 1), .int .i64 (3), .int .i64 (2), .int .i64 (1), .bool false, .slice a7 ((xs.take 4).length) c7] 31 (0, 0)), IntsA a7 c7 (xs.take 4), IntsA a6 c6 (xs.take 4), IntsA a5 c5 (xs.take 4), IntsA a4 c4 (xs.take 4), IntsA a3 c3 ([other] : List Int), Asn.own b2 (.cells #[.int .i64 other] 3 (0, 0)), IntsA a2 c2 (xs.take 4), IntsA a1 c1 (xs.take 4)]) (fun w hw => hw) ?_
  refine s_pure 244 (.tuple #[.agg #[.int .i64 (1), .int .i64 (1), .int .i64 (3), .int .i64 (2), .bool false, .slice a9 1 c9], .bool true]) (by kernel_rfl) (by kernel_rfl) (fun _ => by kernel_rfl) ?_
  refine s_pure 247 (.agg #[.int .i64 (1), .int .i64 (1), .int .i64 (3), .int .i64 (2), .bool false, .slice a9 1 c9]) (by kernel_rfl) (by kernel_rfl) (fun _ => by kernel_rfl) ?_
  refine s_pure 248 (.bool true) (by kernel_rfl) (by kernel_rfl) (fun _ => by kernel_rfl) ?_
  refine s_step 20 (by kernel_rfl) (by kernel_rfl) (st_new (T := 31) (cells := #[.int .i64 (0), .int .i64 (0), .int .i64 (0), .int .i64 (0), .bool false, .slice none 0 0]) (fun a => .pointer (some a)) (fun _ => by kernel_rfl)) ?_
  rintro _ _ ⟨b6, rfl, rfl⟩
  refine s_do (by kernel_rfl) (by kernel_rfl) (st_store (off := 0) (vs := [.int .i64 (1), .int .i64 (1), .int .i64 (3), .int .i64 (2), .bool false, .slice a9 1 c9]) (c' := #[.int .i64 (1), .int .i64 (1), .int .i64 (3), .int .i64 (2), .bool false, .slice a9 1 c9]) (fun _ => by kernel_rfl) .here (by kernel_rfl) (by kernel_rfl) (by kernel_rfl)) ?_
  rintro _ _ ⟨rfl, rfl⟩
  refine s_pure 21 (.bool true) (by kernel_rfl) (by kernel_rfl) (fun _ => by kernel_rfl) ?_
  refine ops_end ?_
  refine At.env [(0, .int .i64 ((fwd % 7) - 1)), (1, .int .i64 ((back % 7) - 1)), (2, .int .i64 ((ptr % 7) - 1)), (3, .bool dirty), (4, .slice a1 m1 c1), (5, .int .i64 other), (12, .bool false), (13, .pointer (some ⟨b1, 0, none⟩)), (14, .pointer (some ⟨b3, 0, none⟩)), (15, .int .i64 (3)), (16, .pointer (some ⟨b4, 0, none⟩)), (19, .bool false), (20, .pointer (some ⟨b6, 0, none⟩)), (21, .bool true), (24, .bool false), (111, .bool false), (151, .bool false), (199, .bool false), (237, .bool false)] ⟨by kernel_rfl, by kernel_rfl, by kernel_rfl, by kernel_rfl, by kernel_rfl, by kernel_rfl, by kernel_rfl, by kernel_rfl, by kernel_rfl, by kernel_rfl, by kernel_rfl, by kernel_rfl, by kernel_rfl, by kernel_rfl, by kernel_rfl, by kernel_rfl, by kernel_rfl, by kernel_rfl, by kernel_rfl, trivial⟩ ?_
  refine at_then_normal ?_
  refine at_seq (x := C4 [1, 1, 1, 1, 1, 1, 1, 1, 1, 1, 1, 1, 1, 1, 1, 1, 1, 1, 1, 1, 1, 0]) (y := C4 [1, 1, 1, 1, 1, 1, 1, 1, 1, 1, 1, 1, 1, 1, 1, 1, 1, 1, 1, 1, 1, 1]) (by kernel_rfl) ?_
  refine at_region (id := 26) 32 (by kernel_rfl) (by kernel_rfl) ?_
  refine s_pure 249 (.int .i64 (3)) (by kernel_rfl) (by kernel_rfl) (fun _ => by kernel_rfl) ?_
  refine s_pure 250 (.bool true) (by kernel_rfl) (by kernel_rfl) (fun _ => by kernel_rfl) ?_
  refine s_pure 251 (.bool true) (by kernel_rfl) (by kernel_rfl) (fun _ => by kernel_rfl) ?_
  refine s_pure 252 (.bool true) (by kernel_rfl) (by kernel_rfl) (fun _ => by kernel_rfl) ?_
  refine s_pure 253 (.bool true) (by kernel_rfl) (by kernel_rfl) (fun _ => by kernel_rfl) ?_
  refine s_pure 254 (.bool true) (by kernel_rfl) (by kernel_rfl) (fun _ => by kernel_rfl) ?_
  refine s_pure 255 (.pointer (some ⟨b6, 0, none⟩)) (by kernel_rfl) (by kernel_rfl) (fun _ => by kernel_rfl) ?_
  refine s_pure 256 (.pointer (some ⟨b6, 0, none⟩)) (by kernel_rfl) (by kernel_rfl) (fun _ => by kernel_rfl) ?_
  refine s_load 257 (.int .i64 (1)) (by kernel_rfl) (by kernel_rfl) (load1 (off := 0) (fun _ => by kernel_rfl) (holds_own .here) (by kernel_rfl)) ?_
  refine s_pure 258 (.bool true) (by kernel_rfl) (by kernel_rfl) (fun _ => by kernel_rfl) ?_
  refine s_pure 259 (.bool true) (by kernel_rfl) (by kernel_rfl) (fun _ => by kernel_rfl) ?_
  refine s_pure 260 (.bool true) (by kernel_rfl) (by kernel_rfl) (fun _ => by kernel_rfl) ?_
  refine s_pure 261 (.pointer (some ⟨b6, 0, none⟩)) (by kernel_rfl) (by kernel_rfl) (fun _ => by kernel_rfl) ?_
  refine s_pure 262 (.pointer (some ⟨b6, 1, none⟩)) (by kernel_rfl) (by kernel_rfl) (fun _ => by kernel_rfl) ?_
  refine s_load 263 (.int .i64 (1)) (by kernel_rfl) (by kernel_rfl) (load1 (off := 1) (fun _ => by kernel_rfl) (holds_own .here) (by kernel_rfl)) ?_
  refine s_pure 264 (.bool true) (by kernel_rfl) (by kernel_rfl) (fun _ => by kernel_rfl) ?_
  refine s_pure 265 (.bool true) (by kernel_rfl) (by kernel_rfl) (fun _ => by kernel_rfl) ?_
  refine s_pure 266 (.bool true) (by kernel_rfl) (by kernel_rfl) (fun _ => by kernel_rfl) ?_
  refine s_load 267 (.agg #[.int .i64 (1), .int .i64 (1), .int .i64 (3), .int .i64 (2), .bool false, .slice a9 1 c9]) (by kernel_rfl) (by kernel_rfl) (loadN (off := 0) (vs := [.int .i64 (1), .int .i64 (1), .int .i64 (3), .int .i64 (2), .bool false, .slice a9 1 c9]) 6 (fun _ => by kernel_rfl) (holds_own .here) rfl (by exact ⟨rfl, rfl, rfl, rfl, rfl, rfl, trivial⟩)) ?_
  refine s_quiet 268 (.int .i64 other) 22 #[.agg #[.int .i64 (1), .int .i64 (1), .int .i64 (3), .int .i64 (2), .bool false, .slice a9 1 c9], .int .i64 (0)] (by kernel_rfl) (by kernel_rfl) (fun _ => by kernel_rfl) (Word_tr (1) (1) (3) (2) false a9 1 c9 0 ([other] : List Int) (other) (by first | rfl | exact hm | assumption | omega | (simp only [List.length_append, List.length_cons, List.length_nil]; omega)) (by first | decide | omega | (simp; done)) (RowsA.reads (k := 1) (.there .here)) rfl) ?_
  refine s_pure 269 (.int .i64 other) (by kernel_rfl) (by kernel_rfl) (fun _ => by kernel_rfl) ?_
  refine s_pure 270 (.bool true) (by kernel_rfl) (by kernel_rfl) (run_eq (v := .bool (decide (other = other))) (fun _ => by kernel_rfl) (congrArg Value.bool (by rw [decide_eq_true rfl]))) ?_
  refine s_pure 271 (.bool true) (by kernel_rfl) (by kernel_rfl) (fun _ => by kernel_rfl) ?_
  refine s_pure 272 (.bool true) (by kernel_rfl) (by kernel_rfl) (fun _ => by kernel_rfl) ?_
  refine s_pure 273 (.pointer (some ⟨b1, 0, none⟩)) (by kernel_rfl) (by kernel_rfl) (fun _ => by kernel_rfl) ?_
  refine At.conv (fun w hw => hw.less (.take (.there (.there .here)) (.take .here (.take .here (.take .here (.take .here (.take .here (.take .here (.take .here (.take .here (.take .here (.take .here (.take .here (.take .here (.take .here (.take .here .refl)))))))))))))))) ?_
  refine s_quiet 274 (.int .i64 (1)) 23 #[.pointer (some ⟨b1, 0, none⟩)] (by kernel_rfl) (by kernel_rfl) (fun _ => by kernel_rfl) (Len_tr b1 (⟨[(⟨(1), (1), (3), (2), false, ([other] : List Int)⟩ : Ent)], 1, 3, 2⟩ : CacheS)) ?_
  refine s_pure 275 (.bool true) (by kernel_rfl) (by kernel_rfl) (fun _ => by kernel_rfl) ?_
  refine s_pure 276 (.bool true) (by kernel_rfl) (by kernel_rfl) (fun _ => by kernel_rfl) ?_
  refine s_pure 277 (.bool true) (by kernel_rfl) (by kernel_rfl) (fun _ => by kernel_rfl) ?_
  refine s_quiet 278 (.bool true) 21 #[] (by kernel_rfl) (by kernel_rfl) (fun _ => by kernel_rfl) Wakes_tr ?_
  refine s_pure 279 (.bool true) (by kernel_rfl) (by kernel_rfl) (fun _ => by kernel_rfl) ?_
  refine s_pure 12 (.bool true) (by kernel_rfl) (by kernel_rfl) (fun _ => by kernel_rfl) ?_
  refine ops_end ?_
  refine At.env [(0, .int .i64 ((fwd % 7) - 1)), (1, .int .i64 ((back % 7) - 1)), (2, .int .i64 ((ptr % 7) - 1)), (3, .bool dirty), (4, .slice a1 m1 c1), (5, .int .i64 other), (12, .bool true), (13, .pointer (some ⟨b1, 0, none⟩)), (14, .pointer (some ⟨b3, 0, none⟩)), (15, .int .i64 (3)), (16, .pointer (some ⟨b4, 0, none⟩)), (19, .bool false), (20, .pointer (some ⟨b6, 0, none⟩)), (21, .bool true), (24, .bool false), (111, .bool false), (151, .bool false), (199, .bool false), (237, .bool false)] ⟨by kernel_rfl, by kernel_rfl, by kernel_rfl, by kernel_rfl, by kernel_rfl, by kernel_rfl, by kernel_rfl, by kernel_rfl, by kernel_rfl, by kernel_rfl, by kernel_rfl, by kernel_rfl, by kernel_rfl, by kernel_rfl, by kernel_rfl, by kernel_rfl, by kernel_rfl, by kernel_rfl, by kernel_rfl, trivial⟩ ?_
  refine at_then_normal ?_
  refine at_ret (by kernel_rfl) ?_
  refine at_backR [.bool true] [] (rs := [.tmp 12]) (by kernel_rfl) (.cons (.tmp (by kernel_rfl)) .nil) (fun w hw => hw.less (.drop .here (.drop .here (.drop .here (.drop .here (.drop .here (.drop .here (.drop .here (.drop .here (.drop .here (.drop .here (.drop .here (.drop .here (.drop .here (.drop .here (.drop .here .refl)))))))))))))))) rfl
end Go.Proofs.Ytfpiolnbnfngkaa
