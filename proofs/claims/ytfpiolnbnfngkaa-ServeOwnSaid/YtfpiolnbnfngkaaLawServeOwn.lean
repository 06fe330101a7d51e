/- The law ServeOwn answers true at every input. -/
import Derived.Test.YtfpiolnbnfngkaaServeC
namespace Go.Proofs.Ytfpiolnbnfngkaa
open Go Go.RowKit
set_option linter.unusedVariables false
set_option linter.unusedSimpArgs false
noncomputable def C3 (p : List Nat) : Code := codeAt (bodyOf Try.f3) p
set_option maxRecDepth 100000 in
theorem ServeOwn_tr {W0 : World} (a : Option Addr) (m cap : Nat) (xs : List Int) (which ptr : Int) (hm : m = xs.length) (hr : Reads W0 [] a (ints xs)) (hcap : m ≤ cap) : Tr Try.prog 3 #[.slice a m cap, .int .i64 which, .int .i64 ptr] W0 ([]) (fun r _ => r = .bool true) := by
  have hl0 : (xs.take 3).length ≤ 3 := by simp; omega
  have hl1 : (xs.take 3 ++ [1]).length ≤ 4 := by rw [List.length_append]; exact Nat.add_le_add_right hl0 1
  refine Tr.enter (fn := Try.f3) (c := C3 []) (args := [.slice a m cap, .int .i64 which, .int .i64 ptr]) 103 Try.func3 (by kernel_rfl) (by kernel_rfl) ?_
  refine At.env [(0, .slice a m cap), (1, .int .i64 which), (2, .int .i64 ptr)] ⟨by kernel_rfl, by kernel_rfl, by kernel_rfl, trivial⟩ ?_
  refine at_seq (x := C3 [0]) (y := C3 [1]) (by kernel_rfl) ?_
  refine at_region (id := 0) 1 (by kernel_rfl) (by kernel_rfl) ?_
  refine s_pure 6 (.bool false) (by kernel_rfl) (by kernel_rfl) (fun _ => by kernel_rfl) ?_
  refine ops_end ?_
  refine At.env [(0, .slice a m cap), (1, .int .i64 which), (2, .int .i64 ptr), (6, .bool false)] ⟨by kernel_rfl, by kernel_rfl, by kernel_rfl, by kernel_rfl, trivial⟩ ?_
  refine at_then_normal ?_
  refine at_seq (x := C3 [1, 0]) (y := C3 [1, 1]) (by kernel_rfl) ?_
  refine at_region (id := 1) 2 (by kernel_rfl) (by kernel_rfl) ?_
  refine s_call 14 13 #[.int .i64 (1), .int .i64 (1)] (by kernel_rfl) (by kernel_rfl) (fun _ => by kernel_rfl) (New_tr (1) (1)) ?_
  rintro _ _ ⟨b1, rfl, rfl⟩
  refine At.conv (Γ' := [CacheA b1 (⟨[], 1, 1, 0⟩ : CacheS)]) (fun w hw => hw) ?_
  refine s_pure 7 (.pointer (some ⟨b1, 0, none⟩)) (by kernel_rfl) (by kernel_rfl) (fun _ => by kernel_rfl) ?_
  refine ops_end ?_
  refine At.env [(0, .slice a m cap), (1, .int .i64 which), (2, .int .i64 ptr), (6, .bool false), (7, .pointer (some ⟨b1, 0, none⟩))] ⟨by kernel_rfl, by kernel_rfl, by kernel_rfl, by kernel_rfl, by kernel_rfl, trivial⟩ ?_
  refine at_then_normal ?_
  refine at_seq (x := C3 [1, 1, 0]) (y := C3 [1, 1, 1]) (by kernel_rfl) ?_
  refine at_seq (x := C3 [1, 1, 0, 0]) (y := C3 [1, 1, 0, 1]) (by kernel_rfl) ?_
  refine at_region (id := 2) 2 (by kernel_rfl) (by kernel_rfl) ?_
  refine s_pure 15 (.pointer (some ⟨b1, 0, none⟩)) (by kernel_rfl) (by kernel_rfl) (fun _ => by kernel_rfl) ?_
  refine s_pure 16 (.bool false) (by kernel_rfl) (by kernel_rfl) (fun _ => by kernel_rfl) ?_
  refine ops_end ?_
  refine At.env [(0, .slice a m cap), (1, .int .i64 which), (2, .int .i64 ptr), (6, .bool false), (7, .pointer (some ⟨b1, 0, none⟩)), (16, .bool false)] ⟨by kernel_rfl, by kernel_rfl, by kernel_rfl, by kernel_rfl, by kernel_rfl, by kernel_rfl, trivial⟩ ?_
  refine at_then_normal ?_
  refine at_false (t := false) (x := C3 [1, 1, 0, 1, 0]) (y := C3 [1, 1, 0, 1, 1]) (o := .tmp 16) (by kernel_rfl) (by kernel_rfl) (by kernel_rfl) rfl ?_
  refine at_skip (by kernel_rfl) ?_
  refine at_then_normal ?_
  refine at_seq (x := C3 [1, 1, 1, 0]) (y := C3 [1, 1, 1, 1]) (by kernel_rfl) ?_
  refine at_region (id := 4) 5 (by kernel_rfl) (by kernel_rfl) ?_
  refine s_pure 17 (.slice a m cap) (by kernel_rfl) (by kernel_rfl) (fun _ => by kernel_rfl) ?_
  refine s_call 18 14 #[.slice a m cap, .int .i64 (3)] (by kernel_rfl) (by kernel_rfl) (fun _ => by kernel_rfl) (Cut_tr a m cap 3 xs (by first | rfl | exact hm | omega | (simp only [List.length_append, List.length_cons, List.length_nil]; omega)) (Reads.conv (fun w hw => hw.less (.drop .here .refl)) hr) (by omega) (by omega)) ?_
  rintro _ _ ⟨a1, m1, c1, rfl, hm1, rfl⟩
  refine s_step 19 (by kernel_rfl) (by kernel_rfl) (st_new (T := 3) (cells := #[.int .i64 (1)]) (fun a => .slice (some a) 1 1) (fun _ => by kernel_rfl)) ?_
  rintro _ _ ⟨b2, rfl, rfl⟩
  refine s_step 20 (by kernel_rfl) (by kernel_rfl) (st_append_ints (xs := (xs.take 3)) (ys := ([1] : List Int)) (zs := (xs.take 3) ++ ([1] : List Int)) (m1 := m1) (m2 := 1) (m := m1 + 1) (cap2 := 1) 22 22 3 (tinfo 3) (fun _ => by kernel_rfl) (by kernel_rfl) (by kernel_rfl) (by kernel_rfl) (by kernel_rfl) (by kernel_rfl) (.there .here) (Reads.own (rows := ints ([1] : List Int)) .here rfl) (by first | rfl | exact hm | omega | (simp only [List.length_append, List.length_cons, List.length_nil]; omega)) (by first | rfl | exact hm | omega | (simp only [List.length_append, List.length_cons, List.length_nil]; omega)) (by omega) (by simp) (by first | omega | (simp only [List.length_append, List.length_cons, List.length_nil, List.length_take]; omega))) ?_
  rintro _ _ ⟨a2, c2, rfl, rfl⟩
  refine s_pure 0 (.slice a2 (m1 + 1) c2) (by kernel_rfl) (by kernel_rfl) (fun _ => by kernel_rfl) ?_
  refine ops_end ?_
  refine At.env [(0, .slice a2 (m1 + 1) c2), (1, .int .i64 which), (2, .int .i64 ptr), (6, .bool false), (7, .pointer (some ⟨b1, 0, none⟩)), (16, .bool false)] ⟨by kernel_rfl, by kernel_rfl, by kernel_rfl, by kernel_rfl, by kernel_rfl, by kernel_rfl, trivial⟩ ?_
  refine at_then_normal ?_
  refine at_seq (x := C3 [1, 1, 1, 1, 0]) (y := C3 [1, 1, 1, 1, 1]) (by kernel_rfl) ?_
  refine at_region (id := 5) 4 (by kernel_rfl) (by kernel_rfl) ?_
  refine s_pure 21 (.pointer (some ⟨b1, 0, none⟩)) (by kernel_rfl) (by kernel_rfl) (fun _ => by kernel_rfl) ?_
  refine s_pure 22 (.slice a2 (m1 + 1) c2) (by kernel_rfl) (by kernel_rfl) (fun _ => by kernel_rfl) ?_
  refine s_call 23 16 #[.int .i64 (4), .int .i64 (-1), .int .i64 (-1), .bool true, .slice a2 (m1 + 1) c2] (by kernel_rfl) (by kernel_rfl) (fun _ => by kernel_rfl) (ENew_tr (4) ((-1)) ((-1)) true a2 (m1 + 1) c2 ((xs.take 3) ++ ([1] : List Int)) (by first | rfl | exact hm | omega | (simp only [List.length_append, List.length_cons, List.length_nil]; omega)) (RowsA.reads (k := 1) .here) (by first | omega | (simp only [List.length_append, List.length_take, List.length_cons, List.length_nil]; omega))) ?_
  rintro _ _ ⟨a3, c3, rfl, rfl⟩
  refine At.conv (fun w hw => hw.less (.take (.there (.there (.there .here))) (.take .here (.take .here (.take .here .refl))))) ?_
  refine s_call 24 15 #[.pointer (some ⟨b1, 0, none⟩), .agg #[.int .i64 (-1), .int .i64 (-1), .int .i64 (4), .int .i64 (0), .bool true, .slice a3 (m1 + 1) c3]] (by kernel_rfl) (by kernel_rfl) (fun _ => by kernel_rfl) (Put_new b1 (⟨[], 1, 1, 0⟩ : CacheS) ((-1)) ((-1)) (4) (0) true a3 (m1 + 1) c3 ((xs.take 3) ++ ([1] : List Int)) (by first | rfl | exact hm | omega | (simp only [List.length_append, List.length_cons, List.length_nil]; omega)) (RowsA.reads (k := 1) .here) (by first | omega | (simp only [List.length_append, List.length_take, List.length_cons, List.length_nil]; omega)) (by simp) (by simp) (by simp) (by simp) (by omega) (by simp [idx, List.findIdx?_cons]) (not_full (by simp))) ?_
  rintro _ _ ⟨rfl, rfl⟩
  refine At.conv (Γ' := [CacheA b1 (⟨[(⟨((-1)), ((-1)), (4), (1), true, ((xs.take 3) ++ ([1] : List Int))⟩ : Ent)], 1, 1, 1⟩ : CacheS), IntsA a3 c3 ((xs.take 3) ++ ([1] : List Int)), IntsA a2 c2 ((xs.take 3) ++ ([1] : List Int)), Asn.own b2 (.cells #[.int .i64 (1)] 3 (0, 0))]) (fun w hw => hw) ?_
  refine ops_end ?_
  refine At.env [(0, .slice a2 (m1 + 1) c2), (1, .int .i64 which), (2, .int .i64 ptr), (6, .bool false), (7, .pointer (some ⟨b1, 0, none⟩)), (16, .bool false)] ⟨by kernel_rfl, by kernel_rfl, by kernel_rfl, by kernel_rfl, by kernel_rfl, by kernel_rfl, trivial⟩ ?_
  refine at_then_normal ?_
  refine at_seq (x := C3 [1, 1, 1, 1, 1, 0]) (y := C3 [1, 1, 1, 1, 1, 1]) (by kernel_rfl) ?_
  refine at_region (id := 6) 6 (by kernel_rfl) (by kernel_rfl) ?_
  refine s_step 25 (by kernel_rfl) (by kernel_rfl) (st_new (T := 3) (cells := #[.int .i64 (4), .int .i64 (5), .int .i64 (3)]) (fun a => .slice (some a) 3 3) (fun _ => by kernel_rfl)) ?_
  rintro _ _ ⟨b3, rfl, rfl⟩
  refine s_pure 26 (.int .i64 which) (by kernel_rfl) (by kernel_rfl) (fun _ => by kernel_rfl) ?_
  refine s_call 27 17 #[.int .i64 which, .int .i64 (3)] (by kernel_rfl) (by kernel_rfl) (fun _ => by kernel_rfl) (Tr.mono (Within_tr which (3) (by omega) (by omega)) (fun r Δ h => (⟨_, by omega, by omega, h⟩ : ∃ q : Int, 0 ≤ q ∧ q < 3 ∧ r = .int .i64 q ∧ Δ = _))) ?_
  rintro _ _ ⟨q1, hq1a, hq1b, rfl, rfl⟩
  rcases (by omega : q1 = 0 ∨ q1 = 1 ∨ q1 = 2) with rfl | rfl | rfl
  · refine s_pure 28 (.pointer (some ⟨b3, 0, none⟩)) (by kernel_rfl) (by kernel_rfl) (fun _ => by kernel_rfl) ?_
    refine s_load 29 (.int .i64 (4)) (by kernel_rfl) (by kernel_rfl) (load1 (off := 0) (fun _ => by kernel_rfl) (holds_own .here) (by kernel_rfl)) ?_
    refine s_pure 8 (.int .i64 (4)) (by kernel_rfl) (by kernel_rfl) (fun _ => by kernel_rfl) ?_
    refine ops_end ?_
    refine At.env [(0, .slice a2 (m1 + 1) c2), (1, .int .i64 which), (2, .int .i64 ptr), (6, .bool false), (7, .pointer (some ⟨b1, 0, none⟩)), (8, .int .i64 (4)), (16, .bool false)] ⟨by kernel_rfl, by kernel_rfl, by kernel_rfl, by kernel_rfl, by kernel_rfl, by kernel_rfl, by kernel_rfl, trivial⟩ ?_
    refine at_then_normal ?_
    refine at_seq (x := C3 [1, 1, 1, 1, 1, 1, 0]) (y := C3 [1, 1, 1, 1, 1, 1, 1]) (by kernel_rfl) ?_
    refine at_region (id := 7) 12 (by kernel_rfl) (by kernel_rfl) ?_
    refine s_pure 31 (.pointer (some ⟨b1, 0, none⟩)) (by kernel_rfl) (by kernel_rfl) (fun _ => by kernel_rfl) ?_
    refine s_pure 32 (.int .i64 (4)) (by kernel_rfl) (by kernel_rfl) (fun _ => by kernel_rfl) ?_
    refine s_pure 33 (.int .i64 ptr) (by kernel_rfl) (by kernel_rfl) (fun _ => by kernel_rfl) ?_
    refine s_quiet 34 (.int .i64 (ptr % 6)) 17 #[.int .i64 ptr, .int .i64 (6)] (by kernel_rfl) (by kernel_rfl) (fun _ => by kernel_rfl) (Within_tr (ptr) (6) (by omega) (by omega)) ?_
    refine s_pure 35 (.agg #[.int .i64 (4), .int .i64 (0), .int .i64 (0), .int .i64 (0), .int .i64 (4), .int .i64 (ptr % 6), .int .i64 (0), .bool false, .slice none 0 0]) (by kernel_rfl) (by kernel_rfl) (fun _ => by kernel_rfl) ?_
    refine At.conv (fun w hw => hw.less (.take (.there .here) (.take .here (.take .here (.take .here (.take .here .refl)))))) ?_
    refine s_call 36 18 #[.pointer (some ⟨b1, 0, none⟩), .agg #[.int .i64 (4), .int .i64 (0), .int .i64 (0), .int .i64 (0), .int .i64 (4), .int .i64 (ptr % 6), .int .i64 (0), .bool false, .slice none 0 0]] (by kernel_rfl) (by kernel_rfl) (fun _ => by kernel_rfl) (Handle_fwd b1 (⟨[(⟨((-1)), ((-1)), (4), (1), true, ((xs.take 3) ++ ([1] : List Int))⟩ : Ent)], 1, 1, 1⟩ : CacheS) (0) (0) (0) (4) (ptr % 6) (0) false none 0 0 (by omega) (by omega) (by omega) (by omega) (by omega) (by omega) (by omega) (by simp) (by simp) (by intro x hx; simp only [List.mem_cons, List.not_mem_nil, or_false] at hx; rcases hx with rfl <;> first | exact Nat.le_of_lt (by decide) | (simp; done) | (simp; omega) | exact Nat.le_trans hl1 (by decide)) 0 (⟨((-1)), ((-1)), (4), (1), true, ((xs.take 3) ++ ([1] : List Int))⟩ : Ent) (by simp [idx, List.findIdx?_cons]) rfl rfl) ?_
    rintro _ _ ⟨rfl, rfl⟩
    refine At.conv (Γ' := [CacheA b1 (⟨[(⟨(ptr % 6), ((-1)), (4), (1), true, ((xs.take 3) ++ ([1] : List Int))⟩ : Ent)], 1, 1, 1⟩ : CacheS), Asn.own b3 (.cells #[.int .i64 (4), .int .i64 (5), .int .i64 (3)] 3 (0, 0)), IntsA a3 c3 ((xs.take 3) ++ ([1] : List Int)), IntsA a2 c2 ((xs.take 3) ++ ([1] : List Int)), Asn.own b2 (.cells #[.int .i64 (1)] 3 (0, 0))]) (fun w hw => hw) ?_
    refine s_pure 30 (.tuple #[.agg #[.int .i64 (8), .int .i64 (0), .int .i64 (0), .int .i64 (0), .int .i64 (4), .int .i64 (0), .int .i64 (0), .bool false, .slice none 0 0], .int .i64 (0)]) (by kernel_rfl) (by kernel_rfl) (fun _ => by kernel_rfl) ?_
    refine s_pure 37 (.agg #[.int .i64 (8), .int .i64 (0), .int .i64 (0), .int .i64 (0), .int .i64 (4), .int .i64 (0), .int .i64 (0), .bool false, .slice none 0 0]) (by kernel_rfl) (by kernel_rfl) (fun _ => by kernel_rfl) ?_
    refine s_pure 38 (.int .i64 (0)) (by kernel_rfl) (by kernel_rfl) (fun _ => by kernel_rfl) ?_
    refine s_step 9 (by kernel_rfl) (by kernel_rfl) (st_new (T := 35) (cells := #[.int .i64 (0), .int .i64 (0), .int .i64 (0), .int .i64 (0), .int .i64 (0), .int .i64 (0), .int .i64 (0), .bool false, .slice none 0 0]) (fun a => .pointer (some a)) (fun _ => by kernel_rfl)) ?_
    rintro _ _ ⟨b4, rfl, rfl⟩
    refine s_do (by kernel_rfl) (by kernel_rfl) (st_store (off := 0) (vs := [.int .i64 (8), .int .i64 (0), .int .i64 (0), .int .i64 (0), .int .i64 (4), .int .i64 (0), .int .i64 (0), .bool false, .slice none 0 0]) (c' := #[.int .i64 (8), .int .i64 (0), .int .i64 (0), .int .i64 (0), .int .i64 (4), .int .i64 (0), .int .i64 (0), .bool false, .slice none 0 0]) (fun _ => by kernel_rfl) .here (by kernel_rfl) (by kernel_rfl) (by kernel_rfl)) ?_
    rintro _ _ ⟨rfl, rfl⟩
    refine s_pure 10 (.int .i64 (0)) (by kernel_rfl) (by kernel_rfl) (fun _ => by kernel_rfl) ?_
    refine ops_end ?_
    refine At.env [(0, .slice a2 (m1 + 1) c2), (1, .int .i64 which), (2, .int .i64 ptr), (6, .bool false), (7, .pointer (some ⟨b1, 0, none⟩)), (8, .int .i64 (4)), (9, .pointer (some ⟨b4, 0, none⟩)), (10, .int .i64 (0)), (16, .bool false)] ⟨by kernel_rfl, by kernel_rfl, by kernel_rfl, by kernel_rfl, by kernel_rfl, by kernel_rfl, by kernel_rfl, by kernel_rfl, by kernel_rfl, trivial⟩ ?_
    refine at_then_normal ?_
    refine at_seq (x := C3 [1, 1, 1, 1, 1, 1, 1, 0]) (y := C3 [1, 1, 1, 1, 1, 1, 1, 1]) (by kernel_rfl) ?_
    refine at_seq (x := C3 [1, 1, 1, 1, 1, 1, 1, 0, 0]) (y := C3 [1, 1, 1, 1, 1, 1, 1, 0, 1]) (by kernel_rfl) ?_
    refine at_region (id := 8) 23 (by kernel_rfl) (by kernel_rfl) ?_
    refine s_pure 39 (.int .i64 (0)) (by kernel_rfl) (by kernel_rfl) (fun _ => by kernel_rfl) ?_
    refine s_pure 40 (.bool false) (by kernel_rfl) (by kernel_rfl) (fun _ => by kernel_rfl) ?_
    refine s_pure 41 (.bool false) (by kernel_rfl) (by kernel_rfl) (fun _ => by kernel_rfl) ?_
    refine s_pure 42 (.int .i64 (4)) (by kernel_rfl) (by kernel_rfl) (fun _ => by kernel_rfl) ?_
    refine s_pure 43 (.bool false) (by kernel_rfl) (by kernel_rfl) (fun _ => by kernel_rfl) ?_
    refine s_pure 44 (.bool false) (by kernel_rfl) (by kernel_rfl) (fun _ => by kernel_rfl) ?_
    refine s_pass 45 (by kernel_rfl) (by kernel_rfl) ?_
    refine s_pass 46 (by kernel_rfl) (by kernel_rfl) ?_
    refine s_pass 47 (by kernel_rfl) (by kernel_rfl) ?_
    refine s_pass 48 (by kernel_rfl) (by kernel_rfl) ?_
    refine s_pass 49 (by kernel_rfl) (by kernel_rfl) ?_
    refine s_pure 50 (.bool false) (by kernel_rfl) (by kernel_rfl) (fun _ => by kernel_rfl) ?_
    refine s_pure 51 (.bool false) (by kernel_rfl) (by kernel_rfl) (fun _ => by kernel_rfl) ?_
    refine s_pure 52 (.bool false) (by kernel_rfl) (by kernel_rfl) (fun _ => by kernel_rfl) ?_
    refine s_pure 53 (.int .i64 (4)) (by kernel_rfl) (by kernel_rfl) (fun _ => by kernel_rfl) ?_
    refine s_pure 54 (.bool true) (by kernel_rfl) (by kernel_rfl) (fun _ => by kernel_rfl) ?_
    refine s_pure 55 (.bool true) (by kernel_rfl) (by kernel_rfl) (fun _ => by kernel_rfl) ?_
    refine s_pure 56 (.pointer (some ⟨b4, 8, none⟩)) (by kernel_rfl) (by kernel_rfl) (fun _ => by kernel_rfl) ?_
    refine s_load 57 (.slice none 0 0) (by kernel_rfl) (by kernel_rfl) (load1 (off := 8) (fun _ => by kernel_rfl) (holds_own .here) (by kernel_rfl)) ?_
    refine s_pure 58 (.int .i64 (0)) (by kernel_rfl) (by kernel_rfl) (fun _ => by kernel_rfl) ?_
    refine s_pure 59 (.bool false) (by kernel_rfl) (by kernel_rfl) (fun _ => by kernel_rfl) ?_
    refine s_pure 60 (.bool false) (by kernel_rfl) (by kernel_rfl) (fun _ => by kernel_rfl) ?_
    refine s_pure 61 (.bool false) (by kernel_rfl) (by kernel_rfl) (fun _ => by kernel_rfl) ?_
    refine ops_end ?_
    refine At.env [(0, .slice a2 (m1 + 1) c2), (1, .int .i64 which), (2, .int .i64 ptr), (6, .bool false), (7, .pointer (some ⟨b1, 0, none⟩)), (8, .int .i64 (4)), (9, .pointer (some ⟨b4, 0, none⟩)), (10, .int .i64 (0)), (16, .bool false), (61, .bool false)] ⟨by kernel_rfl, by kernel_rfl, by kernel_rfl, by kernel_rfl, by kernel_rfl, by kernel_rfl, by kernel_rfl, by kernel_rfl, by kernel_rfl, by kernel_rfl, trivial⟩ ?_
    refine at_then_normal ?_
    refine at_false (t := false) (x := C3 [1, 1, 1, 1, 1, 1, 1, 0, 1, 0]) (y := C3 [1, 1, 1, 1, 1, 1, 1, 0, 1, 1]) (o := .tmp 61) (by kernel_rfl) (by kernel_rfl) (by kernel_rfl) rfl ?_
    refine at_skip (by kernel_rfl) ?_
    refine at_then_normal ?_
    refine at_seq (x := C3 [1, 1, 1, 1, 1, 1, 1, 1, 0]) (y := C3 [1, 1, 1, 1, 1, 1, 1, 1, 1]) (by kernel_rfl) ?_
    refine at_seq (x := C3 [1, 1, 1, 1, 1, 1, 1, 1, 0, 0]) (y := C3 [1, 1, 1, 1, 1, 1, 1, 1, 0, 1]) (by kernel_rfl) ?_
    refine at_region (id := 10) 4 (by kernel_rfl) (by kernel_rfl) ?_
    refine s_pure 62 (.pointer (some ⟨b4, 8, none⟩)) (by kernel_rfl) (by kernel_rfl) (fun _ => by kernel_rfl) ?_
    refine s_load 63 (.slice none 0 0) (by kernel_rfl) (by kernel_rfl) (load1 (off := 8) (fun _ => by kernel_rfl) (holds_own .here) (by kernel_rfl)) ?_
    refine s_pure 64 (.int .i64 (0)) (by kernel_rfl) (by kernel_rfl) (fun _ => by kernel_rfl) ?_
    refine s_pure 65 (.int .i64 (0)) (by kernel_rfl) (by kernel_rfl) (fun _ => by kernel_rfl) ?_
    refine ops_end ?_
    refine At.env [(0, .slice a2 (m1 + 1) c2), (1, .int .i64 which), (2, .int .i64 ptr), (6, .bool false), (7, .pointer (some ⟨b1, 0, none⟩)), (8, .int .i64 (4)), (9, .pointer (some ⟨b4, 0, none⟩)), (10, .int .i64 (0)), (16, .bool false), (61, .bool false), (64, .int .i64 (0)), (65, .int .i64 (0))] ⟨by kernel_rfl, by kernel_rfl, by kernel_rfl, by kernel_rfl, by kernel_rfl, by kernel_rfl, by kernel_rfl, by kernel_rfl, by kernel_rfl, by kernel_rfl, by kernel_rfl, by kernel_rfl, trivial⟩ ?_
    refine at_then_normal ?_
    refine at_block (i := 0) (x := C3 [1, 1, 1, 1, 1, 1, 1, 1, 0, 1, 0]) (by kernel_rfl) ?_
    refine at_unroll (x := C3 [1, 1, 1, 1, 1, 1, 1, 1, 0, 1, 0, 0]) 2 (by kernel_rfl) ?_
    refine at_rounds ?_
    refine at_seq (x := C3 [1, 1, 1, 1, 1, 1, 1, 1, 0, 1, 0, 0, 0]) (y := C3 [1, 1, 1, 1, 1, 1, 1, 1, 0, 1, 0, 0, 1]) (by kernel_rfl) ?_
    refine at_region (id := 11) 1 (by kernel_rfl) (by kernel_rfl) ?_
    refine s_pure 66 (.bool false) (by kernel_rfl) (by kernel_rfl) (fun _ => by kernel_rfl) ?_
    refine ops_end ?_
    refine At.env [(0, .slice a2 (m1 + 1) c2), (1, .int .i64 which), (2, .int .i64 ptr), (6, .bool false), (7, .pointer (some ⟨b1, 0, none⟩)), (8, .int .i64 (4)), (9, .pointer (some ⟨b4, 0, none⟩)), (10, .int .i64 (0)), (16, .bool false), (61, .bool false), (64, .int .i64 (0)), (65, .int .i64 (0)), (66, .bool false)] ⟨by kernel_rfl, by kernel_rfl, by kernel_rfl, by kernel_rfl, by kernel_rfl, by kernel_rfl, by kernel_rfl, by kernel_rfl, by kernel_rfl, by kernel_rfl, by kernel_rfl, by kernel_rfl, by kernel_rfl, trivial⟩ ?_
    refine at_then_normal ?_
    refine at_seq (x := C3 [1, 1, 1, 1, 1, 1, 1, 1, 0, 1, 0, 0, 1, 0]) (y := C3 [1, 1, 1, 1, 1, 1, 1, 1, 0, 1, 0, 0, 1, 1]) (by kernel_rfl) ?_
    refine at_false (t := false) (x := C3 [1, 1, 1, 1, 1, 1, 1, 1, 0, 1, 0, 0, 1, 0, 0]) (y := C3 [1, 1, 1, 1, 1, 1, 1, 1, 0, 1, 0, 0, 1, 0, 1]) (o := .tmp 66) (by kernel_rfl) (by kernel_rfl) (by kernel_rfl) rfl ?_
    refine at_exit (i := 0) (by kernel_rfl) ?_
    refine at_then_exit ?_
    refine at_then_exit ?_
    refine at_in_here ?_
    refine at_then_normal ?_
    refine at_seq (x := C3 [1, 1, 1, 1, 1, 1, 1, 1, 1, 0]) (y := C3 [1, 1, 1, 1, 1, 1, 1, 1, 1, 1]) (by kernel_rfl) ?_
    refine at_region (id := 15) 8 (by kernel_rfl) (by kernel_rfl) ?_
    refine s_pure 77 (.pointer (some ⟨b1, 0, none⟩)) (by kernel_rfl) (by kernel_rfl) (fun _ => by kernel_rfl) ?_
    refine At.conv (fun w hw => hw.less (.take (.there .here) (.take .here (.take .here (.take .here (.take .here (.take .here .refl))))))) ?_
    refine s_call 78 20 #[.pointer (some ⟨b1, 0, none⟩), .int .i64 (4)] (by kernel_rfl) (by kernel_rfl) (fun _ => by kernel_rfl) (Find_some b1 (⟨[(⟨(ptr % 6), ((-1)), (4), (1), true, ((xs.take 3) ++ ([1] : List Int))⟩ : Ent)], 1, 1, 1⟩ : CacheS) (4) (by simp) (by intro x hx; simp only [List.mem_cons, List.not_mem_nil, or_false] at hx; rcases hx with rfl <;> first | exact Nat.le_of_lt (by decide) | (simp; done) | (simp; omega) | exact Nat.le_trans hl1 (by decide)) 0 (⟨(ptr % 6), ((-1)), (4), (1), true, ((xs.take 3) ++ ([1] : List Int))⟩ : Ent) (by simp [idx, List.findIdx?_cons]) rfl) ?_
    rintro _ _ ⟨a4, c4, rfl, rfl⟩
    refine At.conv (Γ' := [IntsA a4 c4 ((xs.take 3) ++ ([1] : List Int)), CacheA b1 (⟨[(⟨(ptr % 6), ((-1)), (4), (1), true, ((xs.take 3) ++ ([1] : List Int))⟩ : Ent)], 1, 1, 1⟩ : CacheS), Asn.own b4 (.cells #[.int .i64 (8), .int .i64 (0), .int .i64 (0), .int .i64 (0), .int .i64 (4), .int .i64 (0), .int .i64 (0), .bool false, .slice none 0 0] 35 (0, 0)), Asn.own b3 (.cells #[.int .i64 (4), .int .i64 (5), .int .i64 (3)] 3 (0, 0)), IntsA a3 c3 ((xs.take 3) ++ ([1] : List Int)), IntsA a2 c2 ((xs.take 3) ++ ([1] : List Int)), Asn.own b2 (.cells #[.int .i64 (1)] 3 (0, 0))]) (fun w hw => hw) ?_
    refine s_pure 76 (.tuple #[.agg #[.int .i64 (ptr % 6), .int .i64 (-1), .int .i64 (4), .int .i64 (1), .bool true, .slice a4 (((xs.take 3) ++ ([1] : List Int)).length) c4], .bool true]) (by kernel_rfl) (by kernel_rfl) (fun _ => by kernel_rfl) ?_
    refine s_pure 79 (.agg #[.int .i64 (ptr % 6), .int .i64 (-1), .int .i64 (4), .int .i64 (1), .bool true, .slice a4 (((xs.take 3) ++ ([1] : List Int)).length) c4]) (by kernel_rfl) (by kernel_rfl) (fun _ => by kernel_rfl) ?_
    refine s_pure 80 (.bool true) (by kernel_rfl) (by kernel_rfl) (fun _ => by kernel_rfl) ?_
    refine s_step 12 (by kernel_rfl) (by kernel_rfl) (st_new (T := 31) (cells := #[.int .i64 (0), .int .i64 (0), .int .i64 (0), .int .i64 (0), .bool false, .slice none 0 0]) (fun a => .pointer (some a)) (fun _ => by kernel_rfl)) ?_
    rintro _ _ ⟨b5, rfl, rfl⟩
    refine s_do (by kernel_rfl) (by kernel_rfl) (st_store (off := 0) (vs := [.int .i64 (ptr % 6), .int .i64 (-1), .int .i64 (4), .int .i64 (1), .bool true, .slice a4 (((xs.take 3) ++ ([1] : List Int)).length) c4]) (c' := #[.int .i64 (ptr % 6), .int .i64 (-1), .int .i64 (4), .int .i64 (1), .bool true, .slice a4 (((xs.take 3) ++ ([1] : List Int)).length) c4]) (fun _ => by kernel_rfl) .here (by kernel_rfl) (by kernel_rfl) (by kernel_rfl)) ?_
    rintro _ _ ⟨rfl, rfl⟩
    refine s_pure 13 (.bool true) (by kernel_rfl) (by kernel_rfl) (fun _ => by kernel_rfl) ?_
    refine ops_end ?_
    refine At.env [(0, .slice a2 (m1 + 1) c2), (1, .int .i64 which), (2, .int .i64 ptr), (6, .bool false), (7, .pointer (some ⟨b1, 0, none⟩)), (8, .int .i64 (4)), (9, .pointer (some ⟨b4, 0, none⟩)), (10, .int .i64 (0)), (12, .pointer (some ⟨b5, 0, none⟩)), (13, .bool true), (16, .bool false), (61, .bool false), (64, .int .i64 (0)), (65, .int .i64 (0)), (66, .bool false)] ⟨by kernel_rfl, by kernel_rfl, by kernel_rfl, by kernel_rfl, by kernel_rfl, by kernel_rfl, by kernel_rfl, by kernel_rfl, by kernel_rfl, by kernel_rfl, by kernel_rfl, by kernel_rfl, by kernel_rfl, by kernel_rfl, by kernel_rfl, trivial⟩ ?_
    refine at_then_normal ?_
    refine at_seq (x := C3 [1, 1, 1, 1, 1, 1, 1, 1, 1, 1, 0]) (y := C3 [1, 1, 1, 1, 1, 1, 1, 1, 1, 1, 1]) (by kernel_rfl) ?_
    refine at_region (id := 16) 23 (by kernel_rfl) (by kernel_rfl) ?_
    refine s_pure 81 (.bool true) (by kernel_rfl) (by kernel_rfl) (fun _ => by kernel_rfl) ?_
    refine s_pure 82 (.bool true) (by kernel_rfl) (by kernel_rfl) (fun _ => by kernel_rfl) ?_
    refine s_pure 83 (.pointer (some ⟨b5, 5, none⟩)) (by kernel_rfl) (by kernel_rfl) (fun _ => by kernel_rfl) ?_
    refine s_load 84 (.slice a4 (((xs.take 3) ++ ([1] : List Int)).length) c4) (by kernel_rfl) (by kernel_rfl) (load1 (off := 5) (fun _ => by kernel_rfl) (holds_own .here) (by kernel_rfl)) ?_
    refine s_pure 85 (.slice a2 (m1 + 1) c2) (by kernel_rfl) (by kernel_rfl) (fun _ => by kernel_rfl) ?_
    refine s_quiet 86 (.bool true) 19 #[.slice a4 (((xs.take 3) ++ ([1] : List Int)).length) c4, .slice a2 (m1 + 1) c2] (by kernel_rfl) (by kernel_rfl) (fun _ => by kernel_rfl) (KSame_tr a4 (((xs.take 3) ++ ([1] : List Int)).length) c4 a2 (m1 + 1) c2 ((xs.take 3) ++ ([1] : List Int)) (by first | rfl | exact hm | omega | (simp only [List.length_append, List.length_cons, List.length_nil]; omega)) (by first | rfl | exact hm | omega | (simp only [List.length_append, List.length_cons, List.length_nil]; omega)) (RowsA.reads (k := 1) (.there .here)) (RowsA.reads (k := 1) (.there (.there (.there (.there (.there (.there .here))))))) (by first | omega | (simp only [List.length_append, List.length_take, List.length_cons, List.length_nil]; omega))) ?_
    refine s_pure 87 (.bool true) (by kernel_rfl) (by kernel_rfl) (fun _ => by kernel_rfl) ?_
    refine s_pure 88 (.bool true) (by kernel_rfl) (by kernel_rfl) (fun _ => by kernel_rfl) ?_
    refine s_pure 89 (.pointer (some ⟨b5, 4, none⟩)) (by kernel_rfl) (by kernel_rfl) (fun _ => by kernel_rfl) ?_
    refine s_load 90 (.bool true) (by kernel_rfl) (by kernel_rfl) (load1 (off := 4) (fun _ => by kernel_rfl) (holds_own .here) (by kernel_rfl)) ?_
    refine s_pure 91 (.int .i64 (4)) (by kernel_rfl) (by kernel_rfl) (fun _ => by kernel_rfl) ?_
    refine s_pure 92 (.bool true) (by kernel_rfl) (by kernel_rfl) (fun _ => by kernel_rfl) ?_
    refine s_pure 93 (.bool true) (by kernel_rfl) (by kernel_rfl) (fun _ => by kernel_rfl) ?_
    refine s_pure 94 (.bool true) (by kernel_rfl) (by kernel_rfl) (fun _ => by kernel_rfl) ?_
    refine s_pure 95 (.bool true) (by kernel_rfl) (by kernel_rfl) (fun _ => by kernel_rfl) ?_
    refine s_pure 96 (.pointer (some ⟨b5, 3, none⟩)) (by kernel_rfl) (by kernel_rfl) (fun _ => by kernel_rfl) ?_
    refine s_load 97 (.int .i64 (1)) (by kernel_rfl) (by kernel_rfl) (load1 (off := 3) (fun _ => by kernel_rfl) (holds_own .here) (by kernel_rfl)) ?_
    refine s_pure 98 (.bool true) (by kernel_rfl) (by kernel_rfl) (fun _ => by kernel_rfl) ?_
    refine s_pure 99 (.bool true) (by kernel_rfl) (by kernel_rfl) (fun _ => by kernel_rfl) ?_
    refine s_pure 100 (.bool true) (by kernel_rfl) (by kernel_rfl) (fun _ => by kernel_rfl) ?_
    refine s_quiet 101 (.bool true) 21 #[] (by kernel_rfl) (by kernel_rfl) (fun _ => by kernel_rfl) Wakes_tr ?_
    refine s_pure 102 (.bool true) (by kernel_rfl) (by kernel_rfl) (fun _ => by kernel_rfl) ?_
    refine s_pure 6 (.bool true) (by kernel_rfl) (by kernel_rfl) (fun _ => by kernel_rfl) ?_
    refine ops_end ?_
    refine At.env [(0, .slice a2 (m1 + 1) c2), (1, .int .i64 which), (2, .int .i64 ptr), (6, .bool true), (7, .pointer (some ⟨b1, 0, none⟩)), (8, .int .i64 (4)), (9, .pointer (some ⟨b4, 0, none⟩)), (10, .int .i64 (0)), (12, .pointer (some ⟨b5, 0, none⟩)), (13, .bool true), (16, .bool false), (61, .bool false), (64, .int .i64 (0)), (65, .int .i64 (0)), (66, .bool false)] ⟨by kernel_rfl, by kernel_rfl, by kernel_rfl, by kernel_rfl, by kernel_rfl, by kernel_rfl, by kernel_rfl, by kernel_rfl, by kernel_rfl, by kernel_rfl, by kernel_rfl, by kernel_rfl, by kernel_rfl, by kernel_rfl, by kernel_rfl, trivial⟩ ?_
    refine at_then_normal ?_
    refine at_ret (by kernel_rfl) ?_
    refine at_backR [.bool true] [] (rs := [.tmp 6]) (by kernel_rfl) (.cons (.tmp (by kernel_rfl)) .nil) (fun w hw => hw.less (.drop .here (.drop .here (.drop .here (.drop .here (.drop .here (.drop .here (.drop .here (.drop .here .refl))))))))) rfl
  · refine s_pure 28 (.pointer (some ⟨b3, 1, none⟩)) (by kernel_rfl) (by kernel_rfl) (fun _ => by kernel_rfl) ?_
    refine s_load 29 (.int .i64 (5)) (by kernel_rfl) (by kernel_rfl) (load1 (off := 1) (fun _ => by kernel_rfl) (holds_own .here) (by kernel_rfl)) ?_
    refine s_pure 8 (.int .i64 (5)) (by kernel_rfl) (by kernel_rfl) (fun _ => by kernel_rfl) ?_
    refine ops_end ?_
    refine At.env [(0, .slice a2 (m1 + 1) c2), (1, .int .i64 which), (2, .int .i64 ptr), (6, .bool false), (7, .pointer (some ⟨b1, 0, none⟩)), (8, .int .i64 (5)), (16, .bool false)] ⟨by kernel_rfl, by kernel_rfl, by kernel_rfl, by kernel_rfl, by kernel_rfl, by kernel_rfl, by kernel_rfl, trivial⟩ ?_
    refine at_then_normal ?_
    refine at_seq (x := C3 [1, 1, 1, 1, 1, 1, 0]) (y := C3 [1, 1, 1, 1, 1, 1, 1]) (by kernel_rfl) ?_
    refine at_region (id := 7) 12 (by kernel_rfl) (by kernel_rfl) ?_
    refine s_pure 31 (.pointer (some ⟨b1, 0, none⟩)) (by kernel_rfl) (by kernel_rfl) (fun _ => by kernel_rfl) ?_
    refine s_pure 32 (.int .i64 (5)) (by kernel_rfl) (by kernel_rfl) (fun _ => by kernel_rfl) ?_
    refine s_pure 33 (.int .i64 ptr) (by kernel_rfl) (by kernel_rfl) (fun _ => by kernel_rfl) ?_
    refine s_quiet 34 (.int .i64 (ptr % 6)) 17 #[.int .i64 ptr, .int .i64 (6)] (by kernel_rfl) (by kernel_rfl) (fun _ => by kernel_rfl) (Within_tr (ptr) (6) (by omega) (by omega)) ?_
    refine s_pure 35 (.agg #[.int .i64 (5), .int .i64 (0), .int .i64 (0), .int .i64 (0), .int .i64 (4), .int .i64 (ptr % 6), .int .i64 (0), .bool false, .slice none 0 0]) (by kernel_rfl) (by kernel_rfl) (fun _ => by kernel_rfl) ?_
    refine At.conv (fun w hw => hw.less (.take (.there .here) (.take .here (.take .here (.take .here (.take .here .refl)))))) ?_
    refine s_call 36 18 #[.pointer (some ⟨b1, 0, none⟩), .agg #[.int .i64 (5), .int .i64 (0), .int .i64 (0), .int .i64 (0), .int .i64 (4), .int .i64 (ptr % 6), .int .i64 (0), .bool false, .slice none 0 0]] (by kernel_rfl) (by kernel_rfl) (fun _ => by kernel_rfl) (Handle_back b1 (⟨[(⟨((-1)), ((-1)), (4), (1), true, ((xs.take 3) ++ ([1] : List Int))⟩ : Ent)], 1, 1, 1⟩ : CacheS) (0) (0) (0) (4) (ptr % 6) (0) false none 0 0 (by omega) (by omega) (by omega) (by omega) (by omega) (by omega) (by omega) (by simp) (by simp) (by intro x hx; simp only [List.mem_cons, List.not_mem_nil, or_false] at hx; rcases hx with rfl <;> first | exact Nat.le_of_lt (by decide) | (simp; done) | (simp; omega) | exact Nat.le_trans hl1 (by decide)) 0 (⟨((-1)), ((-1)), (4), (1), true, ((xs.take 3) ++ ([1] : List Int))⟩ : Ent) (by simp [idx, List.findIdx?_cons]) rfl rfl) ?_
    rintro _ _ ⟨rfl, rfl⟩
    refine At.conv (Γ' := [CacheA b1 (⟨[(⟨((-1)), (ptr % 6), (4), (1), true, ((xs.take 3) ++ ([1] : List Int))⟩ : Ent)], 1, 1, 1⟩ : CacheS), Asn.own b3 (.cells #[.int .i64 (4), .int .i64 (5), .int .i64 (3)] 3 (0, 0)), IntsA a3 c3 ((xs.take 3) ++ ([1] : List Int)), IntsA a2 c2 ((xs.take 3) ++ ([1] : List Int)), Asn.own b2 (.cells #[.int .i64 (1)] 3 (0, 0))]) (fun w hw => hw) ?_
    refine s_pure 30 (.tuple #[.agg #[.int .i64 (8), .int .i64 (0), .int .i64 (0), .int .i64 (0), .int .i64 (4), .int .i64 (0), .int .i64 (0), .bool false, .slice none 0 0], .int .i64 (0)]) (by kernel_rfl) (by kernel_rfl) (fun _ => by kernel_rfl) ?_
    refine s_pure 37 (.agg #[.int .i64 (8), .int .i64 (0), .int .i64 (0), .int .i64 (0), .int .i64 (4), .int .i64 (0), .int .i64 (0), .bool false, .slice none 0 0]) (by kernel_rfl) (by kernel_rfl) (fun _ => by kernel_rfl) ?_
    refine s_pure 38 (.int .i64 (0)) (by kernel_rfl) (by kernel_rfl) (fun _ => by kernel_rfl) ?_
    refine s_step 9 (by kernel_rfl) (by kernel_rfl) (st_new (T := 35) (cells := #[.int .i64 (0), .int .i64 (0), .int .i64 (0), .int .i64 (0), .int .i64 (0), .int .i64 (0), .int .i64 (0), .bool false, .slice none 0 0]) (fun a => .pointer (some a)) (fun _ => by kernel_rfl)) ?_
    rintro _ _ ⟨b6, rfl, rfl⟩
    refine s_do (by kernel_rfl) (by kernel_rfl) (st_store (off := 0) (vs := [.int .i64 (8), .int .i64 (0), .int .i64 (0), .int .i64 (0), .int .i64 (4), .int .i64 (0), .int .i64 (0), .bool false, .slice none 0 0]) (c' := #[.int .i64 (8), .int .i64 (0), .int .i64 (0), .int .i64 (0), .int .i64 (4), .int .i64 (0), .int .i64 (0), .bool false, .slice none 0 0]) (fun _ => by kernel_rfl) .here (by kernel_rfl) (by kernel_rfl) (by kernel_rfl)) ?_
    rintro _ _ ⟨rfl, rfl⟩
    refine s_pure 10 (.int .i64 (0)) (by kernel_rfl) (by kernel_rfl) (fun _ => by kernel_rfl) ?_
    refine ops_end ?_
    refine At.env [(0, .slice a2 (m1 + 1) c2), (1, .int .i64 which), (2, .int .i64 ptr), (6, .bool false), (7, .pointer (some ⟨b1, 0, none⟩)), (8, .int .i64 (5)), (9, .pointer (some ⟨b6, 0, none⟩)), (10, .int .i64 (0)), (16, .bool false)] ⟨by kernel_rfl, by kernel_rfl, by kernel_rfl, by kernel_rfl, by kernel_rfl, by kernel_rfl, by kernel_rfl, by kernel_rfl, by kernel_rfl, trivial⟩ ?_
    refine at_then_normal ?_
    refine at_seq (x := C3 [1, 1, 1, 1, 1, 1, 1, 0]) (y := C3 [1, 1, 1, 1, 1, 1, 1, 1]) (by kernel_rfl) ?_
    refine at_seq (x := C3 [1, 1, 1, 1, 1, 1, 1, 0, 0]) (y := C3 [1, 1, 1, 1, 1, 1, 1, 0, 1]) (by kernel_rfl) ?_
    refine at_region (id := 8) 23 (by kernel_rfl) (by kernel_rfl) ?_
    refine s_pure 39 (.int .i64 (0)) (by kernel_rfl) (by kernel_rfl) (fun _ => by kernel_rfl) ?_
    refine s_pure 40 (.bool false) (by kernel_rfl) (by kernel_rfl) (fun _ => by kernel_rfl) ?_
    refine s_pure 41 (.bool false) (by kernel_rfl) (by kernel_rfl) (fun _ => by kernel_rfl) ?_
    refine s_pure 42 (.int .i64 (5)) (by kernel_rfl) (by kernel_rfl) (fun _ => by kernel_rfl) ?_
    refine s_pure 43 (.bool false) (by kernel_rfl) (by kernel_rfl) (fun _ => by kernel_rfl) ?_
    refine s_pure 44 (.bool false) (by kernel_rfl) (by kernel_rfl) (fun _ => by kernel_rfl) ?_
    refine s_pass 45 (by kernel_rfl) (by kernel_rfl) ?_
    refine s_pass 46 (by kernel_rfl) (by kernel_rfl) ?_
    refine s_pass 47 (by kernel_rfl) (by kernel_rfl) ?_
    refine s_pass 48 (by kernel_rfl) (by kernel_rfl) ?_
    refine s_pass 49 (by kernel_rfl) (by kernel_rfl) ?_
    refine s_pure 50 (.bool false) (by kernel_rfl) (by kernel_rfl) (fun _ => by kernel_rfl) ?_
    refine s_pure 51 (.bool false) (by kernel_rfl) (by kernel_rfl) (fun _ => by kernel_rfl) ?_
    refine s_pure 52 (.bool false) (by kernel_rfl) (by kernel_rfl) (fun _ => by kernel_rfl) ?_
    refine s_pure 53 (.int .i64 (5)) (by kernel_rfl) (by kernel_rfl) (fun _ => by kernel_rfl) ?_
    refine s_pure 54 (.bool true) (by kernel_rfl) (by kernel_rfl) (fun _ => by kernel_rfl) ?_
    refine s_pure 55 (.bool true) (by kernel_rfl) (by kernel_rfl) (fun _ => by kernel_rfl) ?_
    refine s_pure 56 (.pointer (some ⟨b6, 8, none⟩)) (by kernel_rfl) (by kernel_rfl) (fun _ => by kernel_rfl) ?_
    refine s_load 57 (.slice none 0 0) (by kernel_rfl) (by kernel_rfl) (load1 (off := 8) (fun _ => by kernel_rfl) (holds_own .here) (by kernel_rfl)) ?_
    refine s_pure 58 (.int .i64 (0)) (by kernel_rfl) (by kernel_rfl) (fun _ => by kernel_rfl) ?_
    refine s_pure 59 (.bool false) (by kernel_rfl) (by kernel_rfl) (fun _ => by kernel_rfl) ?_
    refine s_pure 60 (.bool false) (by kernel_rfl) (by kernel_rfl) (fun _ => by kernel_rfl) ?_
    refine s_pure 61 (.bool false) (by kernel_rfl) (by kernel_rfl) (fun _ => by kernel_rfl) ?_
    refine ops_end ?_
    refine At.env [(0, .slice a2 (m1 + 1) c2), (1, .int .i64 which), (2, .int .i64 ptr), (6, .bool false), (7, .pointer (some ⟨b1, 0, none⟩)), (8, .int .i64 (5)), (9, .pointer (some ⟨b6, 0, none⟩)), (10, .int .i64 (0)), (16, .bool false), (61, .bool false)] ⟨by kernel_rfl, by kernel_rfl, by kernel_rfl, by kernel_rfl, by kernel_rfl, by kernel_rfl, by kernel_rfl, by kernel_rfl, by kernel_rfl, by kernel_rfl, trivial⟩ ?_
    refine at_then_normal ?_
    refine at_false (t := false) (x := C3 [1, 1, 1, 1, 1, 1, 1, 0, 1, 0]) (y := C3 [1, 1, 1, 1, 1, 1, 1, 0, 1, 1]) (o := .tmp 61) (by kernel_rfl) (by kernel_rfl) (by kernel_rfl) rfl ?_
    refine at_skip (by kernel_rfl) ?_
    refine at_then_normal ?_
    refine at_seq (x := C3 [1, 1, 1, 1, 1, 1, 1, 1, 0]) (y := C3 [1, 1, 1, 1, 1, 1, 1, 1, 1]) (by kernel_rfl) ?_
    refine at_seq (x := C3 [1, 1, 1, 1, 1, 1, 1, 1, 0, 0]) (y := C3 [1, 1, 1, 1, 1, 1, 1, 1, 0, 1]) (by kernel_rfl) ?_
    refine at_region (id := 10) 4 (by kernel_rfl) (by kernel_rfl) ?_
    refine s_pure 62 (.pointer (some ⟨b6, 8, none⟩)) (by kernel_rfl) (by kernel_rfl) (fun _ => by kernel_rfl) ?_
    refine s_load 63 (.slice none 0 0) (by kernel_rfl) (by kernel_rfl) (load1 (off := 8) (fun _ => by kernel_rfl) (holds_own .here) (by kernel_rfl)) ?_
    refine s_pure 64 (.int .i64 (0)) (by kernel_rfl) (by kernel_rfl) (fun _ => by kernel_rfl) ?_
    refine s_pure 65 (.int .i64 (0)) (by kernel_rfl) (by kernel_rfl) (fun _ => by kernel_rfl) ?_
    refine ops_end ?_
    refine At.env [(0, .slice a2 (m1 + 1) c2), (1, .int .i64 which), (2, .int .i64 ptr), (6, .bool false), (7, .pointer (some ⟨b1, 0, none⟩)), (8, .int .i64 (5)), (9, .pointer (some ⟨b6, 0, none⟩)), (10, .int .i64 (0)), (16, .bool false), (61, .bool false), (64, .int .i64 (0)), (65, .int .i64 (0))] ⟨by kernel_rfl, by kernel_rfl, by kernel_rfl, by kernel_rfl, by kernel_rfl, by kernel_rfl, by kernel_rfl, by kernel_rfl, by kernel_rfl, by kernel_rfl, by kernel_rfl, by kernel_rfl, trivial⟩ ?_
    refine at_then_normal ?_
    refine at_block (i := 0) (x := C3 [1, 1, 1, 1, 1, 1, 1, 1, 0, 1, 0]) (by kernel_rfl) ?_
    refine at_unroll (x := C3 [1, 1, 1, 1, 1, 1, 1, 1, 0, 1, 0, 0]) 2 (by kernel_rfl) ?_
    refine at_rounds ?_
    refine at_seq (x := C3 [1, 1, 1, 1, 1, 1, 1, 1, 0, 1, 0, 0, 0]) (y := C3 [1, 1, 1, 1, 1, 1, 1, 1, 0, 1, 0, 0, 1]) (by kernel_rfl) ?_
    refine at_region (id := 11) 1 (by kernel_rfl) (by kernel_rfl) ?_
    refine s_pure 66 (.bool false) (by kernel_rfl) (by kernel_rfl) (fun _ => by kernel_rfl) ?_
    refine ops_end ?_
    refine At.env [(0, .slice a2 (m1 + 1) c2), (1, .int .i64 which), (2, .int .i64 ptr), (6, .bool false), (7, .pointer (some ⟨b1, 0, none⟩)), (8, .int .i64 (5)), (9, .pointer (some ⟨b6, 0, none⟩)), (10, .int .i64 (0)), (16, .bool false), (61, .bool false), (64, .int .i64 (0)), (65, .int .i64 (0)), (66, .bool false)] ⟨by kernel_rfl, by kernel_rfl, by kernel_rfl, by kernel_rfl, by kernel_rfl, by kernel_rfl, by kernel_rfl, by kernel_rfl, by kernel_rfl, by kernel_rfl, by kernel_rfl, by kernel_rfl, by kernel_rfl, trivial⟩ ?_
    refine at_then_normal ?_
    refine at_seq (x := C3 [1, 1, 1, 1, 1, 1, 1, 1, 0, 1, 0, 0, 1, 0]) (y := C3 [1, 1, 1, 1, 1, 1, 1, 1, 0, 1, 0, 0, 1, 1]) (by kernel_rfl) ?_
    refine at_false (t := false) (x := C3 [1, 1, 1, 1, 1, 1, 1, 1, 0, 1, 0, 0, 1, 0, 0]) (y := C3 [1, 1, 1, 1, 1, 1, 1, 1, 0, 1, 0, 0, 1, 0, 1]) (o := .tmp 66) (by kernel_rfl) (by kernel_rfl) (by kernel_rfl) rfl ?_
    refine at_exit (i := 0) (by kernel_rfl) ?_
    refine at_then_exit ?_
    refine at_then_exit ?_
    refine at_in_here ?_
    refine at_then_normal ?_
    refine at_seq (x := C3 [1, 1, 1, 1, 1, 1, 1, 1, 1, 0]) (y := C3 [1, 1, 1, 1, 1, 1, 1, 1, 1, 1]) (by kernel_rfl) ?_
    refine at_region (id := 15) 8 (by kernel_rfl) (by kernel_rfl) ?_
    refine s_pure 77 (.pointer (some ⟨b1, 0, none⟩)) (by kernel_rfl) (by kernel_rfl) (fun _ => by kernel_rfl) ?_
    refine At.conv (fun w hw => hw.less (.take (.there .here) (.take .here (.take .here (.take .here (.take .here (.take .here .refl))))))) ?_
    refine s_call 78 20 #[.pointer (some ⟨b1, 0, none⟩), .int .i64 (4)] (by kernel_rfl) (by kernel_rfl) (fun _ => by kernel_rfl) (Find_some b1 (⟨[(⟨((-1)), (ptr % 6), (4), (1), true, ((xs.take 3) ++ ([1] : List Int))⟩ : Ent)], 1, 1, 1⟩ : CacheS) (4) (by simp) (by intro x hx; simp only [List.mem_cons, List.not_mem_nil, or_false] at hx; rcases hx with rfl <;> first | exact Nat.le_of_lt (by decide) | (simp; done) | (simp; omega) | exact Nat.le_trans hl1 (by decide)) 0 (⟨((-1)), (ptr % 6), (4), (1), true, ((xs.take 3) ++ ([1] : List Int))⟩ : Ent) (by simp [idx, List.findIdx?_cons]) rfl) ?_
    rintro _ _ ⟨a5, c5, rfl, rfl⟩
    refine At.conv (Γ' := [IntsA a5 c5 ((xs.take 3) ++ ([1] : List Int)), CacheA b1 (⟨[(⟨((-1)), (ptr % 6), (4), (1), true, ((xs.take 3) ++ ([1] : List Int))⟩ : Ent)], 1, 1, 1⟩ : CacheS), Asn.own b6 (.cells #[.int .i64 (8), .int .i64 (0), .int .i64 (0), .int .i64 (0), .int .i64 (4), .int .i64 (0), .int .i64 (0), .bool false, .slice none 0 0] 35 (0, 0)), Asn.own b3 (.cells #[.int .i64 (4), .int .i64 (5), .int .i64 (3)] 3 (0, 0)), IntsA a3 c3 ((xs.take 3) ++ ([1] : List Int)), IntsA a2 c2 ((xs.take 3) ++ ([1] : List Int)), Asn.own b2 (.cells #[.int .i64 (1)] 3 (0, 0))]) (fun w hw => hw) ?_
    refine s_pure 76 (.tuple #[.agg #[.int .i64 (-1), .int .i64 (ptr % 6), .int .i64 (4), .int .i64 (1), .bool true, .slice a5 (((xs.take 3) ++ ([1] : List Int)).length) c5], .bool true]) (by kernel_rfl) (by kernel_rfl) (fun _ => by kernel_rfl) ?_
    refine s_pure 79 (.agg #[.int .i64 (-1), .int .i64 (ptr % 6), .int .i64 (4), .int .i64 (1), .bool true, .slice a5 (((xs.take 3) ++ ([1] : List Int)).length) c5]) (by kernel_rfl) (by kernel_rfl) (fun _ => by kernel_rfl) ?_
    refine s_pure 80 (.bool true) (by kernel_rfl) (by kernel_rfl) (fun _ => by kernel_rfl) ?_
    refine s_step 12 (by kernel_rfl) (by kernel_rfl) (st_new (T := 31) (cells := #[.int .i64 (0), .int .i64 (0), .int .i64 (0), .int .i64 (0), .bool false, .slice none 0 0]) (fun a => .pointer (some a)) (fun _ => by kernel_rfl)) ?_
    rintro _ _ ⟨b7, rfl, rfl⟩
    refine s_do (by kernel_rfl) (by kernel_rfl) (st_store (off := 0) (vs := [.int .i64 (-1), .int .i64 (ptr % 6), .int .i64 (4), .int .i64 (1), .bool true, .slice a5 (((xs.take 3) ++ ([1] : List Int)).length) c5]) (c' := #[.int .i64 (-1), .int .i64 (ptr % 6), .int .i64 (4), .int .i64 (1), .bool true, .slice a5 (((xs.take 3) ++ ([1] : List Int)).length) c5]) (fun _ => by kernel_rfl) .here (by kernel_rfl) (by kernel_rfl) (by kernel_rfl)) ?_
    rintro _ _ ⟨rfl, rfl⟩
    refine s_pure 13 (.bool true) (by kernel_rfl) (by kernel_rfl) (fun _ => by kernel_rfl) ?_
    refine ops_end ?_
    refine At.env [(0, .slice a2 (m1 + 1) c2), (1, .int .i64 which), (2, .int .i64 ptr), (6, .bool false), (7, .pointer (some ⟨b1, 0, none⟩)), (8, .int .i64 (5)), (9, .pointer (some ⟨b6, 0, none⟩)), (10, .int .i64 (0)), (12, .pointer (some ⟨b7, 0, none⟩)), (13, .bool true), (16, .bool false), (61, .bool false), (64, .int .i64 (0)), (65, .int .i64 (0)), (66, .bool false)] ⟨by kernel_rfl, by kernel_rfl, by kernel_rfl, by kernel_rfl, by kernel_rfl, by kernel_rfl, by kernel_rfl, by kernel_rfl, by kernel_rfl, by kernel_rfl, by kernel_rfl, by kernel_rfl, by kernel_rfl, by kernel_rfl, by kernel_rfl, trivial⟩ ?_
    refine at_then_normal ?_
    refine at_seq (x := C3 [1, 1, 1, 1, 1, 1, 1, 1, 1, 1, 0]) (y := C3 [1, 1, 1, 1, 1, 1, 1, 1, 1, 1, 1]) (by kernel_rfl) ?_
    refine at_region (id := 16) 23 (by kernel_rfl) (by kernel_rfl) ?_
    refine s_pure 81 (.bool true) (by kernel_rfl) (by kernel_rfl) (fun _ => by kernel_rfl) ?_
    refine s_pure 82 (.bool true) (by kernel_rfl) (by kernel_rfl) (fun _ => by kernel_rfl) ?_
    refine s_pure 83 (.pointer (some ⟨b7, 5, none⟩)) (by kernel_rfl) (by kernel_rfl) (fun _ => by kernel_rfl) ?_
    refine s_load 84 (.slice a5 (((xs.take 3) ++ ([1] : List Int)).length) c5) (by kernel_rfl) (by kernel_rfl) (load1 (off := 5) (fun _ => by kernel_rfl) (holds_own .here) (by kernel_rfl)) ?_
    refine s_pure 85 (.slice a2 (m1 + 1) c2) (by kernel_rfl) (by kernel_rfl) (fun _ => by kernel_rfl) ?_
    refine s_quiet 86 (.bool true) 19 #[.slice a5 (((xs.take 3) ++ ([1] : List Int)).length) c5, .slice a2 (m1 + 1) c2] (by kernel_rfl) (by kernel_rfl) (fun _ => by kernel_rfl) (KSame_tr a5 (((xs.take 3) ++ ([1] : List Int)).length) c5 a2 (m1 + 1) c2 ((xs.take 3) ++ ([1] : List Int)) (by first | rfl | exact hm | omega | (simp only [List.length_append, List.length_cons, List.length_nil]; omega)) (by first | rfl | exact hm | omega | (simp only [List.length_append, List.length_cons, List.length_nil]; omega)) (RowsA.reads (k := 1) (.there .here)) (RowsA.reads (k := 1) (.there (.there (.there (.there (.there (.there .here))))))) (by first | omega | (simp only [List.length_append, List.length_take, List.length_cons, List.length_nil]; omega))) ?_
    refine s_pure 87 (.bool true) (by kernel_rfl) (by kernel_rfl) (fun _ => by kernel_rfl) ?_
    refine s_pure 88 (.bool true) (by kernel_rfl) (by kernel_rfl) (fun _ => by kernel_rfl) ?_
    refine s_pure 89 (.pointer (some ⟨b7, 4, none⟩)) (by kernel_rfl) (by kernel_rfl) (fun _ => by kernel_rfl) ?_
    refine s_load 90 (.bool true) (by kernel_rfl) (by kernel_rfl) (load1 (off := 4) (fun _ => by kernel_rfl) (holds_own .here) (by kernel_rfl)) ?_
    refine s_pure 91 (.int .i64 (5)) (by kernel_rfl) (by kernel_rfl) (fun _ => by kernel_rfl) ?_
    refine s_pure 92 (.bool true) (by kernel_rfl) (by kernel_rfl) (fun _ => by kernel_rfl) ?_
    refine s_pure 93 (.bool true) (by kernel_rfl) (by kernel_rfl) (fun _ => by kernel_rfl) ?_
    refine s_pure 94 (.bool true) (by kernel_rfl) (by kernel_rfl) (fun _ => by kernel_rfl) ?_
    refine s_pure 95 (.bool true) (by kernel_rfl) (by kernel_rfl) (fun _ => by kernel_rfl) ?_
    refine s_pure 96 (.pointer (some ⟨b7, 3, none⟩)) (by kernel_rfl) (by kernel_rfl) (fun _ => by kernel_rfl) ?_
    refine s_load 97 (.int .i64 (1)) (by kernel_rfl) (by kernel_rfl) (load1 (off := 3) (fun _ => by kernel_rfl) (holds_own .here) (by kernel_rfl)) ?_
    refine s_pure 98 (.bool true) (by kernel_rfl) (by kernel_rfl) (fun _ => by kernel_rfl) ?_
    refine s_pure 99 (.bool true) (by kernel_rfl) (by kernel_rfl) (fun _ => by kernel_rfl) ?_
    refine s_pure 100 (.bool true) (by kernel_rfl) (by kernel_rfl) (fun _ => by kernel_rfl) ?_
    refine s_quiet 101 (.bool true) 21 #[] (by kernel_rfl) (by kernel_rfl) (fun _ => by kernel_rfl) Wakes_tr ?_
    refine s_pure 102 (.bool true) (by kernel_rfl) (by kernel_rfl) (fun _ => by kernel_rfl) ?_
    refine s_pure 6 (.bool true) (by kernel_rfl) (by kernel_rfl) (fun _ => by kernel_rfl) ?_
    refine ops_end ?_
    refine At.env [(0, .slice a2 (m1 + 1) c2), (1, .int .i64 which), (2, .int .i64 ptr), (6, .bool true), (7, .pointer (some ⟨b1, 0, none⟩)), (8, .int .i64 (5)), (9, .pointer (some ⟨b6, 0, none⟩)), (10, .int .i64 (0)), (12, .pointer (some ⟨b7, 0, none⟩)), (13, .bool true), (16, .bool false), (61, .bool false), (64, .int .i64 (0)), (65, .int .i64 (0)), (66, .bool false)] ⟨by kernel_rfl, by kernel_rfl, by kernel_rfl, by kernel_rfl, by kernel_rfl, by kernel_rfl, by kernel_rfl, by kernel_rfl, by kernel_rfl, by kernel_rfl, by kernel_rfl, by kernel_rfl, by kernel_rfl, by kernel_rfl, by kernel_rfl, trivial⟩ ?_
    refine at_then_normal ?_
    refine at_ret (by kernel_rfl) ?_
    refine at_backR [.bool true] [] (rs := [.tmp 6]) (by kernel_rfl) (.cons (.tmp (by kernel_rfl)) .nil) (fun w hw => hw.less (.drop .here (.drop .here (.drop .here (.drop .here (.drop .here (.drop .here (.drop .here (.drop .here .refl))))))))) rfl
  · refine s_pure 28 (.pointer (some ⟨b3, 2, none⟩)) (by kernel_rfl) (by kernel_rfl) (fun _ => by kernel_rfl) ?_
    refine s_load 29 (.int .i64 (3)) (by kernel_rfl) (by kernel_rfl) (load1 (off := 2) (fun _ => by kernel_rfl) (holds_own .here) (by kernel_rfl)) ?_
    refine s_pure 8 (.int .i64 (3)) (by kernel_rfl) (by kernel_rfl) (fun _ => by kernel_rfl) ?_
    refine ops_end ?_
    refine At.env [(0, .slice a2 (m1 + 1) c2), (1, .int .i64 which), (2, .int .i64 ptr), (6, .bool false), (7, .pointer (some ⟨b1, 0, none⟩)), (8, .int .i64 (3)), (16, .bool false)] ⟨by kernel_rfl, by kernel_rfl, by kernel_rfl, by kernel_rfl, by kernel_rfl, by kernel_rfl, by kernel_rfl, trivial⟩ ?_
    refine at_then_normal ?_
    refine at_seq (x := C3 [1, 1, 1, 1, 1, 1, 0]) (y := C3 [1, 1, 1, 1, 1, 1, 1]) (by kernel_rfl) ?_
    refine at_region (id := 7) 12 (by kernel_rfl) (by kernel_rfl) ?_
    refine s_pure 31 (.pointer (some ⟨b1, 0, none⟩)) (by kernel_rfl) (by kernel_rfl) (fun _ => by kernel_rfl) ?_
    refine s_pure 32 (.int .i64 (3)) (by kernel_rfl) (by kernel_rfl) (fun _ => by kernel_rfl) ?_
    refine s_pure 33 (.int .i64 ptr) (by kernel_rfl) (by kernel_rfl) (fun _ => by kernel_rfl) ?_
    refine s_quiet 34 (.int .i64 (ptr % 6)) 17 #[.int .i64 ptr, .int .i64 (6)] (by kernel_rfl) (by kernel_rfl) (fun _ => by kernel_rfl) (Within_tr (ptr) (6) (by omega) (by omega)) ?_
    refine s_pure 35 (.agg #[.int .i64 (3), .int .i64 (0), .int .i64 (0), .int .i64 (0), .int .i64 (4), .int .i64 (ptr % 6), .int .i64 (0), .bool false, .slice none 0 0]) (by kernel_rfl) (by kernel_rfl) (fun _ => by kernel_rfl) ?_
    refine At.conv (fun w hw => hw.less (.take (.there .here) (.take .here (.take .here (.take .here (.take .here .refl)))))) ?_
    refine s_call 36 18 #[.pointer (some ⟨b1, 0, none⟩), .agg #[.int .i64 (3), .int .i64 (0), .int .i64 (0), .int .i64 (0), .int .i64 (4), .int .i64 (ptr % 6), .int .i64 (0), .bool false, .slice none 0 0]] (by kernel_rfl) (by kernel_rfl) (fun _ => by kernel_rfl) (Handle_attach b1 (⟨[(⟨((-1)), ((-1)), (4), (1), true, ((xs.take 3) ++ ([1] : List Int))⟩ : Ent)], 1, 1, 1⟩ : CacheS) (0) (0) (0) (4) (ptr % 6) (0) false none 0 0 (by omega) (by omega) (by omega) (by omega) (by omega) (by omega) (by omega) (by simp) (by simp) (by intro x hx; simp only [List.mem_cons, List.not_mem_nil, or_false] at hx; rcases hx with rfl <;> first | exact Nat.le_of_lt (by decide) | (simp; done) | (simp; omega) | exact Nat.le_trans hl1 (by decide)) 0 (⟨((-1)), ((-1)), (4), (1), true, ((xs.take 3) ++ ([1] : List Int))⟩ : Ent) (by simp [idx, List.findIdx?_cons]) rfl rfl) ?_
    rintro _ _ ⟨a6, c6, rfl, rfl⟩
    refine At.conv (Γ' := [IntsA a6 c6 ((xs.take 3) ++ ([1] : List Int)), CacheA b1 (⟨[(⟨((-1)), (ptr % 6), (4), (1), false, ((xs.take 3) ++ ([1] : List Int))⟩ : Ent)], 1, 1, 1⟩ : CacheS), Asn.own b3 (.cells #[.int .i64 (4), .int .i64 (5), .int .i64 (3)] 3 (0, 0)), IntsA a3 c3 ((xs.take 3) ++ ([1] : List Int)), IntsA a2 c2 ((xs.take 3) ++ ([1] : List Int)), Asn.own b2 (.cells #[.int .i64 (1)] 3 (0, 0))]) (fun w hw => hw) ?_
    refine s_pure 30 (.tuple #[.agg #[.int .i64 (9), .int .i64 (0), .int .i64 (0), .int .i64 (0), .int .i64 (4), .int .i64 (0), .int .i64 (0), .bool true, .slice a6 (((xs.take 3) ++ ([1] : List Int)).length) c6], .int .i64 (0)]) (by kernel_rfl) (by kernel_rfl) (fun _ => by kernel_rfl) ?_
    refine s_pure 37 (.agg #[.int .i64 (9), .int .i64 (0), .int .i64 (0), .int .i64 (0), .int .i64 (4), .int .i64 (0), .int .i64 (0), .bool true, .slice a6 (((xs.take 3) ++ ([1] : List Int)).length) c6]) (by kernel_rfl) (by kernel_rfl) (fun _ => by kernel_rfl) ?_
    refine s_pure 38 (.int .i64 (0)) (by kernel_rfl) (by kernel_rfl) (fun _ => by kernel_rfl) ?_
    refine s_step 9 (by kernel_rfl) (by kernel_rfl) (st_new (T := 35) (cells := #[.int .i64 (0), .int .i64 (0), .int .i64 (0), .int .i64 (0), .int .i64 (0), .int .i64 (0), .int .i64 (0), .bool false, .slice none 0 0]) (fun a => .pointer (some a)) (fun _ => by kernel_rfl)) ?_
    rintro _ _ ⟨b8, rfl, rfl⟩
    refine s_do (by kernel_rfl) (by kernel_rfl) (st_store (off := 0) (vs := [.int .i64 (9), .int .i64 (0), .int .i64 (0), .int .i64 (0), .int .i64 (4), .int .i64 (0), .int .i64 (0), .bool true, .slice a6 (((xs.take 3) ++ ([1] : List Int)).length) c6]) (c' := #[.int .i64 (9), .int .i64 (0), .int .i64 (0), .int .i64 (0), .int .i64 (4), .int .i64 (0), .int .i64 (0), .bool true, .slice a6 (((xs.take 3) ++ ([1] : List Int)).length) c6]) (fun _ => by kernel_rfl) .here (by kernel_rfl) (by kernel_rfl) (by kernel_rfl)) ?_
    rintro _ _ ⟨rfl, rfl⟩
    refine s_pure 10 (.int .i64 (0)) (by kernel_rfl) (by kernel_rfl) (fun _ => by kernel_rfl) ?_
    refine ops_end ?_
    refine At.env [(0, .slice a2 (m1 + 1) c2), (1, .int .i64 which), (2, .int .i64 ptr), (6, .bool false), (7, .pointer (some ⟨b1, 0, none⟩)), (8, .int .i64 (3)), (9, .pointer (some ⟨b8, 0, none⟩)), (10, .int .i64 (0)), (16, .bool false)] ⟨by kernel_rfl, by kernel_rfl, by kernel_rfl, by kernel_rfl, by kernel_rfl, by kernel_rfl, by kernel_rfl, by kernel_rfl, by kernel_rfl, trivial⟩ ?_
    refine at_then_normal ?_
    refine at_seq (x := C3 [1, 1, 1, 1, 1, 1, 1, 0]) (y := C3 [1, 1, 1, 1, 1, 1, 1, 1]) (by kernel_rfl) ?_
    refine at_seq (x := C3 [1, 1, 1, 1, 1, 1, 1, 0, 0]) (y := C3 [1, 1, 1, 1, 1, 1, 1, 0, 1]) (by kernel_rfl) ?_
    refine at_region (id := 8) 23 (by kernel_rfl) (by kernel_rfl) ?_
    refine s_pure 39 (.int .i64 (0)) (by kernel_rfl) (by kernel_rfl) (fun _ => by kernel_rfl) ?_
    refine s_pure 40 (.bool false) (by kernel_rfl) (by kernel_rfl) (fun _ => by kernel_rfl) ?_
    refine s_pure 41 (.bool false) (by kernel_rfl) (by kernel_rfl) (fun _ => by kernel_rfl) ?_
    refine s_pure 42 (.int .i64 (3)) (by kernel_rfl) (by kernel_rfl) (fun _ => by kernel_rfl) ?_
    refine s_pure 43 (.bool true) (by kernel_rfl) (by kernel_rfl) (fun _ => by kernel_rfl) ?_
    refine s_pure 44 (.bool true) (by kernel_rfl) (by kernel_rfl) (fun _ => by kernel_rfl) ?_
    refine s_pure 45 (.pointer (some ⟨b8, 8, none⟩)) (by kernel_rfl) (by kernel_rfl) (fun _ => by kernel_rfl) ?_
    refine s_load 46 (.slice a6 (((xs.take 3) ++ ([1] : List Int)).length) c6) (by kernel_rfl) (by kernel_rfl) (load1 (off := 8) (fun _ => by kernel_rfl) (holds_own .here) (by kernel_rfl)) ?_
    refine s_pure 47 (.slice a2 (m1 + 1) c2) (by kernel_rfl) (by kernel_rfl) (fun _ => by kernel_rfl) ?_
    refine s_quiet 48 (.bool true) 19 #[.slice a6 (((xs.take 3) ++ ([1] : List Int)).length) c6, .slice a2 (m1 + 1) c2] (by kernel_rfl) (by kernel_rfl) (fun _ => by kernel_rfl) (KSame_tr a6 (((xs.take 3) ++ ([1] : List Int)).length) c6 a2 (m1 + 1) c2 ((xs.take 3) ++ ([1] : List Int)) (by first | rfl | exact hm | omega | (simp only [List.length_append, List.length_cons, List.length_nil]; omega)) (by first | rfl | exact hm | omega | (simp only [List.length_append, List.length_cons, List.length_nil]; omega)) (RowsA.reads (k := 1) (.there .here)) (RowsA.reads (k := 1) (.there (.there (.there (.there (.there .here)))))) (by first | omega | (simp only [List.length_append, List.length_take, List.length_cons, List.length_nil]; omega))) ?_
    refine s_pure 49 (.bool false) (by kernel_rfl) (by kernel_rfl) (fun _ => by kernel_rfl) ?_
    refine s_pure 50 (.bool false) (by kernel_rfl) (by kernel_rfl) (fun _ => by kernel_rfl) ?_
    refine s_pure 51 (.bool false) (by kernel_rfl) (by kernel_rfl) (fun _ => by kernel_rfl) ?_
    refine s_pure 52 (.bool false) (by kernel_rfl) (by kernel_rfl) (fun _ => by kernel_rfl) ?_
    refine s_pure 53 (.int .i64 (3)) (by kernel_rfl) (by kernel_rfl) (fun _ => by kernel_rfl) ?_
    refine s_pure 54 (.bool false) (by kernel_rfl) (by kernel_rfl) (fun _ => by kernel_rfl) ?_
    refine s_pure 55 (.bool false) (by kernel_rfl) (by kernel_rfl) (fun _ => by kernel_rfl) ?_
    refine s_pass 56 (by kernel_rfl) (by kernel_rfl) ?_
    refine s_pass 57 (by kernel_rfl) (by kernel_rfl) ?_
    refine s_pass 58 (by kernel_rfl) (by kernel_rfl) ?_
    refine s_pass 59 (by kernel_rfl) (by kernel_rfl) ?_
    refine s_pure 60 (.bool false) (by kernel_rfl) (by kernel_rfl) (fun _ => by kernel_rfl) ?_
    refine s_pure 61 (.bool false) (by kernel_rfl) (by kernel_rfl) (fun _ => by kernel_rfl) ?_
    refine ops_end ?_
    refine At.env [(0, .slice a2 (m1 + 1) c2), (1, .int .i64 which), (2, .int .i64 ptr), (6, .bool false), (7, .pointer (some ⟨b1, 0, none⟩)), (8, .int .i64 (3)), (9, .pointer (some ⟨b8, 0, none⟩)), (10, .int .i64 (0)), (16, .bool false), (61, .bool false)] ⟨by kernel_rfl, by kernel_rfl, by kernel_rfl, by kernel_rfl, by kernel_rfl, by kernel_rfl, by kernel_rfl, by kernel_rfl, by kernel_rfl, by kernel_rfl, trivial⟩ ?_
    refine at_then_normal ?_
    refine at_false (t := false) (x := C3 [1, 1, 1, 1, 1, 1, 1, 0, 1, 0]) (y := C3 [1, 1, 1, 1, 1, 1, 1, 0, 1, 1]) (o := .tmp 61) (by kernel_rfl) (by kernel_rfl) (by kernel_rfl) rfl ?_
    refine at_skip (by kernel_rfl) ?_
    refine at_then_normal ?_
    refine at_seq (x := C3 [1, 1, 1, 1, 1, 1, 1, 1, 0]) (y := C3 [1, 1, 1, 1, 1, 1, 1, 1, 1]) (by kernel_rfl) ?_
    refine at_seq (x := C3 [1, 1, 1, 1, 1, 1, 1, 1, 0, 0]) (y := C3 [1, 1, 1, 1, 1, 1, 1, 1, 0, 1]) (by kernel_rfl) ?_
    refine at_region (id := 10) 4 (by kernel_rfl) (by kernel_rfl) ?_
    refine s_pure 62 (.pointer (some ⟨b8, 8, none⟩)) (by kernel_rfl) (by kernel_rfl) (fun _ => by kernel_rfl) ?_
    refine s_load 63 (.slice a6 (((xs.take 3) ++ ([1] : List Int)).length) c6) (by kernel_rfl) (by kernel_rfl) (load1 (off := 8) (fun _ => by kernel_rfl) (holds_own .here) (by kernel_rfl)) ?_
    refine s_pure 64 (.int .i64 ((((xs.take 3) ++ ([1] : List Int)).length : Nat) : Int)) (by kernel_rfl) (by kernel_rfl) (fun _ => by kernel_rfl) ?_
    refine s_pure 65 (.int .i64 (0)) (by kernel_rfl) (by kernel_rfl) (fun _ => by kernel_rfl) ?_
    refine ops_end ?_
    refine At.env [(0, .slice a2 (m1 + 1) c2), (1, .int .i64 which), (2, .int .i64 ptr), (6, .bool false), (7, .pointer (some ⟨b1, 0, none⟩)), (8, .int .i64 (3)), (9, .pointer (some ⟨b8, 0, none⟩)), (10, .int .i64 (0)), (16, .bool false), (61, .bool false), (64, .int .i64 ((((xs.take 3) ++ ([1] : List Int)).length : Nat) : Int)), (65, .int .i64 (0))] ⟨by kernel_rfl, by kernel_rfl, by kernel_rfl, by kernel_rfl, by kernel_rfl, by kernel_rfl, by kernel_rfl, by kernel_rfl, by kernel_rfl, by kernel_rfl, by kernel_rfl, by kernel_rfl, trivial⟩ ?_
    refine at_then_normal ?_
    refine at_block (i := 0) (x := C3 [1, 1, 1, 1, 1, 1, 1, 1, 0, 1, 0]) (by kernel_rfl) ?_
    refine At.conv (fun w hw => hw.less (.take (.there .here) (.take .here (.take .here (.take .here (.take .here (.take .here (.take .here .refl)))))))) ?_
    refine at_loopR (x := C3 [1, 1, 1, 1, 1, 1, 1, 1, 0, 1, 0, 0]) (fun mm ff ΔΔ => ∃ k : Nat, ∃ zs : List Int, (k ≤ ((xs.take 3) ++ ([1] : List Int)).length) ∧ (zs.length = ((xs.take 3) ++ ([1] : List Int)).length) ∧ mm = ((xs.take 3) ++ ([1] : List Int)).length - k ∧ ff = [(0, .slice a2 (m1 + 1) c2), (1, .int .i64 which), (2, .int .i64 ptr), (6, .bool false), (7, .pointer (some ⟨b1, 0, none⟩)), (8, .int .i64 (3)), (9, .pointer (some ⟨b8, 0, none⟩)), (10, .int .i64 (0)), (16, .bool false), (61, .bool false), (64, .int .i64 ((((xs.take 3) ++ ([1] : List Int)).length : Nat) : Int)), (65, .int .i64 ((k : Nat) : Int))] ∧ [IntsA a6 c6 zs, Asn.own b8 (.cells #[.int .i64 (9), .int .i64 (0), .int .i64 (0), .int .i64 (0), .int .i64 (4), .int .i64 (0), .int .i64 (0), .bool true, .slice a6 (((xs.take 3) ++ ([1] : List Int)).length) c6] 35 (0, 0)), CacheA b1 (⟨[(⟨((-1)), (ptr % 6), (4), (1), false, ((xs.take 3) ++ ([1] : List Int))⟩ : Ent)], 1, 1, 1⟩ : CacheS), Asn.own b3 (.cells #[.int .i64 (4), .int .i64 (5), .int .i64 (3)] 3 (0, 0)), IntsA a3 c3 ((xs.take 3) ++ ([1] : List Int)), IntsA a2 c2 ((xs.take 3) ++ ([1] : List Int)), Asn.own b2 (.cells #[.int .i64 (1)] 3 (0, 0))] = ΔΔ) (((xs.take 3) ++ ([1] : List Int)).length - 0) (by kernel_rfl) [(0, .slice a2 (m1 + 1) c2), (1, .int .i64 which), (2, .int .i64 ptr), (6, .bool false), (7, .pointer (some ⟨b1, 0, none⟩)), (8, .int .i64 (3)), (9, .pointer (some ⟨b8, 0, none⟩)), (10, .int .i64 (0)), (16, .bool false), (61, .bool false), (64, .int .i64 ((((xs.take 3) ++ ([1] : List Int)).length : Nat) : Int)), (65, .int .i64 ((0 : Nat) : Int))] ⟨by kernel_rfl, by kernel_rfl, by kernel_rfl, by kernel_rfl, by kernel_rfl, by kernel_rfl, by kernel_rfl, by kernel_rfl, by kernel_rfl, by kernel_rfl, by kernel_rfl, by kernel_rfl, trivial⟩ ⟨0, (xs.take 3) ++ ([1] : List Int), Nat.zero_le _, rfl, rfl, rfl, rfl⟩ ?_
    rintro _ _ _ ⟨k, zs, hl1, hl2, rfl, rfl, rfl⟩
    refine at_seq (x := C3 [1, 1, 1, 1, 1, 1, 1, 1, 0, 1, 0, 0, 0]) (y := C3 [1, 1, 1, 1, 1, 1, 1, 1, 0, 1, 0, 0, 1]) (by kernel_rfl) ?_
    refine at_region (id := 11) 1 (by kernel_rfl) (by kernel_rfl) ?_
    rcases Decidable.em (((k : Nat) : Int) < ((((xs.take 3) ++ ([1] : List Int)).length : Nat) : Int)) with h1 | h1
    · refine s_pure 66 (.bool true) (by kernel_rfl) (by kernel_rfl) (run_eq (v := .bool (decide (((k : Nat) : Int) < ((((xs.take 3) ++ ([1] : List Int)).length : Nat) : Int)))) (fun _ => by kernel_rfl) (congrArg Value.bool (by rw [decide_eq_true h1]))) ?_
      refine ops_end ?_
      refine At.env [(0, .slice a2 (m1 + 1) c2), (1, .int .i64 which), (2, .int .i64 ptr), (6, .bool false), (7, .pointer (some ⟨b1, 0, none⟩)), (8, .int .i64 (3)), (9, .pointer (some ⟨b8, 0, none⟩)), (10, .int .i64 (0)), (16, .bool false), (61, .bool false), (64, .int .i64 ((((xs.take 3) ++ ([1] : List Int)).length : Nat) : Int)), (65, .int .i64 ((k : Nat) : Int)), (66, .bool true)] ⟨by kernel_rfl, by kernel_rfl, by kernel_rfl, by kernel_rfl, by kernel_rfl, by kernel_rfl, by kernel_rfl, by kernel_rfl, by kernel_rfl, by kernel_rfl, by kernel_rfl, by kernel_rfl, by kernel_rfl, trivial⟩ ?_
      refine at_then_normal ?_
      refine at_seq (x := C3 [1, 1, 1, 1, 1, 1, 1, 1, 0, 1, 0, 0, 1, 0]) (y := C3 [1, 1, 1, 1, 1, 1, 1, 1, 0, 1, 0, 0, 1, 1]) (by kernel_rfl) ?_
      refine at_true (t := true) (x := C3 [1, 1, 1, 1, 1, 1, 1, 1, 0, 1, 0, 0, 1, 0, 0]) (y := C3 [1, 1, 1, 1, 1, 1, 1, 1, 0, 1, 0, 0, 1, 0, 1]) (o := .tmp 66) (by kernel_rfl) (by kernel_rfl) (by kernel_rfl) rfl ?_
      refine at_skip (by kernel_rfl) ?_
      refine at_then_normal ?_
      refine at_seq (x := C3 [1, 1, 1, 1, 1, 1, 1, 1, 0, 1, 0, 0, 1, 1, 0]) (y := C3 [1, 1, 1, 1, 1, 1, 1, 1, 0, 1, 0, 0, 1, 1, 1]) (by kernel_rfl) ?_
      refine at_block (i := 1) (x := C3 [1, 1, 1, 1, 1, 1, 1, 1, 0, 1, 0, 0, 1, 1, 0, 0]) (by kernel_rfl) ?_
      refine at_seq (x := C3 [1, 1, 1, 1, 1, 1, 1, 1, 0, 1, 0, 0, 1, 1, 0, 0, 0]) (y := C3 [1, 1, 1, 1, 1, 1, 1, 1, 0, 1, 0, 0, 1, 1, 0, 0, 1]) (by kernel_rfl) ?_
      refine at_region (id := 12) 2 (by kernel_rfl) (by kernel_rfl) ?_
      refine s_pure 67 (.int .i64 ((k : Nat) : Int)) (by kernel_rfl) (by kernel_rfl) (fun _ => by kernel_rfl) ?_
      refine s_pure 11 (.int .i64 ((k : Nat) : Int)) (by kernel_rfl) (by kernel_rfl) (fun _ => by kernel_rfl) ?_
      refine ops_end ?_
      refine At.env [(0, .slice a2 (m1 + 1) c2), (1, .int .i64 which), (2, .int .i64 ptr), (6, .bool false), (7, .pointer (some ⟨b1, 0, none⟩)), (8, .int .i64 (3)), (9, .pointer (some ⟨b8, 0, none⟩)), (10, .int .i64 (0)), (11, .int .i64 ((k : Nat) : Int)), (16, .bool false), (61, .bool false), (64, .int .i64 ((((xs.take 3) ++ ([1] : List Int)).length : Nat) : Int)), (65, .int .i64 ((k : Nat) : Int)), (66, .bool true)] ⟨by kernel_rfl, by kernel_rfl, by kernel_rfl, by kernel_rfl, by kernel_rfl, by kernel_rfl, by kernel_rfl, by kernel_rfl, by kernel_rfl, by kernel_rfl, by kernel_rfl, by kernel_rfl, by kernel_rfl, by kernel_rfl, trivial⟩ ?_
      refine at_then_normal ?_
      refine at_region (id := 13) 8 (by kernel_rfl) (by kernel_rfl) ?_
      refine s_pure 68 (.pointer (some ⟨b8, 8, none⟩)) (by kernel_rfl) (by kernel_rfl) (fun _ => by kernel_rfl) ?_
      refine s_load 69 (.slice a6 (((xs.take 3) ++ ([1] : List Int)).length) c6) (by kernel_rfl) (by kernel_rfl) (load1 (off := 8) (fun _ => by kernel_rfl) (holds_own (.there .here)) (by kernel_rfl)) ?_
      refine s_pure 70 (.int .i64 ((k : Nat) : Int)) (by kernel_rfl) (by kernel_rfl) (fun _ => by kernel_rfl) ?_
      refine rows_at .here (by first | (simp; done) | omega | (simp; omega)) ?_
      intro b9 o1 ha1
      obtain ⟨x1, hx1⟩ := getAt zs (k) (by omega)
      refine s_pure 71 (.pointer (some ⟨b9, o1 + (k * 1 + 0), none⟩)) (by kernel_rfl) (by kernel_rfl) (index_at (t := 22) (sz := 1) (E := 3) (a := a6) (m := ((xs.take 3) ++ ([1] : List Int)).length) (c := c6) (b := b9) (off := o1) (i := k) (tinfo 3) (fun _ => by kernel_rfl) (by kernel_rfl) (by kernel_rfl) (by kernel_rfl) ha1 (by first | rfl | simp | omega) (by omega) rfl) ?_
      refine s_load 72 (.int .i64 x1) (by kernel_rfl) (by kernel_rfl) (load1_at (off := o1 + (k * 1 + 0)) (v := .int .i64 x1) (fun _ => by kernel_rfl) rfl (rows_cell (k := 1) .here ha1 (ints_get hx1) (show [(.int .i64 x1 : Value)][0]? = some (.int .i64 x1) from rfl))) ?_
      refine s_pure 73 (.int .i64 (IntKind.i64.wrap (x1 + 1))) (by kernel_rfl) (by kernel_rfl) (fun _ => by kernel_rfl) ?_
      refine s_pure 74 (.pointer (some ⟨b9, o1 + (k * 1 + 0), none⟩)) (by kernel_rfl) (by kernel_rfl) (index_at (t := 22) (sz := 1) (E := 3) (a := a6) (m := ((xs.take 3) ++ ([1] : List Int)).length) (c := c6) (b := b9) (off := o1) (i := k) (tinfo 3) (fun _ => by kernel_rfl) (by kernel_rfl) (by kernel_rfl) (by kernel_rfl) ha1 (by first | rfl | simp | omega) (by omega) rfl) ?_
      refine s_do (by kernel_rfl) (by kernel_rfl) (st_to_int (st_row (k := 1) (off := o1) (i := k) (j := 0) (row := [.int .i64 x1]) (row' := [.int .i64 (IntKind.i64.wrap (x1 + 1))]) (vs := [.int .i64 (IntKind.i64.wrap (x1 + 1))]) (fun _ => by kernel_rfl) .here ha1 (ints_get hx1) rfl (by kernel_rfl) (by kernel_rfl) rfl)) ?_
      rintro _ _ ⟨rfl, rfl⟩
      refine ops_end ?_
      refine At.env [(0, .slice a2 (m1 + 1) c2), (1, .int .i64 which), (2, .int .i64 ptr), (6, .bool false), (7, .pointer (some ⟨b1, 0, none⟩)), (8, .int .i64 (3)), (9, .pointer (some ⟨b8, 0, none⟩)), (10, .int .i64 (0)), (11, .int .i64 ((k : Nat) : Int)), (16, .bool false), (61, .bool false), (64, .int .i64 ((((xs.take 3) ++ ([1] : List Int)).length : Nat) : Int)), (65, .int .i64 ((k : Nat) : Int)), (66, .bool true)] ⟨by kernel_rfl, by kernel_rfl, by kernel_rfl, by kernel_rfl, by kernel_rfl, by kernel_rfl, by kernel_rfl, by kernel_rfl, by kernel_rfl, by kernel_rfl, by kernel_rfl, by kernel_rfl, by kernel_rfl, by kernel_rfl, trivial⟩ ?_
      refine at_in_normal ?_
      refine at_then_normal ?_
      refine at_region (id := 14) 2 (by kernel_rfl) (by kernel_rfl) ?_
      refine s_pure 75 (.int .i64 (((k : Nat) : Int) + 1)) (by kernel_rfl) (by kernel_rfl) (run_eq (v := .int .i64 (IntKind.i64.wrap (((k : Nat) : Int) + 1))) (fun _ => by kernel_rfl) (by rw [wrap_in (by omega) (by omega)])) ?_
      refine s_pure 65 (.int .i64 (((k : Nat) : Int) + 1)) (by kernel_rfl) (by kernel_rfl) (fun _ => by kernel_rfl) ?_
      refine ops_end ?_
      refine At.env [(0, .slice a2 (m1 + 1) c2), (1, .int .i64 which), (2, .int .i64 ptr), (6, .bool false), (7, .pointer (some ⟨b1, 0, none⟩)), (8, .int .i64 (3)), (9, .pointer (some ⟨b8, 0, none⟩)), (10, .int .i64 (0)), (11, .int .i64 ((k : Nat) : Int)), (16, .bool false), (61, .bool false), (64, .int .i64 ((((xs.take 3) ++ ([1] : List Int)).length : Nat) : Int)), (65, .int .i64 (((k : Nat) : Int) + 1)), (66, .bool true)] ⟨by kernel_rfl, by kernel_rfl, by kernel_rfl, by kernel_rfl, by kernel_rfl, by kernel_rfl, by kernel_rfl, by kernel_rfl, by kernel_rfl, by kernel_rfl, by kernel_rfl, by kernel_rfl, by kernel_rfl, by kernel_rfl, trivial⟩ ?_
      refine at_round_normal ?_
      exact at_roundR (((xs.take 3) ++ ([1] : List Int)).length - (k + 1)) [(0, .slice a2 (m1 + 1) c2), (1, .int .i64 which), (2, .int .i64 ptr), (6, .bool false), (7, .pointer (some ⟨b1, 0, none⟩)), (8, .int .i64 (3)), (9, .pointer (some ⟨b8, 0, none⟩)), (10, .int .i64 (0)), (16, .bool false), (61, .bool false), (64, .int .i64 ((((xs.take 3) ++ ([1] : List Int)).length : Nat) : Int)), (65, .int .i64 (((k + 1) : Nat) : Int))] ([IntsA a6 c6 (zs.set k (IntKind.i64.wrap (x1 + 1))), Asn.own b8 (.cells #[.int .i64 (9), .int .i64 (0), .int .i64 (0), .int .i64 (0), .int .i64 (4), .int .i64 (0), .int .i64 (0), .bool true, .slice a6 (((xs.take 3) ++ ([1] : List Int)).length) c6] 35 (0, 0)), CacheA b1 (⟨[(⟨((-1)), (ptr % 6), (4), (1), false, ((xs.take 3) ++ ([1] : List Int))⟩ : Ent)], 1, 1, 1⟩ : CacheS), Asn.own b3 (.cells #[.int .i64 (4), .int .i64 (5), .int .i64 (3)] 3 (0, 0)), IntsA a3 c3 ((xs.take 3) ++ ([1] : List Int)), IntsA a2 c2 ((xs.take 3) ++ ([1] : List Int)), Asn.own b2 (.cells #[.int .i64 (1)] 3 (0, 0))]) (by omega) ⟨by kernel_rfl, by kernel_rfl, by kernel_rfl, by kernel_rfl, by kernel_rfl, by kernel_rfl, by kernel_rfl, by kernel_rfl, by kernel_rfl, by kernel_rfl, by kernel_rfl, by kernel_rfl, trivial⟩ (fun w hw => hw.less (.take .here (.take .here (.take .here (.take .here (.take .here (.take .here (.take .here .refl)))))))) ⟨(k + 1), (zs.set k (IntKind.i64.wrap (x1 + 1))), (by omega), (by rw [List.length_set]; exact hl2), rfl, rfl, rfl⟩
    · refine s_pure 66 (.bool false) (by kernel_rfl) (by kernel_rfl) (run_eq (v := .bool (decide (((k : Nat) : Int) < ((((xs.take 3) ++ ([1] : List Int)).length : Nat) : Int)))) (fun _ => by kernel_rfl) (congrArg Value.bool (by rw [decide_eq_false h1]))) ?_
      refine ops_end ?_
      refine At.env [(0, .slice a2 (m1 + 1) c2), (1, .int .i64 which), (2, .int .i64 ptr), (6, .bool false), (7, .pointer (some ⟨b1, 0, none⟩)), (8, .int .i64 (3)), (9, .pointer (some ⟨b8, 0, none⟩)), (10, .int .i64 (0)), (16, .bool false), (61, .bool false), (64, .int .i64 ((((xs.take 3) ++ ([1] : List Int)).length : Nat) : Int)), (65, .int .i64 ((k : Nat) : Int)), (66, .bool false)] ⟨by kernel_rfl, by kernel_rfl, by kernel_rfl, by kernel_rfl, by kernel_rfl, by kernel_rfl, by kernel_rfl, by kernel_rfl, by kernel_rfl, by kernel_rfl, by kernel_rfl, by kernel_rfl, by kernel_rfl, trivial⟩ ?_
      refine at_then_normal ?_
      refine at_seq (x := C3 [1, 1, 1, 1, 1, 1, 1, 1, 0, 1, 0, 0, 1, 0]) (y := C3 [1, 1, 1, 1, 1, 1, 1, 1, 0, 1, 0, 0, 1, 1]) (by kernel_rfl) ?_
      refine at_false (t := false) (x := C3 [1, 1, 1, 1, 1, 1, 1, 1, 0, 1, 0, 0, 1, 0, 0]) (y := C3 [1, 1, 1, 1, 1, 1, 1, 1, 0, 1, 0, 0, 1, 0, 1]) (o := .tmp 66) (by kernel_rfl) (by kernel_rfl) (by kernel_rfl) rfl ?_
      refine at_exit (i := 0) (by kernel_rfl) ?_
      refine at_then_exit ?_
      refine at_then_exit ?_
      refine at_in_here ?_
      refine at_then_normal ?_
      refine at_seq (x := C3 [1, 1, 1, 1, 1, 1, 1, 1, 1, 0]) (y := C3 [1, 1, 1, 1, 1, 1, 1, 1, 1, 1]) (by kernel_rfl) ?_
      refine at_region (id := 15) 8 (by kernel_rfl) (by kernel_rfl) ?_
      refine s_pure 77 (.pointer (some ⟨b1, 0, none⟩)) (by kernel_rfl) (by kernel_rfl) (fun _ => by kernel_rfl) ?_
      refine At.conv (fun w hw => hw.less (.take (.there (.there .here)) (.take .here (.take .here (.take .here (.take .here (.take .here (.take .here .refl)))))))) ?_
      refine s_call 78 20 #[.pointer (some ⟨b1, 0, none⟩), .int .i64 (4)] (by kernel_rfl) (by kernel_rfl) (fun _ => by kernel_rfl) (Find_some b1 (⟨[(⟨((-1)), (ptr % 6), (4), (1), false, ((xs.take 3) ++ ([1] : List Int))⟩ : Ent)], 1, 1, 1⟩ : CacheS) (4) (by simp) (by intro x hx; simp only [List.mem_cons, List.not_mem_nil, or_false] at hx; rcases hx with rfl <;> first | exact Nat.le_of_lt (by decide) | (simp; done) | (simp; omega) | exact Nat.le_trans hl1 (by decide)) 0 (⟨((-1)), (ptr % 6), (4), (1), false, ((xs.take 3) ++ ([1] : List Int))⟩ : Ent) (by simp [idx, List.findIdx?_cons]) rfl) ?_
      rintro _ _ ⟨a7, c7, rfl, rfl⟩
      refine At.conv (Γ' := [IntsA a7 c7 ((xs.take 3) ++ ([1] : List Int)), CacheA b1 (⟨[(⟨((-1)), (ptr % 6), (4), (1), false, ((xs.take 3) ++ ([1] : List Int))⟩ : Ent)], 1, 1, 1⟩ : CacheS), IntsA a6 c6 zs, Asn.own b8 (.cells #[.int .i64 (9), .int .i64 (0), .int .i64 (0), .int .i64 (0), .int .i64 (4), .int .i64 (0), .int .i64 (0), .bool true, .slice a6 (((xs.take 3) ++ ([1] : List Int)).length) c6] 35 (0, 0)), Asn.own b3 (.cells #[.int .i64 (4), .int .i64 (5), .int .i64 (3)] 3 (0, 0)), IntsA a3 c3 ((xs.take 3) ++ ([1] : List Int)), IntsA a2 c2 ((xs.take 3) ++ ([1] : List Int)), Asn.own b2 (.cells #[.int .i64 (1)] 3 (0, 0))]) (fun w hw => hw) ?_
      refine s_pure 76 (.tuple #[.agg #[.int .i64 (-1), .int .i64 (ptr % 6), .int .i64 (4), .int .i64 (1), .bool false, .slice a7 (((xs.take 3) ++ ([1] : List Int)).length) c7], .bool true]) (by kernel_rfl) (by kernel_rfl) (fun _ => by kernel_rfl) ?_
      refine s_pure 79 (.agg #[.int .i64 (-1), .int .i64 (ptr % 6), .int .i64 (4), .int .i64 (1), .bool false, .slice a7 (((xs.take 3) ++ ([1] : List Int)).length) c7]) (by kernel_rfl) (by kernel_rfl) (fun _ => by kernel_rfl) ?_
      refine s_pure 80 (.bool true) (by kernel_rfl) (by kernel_rfl) (fun _ => by kernel_rfl) ?_
      refine s_step 12 (by kernel_rfl) (by kernel_rfl) (st_new (T := 31) (cells := #[.int .i64 (0), .int .i64 (0), .int .i64 (0), .int .i64 (0), .bool false, .slice none 0 0]) (fun a => .pointer (some a)) (fun _ => by kernel_rfl)) ?_
      rintro _ _ ⟨b10, rfl, rfl⟩
      refine s_do (by kernel_rfl) (by kernel_rfl) (st_store (off := 0) (vs := [.int .i64 (-1), .int .i64 (ptr % 6), .int .i64 (4), .int .i64 (1), .bool false, .slice a7 (((xs.take 3) ++ ([1] : List Int)).length) c7]) (c' := #[.int .i64 (-1), .int .i64 (ptr % 6), .int .i64 (4), .int .i64 (1), .bool false, .slice a7 (((xs.take 3) ++ ([1] : List Int)).length) c7]) (fun _ => by kernel_rfl) .here (by kernel_rfl) (by kernel_rfl) (by kernel_rfl)) ?_
      rintro _ _ ⟨rfl, rfl⟩
      refine s_pure 13 (.bool true) (by kernel_rfl) (by kernel_rfl) (fun _ => by kernel_rfl) ?_
      refine ops_end ?_
      refine At.env [(0, .slice a2 (m1 + 1) c2), (1, .int .i64 which), (2, .int .i64 ptr), (6, .bool false), (7, .pointer (some ⟨b1, 0, none⟩)), (8, .int .i64 (3)), (9, .pointer (some ⟨b8, 0, none⟩)), (10, .int .i64 (0)), (12, .pointer (some ⟨b10, 0, none⟩)), (13, .bool true), (16, .bool false), (61, .bool false), (64, .int .i64 ((((xs.take 3) ++ ([1] : List Int)).length : Nat) : Int)), (65, .int .i64 ((k : Nat) : Int)), (66, .bool false)] ⟨by kernel_rfl, by kernel_rfl, by kernel_rfl, by kernel_rfl, by kernel_rfl, by kernel_rfl, by kernel_rfl, by kernel_rfl, by kernel_rfl, by kernel_rfl, by kernel_rfl, by kernel_rfl, by kernel_rfl, by kernel_rfl, by kernel_rfl, trivial⟩ ?_
      refine at_then_normal ?_
      refine at_seq (x := C3 [1, 1, 1, 1, 1, 1, 1, 1, 1, 1, 0]) (y := C3 [1, 1, 1, 1, 1, 1, 1, 1, 1, 1, 1]) (by kernel_rfl) ?_
      refine at_region (id := 16) 23 (by kernel_rfl) (by kernel_rfl) ?_
      refine s_pure 81 (.bool true) (by kernel_rfl) (by kernel_rfl) (fun _ => by kernel_rfl) ?_
      refine s_pure 82 (.bool true) (by kernel_rfl) (by kernel_rfl) (fun _ => by kernel_rfl) ?_
      refine s_pure 83 (.pointer (some ⟨b10, 5, none⟩)) (by kernel_rfl) (by kernel_rfl) (fun _ => by kernel_rfl) ?_
      refine s_load 84 (.slice a7 (((xs.take 3) ++ ([1] : List Int)).length) c7) (by kernel_rfl) (by kernel_rfl) (load1 (off := 5) (fun _ => by kernel_rfl) (holds_own .here) (by kernel_rfl)) ?_
      refine s_pure 85 (.slice a2 (m1 + 1) c2) (by kernel_rfl) (by kernel_rfl) (fun _ => by kernel_rfl) ?_
      refine s_quiet 86 (.bool true) 19 #[.slice a7 (((xs.take 3) ++ ([1] : List Int)).length) c7, .slice a2 (m1 + 1) c2] (by kernel_rfl) (by kernel_rfl) (fun _ => by kernel_rfl) (KSame_tr a7 (((xs.take 3) ++ ([1] : List Int)).length) c7 a2 (m1 + 1) c2 ((xs.take 3) ++ ([1] : List Int)) (by first | rfl | exact hm | omega | (simp only [List.length_append, List.length_cons, List.length_nil]; omega)) (by first | rfl | exact hm | omega | (simp only [List.length_append, List.length_cons, List.length_nil]; omega)) (RowsA.reads (k := 1) (.there .here)) (RowsA.reads (k := 1) (.there (.there (.there (.there (.there (.there (.there .here)))))))) (by first | omega | (simp only [List.length_append, List.length_take, List.length_cons, List.length_nil]; omega))) ?_
      refine s_pure 87 (.bool true) (by kernel_rfl) (by kernel_rfl) (fun _ => by kernel_rfl) ?_
      refine s_pure 88 (.bool true) (by kernel_rfl) (by kernel_rfl) (fun _ => by kernel_rfl) ?_
      refine s_pure 89 (.pointer (some ⟨b10, 4, none⟩)) (by kernel_rfl) (by kernel_rfl) (fun _ => by kernel_rfl) ?_
      refine s_load 90 (.bool false) (by kernel_rfl) (by kernel_rfl) (load1 (off := 4) (fun _ => by kernel_rfl) (holds_own .here) (by kernel_rfl)) ?_
      refine s_pure 91 (.int .i64 (3)) (by kernel_rfl) (by kernel_rfl) (fun _ => by kernel_rfl) ?_
      refine s_pure 92 (.bool false) (by kernel_rfl) (by kernel_rfl) (fun _ => by kernel_rfl) ?_
      refine s_pure 93 (.bool true) (by kernel_rfl) (by kernel_rfl) (fun _ => by kernel_rfl) ?_
      refine s_pure 94 (.bool true) (by kernel_rfl) (by kernel_rfl) (fun _ => by kernel_rfl) ?_
      refine s_pure 95 (.bool true) (by kernel_rfl) (by kernel_rfl) (fun _ => by kernel_rfl) ?_
      refine s_pure 96 (.pointer (some ⟨b10, 3, none⟩)) (by kernel_rfl) (by kernel_rfl) (fun _ => by kernel_rfl) ?_
      refine s_load 97 (.int .i64 (1)) (by kernel_rfl) (by kernel_rfl) (load1 (off := 3) (fun _ => by kernel_rfl) (holds_own .here) (by kernel_rfl)) ?_
      refine s_pure 98 (.bool true) (by kernel_rfl) (by kernel_rfl) (fun _ => by kernel_rfl) ?_
      refine s_pure 99 (.bool true) (by kernel_rfl) (by kernel_rfl) (fun _ => by kernel_rfl) ?_
      refine s_pure 100 (.bool true) (by kernel_rfl) (by kernel_rfl) (fun _ => by kernel_rfl) ?_
      refine s_quiet 101 (.bool true) 21 #[] (by kernel_rfl) (by kernel_rfl) (fun _ => by kernel_rfl) Wakes_tr ?_
      refine s_pure 102 (.bool true) (by kernel_rfl) (by kernel_rfl) (fun _ => by kernel_rfl) ?_
      refine s_pure 6 (.bool true) (by kernel_rfl) (by kernel_rfl) (fun _ => by kernel_rfl) ?_
      refine ops_end ?_
      refine At.env [(0, .slice a2 (m1 + 1) c2), (1, .int .i64 which), (2, .int .i64 ptr), (6, .bool true), (7, .pointer (some ⟨b1, 0, none⟩)), (8, .int .i64 (3)), (9, .pointer (some ⟨b8, 0, none⟩)), (10, .int .i64 (0)), (12, .pointer (some ⟨b10, 0, none⟩)), (13, .bool true), (16, .bool false), (61, .bool false), (64, .int .i64 ((((xs.take 3) ++ ([1] : List Int)).length : Nat) : Int)), (65, .int .i64 ((k : Nat) : Int)), (66, .bool false)] ⟨by kernel_rfl, by kernel_rfl, by kernel_rfl, by kernel_rfl, by kernel_rfl, by kernel_rfl, by kernel_rfl, by kernel_rfl, by kernel_rfl, by kernel_rfl, by kernel_rfl, by kernel_rfl, by kernel_rfl, by kernel_rfl, by kernel_rfl, trivial⟩ ?_
      refine at_then_normal ?_
      refine at_ret (by kernel_rfl) ?_
      refine at_backR [.bool true] [] (rs := [.tmp 6]) (by kernel_rfl) (.cons (.tmp (by kernel_rfl)) .nil) (fun w hw => hw.less (.drop .here (.drop .here (.drop .here (.drop .here (.drop .here (.drop .here (.drop .here (.drop .here (.drop .here .refl)))))))))) rfl
end Go.Proofs.Ytfpiolnbnfngkaa
