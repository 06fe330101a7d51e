/- The example of the document, as the law has it, answers true; the ends of a list; a word of an entry. -/
import Derived.Test.YtfpiolnbnfngkaaServeA
namespace Go.Proofs.Ytfpiolnbnfngkaa
open Go Go.RowKit
set_option linter.unusedVariables false
set_option linter.unusedSimpArgs false
noncomputable def C21 (p : List Nat) : Code := codeAt (bodyOf Try.f21) p
set_option maxRecDepth 100000 in
theorem Wakes_tr {W0 : World} {Γ : List Asn}  : Tr Try.prog 21 #[] W0 (Γ) (fun r Δ => r = .bool true ∧ Δ = Γ) := by
  refine Tr.enter (fn := Try.f21) (c := C21 []) (args := []) 58 Try.func21 (by kernel_rfl) (by kernel_rfl) ?_
  refine At.env [] trivial ?_
  refine at_seq (x := C21 [0]) (y := C21 [1]) (by kernel_rfl) ?_
  refine at_region (id := 0) 1 (by kernel_rfl) (by kernel_rfl) ?_
  refine s_pure 0 (.bool false) (by kernel_rfl) (by kernel_rfl) (fun _ => by kernel_rfl) ?_
  refine ops_end ?_
  refine At.env [(0, .bool false)] ⟨by kernel_rfl, trivial⟩ ?_
  refine at_then_normal ?_
  refine at_seq (x := C21 [1, 0]) (y := C21 [1, 1]) (by kernel_rfl) ?_
  refine at_region (id := 1) 2 (by kernel_rfl) (by kernel_rfl) ?_
  refine s_call 6 13 #[.int .i64 (1), .int .i64 (2)] (by kernel_rfl) (by kernel_rfl) (fun _ => by kernel_rfl) (New_tr (1) (2)) ?_
  rintro _ _ ⟨b1, rfl, rfl⟩
  refine At.conv (Γ' := (CacheA b1 (⟨[], 1, 2, 0⟩ : CacheS)) :: Γ) (fun w hw => hw) ?_
  refine s_pure 1 (.pointer (some ⟨b1, 0, none⟩)) (by kernel_rfl) (by kernel_rfl) (fun _ => by kernel_rfl) ?_
  refine ops_end ?_
  refine At.env [(0, .bool false), (1, .pointer (some ⟨b1, 0, none⟩))] ⟨by kernel_rfl, by kernel_rfl, trivial⟩ ?_
  refine at_then_normal ?_
  refine at_seq (x := C21 [1, 1, 0]) (y := C21 [1, 1, 1]) (by kernel_rfl) ?_
  refine at_seq (x := C21 [1, 1, 0, 0]) (y := C21 [1, 1, 0, 1]) (by kernel_rfl) ?_
  refine at_region (id := 2) 2 (by kernel_rfl) (by kernel_rfl) ?_
  refine s_pure 7 (.pointer (some ⟨b1, 0, none⟩)) (by kernel_rfl) (by kernel_rfl) (fun _ => by kernel_rfl) ?_
  refine s_pure 8 (.bool false) (by kernel_rfl) (by kernel_rfl) (fun _ => by kernel_rfl) ?_
  refine ops_end ?_
  refine At.env [(0, .bool false), (1, .pointer (some ⟨b1, 0, none⟩)), (8, .bool false)] ⟨by kernel_rfl, by kernel_rfl, by kernel_rfl, trivial⟩ ?_
  refine at_then_normal ?_
  refine at_false (t := false) (x := C21 [1, 1, 0, 1, 0]) (y := C21 [1, 1, 0, 1, 1]) (o := .tmp 8) (by kernel_rfl) (by kernel_rfl) (by kernel_rfl) rfl ?_
  refine at_skip (by kernel_rfl) ?_
  refine at_then_normal ?_
  refine at_seq (x := C21 [1, 1, 1, 0]) (y := C21 [1, 1, 1, 1]) (by kernel_rfl) ?_
  refine at_region (id := 4) 9 (by kernel_rfl) (by kernel_rfl) ?_
  refine s_pure 10 (.pointer (some ⟨b1, 0, none⟩)) (by kernel_rfl) (by kernel_rfl) (fun _ => by kernel_rfl) ?_
  refine s_pure 11 (.agg #[.int .i64 (6), .int .i64 (0), .int .i64 (0), .int .i64 (0), .int .i64 (1), .int .i64 (0), .int .i64 (0), .bool false, .slice none 0 0]) (by kernel_rfl) (by kernel_rfl) (fun _ => by kernel_rfl) ?_
  refine At.conv (fun w hw => hw.less (.take .here .refl)) ?_
  refine s_quiet 12 (.tuple #[.agg #[.int .i64 (0), .int .i64 (0), .int .i64 (0), .int .i64 (0), .int .i64 (0), .int .i64 (0), .int .i64 (0), .bool false, .slice none 0 0], .int .i64 (3)]) 18 #[.pointer (some ⟨b1, 0, none⟩), .agg #[.int .i64 (6), .int .i64 (0), .int .i64 (0), .int .i64 (0), .int .i64 (1), .int .i64 (0), .int .i64 (0), .bool false, .slice none 0 0]] (by kernel_rfl) (by kernel_rfl) (fun _ => by kernel_rfl) (Handle_none b1 (⟨[], 1, 2, 0⟩ : CacheS) (6) (0) (0) (0) (1) (0) (0) false none 0 0 (by omega) (by omega) (by omega) (by omega) (by omega) (by omega) (by omega) (by omega) (by simp) (by simp) (by omega) (by simp [idx, List.findIdx?_cons])) ?_
  refine s_pure 9 (.tuple #[.agg #[.int .i64 (0), .int .i64 (0), .int .i64 (0), .int .i64 (0), .int .i64 (0), .int .i64 (0), .int .i64 (0), .bool false, .slice none 0 0], .int .i64 (3)]) (by kernel_rfl) (by kernel_rfl) (fun _ => by kernel_rfl) ?_
  refine s_pure 13 (.agg #[.int .i64 (0), .int .i64 (0), .int .i64 (0), .int .i64 (0), .int .i64 (0), .int .i64 (0), .int .i64 (0), .bool false, .slice none 0 0]) (by kernel_rfl) (by kernel_rfl) (fun _ => by kernel_rfl) ?_
  refine s_pure 14 (.int .i64 (3)) (by kernel_rfl) (by kernel_rfl) (fun _ => by kernel_rfl) ?_
  refine s_step 2 (by kernel_rfl) (by kernel_rfl) (st_new (T := 35) (cells := #[.int .i64 (0), .int .i64 (0), .int .i64 (0), .int .i64 (0), .int .i64 (0), .int .i64 (0), .int .i64 (0), .bool false, .slice none 0 0]) (fun a => .pointer (some a)) (fun _ => by kernel_rfl)) ?_
  rintro _ _ ⟨b2, rfl, rfl⟩
  refine s_do (by kernel_rfl) (by kernel_rfl) (st_store (off := 0) (vs := [.int .i64 (0), .int .i64 (0), .int .i64 (0), .int .i64 (0), .int .i64 (0), .int .i64 (0), .int .i64 (0), .bool false, .slice none 0 0]) (c' := #[.int .i64 (0), .int .i64 (0), .int .i64 (0), .int .i64 (0), .int .i64 (0), .int .i64 (0), .int .i64 (0), .bool false, .slice none 0 0]) (fun _ => by kernel_rfl) .here (by kernel_rfl) (by kernel_rfl) (by kernel_rfl)) ?_
  rintro _ _ ⟨rfl, rfl⟩
  refine s_pure 3 (.int .i64 (3)) (by kernel_rfl) (by kernel_rfl) (fun _ => by kernel_rfl) ?_
  refine ops_end ?_
  refine At.env [(0, .bool false), (1, .pointer (some ⟨b1, 0, none⟩)), (3, .int .i64 (3)), (8, .bool false)] ⟨by kernel_rfl, by kernel_rfl, by kernel_rfl, by kernel_rfl, trivial⟩ ?_
  refine at_then_normal ?_
  refine at_seq (x := C21 [1, 1, 1, 1, 0]) (y := C21 [1, 1, 1, 1, 1]) (by kernel_rfl) ?_
  refine at_region (id := 5) 4 (by kernel_rfl) (by kernel_rfl) ?_
  refine s_pure 15 (.pointer (some ⟨b1, 0, none⟩)) (by kernel_rfl) (by kernel_rfl) (fun _ => by kernel_rfl) ?_
  refine s_step 16 (by kernel_rfl) (by kernel_rfl) (st_new (T := 3) (cells := #[.int .i64 (9)]) (fun a => .slice (some a) 1 1) (fun _ => by kernel_rfl)) ?_
  rintro _ _ ⟨b3, rfl, rfl⟩
  refine s_call 17 16 #[.int .i64 (1), .int .i64 (2), .int .i64 (-1), .bool true, .slice (some ⟨b3, 0, none⟩) 1 1] (by kernel_rfl) (by kernel_rfl) (fun _ => by kernel_rfl) (ENew_tr (1) (2) ((-1)) true (some ⟨b3, 0, none⟩) 1 1 ([9] : List Int) (by first | rfl | simp | (simp; omega) | omega) (Reads.own (rows := ints ([9] : List Int)) .here rfl) (by first | (simp; done) | (simp; omega))) ?_
  rintro _ _ ⟨a1, c1, rfl, rfl⟩
  refine At.conv (fun w hw => hw.less (.take (.there (.there (.there .here))) (.take .here (.take .here (.take .here .refl))))) ?_
  refine s_call 18 15 #[.pointer (some ⟨b1, 0, none⟩), .agg #[.int .i64 (2), .int .i64 (-1), .int .i64 (1), .int .i64 (0), .bool true, .slice a1 1 c1]] (by kernel_rfl) (by kernel_rfl) (fun _ => by kernel_rfl) (Put_new b1 (⟨[], 1, 2, 0⟩ : CacheS) (2) ((-1)) (1) (0) true a1 1 c1 ([9] : List Int) (by first | rfl | simp | (simp; omega) | omega) (RowsA.reads (k := 1) .here) (by first | (simp; done) | (simp; omega)) (by simp) (by simp) (by simp) (by simp) (by omega) (by simp [idx, List.findIdx?_cons]) (not_full (by simp))) ?_
  rintro _ _ ⟨rfl, rfl⟩
  refine At.conv (Γ' := (CacheA b1 (⟨[(⟨(2), ((-1)), (1), (1), true, ([9] : List Int)⟩ : Ent)], 1, 2, 1⟩ : CacheS)) :: (IntsA a1 c1 ([9] : List Int)) :: (Asn.own b3 (.cells #[.int .i64 (9)] 3 (0, 0))) :: (Asn.own b2 (.cells #[.int .i64 (0), .int .i64 (0), .int .i64 (0), .int .i64 (0), .int .i64 (0), .int .i64 (0), .int .i64 (0), .bool false, .slice none 0 0] 35 (0, 0))) :: Γ) (fun w hw => hw) ?_
  refine ops_end ?_
  refine At.env [(0, .bool false), (1, .pointer (some ⟨b1, 0, none⟩)), (3, .int .i64 (3)), (8, .bool false)] ⟨by kernel_rfl, by kernel_rfl, by kernel_rfl, by kernel_rfl, trivial⟩ ?_
  refine at_then_normal ?_
  refine at_seq (x := C21 [1, 1, 1, 1, 1, 0]) (y := C21 [1, 1, 1, 1, 1, 1]) (by kernel_rfl) ?_
  refine at_region (id := 6) 9 (by kernel_rfl) (by kernel_rfl) ?_
  refine s_pure 20 (.pointer (some ⟨b1, 0, none⟩)) (by kernel_rfl) (by kernel_rfl) (fun _ => by kernel_rfl) ?_
  refine s_pure 21 (.agg #[.int .i64 (6), .int .i64 (0), .int .i64 (0), .int .i64 (0), .int .i64 (1), .int .i64 (0), .int .i64 (0), .bool false, .slice none 0 0]) (by kernel_rfl) (by kernel_rfl) (fun _ => by kernel_rfl) ?_
  refine At.conv (fun w hw => hw.less (.take .here (.take .here (.take .here (.take .here .refl))))) ?_
  refine s_call 22 18 #[.pointer (some ⟨b1, 0, none⟩), .agg #[.int .i64 (6), .int .i64 (0), .int .i64 (0), .int .i64 (0), .int .i64 (1), .int .i64 (0), .int .i64 (0), .bool false, .slice none 0 0]] (by kernel_rfl) (by kernel_rfl) (fun _ => by kernel_rfl) (Handle_purge b1 (⟨[(⟨(2), ((-1)), (1), (1), true, ([9] : List Int)⟩ : Ent)], 1, 2, 1⟩ : CacheS) (0) (0) (0) (1) (0) (0) false none 0 0 (by omega) (by omega) (by omega) (by omega) (by omega) (by omega) (by omega) (by simp) (by simp) (by intro x hx; simp only [List.mem_cons, List.not_mem_nil, or_false] at hx; rcases hx with rfl <;> first | exact Nat.le_of_lt (by decide) | (simp; done) | (simp; omega) | omega) 0 (⟨(2), ((-1)), (1), (1), true, ([9] : List Int)⟩ : Ent) (by simp [idx, List.findIdx?_cons]) rfl rfl) ?_
  rintro _ _ ⟨a2, c2, rfl, rfl⟩
  refine At.conv (Γ' := (IntsA a2 c2 ([9] : List Int)) :: (CacheA b1 (⟨[], 1, 2, 1⟩ : CacheS)) :: (IntsA a1 c1 ([9] : List Int)) :: (Asn.own b3 (.cells #[.int .i64 (9)] 3 (0, 0))) :: (Asn.own b2 (.cells #[.int .i64 (0), .int .i64 (0), .int .i64 (0), .int .i64 (0), .int .i64 (0), .int .i64 (0), .int .i64 (0), .bool false, .slice none 0 0] 35 (0, 0))) :: Γ) (fun w hw => hw) ?_
  refine s_pure 19 (.tuple #[.agg #[.int .i64 (9), .int .i64 (0), .int .i64 (0), .int .i64 (0), .int .i64 (1), .int .i64 (2), .int .i64 (0), .bool true, .slice a2 1 c2], .int .i64 (0)]) (by kernel_rfl) (by kernel_rfl) (fun _ => by kernel_rfl) ?_
  refine s_pure 23 (.agg #[.int .i64 (9), .int .i64 (0), .int .i64 (0), .int .i64 (0), .int .i64 (1), .int .i64 (2), .int .i64 (0), .bool true, .slice a2 1 c2]) (by kernel_rfl) (by kernel_rfl) (fun _ => by kernel_rfl) ?_
  refine s_pure 24 (.int .i64 (0)) (by kernel_rfl) (by kernel_rfl) (fun _ => by kernel_rfl) ?_
  refine s_step 4 (by kernel_rfl) (by kernel_rfl) (st_new (T := 35) (cells := #[.int .i64 (0), .int .i64 (0), .int .i64 (0), .int .i64 (0), .int .i64 (0), .int .i64 (0), .int .i64 (0), .bool false, .slice none 0 0]) (fun a => .pointer (some a)) (fun _ => by kernel_rfl)) ?_
  rintro _ _ ⟨b4, rfl, rfl⟩
  refine s_do (by kernel_rfl) (by kernel_rfl) (st_store (off := 0) (vs := [.int .i64 (9), .int .i64 (0), .int .i64 (0), .int .i64 (0), .int .i64 (1), .int .i64 (2), .int .i64 (0), .bool true, .slice a2 1 c2]) (c' := #[.int .i64 (9), .int .i64 (0), .int .i64 (0), .int .i64 (0), .int .i64 (1), .int .i64 (2), .int .i64 (0), .bool true, .slice a2 1 c2]) (fun _ => by kernel_rfl) .here (by kernel_rfl) (by kernel_rfl) (by kernel_rfl)) ?_
  rintro _ _ ⟨rfl, rfl⟩
  refine s_pure 5 (.int .i64 (0)) (by kernel_rfl) (by kernel_rfl) (fun _ => by kernel_rfl) ?_
  refine ops_end ?_
  refine At.env [(0, .bool false), (1, .pointer (some ⟨b1, 0, none⟩)), (3, .int .i64 (3)), (4, .pointer (some ⟨b4, 0, none⟩)), (5, .int .i64 (0)), (8, .bool false)] ⟨by kernel_rfl, by kernel_rfl, by kernel_rfl, by kernel_rfl, by kernel_rfl, by kernel_rfl, trivial⟩ ?_
  refine at_then_normal ?_
  refine at_seq (x := C21 [1, 1, 1, 1, 1, 1, 0]) (y := C21 [1, 1, 1, 1, 1, 1, 1]) (by kernel_rfl) ?_
  refine at_region (id := 7) 34 (by kernel_rfl) (by kernel_rfl) ?_
  refine s_pure 25 (.int .i64 (3)) (by kernel_rfl) (by kernel_rfl) (fun _ => by kernel_rfl) ?_
  refine s_pure 26 (.bool true) (by kernel_rfl) (by kernel_rfl) (fun _ => by kernel_rfl) ?_
  refine s_pure 27 (.bool true) (by kernel_rfl) (by kernel_rfl) (fun _ => by kernel_rfl) ?_
  refine s_pure 28 (.int .i64 (0)) (by kernel_rfl) (by kernel_rfl) (fun _ => by kernel_rfl) ?_
  refine s_pure 29 (.bool true) (by kernel_rfl) (by kernel_rfl) (fun _ => by kernel_rfl) ?_
  refine s_pure 30 (.bool true) (by kernel_rfl) (by kernel_rfl) (fun _ => by kernel_rfl) ?_
  refine s_pure 31 (.bool true) (by kernel_rfl) (by kernel_rfl) (fun _ => by kernel_rfl) ?_
  refine s_pure 32 (.pointer (some ⟨b4, 5, none⟩)) (by kernel_rfl) (by kernel_rfl) (fun _ => by kernel_rfl) ?_
  refine s_load 33 (.int .i64 (2)) (by kernel_rfl) (by kernel_rfl) (load1 (off := 5) (fun _ => by kernel_rfl) (holds_own .here) (by kernel_rfl)) ?_
  refine s_pure 34 (.bool true) (by kernel_rfl) (by kernel_rfl) (fun _ => by kernel_rfl) ?_
  refine s_pure 35 (.bool true) (by kernel_rfl) (by kernel_rfl) (fun _ => by kernel_rfl) ?_
  refine s_pure 36 (.bool true) (by kernel_rfl) (by kernel_rfl) (fun _ => by kernel_rfl) ?_
  refine s_pure 37 (.pointer (some ⟨b4, 7, none⟩)) (by kernel_rfl) (by kernel_rfl) (fun _ => by kernel_rfl) ?_
  refine s_load 38 (.bool true) (by kernel_rfl) (by kernel_rfl) (load1 (off := 7) (fun _ => by kernel_rfl) (holds_own .here) (by kernel_rfl)) ?_
  refine s_pure 39 (.bool true) (by kernel_rfl) (by kernel_rfl) (fun _ => by kernel_rfl) ?_
  refine s_pure 40 (.bool true) (by kernel_rfl) (by kernel_rfl) (fun _ => by kernel_rfl) ?_
  refine s_pure 41 (.pointer (some ⟨b4, 8, none⟩)) (by kernel_rfl) (by kernel_rfl) (fun _ => by kernel_rfl) ?_
  refine s_load 42 (.slice a2 1 c2) (by kernel_rfl) (by kernel_rfl) (load1 (off := 8) (fun _ => by kernel_rfl) (holds_own .here) (by kernel_rfl)) ?_
  refine s_pure 43 (.int .i64 (1)) (by kernel_rfl) (by kernel_rfl) (fun _ => by kernel_rfl) ?_
  refine s_pure 44 (.bool true) (by kernel_rfl) (by kernel_rfl) (fun _ => by kernel_rfl) ?_
  refine s_pure 45 (.bool true) (by kernel_rfl) (by kernel_rfl) (fun _ => by kernel_rfl) ?_
  refine s_pure 46 (.bool true) (by kernel_rfl) (by kernel_rfl) (fun _ => by kernel_rfl) ?_
  refine s_pure 47 (.pointer (some ⟨b4, 8, none⟩)) (by kernel_rfl) (by kernel_rfl) (fun _ => by kernel_rfl) ?_
  refine s_load 48 (.slice a2 1 c2) (by kernel_rfl) (by kernel_rfl) (load1 (off := 8) (fun _ => by kernel_rfl) (holds_own .here) (by kernel_rfl)) ?_
  refine rows_at (.there .here) (by first | (simp; done) | omega | (simp; omega)) ?_
  intro b5 o1 ha1
  refine s_pure 49 (.pointer (some ⟨b5, o1 + (0 * 1 + 0), none⟩)) (by kernel_rfl) (by kernel_rfl) (index_at (t := 22) (sz := 1) (E := 3) (a := a2) (m := 1) (c := c2) (b := b5) (off := o1) (i := 0) (tinfo 3) (fun _ => by kernel_rfl) (by kernel_rfl) (by kernel_rfl) (by kernel_rfl) ha1 (by first | rfl | simp | omega) (by omega) rfl) ?_
  refine s_load 50 (.int .i64 (9)) (by kernel_rfl) (by kernel_rfl) (load1_at (off := o1 + (0 * 1 + 0)) (v := .int .i64 (9)) (fun _ => by kernel_rfl) rfl (rows_cell (k := 1) (.there .here) ha1 (ints_get (show ([9] : List Int)[0]? = some (9) from rfl)) (show [(.int .i64 (9) : Value)][0]? = some (.int .i64 (9)) from rfl))) ?_
  refine s_pure 51 (.bool true) (by kernel_rfl) (by kernel_rfl) (fun _ => by kernel_rfl) ?_
  refine s_pure 52 (.bool true) (by kernel_rfl) (by kernel_rfl) (fun _ => by kernel_rfl) ?_
  refine s_pure 53 (.bool true) (by kernel_rfl) (by kernel_rfl) (fun _ => by kernel_rfl) ?_
  refine s_pure 54 (.pointer (some ⟨b1, 0, none⟩)) (by kernel_rfl) (by kernel_rfl) (fun _ => by kernel_rfl) ?_
  refine At.conv (fun w hw => hw.less (.take (.there (.there .here)) (.take .here (.take .here (.take .here (.take .here (.take .here .refl))))))) ?_
  refine s_quiet 55 (.int .i64 (0)) 23 #[.pointer (some ⟨b1, 0, none⟩)] (by kernel_rfl) (by kernel_rfl) (fun _ => by kernel_rfl) (Len_tr b1 (⟨[], 1, 2, 1⟩ : CacheS)) ?_
  refine s_pure 56 (.bool true) (by kernel_rfl) (by kernel_rfl) (fun _ => by kernel_rfl) ?_
  refine s_pure 57 (.bool true) (by kernel_rfl) (by kernel_rfl) (fun _ => by kernel_rfl) ?_
  refine s_pure 0 (.bool true) (by kernel_rfl) (by kernel_rfl) (fun _ => by kernel_rfl) ?_
  refine ops_end ?_
  refine At.env [(0, .bool true), (1, .pointer (some ⟨b1, 0, none⟩)), (3, .int .i64 (3)), (4, .pointer (some ⟨b4, 0, none⟩)), (5, .int .i64 (0)), (8, .bool false)] ⟨by kernel_rfl, by kernel_rfl, by kernel_rfl, by kernel_rfl, by kernel_rfl, by kernel_rfl, trivial⟩ ?_
  refine at_then_normal ?_
  refine at_ret (by kernel_rfl) ?_
  refine at_backR [.bool true] (Γ) (rs := [.tmp 0]) (by kernel_rfl) (.cons (.tmp (by kernel_rfl)) .nil) (fun w hw => hw.less (.drop .here (.drop .here (.drop .here (.drop .here (.drop .here (.drop .here .refl))))))) ?_
  exact ⟨rfl, rfl⟩
noncomputable def C25 (p : List Nat) : Code := codeAt (bodyOf Try.f25) p
set_option maxRecDepth 100000 in
theorem Head_tr {W0 : World} {Γ : List Asn} (f bk : Int) : Tr Try.prog 25 #[.agg #[.int .i64 f, .int .i64 bk]] W0 (Γ) (fun r Δ => r = .bool (decide (bk = -1)) ∧ Δ = Γ) := by
  refine Tr.enter (fn := Try.f25) (c := C25 []) (args := [.agg #[.int .i64 f, .int .i64 bk]]) 6 Try.func25 (by kernel_rfl) (by kernel_rfl) ?_
  refine At.env [(0, .agg #[.int .i64 f, .int .i64 bk])] ⟨by kernel_rfl, trivial⟩ ?_
  refine at_seq (x := C25 [0]) (y := C25 [1]) (by kernel_rfl) ?_
  refine at_region (id := 0) 2 (by kernel_rfl) (by kernel_rfl) ?_
  refine s_step 1 (by kernel_rfl) (by kernel_rfl) (st_new (T := 29) (cells := #[.int .i64 f, .int .i64 bk]) (fun a => .pointer (some a)) (fun _ => by kernel_rfl)) ?_
  rintro _ _ ⟨b1, rfl, rfl⟩
  refine s_pure 2 (.bool false) (by kernel_rfl) (by kernel_rfl) (fun _ => by kernel_rfl) ?_
  refine ops_end ?_
  refine At.env [(0, .agg #[.int .i64 f, .int .i64 bk]), (1, .pointer (some ⟨b1, 0, none⟩)), (2, .bool false)] ⟨by kernel_rfl, by kernel_rfl, by kernel_rfl, trivial⟩ ?_
  refine at_then_normal ?_
  refine at_seq (x := C25 [1, 0]) (y := C25 [1, 1]) (by kernel_rfl) ?_
  refine at_region (id := 1) 4 (by kernel_rfl) (by kernel_rfl) ?_
  refine s_pure 3 (.pointer (some ⟨b1, 1, none⟩)) (by kernel_rfl) (by kernel_rfl) (fun _ => by kernel_rfl) ?_
  refine s_load 4 (.int .i64 bk) (by kernel_rfl) (by kernel_rfl) (load1 (off := 1) (fun _ => by kernel_rfl) (holds_own .here) (by kernel_rfl)) ?_
  rcases Decidable.em (bk = ((-1) : Int)) with h1 | h1
  · refine s_pure 5 (.bool true) (by kernel_rfl) (by kernel_rfl) (run_eq (v := .bool (decide (bk = ((-1) : Int)))) (fun _ => by kernel_rfl) (congrArg Value.bool (by rw [decide_eq_true h1]))) ?_
    refine s_pure 2 (.bool true) (by kernel_rfl) (by kernel_rfl) (fun _ => by kernel_rfl) ?_
    refine ops_end ?_
    refine At.env [(0, .agg #[.int .i64 f, .int .i64 bk]), (1, .pointer (some ⟨b1, 0, none⟩)), (2, .bool true)] ⟨by kernel_rfl, by kernel_rfl, by kernel_rfl, trivial⟩ ?_
    refine at_then_normal ?_
    refine at_ret (by kernel_rfl) ?_
    refine at_backR [.bool true] (Γ) (rs := [.tmp 2]) (by kernel_rfl) (.cons (.tmp (by kernel_rfl)) .nil) (fun w hw => hw.less (.drop .here .refl)) ?_
    exact ⟨congrArg Value.bool (by simp [*]), rfl⟩
  · refine s_pure 5 (.bool false) (by kernel_rfl) (by kernel_rfl) (run_eq (v := .bool (decide (bk = ((-1) : Int)))) (fun _ => by kernel_rfl) (congrArg Value.bool (by rw [decide_eq_false h1]))) ?_
    refine s_pure 2 (.bool false) (by kernel_rfl) (by kernel_rfl) (fun _ => by kernel_rfl) ?_
    refine ops_end ?_
    refine At.env [(0, .agg #[.int .i64 f, .int .i64 bk]), (1, .pointer (some ⟨b1, 0, none⟩)), (2, .bool false)] ⟨by kernel_rfl, by kernel_rfl, by kernel_rfl, trivial⟩ ?_
    refine at_then_normal ?_
    refine at_ret (by kernel_rfl) ?_
    refine at_backR [.bool false] (Γ) (rs := [.tmp 2]) (by kernel_rfl) (.cons (.tmp (by kernel_rfl)) .nil) (fun w hw => hw.less (.drop .here .refl)) ?_
    exact ⟨congrArg Value.bool (by simp [*]), rfl⟩
noncomputable def C26 (p : List Nat) : Code := codeAt (bodyOf Try.f26) p
set_option maxRecDepth 100000 in
theorem Tail_tr {W0 : World} {Γ : List Asn} (f bk : Int) : Tr Try.prog 26 #[.agg #[.int .i64 f, .int .i64 bk]] W0 (Γ) (fun r Δ => r = .bool (decide (f = -1)) ∧ Δ = Γ) := by
  refine Tr.enter (fn := Try.f26) (c := C26 []) (args := [.agg #[.int .i64 f, .int .i64 bk]]) 6 Try.func26 (by kernel_rfl) (by kernel_rfl) ?_
  refine At.env [(0, .agg #[.int .i64 f, .int .i64 bk])] ⟨by kernel_rfl, trivial⟩ ?_
  refine at_seq (x := C26 [0]) (y := C26 [1]) (by kernel_rfl) ?_
  refine at_region (id := 0) 2 (by kernel_rfl) (by kernel_rfl) ?_
  refine s_step 1 (by kernel_rfl) (by kernel_rfl) (st_new (T := 29) (cells := #[.int .i64 f, .int .i64 bk]) (fun a => .pointer (some a)) (fun _ => by kernel_rfl)) ?_
  rintro _ _ ⟨b1, rfl, rfl⟩
  refine s_pure 2 (.bool false) (by kernel_rfl) (by kernel_rfl) (fun _ => by kernel_rfl) ?_
  refine ops_end ?_
  refine At.env [(0, .agg #[.int .i64 f, .int .i64 bk]), (1, .pointer (some ⟨b1, 0, none⟩)), (2, .bool false)] ⟨by kernel_rfl, by kernel_rfl, by kernel_rfl, trivial⟩ ?_
  refine at_then_normal ?_
  refine at_seq (x := C26 [1, 0]) (y := C26 [1, 1]) (by kernel_rfl) ?_
  refine at_region (id := 1) 4 (by kernel_rfl) (by kernel_rfl) ?_
  refine s_pure 3 (.pointer (some ⟨b1, 0, none⟩)) (by kernel_rfl) (by kernel_rfl) (fun _ => by kernel_rfl) ?_
  refine s_load 4 (.int .i64 f) (by kernel_rfl) (by kernel_rfl) (load1 (off := 0) (fun _ => by kernel_rfl) (holds_own .here) (by kernel_rfl)) ?_
  rcases Decidable.em (f = ((-1) : Int)) with h1 | h1
  · refine s_pure 5 (.bool true) (by kernel_rfl) (by kernel_rfl) (run_eq (v := .bool (decide (f = ((-1) : Int)))) (fun _ => by kernel_rfl) (congrArg Value.bool (by rw [decide_eq_true h1]))) ?_
    refine s_pure 2 (.bool true) (by kernel_rfl) (by kernel_rfl) (fun _ => by kernel_rfl) ?_
    refine ops_end ?_
    refine At.env [(0, .agg #[.int .i64 f, .int .i64 bk]), (1, .pointer (some ⟨b1, 0, none⟩)), (2, .bool true)] ⟨by kernel_rfl, by kernel_rfl, by kernel_rfl, trivial⟩ ?_
    refine at_then_normal ?_
    refine at_ret (by kernel_rfl) ?_
    refine at_backR [.bool true] (Γ) (rs := [.tmp 2]) (by kernel_rfl) (.cons (.tmp (by kernel_rfl)) .nil) (fun w hw => hw.less (.drop .here .refl)) ?_
    exact ⟨congrArg Value.bool (by simp [*]), rfl⟩
  · refine s_pure 5 (.bool false) (by kernel_rfl) (by kernel_rfl) (run_eq (v := .bool (decide (f = ((-1) : Int)))) (fun _ => by kernel_rfl) (congrArg Value.bool (by rw [decide_eq_false h1]))) ?_
    refine s_pure 2 (.bool false) (by kernel_rfl) (by kernel_rfl) (fun _ => by kernel_rfl) ?_
    refine ops_end ?_
    refine At.env [(0, .agg #[.int .i64 f, .int .i64 bk]), (1, .pointer (some ⟨b1, 0, none⟩)), (2, .bool false)] ⟨by kernel_rfl, by kernel_rfl, by kernel_rfl, trivial⟩ ?_
    refine at_then_normal ?_
    refine at_ret (by kernel_rfl) ?_
    refine at_backR [.bool false] (Γ) (rs := [.tmp 2]) (by kernel_rfl) (.cons (.tmp (by kernel_rfl)) .nil) (fun w hw => hw.less (.drop .here .refl)) ?_
    exact ⟨congrArg Value.bool (by simp [*]), rfl⟩
noncomputable def C55 (p : List Nat) : Code := codeAt (bodyOf Try.f55) p
set_option maxRecDepth 100000 in
theorem Is_yes {W0 : World} {Γ : List Asn} (f bk l u : Int) (d : Bool) (a : Option Addr) (m cap n : Nat) (h : n < m) : Tr Try.prog 55 #[.agg #[.int .i64 f, .int .i64 bk, .int .i64 l, .int .i64 u, .bool d, .slice a m cap], .int .i64 ((n : Nat) : Int)] W0 (Γ) (fun r Δ => r = .bool true ∧ Δ = Γ) := by
  refine Tr.enter (fn := Try.f55) (c := C55 []) (args := [.agg #[.int .i64 f, .int .i64 bk, .int .i64 l, .int .i64 u, .bool d, .slice a m cap], .int .i64 ((n : Nat) : Int)]) 14 Try.func55 (by kernel_rfl) (by kernel_rfl) ?_
  refine At.env [(0, .agg #[.int .i64 f, .int .i64 bk, .int .i64 l, .int .i64 u, .bool d, .slice a m cap]), (1, .int .i64 ((n : Nat) : Int))] ⟨by kernel_rfl, by kernel_rfl, trivial⟩ ?_
  refine at_seq (x := C55 [0]) (y := C55 [1]) (by kernel_rfl) ?_
  refine at_region (id := 0) 2 (by kernel_rfl) (by kernel_rfl) ?_
  refine s_step 2 (by kernel_rfl) (by kernel_rfl) (st_new (T := 31) (cells := #[.int .i64 f, .int .i64 bk, .int .i64 l, .int .i64 u, .bool d, .slice a m cap]) (fun a => .pointer (some a)) (fun _ => by kernel_rfl)) ?_
  rintro _ _ ⟨b1, rfl, rfl⟩
  refine s_pure 4 (.bool false) (by kernel_rfl) (by kernel_rfl) (fun _ => by kernel_rfl) ?_
  refine ops_end ?_
  refine At.env [(0, .agg #[.int .i64 f, .int .i64 bk, .int .i64 l, .int .i64 u, .bool d, .slice a m cap]), (1, .int .i64 ((n : Nat) : Int)), (2, .pointer (some ⟨b1, 0, none⟩)), (4, .bool false)] ⟨by kernel_rfl, by kernel_rfl, by kernel_rfl, by kernel_rfl, trivial⟩ ?_
  refine at_then_normal ?_
  refine at_seq (x := C55 [1, 0]) (y := C55 [1, 1]) (by kernel_rfl) ?_
  refine at_region (id := 1) 10 (by kernel_rfl) (by kernel_rfl) ?_
  refine s_pure 5 (.int .i64 ((n : Nat) : Int)) (by kernel_rfl) (by kernel_rfl) (fun _ => by kernel_rfl) ?_
  refine s_pure 6 (.bool true) (by kernel_rfl) (by kernel_rfl) (run_eq (v := .bool (decide ((0 : Int) ≤ ((n : Nat) : Int)))) (fun _ => by kernel_rfl) (congrArg Value.bool (by rw [decide_eq_true (by omega)]))) ?_
  refine s_pure 7 (.bool true) (by kernel_rfl) (by kernel_rfl) (fun _ => by kernel_rfl) ?_
  refine s_pure 8 (.int .i64 ((n : Nat) : Int)) (by kernel_rfl) (by kernel_rfl) (fun _ => by kernel_rfl) ?_
  refine s_pure 9 (.pointer (some ⟨b1, 5, none⟩)) (by kernel_rfl) (by kernel_rfl) (fun _ => by kernel_rfl) ?_
  refine s_load 10 (.slice a m cap) (by kernel_rfl) (by kernel_rfl) (load1 (off := 5) (fun _ => by kernel_rfl) (holds_own .here) (by kernel_rfl)) ?_
  refine s_pure 11 (.int .i64 ((m : Nat) : Int)) (by kernel_rfl) (by kernel_rfl) (fun _ => by kernel_rfl) ?_
  refine s_pure 12 (.bool true) (by kernel_rfl) (by kernel_rfl) (run_eq (v := .bool (decide (((n : Nat) : Int) < ((m : Nat) : Int)))) (fun _ => by kernel_rfl) (congrArg Value.bool (by rw [decide_eq_true (by omega)]))) ?_
  refine s_pure 13 (.bool true) (by kernel_rfl) (by kernel_rfl) (fun _ => by kernel_rfl) ?_
  refine s_pure 4 (.bool true) (by kernel_rfl) (by kernel_rfl) (fun _ => by kernel_rfl) ?_
  refine ops_end ?_
  refine At.env [(0, .agg #[.int .i64 f, .int .i64 bk, .int .i64 l, .int .i64 u, .bool d, .slice a m cap]), (1, .int .i64 ((n : Nat) : Int)), (2, .pointer (some ⟨b1, 0, none⟩)), (4, .bool true)] ⟨by kernel_rfl, by kernel_rfl, by kernel_rfl, by kernel_rfl, trivial⟩ ?_
  refine at_then_normal ?_
  refine at_ret (by kernel_rfl) ?_
  refine at_backR [.bool true] (Γ) (rs := [.tmp 4]) (by kernel_rfl) (.cons (.tmp (by kernel_rfl)) .nil) (fun w hw => hw.less (.drop .here .refl)) ?_
  exact ⟨rfl, rfl⟩
noncomputable def C22 (p : List Nat) : Code := codeAt (bodyOf Try.f22) p
set_option maxRecDepth 100000 in
theorem Word_tr {W0 : World} {Γ : List Asn} (f bk l u : Int) (d : Bool) (a : Option Addr) (m cap n : Nat) (xs : List Int) (x : Int) (hm : m = xs.length) (hn : n < m) (hr : Reads W0 Γ a (ints xs)) (hx : xs[n]? = some x) : Tr Try.prog 22 #[.agg #[.int .i64 f, .int .i64 bk, .int .i64 l, .int .i64 u, .bool d, .slice a m cap], .int .i64 ((n : Nat) : Int)] W0 (Γ) (fun r Δ => r = .int .i64 x ∧ Δ = Γ) := by
  refine Tr.enter (fn := Try.f22) (c := C22 []) (args := [.agg #[.int .i64 f, .int .i64 bk, .int .i64 l, .int .i64 u, .bool d, .slice a m cap], .int .i64 ((n : Nat) : Int)]) 14 Try.func22 (by kernel_rfl) (by kernel_rfl) ?_
  refine At.env [(0, .agg #[.int .i64 f, .int .i64 bk, .int .i64 l, .int .i64 u, .bool d, .slice a m cap]), (1, .int .i64 ((n : Nat) : Int))] ⟨by kernel_rfl, by kernel_rfl, trivial⟩ ?_
  refine at_seq (x := C22 [0]) (y := C22 [1]) (by kernel_rfl) ?_
  refine at_region (id := 0) 2 (by kernel_rfl) (by kernel_rfl) ?_
  refine s_step 2 (by kernel_rfl) (by kernel_rfl) (st_new (T := 31) (cells := #[.int .i64 f, .int .i64 bk, .int .i64 l, .int .i64 u, .bool d, .slice a m cap]) (fun a => .pointer (some a)) (fun _ => by kernel_rfl)) ?_
  rintro _ _ ⟨b1, rfl, rfl⟩
  refine s_pure 4 (.int .i64 (0)) (by kernel_rfl) (by kernel_rfl) (fun _ => by kernel_rfl) ?_
  refine ops_end ?_
  refine At.env [(0, .agg #[.int .i64 f, .int .i64 bk, .int .i64 l, .int .i64 u, .bool d, .slice a m cap]), (1, .int .i64 ((n : Nat) : Int)), (2, .pointer (some ⟨b1, 0, none⟩)), (4, .int .i64 (0))] ⟨by kernel_rfl, by kernel_rfl, by kernel_rfl, by kernel_rfl, trivial⟩ ?_
  refine at_then_normal ?_
  refine at_seq (x := C22 [1, 0]) (y := C22 [1, 1]) (by kernel_rfl) ?_
  refine at_seq (x := C22 [1, 0, 0]) (y := C22 [1, 0, 1]) (by kernel_rfl) ?_
  refine at_region (id := 1) 4 (by kernel_rfl) (by kernel_rfl) ?_
  refine s_load 5 (.agg #[.int .i64 f, .int .i64 bk, .int .i64 l, .int .i64 u, .bool d, .slice a m cap]) (by kernel_rfl) (by kernel_rfl) (loadN (off := 0) (vs := [.int .i64 f, .int .i64 bk, .int .i64 l, .int .i64 u, .bool d, .slice a m cap]) 6 (fun _ => by kernel_rfl) (holds_own .here) rfl (by exact ⟨rfl, rfl, rfl, rfl, rfl, rfl, trivial⟩)) ?_
  refine s_pure 6 (.int .i64 ((n : Nat) : Int)) (by kernel_rfl) (by kernel_rfl) (fun _ => by kernel_rfl) ?_
  refine s_quiet 7 (.bool true) 55 #[.agg #[.int .i64 f, .int .i64 bk, .int .i64 l, .int .i64 u, .bool d, .slice a m cap], .int .i64 ((n : Nat) : Int)] (by kernel_rfl) (by kernel_rfl) (fun _ => by kernel_rfl) (Is_yes f bk l u d a m cap n hn) ?_
  refine s_pure 8 (.bool false) (by kernel_rfl) (by kernel_rfl) (fun _ => by kernel_rfl) ?_
  refine ops_end ?_
  refine At.env [(0, .agg #[.int .i64 f, .int .i64 bk, .int .i64 l, .int .i64 u, .bool d, .slice a m cap]), (1, .int .i64 ((n : Nat) : Int)), (2, .pointer (some ⟨b1, 0, none⟩)), (4, .int .i64 (0)), (8, .bool false)] ⟨by kernel_rfl, by kernel_rfl, by kernel_rfl, by kernel_rfl, by kernel_rfl, trivial⟩ ?_
  refine at_then_normal ?_
  refine at_false (t := false) (x := C22 [1, 0, 1, 0]) (y := C22 [1, 0, 1, 1]) (o := .tmp 8) (by kernel_rfl) (by kernel_rfl) (by kernel_rfl) rfl ?_
  refine at_skip (by kernel_rfl) ?_
  refine at_then_normal ?_
  refine at_seq (x := C22 [1, 1, 0]) (y := C22 [1, 1, 1]) (by kernel_rfl) ?_
  refine at_region (id := 3) 6 (by kernel_rfl) (by kernel_rfl) ?_
  refine s_pure 9 (.pointer (some ⟨b1, 5, none⟩)) (by kernel_rfl) (by kernel_rfl) (fun _ => by kernel_rfl) ?_
  refine s_load 10 (.slice a m cap) (by kernel_rfl) (by kernel_rfl) (load1 (off := 5) (fun _ => by kernel_rfl) (holds_own .here) (by kernel_rfl)) ?_
  refine s_pure 11 (.int .i64 ((n : Nat) : Int)) (by kernel_rfl) (by kernel_rfl) (fun _ => by kernel_rfl) ?_
  refine reads_at (Reads.conv (fun w hw => hw.less (.drop .here .refl)) hr) (by omega) ?_
  intro b2 o1 ha1
  refine s_pure 12 (.pointer (some ⟨b2, o1 + (n * 1 + 0), none⟩)) (by kernel_rfl) (by kernel_rfl) (index_at (t := 22) (sz := 1) (E := 3) (a := a) (m := m) (c := cap) (b := b2) (off := o1) (i := n) (tinfo 3) (fun _ => by kernel_rfl) (by kernel_rfl) (by kernel_rfl) (by kernel_rfl) ha1 (by first | rfl | simp | omega) (by omega) rfl) ?_
  refine s_load 13 (.int .i64 x) (by kernel_rfl) (by kernel_rfl) (load1_at (off := o1 + (n * 1 + 0)) (v := .int .i64 x) (fun _ => by kernel_rfl) rfl (reads_cell (k := 1) (Reads.conv (fun w hw => hw.less (.drop .here .refl)) hr) (ints_rows _) ha1 (ints_get hx) (show [(.int .i64 x : Value)][0]? = some (.int .i64 x) from rfl))) ?_
  refine s_pure 4 (.int .i64 x) (by kernel_rfl) (by kernel_rfl) (fun _ => by kernel_rfl) ?_
  refine ops_end ?_
  refine At.env [(0, .agg #[.int .i64 f, .int .i64 bk, .int .i64 l, .int .i64 u, .bool d, .slice a m cap]), (1, .int .i64 ((n : Nat) : Int)), (2, .pointer (some ⟨b1, 0, none⟩)), (4, .int .i64 x), (8, .bool false)] ⟨by kernel_rfl, by kernel_rfl, by kernel_rfl, by kernel_rfl, by kernel_rfl, trivial⟩ ?_
  refine at_then_normal ?_
  refine at_ret (by kernel_rfl) ?_
  refine at_backR [.int .i64 x] (Γ) (rs := [.tmp 4]) (by kernel_rfl) (.cons (.tmp (by kernel_rfl)) .nil) (fun w hw => hw.less (.drop .here .refl)) ?_
  exact ⟨rfl, rfl⟩
end Go.Proofs.Ytfpiolnbnfngkaa
