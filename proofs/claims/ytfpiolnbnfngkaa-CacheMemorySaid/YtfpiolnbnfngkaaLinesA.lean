/- A cache tells of its lines, rising. -/
import Derived.Test.YtfpiolnbnfngkaaSortA
namespace Go.Proofs.Ytfpiolnbnfngkaa
open Go Go.RowKit
set_option linter.unusedVariables false
set_option linter.unusedSimpArgs false
theorem take_map_succ {l : List Ent} {k : Nat} {e : Ent} (he : l[k]? = some e) : (l.take k).map Ent.line ++ [e.line] = (l.take (k + 1)).map Ent.line := by
  rw [List.take_add_one, he]; simp
noncomputable def C28 (p : List Nat) : Code := codeAt (bodyOf Try.f28) p
set_option maxRecDepth 100000 in
theorem Lines_tr {W0 : World} {Γ : List Asn} (b : Nat) (c : CacheS) (ys : List Int) (hlen : c.l.length ≤ 1099511627776) (hsort : sortS (c.l.map Ent.line) = some ys) (hyl : ys.length = c.l.length) : Tr Try.prog 28 #[.pointer (some ⟨b, 0, none⟩)] W0 ((CacheA b c) :: Γ) (fun r Δ => ∃ a' cap', r = .slice a' ys.length cap' ∧ Δ = IntsA a' cap' ys :: CacheA b c :: Γ) := by
  refine Tr.enter (fn := Try.f28) (c := C28 []) (args := [.pointer (some ⟨b, 0, none⟩)]) 24 Try.func28 (by kernel_rfl) (by kernel_rfl) ?_
  refine At.env [(0, .pointer (some ⟨b, 0, none⟩))] ⟨by kernel_rfl, trivial⟩ ?_
  refine CacheA.open .here ?_
  intro ca1 cc1 rows1 T1
  refine At.known (fun w hw => EntsR.length (.there (.there .here)) w hw) ?_
  intro hrl
  refine At.conv (fun w hw => RowsA.none_mk (k := 1) (a := none) hw) ?_
  refine at_seq (x := C28 [0]) (y := C28 [1]) (by kernel_rfl) ?_
  refine at_region (id := 0) 1 (by kernel_rfl) (by kernel_rfl) ?_
  refine s_pure 2 (.slice none 0 0) (by kernel_rfl) (by kernel_rfl) (fun _ => by kernel_rfl) ?_
  refine ops_end ?_
  refine At.env [(0, .pointer (some ⟨b, 0, none⟩)), (2, .slice none 0 0)] ⟨by kernel_rfl, by kernel_rfl, trivial⟩ ?_
  refine at_then_normal ?_
  refine at_seq (x := C28 [1, 0]) (y := C28 [1, 1]) (by kernel_rfl) ?_
  refine at_region (id := 1) 1 (by kernel_rfl) (by kernel_rfl) ?_
  refine s_pure 3 (.slice none 0 0) (by kernel_rfl) (by kernel_rfl) (fun _ => by kernel_rfl) ?_
  refine ops_end ?_
  refine At.env [(0, .pointer (some ⟨b, 0, none⟩)), (2, .slice none 0 0), (3, .slice none 0 0)] ⟨by kernel_rfl, by kernel_rfl, by kernel_rfl, trivial⟩ ?_
  refine at_then_normal ?_
  refine at_seq (x := C28 [1, 1, 0]) (y := C28 [1, 1, 1]) (by kernel_rfl) ?_
  refine at_seq (x := C28 [1, 1, 0, 0]) (y := C28 [1, 1, 0, 1]) (by kernel_rfl) ?_
  refine at_region (id := 2) 6 (by kernel_rfl) (by kernel_rfl) ?_
  refine s_pure 6 (.pointer (some ⟨b, 0, none⟩)) (by kernel_rfl) (by kernel_rfl) (fun _ => by kernel_rfl) ?_
  refine s_pure 7 (.pointer (some ⟨b, 0, none⟩)) (by kernel_rfl) (by kernel_rfl) (fun _ => by kernel_rfl) ?_
  refine s_pure 8 (.pointer (some ⟨b, 0, none⟩)) (by kernel_rfl) (by kernel_rfl) (fun _ => by kernel_rfl) ?_
  refine s_load 9 (.slice ca1 c.l.length cc1) (by kernel_rfl) (by kernel_rfl) (load1 (off := 0) (fun _ => by kernel_rfl) (holds_own (.there .here)) (by kernel_rfl)) ?_
  refine s_pure 10 (.int .i64 ((c.l.length : Nat) : Int)) (by kernel_rfl) (by kernel_rfl) (fun _ => by kernel_rfl) ?_
  refine s_pure 11 (.int .i64 (0)) (by kernel_rfl) (by kernel_rfl) (fun _ => by kernel_rfl) ?_
  refine ops_end ?_
  refine At.env [(0, .pointer (some ⟨b, 0, none⟩)), (2, .slice none 0 0), (3, .slice none 0 0), (9, .slice ca1 c.l.length cc1), (10, .int .i64 ((c.l.length : Nat) : Int)), (11, .int .i64 (0))] ⟨by kernel_rfl, by kernel_rfl, by kernel_rfl, by kernel_rfl, by kernel_rfl, by kernel_rfl, trivial⟩ ?_
  refine at_then_normal ?_
  refine at_block (i := 0) (x := C28 [1, 1, 0, 1, 0]) (by kernel_rfl) ?_
  refine at_loopR (x := C28 [1, 1, 0, 1, 0, 0]) (fun mm ff ΔΔ => ∃ k : Nat, ∃ oa : Option Addr, ∃ oc : Nat, ∃ oxs : List Int, (k ≤ c.l.length) ∧ (oxs = (c.l.take k).map Ent.line) ∧ mm = c.l.length - k ∧ ff = [(0, .pointer (some ⟨b, 0, none⟩)), (3, .slice oa oxs.length oc), (9, .slice ca1 c.l.length cc1), (10, .int .i64 ((c.l.length : Nat) : Int)), (11, .int .i64 ((k : Nat) : Int))] ∧ (IntsA oa oc oxs) :: (Asn.own b (.cells #[.slice ca1 c.l.length cc1, .int .i64 c.sets, .int .i64 c.ways, .int .i64 c.clock] T1 (0, 0))) :: (RowsA 6 ca1 cc1 rows1) :: (EntsR rows1 c.l) :: Γ = ΔΔ) (c.l.length - 0) (by kernel_rfl) [(0, .pointer (some ⟨b, 0, none⟩)), (3, .slice none ([] : List Int).length 0), (9, .slice ca1 c.l.length cc1), (10, .int .i64 ((c.l.length : Nat) : Int)), (11, .int .i64 ((0 : Nat) : Int))] ⟨by kernel_rfl, by kernel_rfl, by kernel_rfl, by kernel_rfl, by kernel_rfl, trivial⟩ ⟨0, none, 0, ([] : List Int), Nat.zero_le _, rfl, rfl, rfl, rfl⟩ ?_
  rintro _ _ _ ⟨k, oa, oc, oxs, hl1, hl2, rfl, rfl, rfl⟩
  refine at_seq (x := C28 [1, 1, 0, 1, 0, 0, 0]) (y := C28 [1, 1, 0, 1, 0, 0, 1]) (by kernel_rfl) ?_
  refine at_region (id := 3) 1 (by kernel_rfl) (by kernel_rfl) ?_
  rcases Decidable.em (((k : Nat) : Int) < ((c.l.length : Nat) : Int)) with h1 | h1
  · refine s_pure 12 (.bool true) (by kernel_rfl) (by kernel_rfl) (run_eq (v := .bool (decide (((k : Nat) : Int) < ((c.l.length : Nat) : Int)))) (fun _ => by kernel_rfl) (congrArg Value.bool (by rw [decide_eq_true h1]))) ?_
    refine ops_end ?_
    refine At.env [(0, .pointer (some ⟨b, 0, none⟩)), (3, .slice oa oxs.length oc), (9, .slice ca1 c.l.length cc1), (10, .int .i64 ((c.l.length : Nat) : Int)), (11, .int .i64 ((k : Nat) : Int)), (12, .bool true)] ⟨by kernel_rfl, by kernel_rfl, by kernel_rfl, by kernel_rfl, by kernel_rfl, by kernel_rfl, trivial⟩ ?_
    refine at_then_normal ?_
    refine at_seq (x := C28 [1, 1, 0, 1, 0, 0, 1, 0]) (y := C28 [1, 1, 0, 1, 0, 0, 1, 1]) (by kernel_rfl) ?_
    refine at_true (t := true) (x := C28 [1, 1, 0, 1, 0, 0, 1, 0, 0]) (y := C28 [1, 1, 0, 1, 0, 0, 1, 0, 1]) (o := .tmp 12) (by kernel_rfl) (by kernel_rfl) (by kernel_rfl) rfl ?_
    refine at_skip (by kernel_rfl) ?_
    refine at_then_normal ?_
    refine at_seq (x := C28 [1, 1, 0, 1, 0, 0, 1, 1, 0]) (y := C28 [1, 1, 0, 1, 0, 0, 1, 1, 1]) (by kernel_rfl) ?_
    refine at_block (i := 1) (x := C28 [1, 1, 0, 1, 0, 0, 1, 1, 0, 0]) (by kernel_rfl) ?_
    refine at_seq (x := C28 [1, 1, 0, 1, 0, 0, 1, 1, 0, 0, 0]) (y := C28 [1, 1, 0, 1, 0, 0, 1, 1, 0, 0, 1]) (by kernel_rfl) ?_
    refine at_region (id := 4) 4 (by kernel_rfl) (by kernel_rfl) ?_
    refine rows_at (.there (.there .here)) (by omega) ?_
    intro b1 o1 ha1
    obtain ⟨e1, he1⟩ := getAt c.l (k) (by omega)
    refine At.known (fun w hw => EntsR.get (.there (.there (.there .here))) he1 w hw) ?_
    rintro ⟨a1, c1, hrow1⟩
    refine s_pure 13 (.pointer (some ⟨b1, o1 + (k * 6 + 0), none⟩)) (by kernel_rfl) (by kernel_rfl) (index_at (t := 80) (sz := 6) (E := 31) (a := ca1) (m := c.l.length) (c := cc1) (b := b1) (off := o1) (i := k) (tinfo 31) (fun _ => by kernel_rfl) (by kernel_rfl) (by kernel_rfl) (by kernel_rfl) ha1 (by first | rfl | simp | omega) (by omega) rfl) ?_
    refine s_load 14 (.agg #[.int .i64 e1.fwd, .int .i64 e1.back, .int .i64 e1.line, .int .i64 e1.used, .bool e1.dirty, .slice a1 e1.data.length c1]) (by kernel_rfl) (by kernel_rfl) (loadN_at (k := 6) (row := [.int .i64 e1.fwd, .int .i64 e1.back, .int .i64 e1.line, .int .i64 e1.used, .bool e1.dirty, .slice a1 e1.data.length c1]) (off := o1) (i := k) (fun _ => by kernel_rfl) rfl rfl (fun j v hj => (rows_cell (k := 6) (.there (.there .here)) ha1 hrow1 hj))) ?_
    refine s_step 5 (by kernel_rfl) (by kernel_rfl) (st_new (T := 31) (cells := #[.int .i64 (0), .int .i64 (0), .int .i64 (0), .int .i64 (0), .bool false, .slice none 0 0]) (fun a => .pointer (some a)) (fun _ => by kernel_rfl)) ?_
    rintro _ _ ⟨b2, rfl, rfl⟩
    refine s_do (by kernel_rfl) (by kernel_rfl) (st_store (off := 0) (vs := [.int .i64 e1.fwd, .int .i64 e1.back, .int .i64 e1.line, .int .i64 e1.used, .bool e1.dirty, .slice a1 e1.data.length c1]) (c' := #[.int .i64 e1.fwd, .int .i64 e1.back, .int .i64 e1.line, .int .i64 e1.used, .bool e1.dirty, .slice a1 e1.data.length c1]) (fun _ => by kernel_rfl) .here (by kernel_rfl) (by kernel_rfl) (by kernel_rfl)) ?_
    rintro _ _ ⟨rfl, rfl⟩
    refine ops_end ?_
    refine At.env [(0, .pointer (some ⟨b, 0, none⟩)), (3, .slice oa oxs.length oc), (5, .pointer (some ⟨b2, 0, none⟩)), (9, .slice ca1 c.l.length cc1), (10, .int .i64 ((c.l.length : Nat) : Int)), (11, .int .i64 ((k : Nat) : Int)), (12, .bool true)] ⟨by kernel_rfl, by kernel_rfl, by kernel_rfl, by kernel_rfl, by kernel_rfl, by kernel_rfl, by kernel_rfl, trivial⟩ ?_
    refine at_then_normal ?_
    refine at_region (id := 5) 6 (by kernel_rfl) (by kernel_rfl) ?_
    refine s_pure 15 (.slice oa oxs.length oc) (by kernel_rfl) (by kernel_rfl) (fun _ => by kernel_rfl) ?_
    refine s_pure 16 (.pointer (some ⟨b2, 2, none⟩)) (by kernel_rfl) (by kernel_rfl) (fun _ => by kernel_rfl) ?_
    refine s_load 17 (.int .i64 e1.line) (by kernel_rfl) (by kernel_rfl) (load1 (off := 2) (fun _ => by kernel_rfl) (holds_own .here) (by kernel_rfl)) ?_
    refine s_step 18 (by kernel_rfl) (by kernel_rfl) (st_new (T := 3) (cells := #[.int .i64 e1.line]) (fun a => .slice (some a) 1 1) (fun _ => by kernel_rfl)) ?_
    rintro _ _ ⟨b3, rfl, rfl⟩
    refine s_step 19 (by kernel_rfl) (by kernel_rfl) (st_append_ints (xs := oxs) (ys := [e1.line]) (zs := (oxs ++ [e1.line])) (m1 := oxs.length) (m2 := 1) (m := List.length (oxs ++ [e1.line])) (cap2 := 1) 22 22 3 (tinfo 3) (fun _ => by kernel_rfl) (by kernel_rfl) (by kernel_rfl) (by kernel_rfl) (by kernel_rfl) (by kernel_rfl) (.there (.there .here)) (Reads.own (rows := ints [e1.line]) .here rfl) rfl rfl (by simp) rfl (by have h9 : oxs.length = k := (by rw [hl2]; simp; omega); simp only [List.length_append, List.length_cons, List.length_nil]; omega)) ?_
    rintro _ _ ⟨a2, c2, rfl, rfl⟩
    refine s_pure 3 (.slice a2 (List.length (oxs ++ [e1.line])) c2) (by kernel_rfl) (by kernel_rfl) (fun _ => by kernel_rfl) ?_
    refine ops_end ?_
    refine At.env [(0, .pointer (some ⟨b, 0, none⟩)), (3, .slice a2 (List.length (oxs ++ [e1.line])) c2), (5, .pointer (some ⟨b2, 0, none⟩)), (9, .slice ca1 c.l.length cc1), (10, .int .i64 ((c.l.length : Nat) : Int)), (11, .int .i64 ((k : Nat) : Int)), (12, .bool true)] ⟨by kernel_rfl, by kernel_rfl, by kernel_rfl, by kernel_rfl, by kernel_rfl, by kernel_rfl, by kernel_rfl, trivial⟩ ?_
    refine at_in_normal ?_
    refine at_then_normal ?_
    refine at_region (id := 6) 2 (by kernel_rfl) (by kernel_rfl) ?_
    refine s_pure 20 (.int .i64 (((k : Nat) : Int) + 1)) (by kernel_rfl) (by kernel_rfl) (run_eq (v := .int .i64 (IntKind.i64.wrap (((k : Nat) : Int) + 1))) (fun _ => by kernel_rfl) (by rw [wrap_in (by omega) (by omega)])) ?_
    refine s_pure 11 (.int .i64 (((k : Nat) : Int) + 1)) (by kernel_rfl) (by kernel_rfl) (fun _ => by kernel_rfl) ?_
    refine ops_end ?_
    refine At.env [(0, .pointer (some ⟨b, 0, none⟩)), (3, .slice a2 (List.length (oxs ++ [e1.line])) c2), (5, .pointer (some ⟨b2, 0, none⟩)), (9, .slice ca1 c.l.length cc1), (10, .int .i64 ((c.l.length : Nat) : Int)), (11, .int .i64 (((k : Nat) : Int) + 1)), (12, .bool true)] ⟨by kernel_rfl, by kernel_rfl, by kernel_rfl, by kernel_rfl, by kernel_rfl, by kernel_rfl, by kernel_rfl, trivial⟩ ?_
    refine at_round_normal ?_
    exact at_roundR (c.l.length - (k + 1)) [(0, .pointer (some ⟨b, 0, none⟩)), (3, .slice a2 (oxs ++ [e1.line]).length c2), (9, .slice ca1 c.l.length cc1), (10, .int .i64 ((c.l.length : Nat) : Int)), (11, .int .i64 (((k + 1) : Nat) : Int))] ((IntsA a2 c2 (oxs ++ [e1.line])) :: (Asn.own b (.cells #[.slice ca1 c.l.length cc1, .int .i64 c.sets, .int .i64 c.ways, .int .i64 c.clock] T1 (0, 0))) :: (RowsA 6 ca1 cc1 rows1) :: (EntsR rows1 c.l) :: Γ) (by omega) ⟨by kernel_rfl, by kernel_rfl, by kernel_rfl, by kernel_rfl, by kernel_rfl, trivial⟩ (fun w hw => hw.less (.take .here (.take (.there (.there .here)) (.take (.there (.there .here)) (.take (.there (.there .here)) (.drop .here (.drop .here .refl))))))) ⟨(k + 1), a2, c2, (oxs ++ [e1.line]), (by omega), (by rw [hl2]; exact take_map_succ he1), rfl, rfl, rfl⟩
  · refine s_pure 12 (.bool false) (by kernel_rfl) (by kernel_rfl) (run_eq (v := .bool (decide (((k : Nat) : Int) < ((c.l.length : Nat) : Int)))) (fun _ => by kernel_rfl) (congrArg Value.bool (by rw [decide_eq_false h1]))) ?_
    refine ops_end ?_
    refine At.env [(0, .pointer (some ⟨b, 0, none⟩)), (3, .slice oa oxs.length oc), (9, .slice ca1 c.l.length cc1), (10, .int .i64 ((c.l.length : Nat) : Int)), (11, .int .i64 ((k : Nat) : Int)), (12, .bool false)] ⟨by kernel_rfl, by kernel_rfl, by kernel_rfl, by kernel_rfl, by kernel_rfl, by kernel_rfl, trivial⟩ ?_
    refine at_then_normal ?_
    refine at_seq (x := C28 [1, 1, 0, 1, 0, 0, 1, 0]) (y := C28 [1, 1, 0, 1, 0, 0, 1, 1]) (by kernel_rfl) ?_
    refine at_false (t := false) (x := C28 [1, 1, 0, 1, 0, 0, 1, 0, 0]) (y := C28 [1, 1, 0, 1, 0, 0, 1, 0, 1]) (o := .tmp 12) (by kernel_rfl) (by kernel_rfl) (by kernel_rfl) rfl ?_
    refine at_exit (i := 0) (by kernel_rfl) ?_
    refine at_then_exit ?_
    refine at_then_exit ?_
    refine at_in_here ?_
    refine at_then_normal ?_
    refine at_seq (x := C28 [1, 1, 1, 0]) (y := C28 [1, 1, 1, 1]) (by kernel_rfl) ?_
    refine at_region (id := 7) 2 (by kernel_rfl) (by kernel_rfl) ?_
    refine s_pure 21 (.slice oa oxs.length oc) (by kernel_rfl) (by kernel_rfl) (fun _ => by kernel_rfl) ?_
    refine At.conv (fun w hw => hw.less (.take .here (.take .here (.take .here (.take .here .refl))))) ?_
    have hall : oxs = c.l.map Ent.line := by rw [hl2, List.take_of_length_le (by omega)]
    refine s_call 22 58 #[.slice oa oxs.length oc] (by kernel_rfl) (by kernel_rfl) (fun _ => by kernel_rfl) (SortF_tr oa oc oxs ys (by rw [hall]; exact hsort)) ?_
    rintro _ _ ⟨rfl, rfl⟩
    refine ops_end ?_
    refine At.env [(0, .pointer (some ⟨b, 0, none⟩)), (3, .slice oa oxs.length oc), (9, .slice ca1 c.l.length cc1), (10, .int .i64 ((c.l.length : Nat) : Int)), (11, .int .i64 ((k : Nat) : Int)), (12, .bool false)] ⟨by kernel_rfl, by kernel_rfl, by kernel_rfl, by kernel_rfl, by kernel_rfl, by kernel_rfl, trivial⟩ ?_
    refine at_then_normal ?_
    refine at_seq (x := C28 [1, 1, 1, 1, 0]) (y := C28 [1, 1, 1, 1, 1]) (by kernel_rfl) ?_
    refine at_region (id := 8) 2 (by kernel_rfl) (by kernel_rfl) ?_
    refine s_pure 23 (.slice oa oxs.length oc) (by kernel_rfl) (by kernel_rfl) (fun _ => by kernel_rfl) ?_
    refine s_pure 2 (.slice oa oxs.length oc) (by kernel_rfl) (by kernel_rfl) (fun _ => by kernel_rfl) ?_
    refine ops_end ?_
    refine At.env [(0, .pointer (some ⟨b, 0, none⟩)), (2, .slice oa oxs.length oc), (3, .slice oa oxs.length oc), (9, .slice ca1 c.l.length cc1), (10, .int .i64 ((c.l.length : Nat) : Int)), (11, .int .i64 ((k : Nat) : Int)), (12, .bool false)] ⟨by kernel_rfl, by kernel_rfl, by kernel_rfl, by kernel_rfl, by kernel_rfl, by kernel_rfl, by kernel_rfl, trivial⟩ ?_
    refine at_then_normal ?_
    refine at_ret (by kernel_rfl) ?_
    have hlen2 : oxs.length = ys.length := by rw [hall, hyl]; simp
    refine at_backR [.slice oa oxs.length oc] (IntsA oa oc ys :: CacheA b c :: Γ) (rs := [.tmp 2]) (by kernel_rfl) (.cons (.tmp (by kernel_rfl)) .nil) (fun w hw => (CacheA.close c rfl rfl rfl rfl (hw.less (.take (.there .here) (.take (.there .here) (.take (.there .here) (.take .here .refl)))))).less (.take (.there .here) (.take .here .refl))) ?_
    exact ⟨_, _, by rw [hlen2]; rfl, rfl⟩
end Go.Proofs.Ytfpiolnbnfngkaa
