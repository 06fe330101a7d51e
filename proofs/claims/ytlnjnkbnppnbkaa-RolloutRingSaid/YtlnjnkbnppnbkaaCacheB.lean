/- A line goes out of a cache; new entries. -/
import Derived.Test.YtlnjnkbnppnbkaaCacheA
namespace Go.Proofs.Ytlnjnkbnppnbkaa
open Go Go.RowKit
set_option linter.unusedVariables false
set_option linter.unusedSimpArgs false
noncomputable def C64 (p : List Nat) : Code := codeAt (bodyOf Try.f64) p
set_option maxRecDepth 100000 in
theorem Delete_tr {W0 : World} {Γ : List Asn} (a : Option Addr) (cap i : Nat) (rows : List (List Value)) (hi : i < rows.length) (hlen : rows.length ≤ 1099511627776) (hone : rows.flatten.all oneCell = true) : Tr Try.prog 64 #[.slice a rows.length cap, .int .i64 ((i : Nat) : Int), .int .i64 ((i + 1 : Nat) : Int)] W0 ((RowsA 6 a cap rows) :: Γ) (fun r Δ => r = .slice a (rows.length - 1) cap ∧ Δ = RowsA 6 a cap (rows.take i ++ rows.drop (i + 1)) :: Γ) := by
 refine Tr.enter (fn := Try.f64) (c := C64 []) (args := [.slice a rows.length cap, .int .i64 ((i : Nat) : Int), .int .i64 ((i + 1 : Nat) : Int)]) 33 Try.func64 (by kernel_rfl) (by kernel_rfl) ?_
 refine ae [(0, .slice a rows.length cap), (1, .int .i64 ((i : Nat) : Int)), (2, .int .i64 ((i + 1 : Nat) : Int))] ?_
 refine At.known (fun w hw => RowsA.len hw) ?_
 rintro ⟨hrk, hlc⟩
 refine aq (x := C64 [0]) (y := C64 [1]) ?_
 refine ar (id := 0) 1 ?_
 refine sp 6 (.slice none 0 0) ?_
 refine ops_end ?_
 refine ae [(0, .slice a rows.length cap), (1, .int .i64 ((i : Nat) : Int)), (2, .int .i64 ((i + 1 : Nat) : Int)), (6, .slice none 0 0)] ?_
 refine at_then_normal ?_
 refine aq (x := C64 [1, 0]) (y := C64 [1, 1]) ?_
 refine ar (id := 1) 6 ?_
 refine sp 8 (.slice a rows.length cap) ?_
 refine sp 9 (.int .i64 ((i : Nat) : Int)) ?_
 refine sp 10 (.int .i64 ((i + 1 : Nat) : Int)) ?_
 refine sp 11 (.slice a rows.length cap) ?_
 refine sp 12 (.int .i64 ((rows.length : Nat) : Int)) ?_
 obtain ⟨a1, ha1⟩ : ∃ y : Option Addr, y = (if rows.length = i then a else Option.map (fun x => Addr.add x (i * 6)) a) := ⟨_, rfl⟩
 refine sr 13 (.slice a1 ((i + 1) - i) (rows.length - i)) (run_eq (slice_at (t := 70) (lo := i) (hi := i + 1) (mx := rows.length) (sz := 6) (E := 32) (a := a) (m := rows.length) (c := cap) (some (.int .i64 ((i : Nat) : Int))) (some (.int .i64 ((i + 1 : Nat) : Int))) (some (.int .i64 ((rows.length : Nat) : Int))) (tinfo 32) (fun _ => by kernel_rfl) (by kernel_rfl) (by kernel_rfl) (by kernel_rfl) (Or.inr ⟨_, rfl, by omega⟩) (Or.inr ⟨_, rfl, by omega⟩) (Or.inr ⟨_, rfl, by omega⟩) (by omega) (by omega) (by omega)) (by simp only [ha1, Nat.sub_zero])) ?_
 refine ops_end ?_
 refine ae [(0, .slice a rows.length cap), (1, .int .i64 ((i : Nat) : Int)), (2, .int .i64 ((i + 1 : Nat) : Int)), (6, .slice none 0 0)] ?_
 refine at_then_normal ?_
 refine aq (x := C64 [1, 1, 0]) (y := C64 [1, 1, 1]) ?_
 refine aq (x := C64 [1, 1, 0, 0]) (y := C64 [1, 1, 0, 1]) ?_
 refine ar (id := 2) 3 ?_
 refine sp 14 (.int .i64 ((i : Nat) : Int)) ?_
 refine sp 15 (.int .i64 ((i + 1 : Nat) : Int)) ?_
 refine sr 16 (.bool false) (run_eq (v := .bool (decide (((i : Nat) : Int) = ((i + 1 : Nat) : Int)))) (fun _ => by kernel_rfl) (congrArg Value.bool (by rw [decide_eq_false (by omega)]))) ?_
 refine ops_end ?_
 refine ae [(0, .slice a rows.length cap), (1, .int .i64 ((i : Nat) : Int)), (2, .int .i64 ((i + 1 : Nat) : Int)), (6, .slice none 0 0), (16, .bool false)] ?_
 refine at_then_normal ?_
 refine at_false (t := false) (x := C64 [1, 1, 0, 1, 0]) (y := C64 [1, 1, 0, 1, 1]) (o := .tmp 16) (by kernel_rfl) (by kernel_rfl) (by kernel_rfl) rfl ?_
 refine at_skip (by kernel_rfl) ?_
 refine at_then_normal ?_
 refine aq (x := C64 [1, 1, 1, 0]) (y := C64 [1, 1, 1, 1]) ?_
 refine ar (id := 4) 3 ?_
 refine sp 18 (.slice a rows.length cap) ?_
 refine sp 19 (.int .i64 ((rows.length : Nat) : Int)) ?_
 refine sp 7 (.int .i64 ((rows.length : Nat) : Int)) ?_
 refine ops_end ?_
 refine ae [(0, .slice a rows.length cap), (1, .int .i64 ((i : Nat) : Int)), (2, .int .i64 ((i + 1 : Nat) : Int)), (6, .slice none 0 0), (7, .int .i64 ((rows.length : Nat) : Int)), (16, .bool false)] ?_
 refine at_then_normal ?_
 refine aq (x := C64 [1, 1, 1, 1, 0]) (y := C64 [1, 1, 1, 1, 1]) ?_
 refine at_region_draw (id := 5) (by kernel_rfl) (by kernel_rfl) ?_
 refine dp 0 20 (.slice a rows.length cap) ?_
 refine dp 1 21 (.int .i64 ((i : Nat) : Int)) ?_
 refine d_pure 2 22 (.slice a i cap) (by kernel_rfl) (by kernel_rfl) (by kernel_rfl) (run_eq (slice_at (t := 70) (lo := 0) (hi := i) (mx := cap) (sz := 6) (E := 32) (a := a) (m := rows.length) (c := cap) none (some (.int .i64 ((i : Nat) : Int))) none (tinfo 32) (fun _ => by kernel_rfl) (by kernel_rfl) (by kernel_rfl) (by kernel_rfl) (Or.inl ⟨rfl, rfl⟩) (Or.inr ⟨_, rfl, by omega⟩) (Or.inl ⟨rfl, rfl⟩) (by omega) (by omega) (by omega)) (by rw [slice_front 6 cap rfl]; rfl)) ?_
 refine dp 3 23 (.slice a rows.length cap) ?_
 refine dp 4 24 (.int .i64 ((i + 1 : Nat) : Int)) ?_
 obtain ⟨a2, ha2⟩ : ∃ y : Option Addr, y = (if cap = i + 1 then a else Option.map (fun x => Addr.add x ((i + 1) * 6)) a) := ⟨_, rfl⟩
 refine d_pure 5 25 (.slice a2 (rows.length - (i + 1)) (cap - (i + 1))) (by kernel_rfl) (by kernel_rfl) (by kernel_rfl) (run_eq (slice_at (t := 70) (lo := i + 1) (hi := rows.length) (mx := cap) (sz := 6) (E := 32) (a := a) (m := rows.length) (c := cap) (some (.int .i64 ((i + 1 : Nat) : Int))) none none (tinfo 32) (fun _ => by kernel_rfl) (by kernel_rfl) (by kernel_rfl) (by kernel_rfl) (Or.inr ⟨_, rfl, by omega⟩) (Or.inl ⟨rfl, rfl, rfl⟩) (Or.inl ⟨rfl, rfl⟩) (by omega) (by omega) (by omega)) (by simp only [ha2, Nat.sub_zero])) ?_
 refine d_step 6 26 [2, 5, 0, 1, 3, 4] [] [] (by kernel_rfl) (by kernel_rfl) (by kernel_rfl) (st_append_within (k := 6) (rows := rows) 70 70 32 (cap - (i + 1)) i (i + 1) (rows.length - (i + 1)) (tinfo 32) (fun _ => by kernel_rfl) (by kernel_rfl) (by kernel_rfl) rfl .here (reads_drop (k := 6) (RowsA.reads (k := 6) .here) hrk (by omega) hlc ha2) hone (by omega) (by omega)) ?_
 rintro _ _ ⟨rfl, rfl⟩
 refine ⟨stable_nil, ?_⟩
 refine dp 7 0 (.slice a (i + (rows.length - (i + 1))) cap) ?_
 refine draw_end (by kernel_rfl) ?_
 refine ae [(0, .slice a (i + (rows.length - (i + 1))) cap), (1, .int .i64 ((i : Nat) : Int)), (2, .int .i64 ((i + 1 : Nat) : Int)), (6, .slice none 0 0), (7, .int .i64 ((rows.length : Nat) : Int)), (16, .bool false)] ?_
 refine at_then_normal ?_
 refine aq (x := C64 [1, 1, 1, 1, 1, 0]) (y := C64 [1, 1, 1, 1, 1, 1]) ?_
 refine ar (id := 6) 6 ?_
 refine sp 27 (.slice a (i + (rows.length - (i + 1))) cap) ?_
 refine sp 28 (.slice a (i + (rows.length - (i + 1))) cap) ?_
 refine sp 29 (.int .i64 ((i + (rows.length - (i + 1)) : Nat) : Int)) ?_
 refine sp 30 (.int .i64 ((rows.length : Nat) : Int)) ?_
 obtain ⟨a3, ha3⟩ : ∃ y : Option Addr, y = (if cap = i + (rows.length - (i + 1)) then a else Option.map (fun x => Addr.add x ((i + (rows.length - (i + 1))) * 6)) a) := ⟨_, rfl⟩
 refine sr 31 (.slice a3 (rows.length - (i + (rows.length - (i + 1)))) (cap - (i + (rows.length - (i + 1))))) (run_eq (slice_at (t := 70) (lo := i + (rows.length - (i + 1))) (hi := rows.length) (mx := cap) (sz := 6) (E := 32) (a := a) (m := i + (rows.length - (i + 1))) (c := cap) (some (.int .i64 ((i + (rows.length - (i + 1)) : Nat) : Int))) (some (.int .i64 ((rows.length : Nat) : Int))) none (tinfo 32) (fun _ => by kernel_rfl) (by kernel_rfl) (by kernel_rfl) (by kernel_rfl) (Or.inr ⟨_, rfl, by omega⟩) (Or.inr ⟨_, rfl, by omega⟩) (Or.inl ⟨rfl, rfl⟩) (by omega) (by omega) (by omega)) (by simp only [ha3, Nat.sub_zero])) ?_
 refine s_do (by kernel_rfl) (by kernel_rfl) (st_clear (k := 6) (rows := (rows.take i ++ rows.drop (i + 1) ++ rows.drop (i + (rows.length - (i + 1))))) 70 0 32 (cap - (i + (rows.length - (i + 1)))) (i + (rows.length - (i + 1))) (rows.length - (i + (rows.length - (i + 1)))) (tinfo 32) (.agg #[.int .i64 0, .int .i64 0, .int .i64 0, .int .i64 0, .bool false, .slice none 0 0]) (fun _ => by kernel_rfl) (by kernel_rfl) (by kernel_rfl) rfl rfl rfl rfl .here (clear_place (k := 6) ha3 (by omega)) (by simp; omega)) ?_
 rintro _ _ ⟨rfl, rfl⟩
 refine ops_end ?_
 refine ae [(0, .slice a (i + (rows.length - (i + 1))) cap), (1, .int .i64 ((i : Nat) : Int)), (2, .int .i64 ((i + 1 : Nat) : Int)), (6, .slice none 0 0), (7, .int .i64 ((rows.length : Nat) : Int)), (16, .bool false)] ?_
 refine at_then_normal ?_
 refine aq (x := C64 [1, 1, 1, 1, 1, 1, 0]) (y := C64 [1, 1, 1, 1, 1, 1, 1]) ?_
 refine ar (id := 7) 2 ?_
 refine sp 32 (.slice a (i + (rows.length - (i + 1))) cap) ?_
 refine sp 6 (.slice a (i + (rows.length - (i + 1))) cap) ?_
 refine ops_end ?_
 refine ae [(0, .slice a (i + (rows.length - (i + 1))) cap), (1, .int .i64 ((i : Nat) : Int)), (2, .int .i64 ((i + 1 : Nat) : Int)), (6, .slice a (i + (rows.length - (i + 1))) cap), (7, .int .i64 ((rows.length : Nat) : Int)), (16, .bool false)] ?_
 refine at_then_normal ?_
 refine at_ret (by kernel_rfl) ?_
 refine at_backR [.slice a (i + (rows.length - (i + 1))) cap] ((RowsA 6 a cap ((rows.take i ++ rows.drop (i + 1) ++ rows.drop (i + (rows.length - (i + 1)))).take (i + (rows.length - (i + 1))))) :: Γ) (rs := [.tmp 6]) (by kernel_rfl) (.cons (.tmp (by kernel_rfl)) .nil) (fun w hw => hw.less (.take .here .refl)) ?_
 exact ⟨by rw [show i + (rows.length - (i + 1)) = rows.length - 1 from by omega]; rfl, by rw [within_take (by omega) (by omega)]⟩
noncomputable def C56 (p : List Nat) : Code := codeAt (bodyOf Try.f56) p
set_option maxRecDepth 100000 in
theorem Drop_none {W0 : World} {Γ : List Asn} (b : Nat) (c : CacheS) (line : Int) (hlen : c.l.length ≤ 1099511627776) (hidx : idx c.l line = none) : Tr Try.prog 56 #[.pointer (some ⟨b, 0, none⟩), .int .i64 line] W0 ((CacheA b c) :: Γ) (fun r Δ => r = .tuple #[.agg #[.int .i64 0, .int .i64 0, .int .i64 0, .int .i64 0, .bool false, .slice none 0 0], .bool false] ∧ Δ = CacheA b c :: Γ) := by
 refine Tr.enter (fn := Try.f56) (c := C56 []) (args := [.pointer (some ⟨b, 0, none⟩), .int .i64 line]) 32 Try.func56 (by kernel_rfl) (by kernel_rfl) ?_
 refine ae [(0, .pointer (some ⟨b, 0, none⟩)), (1, .int .i64 line)] ?_
 refine aq (x := C56 [0]) (y := C56 [1]) ?_
 refine ar (id := 0) 2 ?_
 refine s_step 4 (by kernel_rfl) (by kernel_rfl) (st_new (T := 32) (cells := #[.int .i64 (0), .int .i64 (0), .int .i64 (0), .int .i64 (0), .bool false, .slice none 0 0]) (fun a => .pointer (some a)) (fun _ => by kernel_rfl)) ?_
 rintro _ _ ⟨b1, rfl, rfl⟩
 refine sp 5 (.bool false) ?_
 refine ops_end ?_
 refine ae [(0, .pointer (some ⟨b, 0, none⟩)), (1, .int .i64 line), (4, .pointer (some ⟨b1, 0, none⟩)), (5, .bool false)] ?_
 refine at_then_normal ?_
 refine aq (x := C56 [1, 0]) (y := C56 [1, 1]) ?_
 refine ar (id := 1) 9 ?_
 refine sp 10 (.pointer (some ⟨b, 0, none⟩)) ?_
 refine sp 11 (.int .i64 line) ?_
 refine At.conv (fun w hw => hw.less (.take (.there .here) (.take .here .refl))) ?_
 refine s_quiet 12 (.tuple #[.agg #[.int .i64 (0), .int .i64 (0), .int .i64 (0), .int .i64 (0), .bool false, .slice none 0 0], .bool false]) 18 #[.pointer (some ⟨b, 0, none⟩), .int .i64 line] (by kernel_rfl) (by kernel_rfl) (fun _ => by kernel_rfl) (Find_none b c line hlen hidx) ?_
 refine sp 9 (.tuple #[.agg #[.int .i64 (0), .int .i64 (0), .int .i64 (0), .int .i64 (0), .bool false, .slice none 0 0], .bool false]) ?_
 refine sp 13 (.agg #[.int .i64 (0), .int .i64 (0), .int .i64 (0), .int .i64 (0), .bool false, .slice none 0 0]) ?_
 refine sp 14 (.bool false) ?_
 refine s_step 6 (by kernel_rfl) (by kernel_rfl) (st_new (T := 32) (cells := #[.int .i64 (0), .int .i64 (0), .int .i64 (0), .int .i64 (0), .bool false, .slice none 0 0]) (fun a => .pointer (some a)) (fun _ => by kernel_rfl)) ?_
 rintro _ _ ⟨b2, rfl, rfl⟩
 refine s_do (by kernel_rfl) (by kernel_rfl) (st_store (off := 0) (vs := [.int .i64 (0), .int .i64 (0), .int .i64 (0), .int .i64 (0), .bool false, .slice none 0 0]) (c' := #[.int .i64 (0), .int .i64 (0), .int .i64 (0), .int .i64 (0), .bool false, .slice none 0 0]) (fun _ => by kernel_rfl) .here (by kernel_rfl) (by kernel_rfl) (by kernel_rfl)) ?_
 rintro _ _ ⟨rfl, rfl⟩
 refine sp 7 (.bool false) ?_
 refine ops_end ?_
 refine ae [(0, .pointer (some ⟨b, 0, none⟩)), (1, .int .i64 line), (4, .pointer (some ⟨b1, 0, none⟩)), (5, .bool false), (6, .pointer (some ⟨b2, 0, none⟩)), (7, .bool false)] ?_
 refine at_then_normal ?_
 refine aq (x := C56 [1, 1, 0]) (y := C56 [1, 1, 1]) ?_
 refine aq (x := C56 [1, 1, 0, 0]) (y := C56 [1, 1, 0, 1]) ?_
 refine ar (id := 2) 1 ?_
 refine sp 15 (.bool false) ?_
 refine ops_end ?_
 refine ae [(0, .pointer (some ⟨b, 0, none⟩)), (1, .int .i64 line), (4, .pointer (some ⟨b1, 0, none⟩)), (5, .bool false), (6, .pointer (some ⟨b2, 0, none⟩)), (7, .bool false), (15, .bool false)] ?_
 refine at_then_normal ?_
 refine at_false (t := false) (x := C56 [1, 1, 0, 1, 0]) (y := C56 [1, 1, 0, 1, 1]) (o := .tmp 15) (by kernel_rfl) (by kernel_rfl) (by kernel_rfl) rfl ?_
 refine at_skip (by kernel_rfl) ?_
 refine at_then_normal ?_
 refine aq (x := C56 [1, 1, 1, 0]) (y := C56 [1, 1, 1, 1]) ?_
 refine ar (id := 5) 4 ?_
 refine sl 30 (.agg #[.int .i64 (0), .int .i64 (0), .int .i64 (0), .int .i64 (0), .bool false, .slice none 0 0]) (loadN (off := 0) (vs := [.int .i64 (0), .int .i64 (0), .int .i64 (0), .int .i64 (0), .bool false, .slice none 0 0]) 6 (fun _ => by kernel_rfl) (holds_own .here) rfl (by exact ⟨rfl, rfl, rfl, rfl, rfl, rfl, trivial⟩)) ?_
 refine sp 31 (.bool false) ?_
 refine s_do (by kernel_rfl) (by kernel_rfl) (st_store (off := 0) (vs := [.int .i64 (0), .int .i64 (0), .int .i64 (0), .int .i64 (0), .bool false, .slice none 0 0]) (c' := #[.int .i64 (0), .int .i64 (0), .int .i64 (0), .int .i64 (0), .bool false, .slice none 0 0]) (fun _ => by kernel_rfl) (.there (.there .here)) (by kernel_rfl) (by kernel_rfl) (by kernel_rfl)) ?_
 rintro _ _ ⟨rfl, rfl⟩
 refine sp 5 (.bool false) ?_
 refine ops_end ?_
 refine ae [(0, .pointer (some ⟨b, 0, none⟩)), (1, .int .i64 line), (4, .pointer (some ⟨b1, 0, none⟩)), (5, .bool false), (6, .pointer (some ⟨b2, 0, none⟩)), (7, .bool false), (15, .bool false)] ?_
 refine at_then_normal ?_
 refine at_ret (by kernel_rfl) ?_
 refine at_backR [.agg #[.int .i64 (0), .int .i64 (0), .int .i64 (0), .int .i64 (0), .bool false, .slice none 0 0], .bool false] ((CacheA b c) :: Γ) (rs := [.cell 4 32, .tmp 5]) (by kernel_rfl) (.cons (.cell (by kernel_rfl) (retN (off := 0) (vs := [.int .i64 (0), .int .i64 (0), .int .i64 (0), .int .i64 (0), .bool false, .slice none 0 0]) 6 (fun _ => by kernel_rfl) (holds_own .here) rfl (by exact ⟨rfl, rfl, rfl, rfl, rfl, rfl, trivial⟩))) (.cons (.tmp (by kernel_rfl)) .nil)) (fun w hw => hw.less (.take (.there (.there .here)) (.drop .here (.drop .here .refl)))) ?_
 exact ⟨rfl, rfl⟩
set_option maxRecDepth 100000 in
theorem Drop_some {W0 : World} {Γ : List Asn} (b : Nat) (c : CacheS) (line : Int) (hlen : c.l.length ≤ 1099511627776) (hdat : ∀ x ∈ c.l, x.data.length ≤ 1099511627776) (i : Nat) (e : Ent) (hidx : idx c.l line = some i) (he : c.l[i]? = some e) : Tr Try.prog 56 #[.pointer (some ⟨b, 0, none⟩), .int .i64 line] W0 ((CacheA b c) :: Γ) (fun r Δ => ∃ a' cap', r = .tuple #[.agg #[.int .i64 e.fwd, .int .i64 e.back, .int .i64 e.line, .int .i64 e.used, .bool e.dirty, .slice a' e.data.length cap'], .bool true] ∧ Δ = IntsA a' cap' e.data :: CacheA b { c with l := c.l.eraseIdx i } :: Γ) := by
 have hilt := idx_lt hidx
 refine Tr.enter (fn := Try.f56) (c := C56 []) (args := [.pointer (some ⟨b, 0, none⟩), .int .i64 line]) 32 Try.func56 (by kernel_rfl) (by kernel_rfl) ?_
 refine ae [(0, .pointer (some ⟨b, 0, none⟩)), (1, .int .i64 line)] ?_
 refine aq (x := C56 [0]) (y := C56 [1]) ?_
 refine ar (id := 0) 2 ?_
 refine s_step 4 (by kernel_rfl) (by kernel_rfl) (st_new (T := 32) (cells := #[.int .i64 (0), .int .i64 (0), .int .i64 (0), .int .i64 (0), .bool false, .slice none 0 0]) (fun a => .pointer (some a)) (fun _ => by kernel_rfl)) ?_
 rintro _ _ ⟨b1, rfl, rfl⟩
 refine sp 5 (.bool false) ?_
 refine ops_end ?_
 refine ae [(0, .pointer (some ⟨b, 0, none⟩)), (1, .int .i64 line), (4, .pointer (some ⟨b1, 0, none⟩)), (5, .bool false)] ?_
 refine at_then_normal ?_
 refine aq (x := C56 [1, 0]) (y := C56 [1, 1]) ?_
 refine ar (id := 1) 9 ?_
 refine sp 10 (.pointer (some ⟨b, 0, none⟩)) ?_
 refine sp 11 (.int .i64 line) ?_
 refine At.conv (fun w hw => hw.less (.take (.there .here) (.take .here .refl))) ?_
 refine s_call 12 18 #[.pointer (some ⟨b, 0, none⟩), .int .i64 line] (by kernel_rfl) (by kernel_rfl) (fun _ => by kernel_rfl) (Find_some b c line hlen hdat i e hidx he) ?_
 rintro _ _ ⟨fa, fc, rfl, rfl⟩
 refine sp 9 (.tuple #[.agg #[.int .i64 e.fwd, .int .i64 e.back, .int .i64 e.line, .int .i64 e.used, .bool e.dirty, .slice fa e.data.length fc], .bool true]) ?_
 refine sp 13 (.agg #[.int .i64 e.fwd, .int .i64 e.back, .int .i64 e.line, .int .i64 e.used, .bool e.dirty, .slice fa e.data.length fc]) ?_
 refine sp 14 (.bool true) ?_
 refine s_step 6 (by kernel_rfl) (by kernel_rfl) (st_new (T := 32) (cells := #[.int .i64 (0), .int .i64 (0), .int .i64 (0), .int .i64 (0), .bool false, .slice none 0 0]) (fun a => .pointer (some a)) (fun _ => by kernel_rfl)) ?_
 rintro _ _ ⟨b2, rfl, rfl⟩
 refine s_do (by kernel_rfl) (by kernel_rfl) (st_store (off := 0) (vs := [.int .i64 e.fwd, .int .i64 e.back, .int .i64 e.line, .int .i64 e.used, .bool e.dirty, .slice fa e.data.length fc]) (c' := #[.int .i64 e.fwd, .int .i64 e.back, .int .i64 e.line, .int .i64 e.used, .bool e.dirty, .slice fa e.data.length fc]) (fun _ => by kernel_rfl) .here (by kernel_rfl) (by kernel_rfl) (by kernel_rfl)) ?_
 rintro _ _ ⟨rfl, rfl⟩
 refine sp 7 (.bool true) ?_
 refine ops_end ?_
 refine ae [(0, .pointer (some ⟨b, 0, none⟩)), (1, .int .i64 line), (4, .pointer (some ⟨b1, 0, none⟩)), (5, .bool false), (6, .pointer (some ⟨b2, 0, none⟩)), (7, .bool true)] ?_
 refine at_then_normal ?_
 refine aq (x := C56 [1, 1, 0]) (y := C56 [1, 1, 1]) ?_
 refine aq (x := C56 [1, 1, 0, 0]) (y := C56 [1, 1, 0, 1]) ?_
 refine ar (id := 2) 1 ?_
 refine sp 15 (.bool true) ?_
 refine ops_end ?_
 refine ae [(0, .pointer (some ⟨b, 0, none⟩)), (1, .int .i64 line), (4, .pointer (some ⟨b1, 0, none⟩)), (5, .bool false), (6, .pointer (some ⟨b2, 0, none⟩)), (7, .bool true), (15, .bool true)] ?_
 refine at_then_normal ?_
 refine at_true (t := true) (x := C56 [1, 1, 0, 1, 0]) (y := C56 [1, 1, 0, 1, 1]) (o := .tmp 15) (by kernel_rfl) (by kernel_rfl) (by kernel_rfl) rfl ?_
 refine aq (x := C56 [1, 1, 0, 1, 0, 0]) (y := C56 [1, 1, 0, 1, 0, 1]) ?_
 refine ar (id := 3) 4 ?_
 refine sp 16 (.pointer (some ⟨b, 0, none⟩)) ?_
 refine sp 17 (.int .i64 line) ?_
 refine At.conv (fun w hw => hw.less (.take (.there (.there .here)) (.take .here (.take .here (.take .here .refl))))) ?_
 refine s_quiet 18 (.int .i64 ((i : Nat) : Int)) 39 #[.pointer (some ⟨b, 0, none⟩), .int .i64 line] (by kernel_rfl) (by kernel_rfl) (fun _ => by kernel_rfl) (Tr.as (At_tr b c line hlen) (congrArg (Value.int .i64) (idxI_some hidx))) ?_
 refine sp 8 (.int .i64 ((i : Nat) : Int)) ?_
 refine ops_end ?_
 refine ae [(0, .pointer (some ⟨b, 0, none⟩)), (1, .int .i64 line), (4, .pointer (some ⟨b1, 0, none⟩)), (5, .bool false), (6, .pointer (some ⟨b2, 0, none⟩)), (7, .bool true), (8, .int .i64 ((i : Nat) : Int)), (15, .bool true)] ?_
 refine at_then_normal ?_
 refine ar (id := 4) 12 ?_
 refine sp 19 (.pointer (some ⟨b, 0, none⟩)) ?_
 refine sp 20 (.pointer (some ⟨b, 0, none⟩)) ?_
 refine sp 21 (.pointer (some ⟨b, 0, none⟩)) ?_
 refine sp 22 (.pointer (some ⟨b, 0, none⟩)) ?_
 refine CacheA.open .here ?_
 intro ca1 cc1 rows1 T1
 refine At.known (fun w hw => EntsR.length (.there (.there .here)) w hw) ?_
 intro hrl1
 refine sl 23 (.slice ca1 c.l.length cc1) (load1 (off := 0) (fun _ => by kernel_rfl) (holds_own .here) (by kernel_rfl)) ?_
 refine sp 24 (.int .i64 ((i : Nat) : Int)) ?_
 refine sp 25 (.int .i64 ((i : Nat) : Int)) ?_
 refine sr 26 (.int .i64 (((i : Nat) : Int) + 1)) (run_eq (v := .int .i64 (IntKind.i64.wrap (((i : Nat) : Int) + 1))) (fun _ => by kernel_rfl) (by rw [wrap_in (by omega) (by omega)])) ?_
 refine At.known (fun w hw => EntsR.one (.there (.there .here)) w hw) ?_
 intro hone
 refine At.known (fun w hw => EntsR.length (.there (.there .here)) w hw) ?_
 intro hrl
 refine At.conv (fun w hw => hw.less (.take (.there .here) (.take .here (.take .here (.take .here (.take .here (.take .here .refl))))))) ?_
 refine s_call 27 64 #[.slice ca1 c.l.length cc1, .int .i64 ((i : Nat) : Int), .int .i64 ((i + 1 : Nat) : Int)] (by kernel_rfl) (by kernel_rfl) (fun _ => by kernel_rfl) (Tr.as_slice (by rw [hrl]) (Delete_tr ca1 cc1 i rows1 (by rw [hrl]; exact idx_lt hidx) (by omega) hone)) ?_
 rintro _ _ ⟨rfl, rfl⟩
 refine sp 28 (.pointer (some ⟨b, 0, none⟩)) ?_
 refine sp 29 (.pointer (some ⟨b, 0, none⟩)) ?_
 refine s_do (by kernel_rfl) (by kernel_rfl) (st_store (off := 0) (vs := [.slice ca1 (c.l.length - 1) cc1]) (c' := #[.slice ca1 (c.l.length - 1) cc1, .int .i64 c.sets, .int .i64 c.ways, .int .i64 c.clock]) (fun _ => by kernel_rfl) (.there .here) (by kernel_rfl) (by kernel_rfl) (by kernel_rfl)) ?_
 rintro _ _ ⟨rfl, rfl⟩
 refine ops_end ?_
 refine ae [(0, .pointer (some ⟨b, 0, none⟩)), (1, .int .i64 line), (4, .pointer (some ⟨b1, 0, none⟩)), (5, .bool false), (6, .pointer (some ⟨b2, 0, none⟩)), (7, .bool true), (8, .int .i64 ((i : Nat) : Int)), (15, .bool true)] ?_
 refine at_then_normal ?_
 refine aq (x := C56 [1, 1, 1, 0]) (y := C56 [1, 1, 1, 1]) ?_
 refine ar (id := 5) 4 ?_
 refine sl 30 (.agg #[.int .i64 e.fwd, .int .i64 e.back, .int .i64 e.line, .int .i64 e.used, .bool e.dirty, .slice fa e.data.length fc]) (loadN (off := 0) (vs := [.int .i64 e.fwd, .int .i64 e.back, .int .i64 e.line, .int .i64 e.used, .bool e.dirty, .slice fa e.data.length fc]) 6 (fun _ => by kernel_rfl) (holds_own (.there (.there (.there .here)))) rfl (by exact ⟨rfl, rfl, rfl, rfl, rfl, rfl, trivial⟩)) ?_
 refine sp 31 (.bool true) ?_
 refine s_do (by kernel_rfl) (by kernel_rfl) (st_store (off := 0) (vs := [.int .i64 e.fwd, .int .i64 e.back, .int .i64 e.line, .int .i64 e.used, .bool e.dirty, .slice fa e.data.length fc]) (c' := #[.int .i64 e.fwd, .int .i64 e.back, .int .i64 e.line, .int .i64 e.used, .bool e.dirty, .slice fa e.data.length fc]) (fun _ => by kernel_rfl) (.there (.there (.there (.there (.there .here))))) (by kernel_rfl) (by kernel_rfl) (by kernel_rfl)) ?_
 rintro _ _ ⟨rfl, rfl⟩
 refine sp 5 (.bool true) ?_
 refine ops_end ?_
 refine ae [(0, .pointer (some ⟨b, 0, none⟩)), (1, .int .i64 line), (4, .pointer (some ⟨b1, 0, none⟩)), (5, .bool true), (6, .pointer (some ⟨b2, 0, none⟩)), (7, .bool true), (8, .int .i64 ((i : Nat) : Int)), (15, .bool true)] ?_
 refine at_then_normal ?_
 refine at_ret (by kernel_rfl) ?_
 refine at_backR [.agg #[.int .i64 e.fwd, .int .i64 e.back, .int .i64 e.line, .int .i64 e.used, .bool e.dirty, .slice fa e.data.length fc], .bool true] (IntsA fa fc e.data :: CacheA b ({ c with l := c.l.eraseIdx i }) :: Γ) (rs := [.cell 4 32, .tmp 5]) (by kernel_rfl) (.cons (.cell (by kernel_rfl) (retN (off := 0) (vs := [.int .i64 e.fwd, .int .i64 e.back, .int .i64 e.line, .int .i64 e.used, .bool e.dirty, .slice fa e.data.length fc]) 6 (fun _ => by kernel_rfl) (holds_own .here) rfl (by exact ⟨rfl, rfl, rfl, rfl, rfl, rfl, trivial⟩))) (.cons (.tmp (by kernel_rfl)) .nil)) (fun w hw => (CacheA.close ({ c with l := c.l.eraseIdx i }) (by rw [List.length_eraseIdx, if_pos (idx_lt hidx)]) rfl rfl rfl (Sat.rows_eq (List.eraseIdx_eq_take_drop_succ _ _) ((EntsR.erase (hw.less (.take (.there (.there (.there .here))) (.take (.there .here) (.take (.there .here) (.take (.there (.there .here)) (.drop .here (.drop .here .refl))))))) i).less (.take (.there .here) (.take (.there .here) (.take .here .refl)))))).less (.take (.there .here) (.take .here .refl))) ?_
 exact ⟨_, _, rfl, rfl⟩
noncomputable def C15 (p : List Nat) : Code := codeAt (bodyOf Try.f15) p
set_option maxRecDepth 100000 in
theorem ENew_tr {W0 : World} {Γ : List Asn} (l f bk : Int) (d : Bool) (a : Option Addr) (m cap : Nat) (xs : List Int) (hm : m = xs.length) (hr : Reads W0 Γ a (ints xs)) (hlx : xs.length ≤ 1099511627776) : Tr Try.prog 15 #[.int .i64 l, .int .i64 f, .int .i64 bk, .bool d, .slice a m cap] W0 (Γ) (fun r Δ => ∃ a' cap', r = .agg #[.int .i64 f, .int .i64 bk, .int .i64 l, .int .i64 0, .bool d, .slice a' m cap'] ∧ Δ = IntsA a' cap' xs :: Γ) := by
 refine Tr.enter (fn := Try.f15) (c := C15 []) (args := [.int .i64 l, .int .i64 f, .int .i64 bk, .bool d, .slice a m cap]) 19 Try.func15 (by kernel_rfl) (by kernel_rfl) ?_
 refine ae [(0, .int .i64 l), (1, .int .i64 f), (2, .int .i64 bk), (3, .bool d), (4, .slice a m cap)] ?_
 refine aq (x := C15 [0]) (y := C15 [1]) ?_
 refine ar (id := 0) 1 ?_
 refine s_step 10 (by kernel_rfl) (by kernel_rfl) (st_new (T := 32) (cells := #[.int .i64 (0), .int .i64 (0), .int .i64 (0), .int .i64 (0), .bool false, .slice none 0 0]) (fun a => .pointer (some a)) (fun _ => by kernel_rfl)) ?_
 rintro _ _ ⟨b1, rfl, rfl⟩
 refine ops_end ?_
 refine ae [(0, .int .i64 l), (1, .int .i64 f), (2, .int .i64 bk), (3, .bool d), (4, .slice a m cap), (10, .pointer (some ⟨b1, 0, none⟩))] ?_
 refine at_then_normal ?_
 refine aq (x := C15 [1, 0]) (y := C15 [1, 1]) ?_
 refine ar (id := 1) 9 ?_
 refine sp 11 (.int .i64 f) ?_
 refine sp 12 (.int .i64 bk) ?_
 refine sp 13 (.agg #[.int .i64 f, .int .i64 bk]) ?_
 refine sp 14 (.int .i64 l) ?_
 refine sp 15 (.bool d) ?_
 refine sp 16 (.slice a m cap) ?_
 refine s_call 17 41 #[.slice a m cap] (by kernel_rfl) (by kernel_rfl) (fun _ => by kernel_rfl) (Clone_tr a m cap xs (hm) (Reads.conv (fun w hw => hw.less (.drop .here .refl)) hr) (hlx)) ?_
 rintro _ _ ⟨a1, c1, rfl, rfl⟩
 refine sp 18 (.agg #[.int .i64 f, .int .i64 bk, .int .i64 l, .int .i64 (0), .bool d, .slice a1 m c1]) ?_
 refine s_do (by kernel_rfl) (by kernel_rfl) (st_store (off := 0) (vs := [.int .i64 f, .int .i64 bk, .int .i64 l, .int .i64 (0), .bool d, .slice a1 m c1]) (c' := #[.int .i64 f, .int .i64 bk, .int .i64 l, .int .i64 (0), .bool d, .slice a1 m c1]) (fun _ => by kernel_rfl) (.there .here) (by kernel_rfl) (by kernel_rfl) (by kernel_rfl)) ?_
 rintro _ _ ⟨rfl, rfl⟩
 refine ops_end ?_
 refine ae [(0, .int .i64 l), (1, .int .i64 f), (2, .int .i64 bk), (3, .bool d), (4, .slice a m cap), (10, .pointer (some ⟨b1, 0, none⟩))] ?_
 refine at_then_normal ?_
 refine at_ret (by kernel_rfl) ?_
 refine at_backR [.agg #[.int .i64 f, .int .i64 bk, .int .i64 l, .int .i64 (0), .bool d, .slice a1 m c1]] ((IntsA a1 c1 xs) :: Γ) (rs := [.cell 10 32]) (by kernel_rfl) (.cons (.cell (by kernel_rfl) (retN (off := 0) (vs := [.int .i64 f, .int .i64 bk, .int .i64 l, .int .i64 (0), .bool d, .slice a1 m c1]) 6 (fun _ => by kernel_rfl) (holds_own .here) rfl (by exact ⟨rfl, rfl, rfl, rfl, rfl, rfl, trivial⟩))) .nil) (fun w hw => hw.less (.take (.there .here) (.drop .here .refl))) ?_
 exact ⟨_, _, rfl, rfl⟩
end Go.Proofs.Ytlnjnkbnppnbkaa
