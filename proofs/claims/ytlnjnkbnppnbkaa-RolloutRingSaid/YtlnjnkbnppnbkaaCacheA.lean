/- A cache is looked through, filled, emptied: each method does what its plain function says, at every cache. -/
import Derived.Test.YtlnjnkbnppnbkaaSlCacheLaw
import Derived.Test.YtlnjnkbnppnbkaaKeepA
namespace Go.Proofs.Ytlnjnkbnppnbkaa
open Go Go.RowKit
set_option linter.unusedVariables false
set_option linter.unusedSimpArgs false
noncomputable def C61 (p : List Nat) : Code := codeAt (bodyOf Try.f61) p
set_option maxRecDepth 100000 in
theorem At1_tr {W0 : World} {Γ : List Asn} (lb T : Nat) (line f b l u : Int) (d : Bool) (a : Option Addr) (m cap : Nat) : Tr Try.prog 61 #[.agg #[.int .i64 f, .int .i64 b, .int .i64 l, .int .i64 u, .bool d, .slice a m cap], .pointer (some ⟨lb, 0, none⟩)] W0 ((Asn.own lb (.cells #[.int .i64 line] T (0, 0))) :: Γ) (fun r Δ => r = .bool (decide (l = line)) ∧ Δ = Asn.own lb (.cells #[.int .i64 line] T (0, 0)) :: Γ) := by
 refine Tr.enter (fn := Try.f61) (c := C61 []) (args := [.agg #[.int .i64 f, .int .i64 b, .int .i64 l, .int .i64 u, .bool d, .slice a m cap], .pointer (some ⟨lb, 0, none⟩)]) 8 Try.func61 (by kernel_rfl) (by kernel_rfl) ?_
 refine ae [(0, .agg #[.int .i64 f, .int .i64 b, .int .i64 l, .int .i64 u, .bool d, .slice a m cap]), (1, .pointer (some ⟨lb, 0, none⟩))] ?_
 refine aq (x := C61 [0]) (y := C61 [1]) ?_
 refine ar (id := 0) 2 ?_
 refine s_step 2 (by kernel_rfl) (by kernel_rfl) (st_new (T := 32) (cells := #[.int .i64 f, .int .i64 b, .int .i64 l, .int .i64 u, .bool d, .slice a m cap]) (fun a => .pointer (some a)) (fun _ => by kernel_rfl)) ?_
 rintro _ _ ⟨b1, rfl, rfl⟩
 refine sp 3 (.bool false) ?_
 refine ops_end ?_
 refine ae [(0, .agg #[.int .i64 f, .int .i64 b, .int .i64 l, .int .i64 u, .bool d, .slice a m cap]), (1, .pointer (some ⟨lb, 0, none⟩)), (2, .pointer (some ⟨b1, 0, none⟩)), (3, .bool false)] ?_
 refine at_then_normal ?_
 refine aq (x := C61 [1, 0]) (y := C61 [1, 1]) ?_
 refine ar (id := 1) 5 ?_
 refine sp 4 (.pointer (some ⟨b1, 2, none⟩)) ?_
 refine sl 5 (.int .i64 l) (load1 (off := 2) (fun _ => by kernel_rfl) (holds_own .here) (by kernel_rfl)) ?_
 refine sl 6 (.int .i64 line) (load1 (off := 0) (fun _ => by kernel_rfl) (holds_own (.there .here)) (by kernel_rfl)) ?_
 rcases Decidable.em (l = line) with h1 | h1
 ·refine sr 7 (.bool true) (run_eq (v := .bool (decide (l = line))) (fun _ => by kernel_rfl) (congrArg Value.bool (by rw [decide_eq_true h1]))) ?_
  refine sp 3 (.bool true) ?_
  refine ops_end ?_
  refine ae [(0, .agg #[.int .i64 f, .int .i64 b, .int .i64 l, .int .i64 u, .bool d, .slice a m cap]), (1, .pointer (some ⟨lb, 0, none⟩)), (2, .pointer (some ⟨b1, 0, none⟩)), (3, .bool true)] ?_
  refine at_then_normal ?_
  refine at_ret (by kernel_rfl) ?_
  refine at_backR [.bool true] ((Asn.own lb (.cells #[.int .i64 line] T (0, 0))) :: Γ) (rs := [.tmp 3]) (by kernel_rfl) (.cons (.tmp (by kernel_rfl)) .nil) (fun w hw => hw.less (.take (.there .here) (.drop .here .refl))) ?_
  exact ⟨congrArg Value.bool (by simp [*]), rfl⟩
 ·refine sr 7 (.bool false) (run_eq (v := .bool (decide (l = line))) (fun _ => by kernel_rfl) (congrArg Value.bool (by rw [decide_eq_false h1]))) ?_
  refine sp 3 (.bool false) ?_
  refine ops_end ?_
  refine ae [(0, .agg #[.int .i64 f, .int .i64 b, .int .i64 l, .int .i64 u, .bool d, .slice a m cap]), (1, .pointer (some ⟨lb, 0, none⟩)), (2, .pointer (some ⟨b1, 0, none⟩)), (3, .bool false)] ?_
  refine at_then_normal ?_
  refine at_ret (by kernel_rfl) ?_
  refine at_backR [.bool false] ((Asn.own lb (.cells #[.int .i64 line] T (0, 0))) :: Γ) (rs := [.tmp 3]) (by kernel_rfl) (.cons (.tmp (by kernel_rfl)) .nil) (fun w hw => hw.less (.take (.there .here) (.drop .here .refl))) ?_
  exact ⟨congrArg Value.bool (by simp [*]), rfl⟩
noncomputable def C60 (p : List Nat) : Code := codeAt (bodyOf Try.f60) p
set_option maxRecDepth 100000 in
theorem IndexFunc_tr {W0 : World} {Γ : List Asn} (a : Option Addr) (cap : Nat) (rows : List (List Value)) (es : List Ent) (lb T : Nat) (line : Int) (hlen : es.length ≤ 1099511627776) : Tr Try.prog 60 #[.slice a es.length cap, .func (.func 61) #[] #[.pointer (some ⟨lb, 0, none⟩)]] W0 ((RowsA 6 a cap rows) :: (EntsR rows es) :: (Asn.own lb (.cells #[.int .i64 line] T (0, 0))) :: Γ) (fun r Δ => r = .int .i64 (idxI es line) ∧ Δ = RowsA 6 a cap rows :: EntsR rows es :: Asn.own lb (.cells #[.int .i64 line] T (0, 0)) :: Γ) := by
 refine Tr.enter (fn := Try.f60) (c := C60 []) (args := [.slice a es.length cap, .func (.func 61) #[] #[.pointer (some ⟨lb, 0, none⟩)]]) 19 Try.func60 (by kernel_rfl) (by kernel_rfl) ?_
 refine ae [(0, .slice a es.length cap), (1, .func (.func 61) #[] #[.pointer (some ⟨lb, 0, none⟩)])] ?_
 refine At.known (fun w hw => EntsR.length (.there .here) w hw) ?_
 intro hrl
 refine aq (x := C60 [0]) (y := C60 [1]) ?_
 refine ar (id := 0) 1 ?_
 refine sp 4 (.int .i64 (0)) ?_
 refine ops_end ?_
 refine ae [(0, .slice a es.length cap), (1, .func (.func 61) #[] #[.pointer (some ⟨lb, 0, none⟩)]), (4, .int .i64 (0))] ?_
 refine at_then_normal ?_
 refine aq (x := C60 [1, 0]) (y := C60 [1, 1]) ?_
 refine aq (x := C60 [1, 0, 0]) (y := C60 [1, 0, 1]) ?_
 refine ar (id := 1) 3 ?_
 refine sp 6 (.slice a es.length cap) ?_
 refine sp 7 (.int .i64 ((es.length : Nat) : Int)) ?_
 refine sp 8 (.int .i64 (0)) ?_
 refine ops_end ?_
 refine ae [(0, .slice a es.length cap), (1, .func (.func 61) #[] #[.pointer (some ⟨lb, 0, none⟩)]), (4, .int .i64 (0)), (7, .int .i64 ((es.length : Nat) : Int)), (8, .int .i64 (0))] ?_
 refine at_then_normal ?_
 refine at_block (i := 0) (x := C60 [1, 0, 1, 0]) (by kernel_rfl) ?_
 refine at_loopR (x := C60 [1, 0, 1, 0, 0]) (fun mm ff ΔΔ => ∃ k : Nat, (k ≤ es.length) ∧ (∀ (j : Nat) (e : Ent), j < k → es[j]? = some e → e.line ≠ line) ∧ mm = es.length - k ∧ ff = [(0, .slice a es.length cap), (1, .func (.func 61) #[] #[.pointer (some ⟨lb, 0, none⟩)]), (7, .int .i64 ((es.length : Nat) : Int)), (8, .int .i64 ((k : Nat) : Int))] ∧ (RowsA 6 a cap rows) :: (EntsR rows es) :: (Asn.own lb (.cells #[.int .i64 line] T (0, 0))) :: Γ = ΔΔ) (es.length - 0) (by kernel_rfl) [(0, .slice a es.length cap), (1, .func (.func 61) #[] #[.pointer (some ⟨lb, 0, none⟩)]), (7, .int .i64 ((es.length : Nat) : Int)), (8, .int .i64 ((0 : Nat) : Int))] ⟨by kernel_rfl, by kernel_rfl, by kernel_rfl, by kernel_rfl, trivial⟩ ⟨0, Nat.zero_le _, (fun j e hj => absurd hj (Nat.not_lt_zero _)), rfl, rfl, rfl⟩ ?_
 rintro _ _ _ ⟨k, hl1, hl2, rfl, rfl, rfl⟩
 refine aq (x := C60 [1, 0, 1, 0, 0, 0]) (y := C60 [1, 0, 1, 0, 0, 1]) ?_
 refine ar (id := 2) 1 ?_
 rcases Decidable.em (((k : Nat) : Int) < ((es.length : Nat) : Int)) with h1 | h1
 ·refine sr 9 (.bool true) (run_eq (v := .bool (decide (((k : Nat) : Int) < ((es.length : Nat) : Int)))) (fun _ => by kernel_rfl) (congrArg Value.bool (by rw [decide_eq_true h1]))) ?_
  refine ops_end ?_
  refine ae [(0, .slice a es.length cap), (1, .func (.func 61) #[] #[.pointer (some ⟨lb, 0, none⟩)]), (7, .int .i64 ((es.length : Nat) : Int)), (8, .int .i64 ((k : Nat) : Int)), (9, .bool true)] ?_
  refine at_then_normal ?_
  refine aq (x := C60 [1, 0, 1, 0, 0, 1, 0]) (y := C60 [1, 0, 1, 0, 0, 1, 1]) ?_
  refine at_true (t := true) (x := C60 [1, 0, 1, 0, 0, 1, 0, 0]) (y := C60 [1, 0, 1, 0, 0, 1, 0, 1]) (o := .tmp 9) (by kernel_rfl) (by kernel_rfl) (by kernel_rfl) rfl ?_
  refine at_skip (by kernel_rfl) ?_
  refine at_then_normal ?_
  refine aq (x := C60 [1, 0, 1, 0, 0, 1, 1, 0]) (y := C60 [1, 0, 1, 0, 0, 1, 1, 1]) ?_
  refine at_block (i := 1) (x := C60 [1, 0, 1, 0, 0, 1, 1, 0, 0]) (by kernel_rfl) ?_
  refine aq (x := C60 [1, 0, 1, 0, 0, 1, 1, 0, 0, 0]) (y := C60 [1, 0, 1, 0, 0, 1, 1, 0, 0, 1]) ?_
  refine ar (id := 3) 2 ?_
  refine sp 10 (.int .i64 ((k : Nat) : Int)) ?_
  refine sp 5 (.int .i64 ((k : Nat) : Int)) ?_
  refine ops_end ?_
  refine ae [(0, .slice a es.length cap), (1, .func (.func 61) #[] #[.pointer (some ⟨lb, 0, none⟩)]), (5, .int .i64 ((k : Nat) : Int)), (7, .int .i64 ((es.length : Nat) : Int)), (8, .int .i64 ((k : Nat) : Int)), (9, .bool true)] ?_
  refine at_then_normal ?_
  refine aq (x := C60 [1, 0, 1, 0, 0, 1, 1, 0, 0, 1, 0]) (y := C60 [1, 0, 1, 0, 0, 1, 1, 0, 0, 1, 1]) ?_
  refine ar (id := 4) 6 ?_
  refine sp 11 (.func (.func 61) #[] #[.pointer (some ⟨lb, 0, none⟩)]) ?_
  refine sp 12 (.slice a es.length cap) ?_
  refine sp 13 (.int .i64 ((k : Nat) : Int)) ?_
  refine rows_at .here (by omega) ?_
  intro b1 o1 ha1
  obtain ⟨e1, he1⟩ := getAt es (k) (by omega)
  refine At.known (fun w hw => EntsR.get (.there .here) he1 w hw) ?_
  rintro ⟨a1, c1, hrow1⟩
  refine sr 14 (.pointer (some ⟨b1, o1 + (k * 6 + 0), none⟩)) (index_at (t := 70) (sz := 6) (E := 32) (a := a) (m := es.length) (c := cap) (b := b1) (off := o1) (i := k) (tinfo 32) (fun _ => by kernel_rfl) (by kernel_rfl) (by kernel_rfl) (by kernel_rfl) ha1 (by first | rfl | simp | omega) (by omega) rfl) ?_
  refine sl 15 (.agg #[.int .i64 e1.fwd, .int .i64 e1.back, .int .i64 e1.line, .int .i64 e1.used, .bool e1.dirty, .slice a1 e1.data.length c1]) (loadN_at (k := 6) (row := [.int .i64 e1.fwd, .int .i64 e1.back, .int .i64 e1.line, .int .i64 e1.used, .bool e1.dirty, .slice a1 e1.data.length c1]) (off := o1) (i := k) (fun _ => by kernel_rfl) rfl rfl (fun j v hj => (rows_cell (k := 6) .here ha1 hrow1 hj))) ?_
  refine At.conv (fun w hw => hw.less (.take (.there (.there .here)) (.take .here (.take .here .refl)))) ?_
  rcases Decidable.em (e1.line = line) with h2 | h2
  ·refine s_quiet 16 (.bool true) 61 #[.agg #[.int .i64 e1.fwd, .int .i64 e1.back, .int .i64 e1.line, .int .i64 e1.used, .bool e1.dirty, .slice a1 e1.data.length c1], .pointer (some ⟨lb, 0, none⟩)] (by kernel_rfl) (by kernel_rfl) (fun _ => by kernel_rfl) (Tr.as (At1_tr lb T line e1.fwd e1.back e1.line e1.used e1.dirty a1 e1.data.length c1) (congrArg Value.bool (decide_eq_true h2))) ?_
   refine ops_end ?_
   refine ae [(0, .slice a es.length cap), (1, .func (.func 61) #[] #[.pointer (some ⟨lb, 0, none⟩)]), (5, .int .i64 ((k : Nat) : Int)), (7, .int .i64 ((es.length : Nat) : Int)), (8, .int .i64 ((k : Nat) : Int)), (9, .bool true), (16, .bool true)] ?_
   refine at_then_normal ?_
   refine at_true (t := true) (x := C60 [1, 0, 1, 0, 0, 1, 1, 0, 0, 1, 1, 0]) (y := C60 [1, 0, 1, 0, 0, 1, 1, 0, 0, 1, 1, 1]) (o := .tmp 16) (by kernel_rfl) (by kernel_rfl) (by kernel_rfl) rfl ?_
   refine aq (x := C60 [1, 0, 1, 0, 0, 1, 1, 0, 0, 1, 1, 0, 0]) (y := C60 [1, 0, 1, 0, 0, 1, 1, 0, 0, 1, 1, 0, 1]) ?_
   refine ar (id := 5) 2 ?_
   refine sp 17 (.int .i64 ((k : Nat) : Int)) ?_
   refine sp 4 (.int .i64 ((k : Nat) : Int)) ?_
   refine ops_end ?_
   refine ae [(0, .slice a es.length cap), (1, .func (.func 61) #[] #[.pointer (some ⟨lb, 0, none⟩)]), (4, .int .i64 ((k : Nat) : Int)), (5, .int .i64 ((k : Nat) : Int)), (7, .int .i64 ((es.length : Nat) : Int)), (8, .int .i64 ((k : Nat) : Int)), (9, .bool true), (16, .bool true)] ?_
   refine at_then_normal ?_
   refine at_ret (by kernel_rfl) ?_
   refine at_in_ret ?_
   refine at_then_ret ?_
   refine at_then_ret ?_
   refine at_in_ret ?_
   refine at_then_ret ?_
   refine at_backR [.int .i64 ((k : Nat) : Int)] ((RowsA 6 a cap rows) :: (EntsR rows es) :: (Asn.own lb (.cells #[.int .i64 line] T (0, 0))) :: Γ) (rs := [.tmp 4]) (by kernel_rfl) (.cons (.tmp (by kernel_rfl)) .nil) (fun w hw => hw.less (.take (.there .here) (.take (.there .here) (.take .here .refl)))) ?_
   exact ⟨congrArg (Value.int .i64) (idxI_some (idx_hit he1 h2 hl2)).symm, rfl⟩
  ·refine s_quiet 16 (.bool false) 61 #[.agg #[.int .i64 e1.fwd, .int .i64 e1.back, .int .i64 e1.line, .int .i64 e1.used, .bool e1.dirty, .slice a1 e1.data.length c1], .pointer (some ⟨lb, 0, none⟩)] (by kernel_rfl) (by kernel_rfl) (fun _ => by kernel_rfl) (Tr.as (At1_tr lb T line e1.fwd e1.back e1.line e1.used e1.dirty a1 e1.data.length c1) (congrArg Value.bool (decide_eq_false h2))) ?_
   refine ops_end ?_
   refine ae [(0, .slice a es.length cap), (1, .func (.func 61) #[] #[.pointer (some ⟨lb, 0, none⟩)]), (5, .int .i64 ((k : Nat) : Int)), (7, .int .i64 ((es.length : Nat) : Int)), (8, .int .i64 ((k : Nat) : Int)), (9, .bool true), (16, .bool false)] ?_
   refine at_then_normal ?_
   refine at_false (t := false) (x := C60 [1, 0, 1, 0, 0, 1, 1, 0, 0, 1, 1, 0]) (y := C60 [1, 0, 1, 0, 0, 1, 1, 0, 0, 1, 1, 1]) (o := .tmp 16) (by kernel_rfl) (by kernel_rfl) (by kernel_rfl) rfl ?_
   refine at_skip (by kernel_rfl) ?_
   refine at_in_normal ?_
   refine at_then_normal ?_
   refine ar (id := 6) 2 ?_
   refine sr 18 (.int .i64 (((k : Nat) : Int) + 1)) (run_eq (v := .int .i64 (IntKind.i64.wrap (((k : Nat) : Int) + 1))) (fun _ => by kernel_rfl) (by rw [wrap_in (by omega) (by omega)])) ?_
   refine sp 8 (.int .i64 (((k : Nat) : Int) + 1)) ?_
   refine ops_end ?_
   refine ae [(0, .slice a es.length cap), (1, .func (.func 61) #[] #[.pointer (some ⟨lb, 0, none⟩)]), (5, .int .i64 ((k : Nat) : Int)), (7, .int .i64 ((es.length : Nat) : Int)), (8, .int .i64 (((k : Nat) : Int) + 1)), (9, .bool true), (16, .bool false)] ?_
   refine at_round_normal ?_
   exact at_roundR (es.length - (k + 1)) [(0, .slice a es.length cap), (1, .func (.func 61) #[] #[.pointer (some ⟨lb, 0, none⟩)]), (7, .int .i64 ((es.length : Nat) : Int)), (8, .int .i64 (((k + 1) : Nat) : Int))] ((RowsA 6 a cap rows) :: (EntsR rows es) :: (Asn.own lb (.cells #[.int .i64 line] T (0, 0))) :: Γ) (by omega) ⟨by kernel_rfl, by kernel_rfl, by kernel_rfl, by kernel_rfl, trivial⟩ (fun w hw => hw.less (.take (.there .here) (.take (.there .here) (.take .here .refl)))) ⟨(k + 1), (by omega), (below_succ hl2 he1 h2), rfl, rfl, rfl⟩
 ·refine sr 9 (.bool false) (run_eq (v := .bool (decide (((k : Nat) : Int) < ((es.length : Nat) : Int)))) (fun _ => by kernel_rfl) (congrArg Value.bool (by rw [decide_eq_false h1]))) ?_
  refine ops_end ?_
  refine ae [(0, .slice a es.length cap), (1, .func (.func 61) #[] #[.pointer (some ⟨lb, 0, none⟩)]), (7, .int .i64 ((es.length : Nat) : Int)), (8, .int .i64 ((k : Nat) : Int)), (9, .bool false)] ?_
  refine at_then_normal ?_
  refine aq (x := C60 [1, 0, 1, 0, 0, 1, 0]) (y := C60 [1, 0, 1, 0, 0, 1, 1]) ?_
  refine at_false (t := false) (x := C60 [1, 0, 1, 0, 0, 1, 0, 0]) (y := C60 [1, 0, 1, 0, 0, 1, 0, 1]) (o := .tmp 9) (by kernel_rfl) (by kernel_rfl) (by kernel_rfl) rfl ?_
  refine at_exit (i := 0) (by kernel_rfl) ?_
  refine at_then_exit ?_
  refine at_then_exit ?_
  refine at_in_here ?_
  refine at_then_normal ?_
  refine aq (x := C60 [1, 1, 0]) (y := C60 [1, 1, 1]) ?_
  refine ar (id := 7) 1 ?_
  refine sp 4 (.int .i64 (-1)) ?_
  refine ops_end ?_
  refine ae [(0, .slice a es.length cap), (1, .func (.func 61) #[] #[.pointer (some ⟨lb, 0, none⟩)]), (4, .int .i64 (-1)), (7, .int .i64 ((es.length : Nat) : Int)), (8, .int .i64 ((k : Nat) : Int)), (9, .bool false)] ?_
  refine at_then_normal ?_
  refine at_ret (by kernel_rfl) ?_
  refine at_backR [.int .i64 (-1)] ((RowsA 6 a cap rows) :: (EntsR rows es) :: (Asn.own lb (.cells #[.int .i64 line] T (0, 0))) :: Γ) (rs := [.tmp 4]) (by kernel_rfl) (.cons (.tmp (by kernel_rfl)) .nil) (fun w hw => hw.less (.take .here (.take .here (.take .here .refl)))) ?_
  exact ⟨congrArg (Value.int .i64) (idxI_none (idx_none fun j e he => hl2 j e (by obtain ⟨hj, _⟩ := List.getElem?_eq_some_iff.1 he; omega) he)).symm, rfl⟩
noncomputable def C39 (p : List Nat) : Code := codeAt (bodyOf Try.f39) p
set_option maxRecDepth 100000 in
theorem At_tr {W0 : World} {Γ : List Asn} (b : Nat) (c : CacheS) (line : Int) (hlen : c.l.length ≤ 1099511627776) : Tr Try.prog 39 #[.pointer (some ⟨b, 0, none⟩), .int .i64 line] W0 ((CacheA b c) :: Γ) (fun r Δ => r = .int .i64 (idxI c.l line) ∧ Δ = CacheA b c :: Γ) := by
 refine Tr.enter (fn := Try.f39) (c := C39 []) (args := [.pointer (some ⟨b, 0, none⟩), .int .i64 line]) 11 Try.func39 (by kernel_rfl) (by kernel_rfl) ?_
 refine ae [(0, .pointer (some ⟨b, 0, none⟩)), (1, .int .i64 line)] ?_
 refine CacheA.open .here ?_
 intro ca1 cc1 rows1 T1
 refine aq (x := C39 [0]) (y := C39 [1]) ?_
 refine ar (id := 0) 2 ?_
 refine s_step 3 (by kernel_rfl) (by kernel_rfl) (st_new (T := 3) (cells := #[.int .i64 line]) (fun a => .pointer (some a)) (fun _ => by kernel_rfl)) ?_
 rintro _ _ ⟨b1, rfl, rfl⟩
 refine sp 4 (.int .i64 (0)) ?_
 refine ops_end ?_
 refine ae [(0, .pointer (some ⟨b, 0, none⟩)), (1, .int .i64 line), (3, .pointer (some ⟨b1, 0, none⟩)), (4, .int .i64 (0))] ?_
 refine at_then_normal ?_
 refine aq (x := C39 [1, 0]) (y := C39 [1, 1]) ?_
 refine ar (id := 1) 7 ?_
 refine sp 5 (.pointer (some ⟨b, 0, none⟩)) ?_
 refine sp 6 (.pointer (some ⟨b, 0, none⟩)) ?_
 refine sp 7 (.pointer (some ⟨b, 0, none⟩)) ?_
 refine sl 8 (.slice ca1 c.l.length cc1) (load1 (off := 0) (fun _ => by kernel_rfl) (holds_own (.there .here)) (by kernel_rfl)) ?_
 refine sp 9 (.func (.func 61) #[] #[.pointer (some ⟨b1, 0, none⟩)]) ?_
 refine At.conv (fun w hw => hw.less (.take (.there (.there .here)) (.take (.there (.there .here)) (.take .here (.take .here .refl))))) ?_
 refine s_quiet 10 (.int .i64 (idxI c.l line)) 60 #[.slice ca1 c.l.length cc1, .func (.func 61) #[] #[.pointer (some ⟨b1, 0, none⟩)]] (by kernel_rfl) (by kernel_rfl) (fun _ => by kernel_rfl) (IndexFunc_tr ca1 cc1 rows1 c.l b1 3 line hlen) ?_
 refine sp 4 (.int .i64 (idxI c.l line)) ?_
 refine ops_end ?_
 refine ae [(0, .pointer (some ⟨b, 0, none⟩)), (1, .int .i64 line), (3, .pointer (some ⟨b1, 0, none⟩)), (4, .int .i64 (idxI c.l line))] ?_
 refine at_then_normal ?_
 refine at_ret (by kernel_rfl) ?_
 refine at_backR [.int .i64 (idxI c.l line)] (CacheA b c :: Γ) (rs := [.tmp 4]) (by kernel_rfl) (.cons (.tmp (by kernel_rfl)) .nil) (fun w hw => CacheA.close c rfl rfl rfl rfl (hw.less (.take (.there (.there (.there .here))) (.take .here (.take .here (.drop .here .refl)))))) ?_
 exact ⟨rfl, rfl⟩
noncomputable def C38 (p : List Nat) : Code := codeAt (bodyOf Try.f38) p
set_option maxRecDepth 100000 in
theorem EClone_tr {W0 : World} {Γ : List Asn} (f bk l u : Int) (d : Bool) (a : Option Addr) (m cap : Nat) (xs : List Int) (hm : m = xs.length) (hr : Reads W0 Γ a (ints xs)) (hlx : xs.length ≤ 1099511627776) : Tr Try.prog 38 #[.agg #[.int .i64 f, .int .i64 bk, .int .i64 l, .int .i64 u, .bool d, .slice a m cap]] W0 (Γ) (fun r Δ => ∃ a' cap', r = .agg #[.int .i64 f, .int .i64 bk, .int .i64 l, .int .i64 u, .bool d, .slice a' m cap'] ∧ Δ = IntsA a' cap' xs :: Γ) := by
 refine Tr.enter (fn := Try.f38) (c := C38 []) (args := [.agg #[.int .i64 f, .int .i64 bk, .int .i64 l, .int .i64 u, .bool d, .slice a m cap]]) 8 Try.func38 (by kernel_rfl) (by kernel_rfl) ?_
 refine ae [(0, .agg #[.int .i64 f, .int .i64 bk, .int .i64 l, .int .i64 u, .bool d, .slice a m cap])] ?_
 refine aq (x := C38 [0]) (y := C38 [1]) ?_
 refine ar (id := 0) 2 ?_
 refine s_step 1 (by kernel_rfl) (by kernel_rfl) (st_new (T := 32) (cells := #[.int .i64 f, .int .i64 bk, .int .i64 l, .int .i64 u, .bool d, .slice a m cap]) (fun a => .pointer (some a)) (fun _ => by kernel_rfl)) ?_
 rintro _ _ ⟨b1, rfl, rfl⟩
 refine s_step 2 (by kernel_rfl) (by kernel_rfl) (st_new (T := 32) (cells := #[.int .i64 (0), .int .i64 (0), .int .i64 (0), .int .i64 (0), .bool false, .slice none 0 0]) (fun a => .pointer (some a)) (fun _ => by kernel_rfl)) ?_
 rintro _ _ ⟨b2, rfl, rfl⟩
 refine ops_end ?_
 refine ae [(0, .agg #[.int .i64 f, .int .i64 bk, .int .i64 l, .int .i64 u, .bool d, .slice a m cap]), (1, .pointer (some ⟨b1, 0, none⟩)), (2, .pointer (some ⟨b2, 0, none⟩))] ?_
 refine at_then_normal ?_
 refine aq (x := C38 [1, 0]) (y := C38 [1, 1]) ?_
 refine ar (id := 1) 5 ?_
 refine sp 3 (.pointer (some ⟨b1, 5, none⟩)) ?_
 refine sl 4 (.slice a m cap) (load1 (off := 5) (fun _ => by kernel_rfl) (holds_own (.there .here)) (by kernel_rfl)) ?_
 refine s_call 5 41 #[.slice a m cap] (by kernel_rfl) (by kernel_rfl) (fun _ => by kernel_rfl) (Clone_tr a m cap xs (hm) (Reads.conv (fun w hw => hw.less (.drop .here (.drop .here .refl))) hr) (by omega)) ?_
 rintro _ _ ⟨a1, c1, rfl, rfl⟩
 refine sp 6 (.pointer (some ⟨b1, 5, none⟩)) ?_
 refine s_do (by kernel_rfl) (by kernel_rfl) (st_store (off := 5) (vs := [.slice a1 m c1]) (c' := #[.int .i64 f, .int .i64 bk, .int .i64 l, .int .i64 u, .bool d, .slice a1 m c1]) (fun _ => by kernel_rfl) (.there (.there .here)) (by kernel_rfl) (by kernel_rfl) (by kernel_rfl)) ?_
 rintro _ _ ⟨rfl, rfl⟩
 refine ops_end ?_
 refine ae [(0, .agg #[.int .i64 f, .int .i64 bk, .int .i64 l, .int .i64 u, .bool d, .slice a m cap]), (1, .pointer (some ⟨b1, 0, none⟩)), (2, .pointer (some ⟨b2, 0, none⟩))] ?_
 refine at_then_normal ?_
 refine aq (x := C38 [1, 1, 0]) (y := C38 [1, 1, 1]) ?_
 refine ar (id := 2) 2 ?_
 refine sl 7 (.agg #[.int .i64 f, .int .i64 bk, .int .i64 l, .int .i64 u, .bool d, .slice a1 m c1]) (loadN (off := 0) (vs := [.int .i64 f, .int .i64 bk, .int .i64 l, .int .i64 u, .bool d, .slice a1 m c1]) 6 (fun _ => by kernel_rfl) (holds_own .here) rfl (by exact ⟨rfl, rfl, rfl, rfl, rfl, rfl, trivial⟩)) ?_
 refine s_do (by kernel_rfl) (by kernel_rfl) (st_store (off := 0) (vs := [.int .i64 f, .int .i64 bk, .int .i64 l, .int .i64 u, .bool d, .slice a1 m c1]) (c' := #[.int .i64 f, .int .i64 bk, .int .i64 l, .int .i64 u, .bool d, .slice a1 m c1]) (fun _ => by kernel_rfl) (.there (.there .here)) (by kernel_rfl) (by kernel_rfl) (by kernel_rfl)) ?_
 rintro _ _ ⟨rfl, rfl⟩
 refine ops_end ?_
 refine ae [(0, .agg #[.int .i64 f, .int .i64 bk, .int .i64 l, .int .i64 u, .bool d, .slice a m cap]), (1, .pointer (some ⟨b1, 0, none⟩)), (2, .pointer (some ⟨b2, 0, none⟩))] ?_
 refine at_then_normal ?_
 refine at_ret (by kernel_rfl) ?_
 refine at_backR [.agg #[.int .i64 f, .int .i64 bk, .int .i64 l, .int .i64 u, .bool d, .slice a1 m c1]] ((IntsA a1 c1 xs) :: Γ) (rs := [.cell 2 32]) (by kernel_rfl) (.cons (.cell (by kernel_rfl) (retN (off := 0) (vs := [.int .i64 f, .int .i64 bk, .int .i64 l, .int .i64 u, .bool d, .slice a1 m c1]) 6 (fun _ => by kernel_rfl) (holds_own .here) rfl (by exact ⟨rfl, rfl, rfl, rfl, rfl, rfl, trivial⟩))) .nil) (fun w hw => hw.less (.take (.there (.there .here)) (.drop .here (.drop .here .refl)))) ?_
 exact ⟨_, _, rfl, rfl⟩
noncomputable def C18 (p : List Nat) : Code := codeAt (bodyOf Try.f18) p
set_option maxRecDepth 100000 in
theorem Find_none {W0 : World} {Γ : List Asn} (b : Nat) (c : CacheS) (line : Int) (hlen : c.l.length ≤ 1099511627776) (hidx : idx c.l line = none) : Tr Try.prog 18 #[.pointer (some ⟨b, 0, none⟩), .int .i64 line] W0 ((CacheA b c) :: Γ) (fun r Δ => r = .tuple #[.agg #[.int .i64 0, .int .i64 0, .int .i64 0, .int .i64 0, .bool false, .slice none 0 0], .bool false] ∧ Δ = CacheA b c :: Γ) := by
 refine Tr.enter (fn := Try.f18) (c := C18 []) (args := [.pointer (some ⟨b, 0, none⟩), .int .i64 line]) 21 Try.func18 (by kernel_rfl) (by kernel_rfl) ?_
 refine ae [(0, .pointer (some ⟨b, 0, none⟩)), (1, .int .i64 line)] ?_
 refine aq (x := C18 [0]) (y := C18 [1]) ?_
 refine ar (id := 0) 2 ?_
 refine s_step 4 (by kernel_rfl) (by kernel_rfl) (st_new (T := 32) (cells := #[.int .i64 (0), .int .i64 (0), .int .i64 (0), .int .i64 (0), .bool false, .slice none 0 0]) (fun a => .pointer (some a)) (fun _ => by kernel_rfl)) ?_
 rintro _ _ ⟨b1, rfl, rfl⟩
 refine sp 5 (.bool false) ?_
 refine ops_end ?_
 refine ae [(0, .pointer (some ⟨b, 0, none⟩)), (1, .int .i64 line), (4, .pointer (some ⟨b1, 0, none⟩)), (5, .bool false)] ?_
 refine at_then_normal ?_
 refine aq (x := C18 [1, 0]) (y := C18 [1, 1]) ?_
 refine ar (id := 1) 4 ?_
 refine sp 7 (.pointer (some ⟨b, 0, none⟩)) ?_
 refine sp 8 (.int .i64 line) ?_
 refine At.conv (fun w hw => hw.less (.take (.there .here) (.take .here .refl))) ?_
 refine s_quiet 9 (.int .i64 (-1)) 39 #[.pointer (some ⟨b, 0, none⟩), .int .i64 line] (by kernel_rfl) (by kernel_rfl) (fun _ => by kernel_rfl) (Tr.as (At_tr b c line hlen) (congrArg (Value.int .i64) (idxI_none hidx))) ?_
 refine sp 6 (.int .i64 (-1)) ?_
 refine ops_end ?_
 refine ae [(0, .pointer (some ⟨b, 0, none⟩)), (1, .int .i64 line), (4, .pointer (some ⟨b1, 0, none⟩)), (5, .bool false), (6, .int .i64 (-1))] ?_
 refine at_then_normal ?_
 refine aq (x := C18 [1, 1, 0]) (y := C18 [1, 1, 1]) ?_
 refine aq (x := C18 [1, 1, 0, 0]) (y := C18 [1, 1, 0, 1]) ?_
 refine ar (id := 2) 2 ?_
 refine sp 10 (.int .i64 (-1)) ?_
 refine sp 11 (.bool true) ?_
 refine ops_end ?_
 refine ae [(0, .pointer (some ⟨b, 0, none⟩)), (1, .int .i64 line), (4, .pointer (some ⟨b1, 0, none⟩)), (5, .bool false), (6, .int .i64 (-1)), (11, .bool true)] ?_
 refine at_then_normal ?_
 refine at_true (t := true) (x := C18 [1, 1, 0, 1, 0]) (y := C18 [1, 1, 0, 1, 1]) (o := .tmp 11) (by kernel_rfl) (by kernel_rfl) (by kernel_rfl) rfl ?_
 refine aq (x := C18 [1, 1, 0, 1, 0, 0]) (y := C18 [1, 1, 0, 1, 0, 1]) ?_
 refine ar (id := 3) 3 ?_
 refine sp 12 (.agg #[.int .i64 (0), .int .i64 (0), .int .i64 (0), .int .i64 (0), .bool false, .slice none 0 0]) ?_
 refine s_do (by kernel_rfl) (by kernel_rfl) (st_store (off := 0) (vs := [.int .i64 (0), .int .i64 (0), .int .i64 (0), .int .i64 (0), .bool false, .slice none 0 0]) (c' := #[.int .i64 (0), .int .i64 (0), .int .i64 (0), .int .i64 (0), .bool false, .slice none 0 0]) (fun _ => by kernel_rfl) (.there .here) (by kernel_rfl) (by kernel_rfl) (by kernel_rfl)) ?_
 rintro _ _ ⟨rfl, rfl⟩
 refine sp 5 (.bool false) ?_
 refine ops_end ?_
 refine ae [(0, .pointer (some ⟨b, 0, none⟩)), (1, .int .i64 line), (4, .pointer (some ⟨b1, 0, none⟩)), (5, .bool false), (6, .int .i64 (-1)), (11, .bool true)] ?_
 refine at_then_normal ?_
 refine at_ret (by kernel_rfl) ?_
 refine at_then_ret ?_
 refine at_backR [.agg #[.int .i64 (0), .int .i64 (0), .int .i64 (0), .int .i64 (0), .bool false, .slice none 0 0], .bool false] ((CacheA b c) :: Γ) (rs := [.cell 4 32, .tmp 5]) (by kernel_rfl) (.cons (.cell (by kernel_rfl) (retN (off := 0) (vs := [.int .i64 (0), .int .i64 (0), .int .i64 (0), .int .i64 (0), .bool false, .slice none 0 0]) 6 (fun _ => by kernel_rfl) (holds_own .here) rfl (by exact ⟨rfl, rfl, rfl, rfl, rfl, rfl, trivial⟩))) (.cons (.tmp (by kernel_rfl)) .nil)) (fun w hw => hw.less (.take (.there .here) (.drop .here .refl))) ?_
 exact ⟨rfl, rfl⟩
set_option maxRecDepth 100000 in
theorem Find_some {W0 : World} {Γ : List Asn} (b : Nat) (c : CacheS) (line : Int) (hlen : c.l.length ≤ 1099511627776) (hdat : ∀ x ∈ c.l, x.data.length ≤ 1099511627776) (i : Nat) (e : Ent) (hidx : idx c.l line = some i) (he : c.l[i]? = some e) : Tr Try.prog 18 #[.pointer (some ⟨b, 0, none⟩), .int .i64 line] W0 ((CacheA b c) :: Γ) (fun r Δ => ∃ a' cap', r = .tuple #[.agg #[.int .i64 e.fwd, .int .i64 e.back, .int .i64 e.line, .int .i64 e.used, .bool e.dirty, .slice a' e.data.length cap'], .bool true] ∧ Δ = IntsA a' cap' e.data :: CacheA b c :: Γ) := by
 refine Tr.enter (fn := Try.f18) (c := C18 []) (args := [.pointer (some ⟨b, 0, none⟩), .int .i64 line]) 21 Try.func18 (by kernel_rfl) (by kernel_rfl) ?_
 refine ae [(0, .pointer (some ⟨b, 0, none⟩)), (1, .int .i64 line)] ?_
 refine aq (x := C18 [0]) (y := C18 [1]) ?_
 refine ar (id := 0) 2 ?_
 refine s_step 4 (by kernel_rfl) (by kernel_rfl) (st_new (T := 32) (cells := #[.int .i64 (0), .int .i64 (0), .int .i64 (0), .int .i64 (0), .bool false, .slice none 0 0]) (fun a => .pointer (some a)) (fun _ => by kernel_rfl)) ?_
 rintro _ _ ⟨b1, rfl, rfl⟩
 refine sp 5 (.bool false) ?_
 refine ops_end ?_
 refine ae [(0, .pointer (some ⟨b, 0, none⟩)), (1, .int .i64 line), (4, .pointer (some ⟨b1, 0, none⟩)), (5, .bool false)] ?_
 refine at_then_normal ?_
 refine aq (x := C18 [1, 0]) (y := C18 [1, 1]) ?_
 refine ar (id := 1) 4 ?_
 refine sp 7 (.pointer (some ⟨b, 0, none⟩)) ?_
 refine sp 8 (.int .i64 line) ?_
 refine At.conv (fun w hw => hw.less (.take (.there .here) (.take .here .refl))) ?_
 refine s_quiet 9 (.int .i64 ((i : Nat) : Int)) 39 #[.pointer (some ⟨b, 0, none⟩), .int .i64 line] (by kernel_rfl) (by kernel_rfl) (fun _ => by kernel_rfl) (Tr.as (At_tr b c line hlen) (congrArg (Value.int .i64) (idxI_some hidx))) ?_
 refine sp 6 (.int .i64 ((i : Nat) : Int)) ?_
 refine ops_end ?_
 refine ae [(0, .pointer (some ⟨b, 0, none⟩)), (1, .int .i64 line), (4, .pointer (some ⟨b1, 0, none⟩)), (5, .bool false), (6, .int .i64 ((i : Nat) : Int))] ?_
 refine at_then_normal ?_
 refine aq (x := C18 [1, 1, 0]) (y := C18 [1, 1, 1]) ?_
 refine aq (x := C18 [1, 1, 0, 0]) (y := C18 [1, 1, 0, 1]) ?_
 refine ar (id := 2) 2 ?_
 refine sp 10 (.int .i64 ((i : Nat) : Int)) ?_
 refine sr 11 (.bool false) (run_eq (v := .bool (decide (((i : Nat) : Int) < (0 : Int)))) (fun _ => by kernel_rfl) (congrArg Value.bool (by rw [decide_eq_false (by omega)]))) ?_
 refine ops_end ?_
 refine ae [(0, .pointer (some ⟨b, 0, none⟩)), (1, .int .i64 line), (4, .pointer (some ⟨b1, 0, none⟩)), (5, .bool false), (6, .int .i64 ((i : Nat) : Int)), (11, .bool false)] ?_
 refine at_then_normal ?_
 refine at_false (t := false) (x := C18 [1, 1, 0, 1, 0]) (y := C18 [1, 1, 0, 1, 1]) (o := .tmp 11) (by kernel_rfl) (by kernel_rfl) (by kernel_rfl) rfl ?_
 refine at_skip (by kernel_rfl) ?_
 refine at_then_normal ?_
 refine aq (x := C18 [1, 1, 1, 0]) (y := C18 [1, 1, 1, 1]) ?_
 refine ar (id := 4) 10 ?_
 refine sp 13 (.pointer (some ⟨b, 0, none⟩)) ?_
 refine sp 14 (.pointer (some ⟨b, 0, none⟩)) ?_
 refine sp 15 (.pointer (some ⟨b, 0, none⟩)) ?_
 refine CacheA.open .here ?_
 intro ca1 cc1 rows1 T1
 refine At.known (fun w hw => EntsR.length (.there (.there .here)) w hw) ?_
 intro hrl
 refine sl 16 (.slice ca1 c.l.length cc1) (load1 (off := 0) (fun _ => by kernel_rfl) (holds_own .here) (by kernel_rfl)) ?_
 refine sp 17 (.int .i64 ((i : Nat) : Int)) ?_
 refine rows_at (.there .here) (by rw [hrl]; have := idx_lt hidx; omega) ?_
 intro b2 o1 ha1
 refine At.known (fun w hw => EntsR.get (.there (.there .here)) he w hw) ?_
 rintro ⟨a1, c1, hrow1⟩
 refine sr 18 (.pointer (some ⟨b2, o1 + (i * 6 + 0), none⟩)) (index_at (t := 70) (sz := 6) (E := 32) (a := ca1) (m := c.l.length) (c := cc1) (b := b2) (off := o1) (i := i) (tinfo 32) (fun _ => by kernel_rfl) (by kernel_rfl) (by kernel_rfl) (by kernel_rfl) ha1 (by first | rfl | simp | omega) (idx_lt hidx) rfl) ?_
 refine sl 19 (.agg #[.int .i64 e.fwd, .int .i64 e.back, .int .i64 e.line, .int .i64 e.used, .bool e.dirty, .slice a1 e.data.length c1]) (loadN_at (k := 6) (row := [.int .i64 e.fwd, .int .i64 e.back, .int .i64 e.line, .int .i64 e.used, .bool e.dirty, .slice a1 e.data.length c1]) (off := o1) (i := i) (fun _ => by kernel_rfl) rfl rfl (fun j v hj => (rows_cell (k := 6) (.there .here) ha1 hrow1 hj))) ?_
 refine s_call 20 38 #[.agg #[.int .i64 e.fwd, .int .i64 e.back, .int .i64 e.line, .int .i64 e.used, .bool e.dirty, .slice a1 e.data.length c1]] (by kernel_rfl) (by kernel_rfl) (fun _ => by kernel_rfl) (EClone_tr e.fwd e.back e.line e.used e.dirty a1 e.data.length c1 e.data (rfl) (Reads.conv (fun w hw => EntsR.imm (.there (.there .here)) he hrow1 hw) (ImmR.reads (k := 1) .here)) (hdat _ (List.mem_of_getElem? he))) ?_
 rintro _ _ ⟨a2, c2, rfl, rfl⟩
 refine s_do (by kernel_rfl) (by kernel_rfl) (st_store (off := 0) (vs := [.int .i64 e.fwd, .int .i64 e.back, .int .i64 e.line, .int .i64 e.used, .bool e.dirty, .slice a2 e.data.length c2]) (c' := #[.int .i64 e.fwd, .int .i64 e.back, .int .i64 e.line, .int .i64 e.used, .bool e.dirty, .slice a2 e.data.length c2]) (fun _ => by kernel_rfl) (.there (.there (.there (.there .here)))) (by kernel_rfl) (by kernel_rfl) (by kernel_rfl)) ?_
 rintro _ _ ⟨rfl, rfl⟩
 refine sp 5 (.bool true) ?_
 refine ops_end ?_
 refine ae [(0, .pointer (some ⟨b, 0, none⟩)), (1, .int .i64 line), (4, .pointer (some ⟨b1, 0, none⟩)), (5, .bool true), (6, .int .i64 ((i : Nat) : Int)), (11, .bool false)] ?_
 refine at_then_normal ?_
 refine at_ret (by kernel_rfl) ?_
 refine at_backR [.agg #[.int .i64 e.fwd, .int .i64 e.back, .int .i64 e.line, .int .i64 e.used, .bool e.dirty, .slice a2 e.data.length c2], .bool true] ((IntsA a2 c2 e.data) :: CacheA b (c) :: Γ) (rs := [.cell 4 32, .tmp 5]) (by kernel_rfl) (.cons (.cell (by kernel_rfl) (retN (off := 0) (vs := [.int .i64 e.fwd, .int .i64 e.back, .int .i64 e.line, .int .i64 e.used, .bool e.dirty, .slice a2 e.data.length c2]) 6 (fun _ => by kernel_rfl) (holds_own .here) rfl (by exact ⟨rfl, rfl, rfl, rfl, rfl, rfl, trivial⟩))) (.cons (.tmp (by kernel_rfl)) .nil)) (fun w hw => (CacheA.close (c) rfl rfl rfl rfl (hw.less (.take (.there (.there .here)) (.take (.there (.there .here)) (.take (.there (.there .here)) (.take (.there .here) (.drop .here .refl))))))).less (.take (.there .here) (.take .here .refl))) ?_
 exact ⟨_, _, rfl, rfl⟩
noncomputable def C62 (p : List Nat) : Code := codeAt (bodyOf Try.f62) p
set_option maxRecDepth 100000 in
theorem Set_tr {W0 : World} {Γ : List Asn} (b : Nat) (c : CacheS) (line : Int) (hlen : c.l.length ≤ 1099511627776) (hs : 1 ≤ c.sets) : Tr Try.prog 62 #[.pointer (some ⟨b, 0, none⟩), .int .i64 line] W0 ((CacheA b c) :: Γ) (fun r Δ => ∃ a' cap' rows', r = .slice a' (setL c line).length cap' ∧ Δ = RowsA 6 a' cap' rows' :: EntsR rows' (setL c line) :: CacheA b c :: Γ) := by
 refine Tr.enter (fn := Try.f62) (c := C62 []) (args := [.pointer (some ⟨b, 0, none⟩), .int .i64 line]) 41 Try.func62 (by kernel_rfl) (by kernel_rfl) ?_
 refine ae [(0, .pointer (some ⟨b, 0, none⟩)), (1, .int .i64 line)] ?_
 refine CacheA.open .here ?_
 intro ca1 cc1 rows1 T1
 refine At.known (fun w hw => EntsR.length (.there (.there .here)) w hw) ?_
 intro hrl
 refine At.conv (fun w hw => EntsR.nil (RowsA.none_mk (k := 6) (a := none) hw)) ?_
 refine aq (x := C62 [0]) (y := C62 [1]) ?_
 refine ar (id := 0) 1 ?_
 refine sp 4 (.slice none 0 0) ?_
 refine ops_end ?_
 refine ae [(0, .pointer (some ⟨b, 0, none⟩)), (1, .int .i64 line), (4, .slice none 0 0)] ?_
 refine at_then_normal ?_
 refine aq (x := C62 [1, 0]) (y := C62 [1, 1]) ?_
 refine ar (id := 1) 1 ?_
 refine sp 5 (.slice none 0 0) ?_
 refine ops_end ?_
 refine ae [(0, .pointer (some ⟨b, 0, none⟩)), (1, .int .i64 line), (4, .slice none 0 0), (5, .slice none 0 0)] ?_
 refine at_then_normal ?_
 refine aq (x := C62 [1, 1, 0]) (y := C62 [1, 1, 1]) ?_
 refine aq (x := C62 [1, 1, 0, 0]) (y := C62 [1, 1, 0, 1]) ?_
 refine ar (id := 2) 6 ?_
 refine sp 8 (.pointer (some ⟨b, 0, none⟩)) ?_
 refine sp 9 (.pointer (some ⟨b, 0, none⟩)) ?_
 refine sp 10 (.pointer (some ⟨b, 0, none⟩)) ?_
 refine sl 11 (.slice ca1 c.l.length cc1) (load1 (off := 0) (fun _ => by kernel_rfl) (holds_own (.there (.there .here))) (by kernel_rfl)) ?_
 refine sp 12 (.int .i64 ((c.l.length : Nat) : Int)) ?_
 refine sp 13 (.int .i64 (0)) ?_
 refine ops_end ?_
 refine ae [(0, .pointer (some ⟨b, 0, none⟩)), (1, .int .i64 line), (4, .slice none 0 0), (5, .slice none 0 0), (11, .slice ca1 c.l.length cc1), (12, .int .i64 ((c.l.length : Nat) : Int)), (13, .int .i64 (0))] ?_
 refine at_then_normal ?_
 refine at_block (i := 0) (x := C62 [1, 1, 0, 1, 0]) (by kernel_rfl) ?_
 refine at_loopR (x := C62 [1, 1, 0, 1, 0, 0]) (fun mm ff ΔΔ => ∃ k : Nat, ∃ oa : Option Addr, ∃ oc : Nat, ∃ orows : List (List Value), ∃ oes : List Ent, ∃ om : Nat, (k ≤ c.l.length) ∧ (oes = (c.l.take k).filter (inSet c.sets line)) ∧ (om = oes.length) ∧ mm = c.l.length - k ∧ ff = [(0, .pointer (some ⟨b, 0, none⟩)), (1, .int .i64 line), (5, .slice oa om oc), (11, .slice ca1 c.l.length cc1), (12, .int .i64 ((c.l.length : Nat) : Int)), (13, .int .i64 ((k : Nat) : Int))] ∧ (EntsR orows oes) :: (RowsA 6 oa oc orows) :: (Asn.own b (.cells #[.slice ca1 c.l.length cc1, .int .i64 c.sets, .int .i64 c.ways, .int .i64 c.clock] T1 (0, 0))) :: (RowsA 6 ca1 cc1 rows1) :: (EntsR rows1 c.l) :: Γ = ΔΔ) (c.l.length - 0) (by kernel_rfl) [(0, .pointer (some ⟨b, 0, none⟩)), (1, .int .i64 line), (5, .slice none 0 0), (11, .slice ca1 c.l.length cc1), (12, .int .i64 ((c.l.length : Nat) : Int)), (13, .int .i64 ((0 : Nat) : Int))] ⟨by kernel_rfl, by kernel_rfl, by kernel_rfl, by kernel_rfl, by kernel_rfl, by kernel_rfl, trivial⟩ ⟨0, none, 0, [], [], 0, Nat.zero_le _, rfl, rfl, rfl, rfl, rfl⟩ ?_
 rintro _ _ _ ⟨k, oa, oc, orows, oes, om, hl1, hl2, hl3, rfl, rfl, rfl⟩
 refine At.known (fun w hw => EntsR.length .here w hw) ?_
 intro hol
 refine aq (x := C62 [1, 1, 0, 1, 0, 0, 0]) (y := C62 [1, 1, 0, 1, 0, 0, 1]) ?_
 refine ar (id := 3) 1 ?_
 rcases Decidable.em (((k : Nat) : Int) < ((c.l.length : Nat) : Int)) with h1 | h1
 ·refine sr 14 (.bool true) (run_eq (v := .bool (decide (((k : Nat) : Int) < ((c.l.length : Nat) : Int)))) (fun _ => by kernel_rfl) (congrArg Value.bool (by rw [decide_eq_true h1]))) ?_
  refine ops_end ?_
  refine ae [(0, .pointer (some ⟨b, 0, none⟩)), (1, .int .i64 line), (5, .slice oa om oc), (11, .slice ca1 c.l.length cc1), (12, .int .i64 ((c.l.length : Nat) : Int)), (13, .int .i64 ((k : Nat) : Int)), (14, .bool true)] ?_
  refine at_then_normal ?_
  refine aq (x := C62 [1, 1, 0, 1, 0, 0, 1, 0]) (y := C62 [1, 1, 0, 1, 0, 0, 1, 1]) ?_
  refine at_true (t := true) (x := C62 [1, 1, 0, 1, 0, 0, 1, 0, 0]) (y := C62 [1, 1, 0, 1, 0, 0, 1, 0, 1]) (o := .tmp 14) (by kernel_rfl) (by kernel_rfl) (by kernel_rfl) rfl ?_
  refine at_skip (by kernel_rfl) ?_
  refine at_then_normal ?_
  refine aq (x := C62 [1, 1, 0, 1, 0, 0, 1, 1, 0]) (y := C62 [1, 1, 0, 1, 0, 0, 1, 1, 1]) ?_
  refine at_block (i := 1) (x := C62 [1, 1, 0, 1, 0, 0, 1, 1, 0, 0]) (by kernel_rfl) ?_
  refine aq (x := C62 [1, 1, 0, 1, 0, 0, 1, 1, 0, 0, 0]) (y := C62 [1, 1, 0, 1, 0, 0, 1, 1, 0, 0, 1]) ?_
  refine ar (id := 4) 4 ?_
  refine rows_at (.there (.there (.there .here))) (by omega) ?_
  intro b1 o1 ha1
  obtain ⟨e1, he1⟩ := getAt c.l (k) (by omega)
  refine At.known (fun w hw => EntsR.get (.there (.there (.there (.there .here)))) he1 w hw) ?_
  rintro ⟨a1, c1, hrow1⟩
  refine sr 15 (.pointer (some ⟨b1, o1 + (k * 6 + 0), none⟩)) (index_at (t := 70) (sz := 6) (E := 32) (a := ca1) (m := c.l.length) (c := cc1) (b := b1) (off := o1) (i := k) (tinfo 32) (fun _ => by kernel_rfl) (by kernel_rfl) (by kernel_rfl) (by kernel_rfl) ha1 (by first | rfl | simp | omega) (by omega) rfl) ?_
  refine sl 16 (.agg #[.int .i64 e1.fwd, .int .i64 e1.back, .int .i64 e1.line, .int .i64 e1.used, .bool e1.dirty, .slice a1 e1.data.length c1]) (loadN_at (k := 6) (row := [.int .i64 e1.fwd, .int .i64 e1.back, .int .i64 e1.line, .int .i64 e1.used, .bool e1.dirty, .slice a1 e1.data.length c1]) (off := o1) (i := k) (fun _ => by kernel_rfl) rfl rfl (fun j v hj => (rows_cell (k := 6) (.there (.there (.there .here))) ha1 hrow1 hj))) ?_
  refine s_step 7 (by kernel_rfl) (by kernel_rfl) (st_new (T := 32) (cells := #[.int .i64 (0), .int .i64 (0), .int .i64 (0), .int .i64 (0), .bool false, .slice none 0 0]) (fun a => .pointer (some a)) (fun _ => by kernel_rfl)) ?_
  rintro _ _ ⟨b2, rfl, rfl⟩
  refine s_do (by kernel_rfl) (by kernel_rfl) (st_store (off := 0) (vs := [.int .i64 e1.fwd, .int .i64 e1.back, .int .i64 e1.line, .int .i64 e1.used, .bool e1.dirty, .slice a1 e1.data.length c1]) (c' := #[.int .i64 e1.fwd, .int .i64 e1.back, .int .i64 e1.line, .int .i64 e1.used, .bool e1.dirty, .slice a1 e1.data.length c1]) (fun _ => by kernel_rfl) .here (by kernel_rfl) (by kernel_rfl) (by kernel_rfl)) ?_
  rintro _ _ ⟨rfl, rfl⟩
  refine ops_end ?_
  refine ae [(0, .pointer (some ⟨b, 0, none⟩)), (1, .int .i64 line), (5, .slice oa om oc), (7, .pointer (some ⟨b2, 0, none⟩)), (11, .slice ca1 c.l.length cc1), (12, .int .i64 ((c.l.length : Nat) : Int)), (13, .int .i64 ((k : Nat) : Int)), (14, .bool true)] ?_
  refine at_then_normal ?_
  refine aq (x := C62 [1, 1, 0, 1, 0, 0, 1, 1, 0, 0, 1, 0]) (y := C62 [1, 1, 0, 1, 0, 0, 1, 1, 0, 0, 1, 1]) ?_
  refine at_region_draw (id := 5) (by kernel_rfl) (by kernel_rfl) ?_
  refine dp 0 17 (.int .i64 line) ?_
  rcases Decidable.em ((0 : Int) ≤ line) with h2 | h2
  ·refine d_pure 1 18 (.bool true) (by kernel_rfl) (by kernel_rfl) (by kernel_rfl) (run_eq (v := .bool (decide ((0 : Int) ≤ line))) (fun _ => by kernel_rfl) (congrArg Value.bool (by rw [decide_eq_true h2]))) ?_
   refine dp 2 19 (.bool true) ?_
   refine dp 3 20 (.pointer (some ⟨b2, 2, none⟩)) ?_
   refine dl 4 21 (.int .i64 e1.line) (load1 (off := 2) (fun _ => by kernel_rfl) (holds_own .here) (by kernel_rfl)) ?_
   refine dp 5 22 (.pointer (some ⟨b, 0, none⟩)) ?_
   refine dp 6 23 (.pointer (some ⟨b, 0, none⟩)) ?_
   refine dp 7 24 (.pointer (some ⟨b, 1, none⟩)) ?_
   refine dl 8 25 (.int .i64 c.sets) (load1 (off := 1) (fun _ => by kernel_rfl) (holds_own (.there (.there (.there .here)))) (by kernel_rfl)) ?_
   refine d_pure 9 26 (.int .i64 (e1.line.tmod c.sets)) (by kernel_rfl) (by kernel_rfl) (by kernel_rfl) (run_rem (a := e1.line) (b := c.sets) (fun _ => by kernel_rfl) hs) ?_
   refine dp 10 27 (.int .i64 line) ?_
   refine dp 11 28 (.pointer (some ⟨b, 0, none⟩)) ?_
   refine dp 12 29 (.pointer (some ⟨b, 0, none⟩)) ?_
   refine dp 13 30 (.pointer (some ⟨b, 1, none⟩)) ?_
   refine dl 14 31 (.int .i64 c.sets) (load1 (off := 1) (fun _ => by kernel_rfl) (holds_own (.there (.there (.there .here)))) (by kernel_rfl)) ?_
   refine d_pure 15 32 (.int .i64 (line.tmod c.sets)) (by kernel_rfl) (by kernel_rfl) (by kernel_rfl) (run_rem (a := line) (b := c.sets) (fun _ => by kernel_rfl) hs) ?_
   rcases Decidable.em ((e1.line.tmod c.sets) = (line.tmod c.sets)) with h3 | h3
   ·refine d_pure 16 33 (.bool true) (by kernel_rfl) (by kernel_rfl) (by kernel_rfl) (run_eq (v := .bool (decide ((e1.line.tmod c.sets) = (line.tmod c.sets)))) (fun _ => by kernel_rfl) (congrArg Value.bool (by rw [decide_eq_true h3]))) ?_
    refine dp 17 34 (.bool true) ?_
    refine draw_end (by kernel_rfl) ?_
    refine ae [(0, .pointer (some ⟨b, 0, none⟩)), (1, .int .i64 line), (5, .slice oa om oc), (7, .pointer (some ⟨b2, 0, none⟩)), (11, .slice ca1 c.l.length cc1), (12, .int .i64 ((c.l.length : Nat) : Int)), (13, .int .i64 ((k : Nat) : Int)), (14, .bool true), (34, .bool true)] ?_
    refine at_then_normal ?_
    refine at_true (t := true) (x := C62 [1, 1, 0, 1, 0, 0, 1, 1, 0, 0, 1, 1, 0]) (y := C62 [1, 1, 0, 1, 0, 0, 1, 1, 0, 0, 1, 1, 1]) (o := .tmp 34) (by kernel_rfl) (by kernel_rfl) (by kernel_rfl) rfl ?_
    refine ar (id := 6) 5 ?_
    refine sp 35 (.slice oa om oc) ?_
    refine sl 36 (.agg #[.int .i64 e1.fwd, .int .i64 e1.back, .int .i64 e1.line, .int .i64 e1.used, .bool e1.dirty, .slice a1 e1.data.length c1]) (loadN (off := 0) (vs := [.int .i64 e1.fwd, .int .i64 e1.back, .int .i64 e1.line, .int .i64 e1.used, .bool e1.dirty, .slice a1 e1.data.length c1]) 6 (fun _ => by kernel_rfl) (holds_own .here) rfl (by exact ⟨rfl, rfl, rfl, rfl, rfl, rfl, trivial⟩)) ?_
    refine s_step 37 (by kernel_rfl) (by kernel_rfl) (st_new (T := 32) (cells := #[.int .i64 e1.fwd, .int .i64 e1.back, .int .i64 e1.line, .int .i64 e1.used, .bool e1.dirty, .slice a1 e1.data.length c1]) (fun a => .slice (some a) 1 1) (fun _ => by kernel_rfl)) ?_
    rintro _ _ ⟨b3, rfl, rfl⟩
    refine s_step 38 (by kernel_rfl) (by kernel_rfl) (st_appendP (k := 6) (rows := orows) (news := [[.int .i64 e1.fwd, .int .i64 e1.back, .int .i64 e1.line, .int .i64 e1.used, .bool e1.dirty, .slice a1 e1.data.length c1]]) (m1 := om) (m2 := 1) (cap2 := 1) 70 70 32 64 (.agg #[.int .i64 0, .int .i64 0, .int .i64 0, .int .i64 0, .bool false, .slice none 0 0]) (tinfo 32) (fun _ => by kernel_rfl) (by kernel_rfl) (by kernel_rfl) (by kernel_rfl) (by kernel_rfl) (by kernel_rfl) (by kernel_rfl) rfl (.there (.there (.there .here))) (Reads.own .here rfl) (fun r hr => by simp only [List.mem_singleton] at hr; subst hr; rfl) rfl (by omega) rfl (by have := set_len hl2; omega)) ?_
    rintro _ _ ⟨a2, c2, rfl, rfl⟩
    refine sp 5 (.slice a2 (om + 1) c2) ?_
    refine ops_end ?_
    refine ae [(0, .pointer (some ⟨b, 0, none⟩)), (1, .int .i64 line), (5, .slice a2 (om + 1) c2), (7, .pointer (some ⟨b2, 0, none⟩)), (11, .slice ca1 c.l.length cc1), (12, .int .i64 ((c.l.length : Nat) : Int)), (13, .int .i64 ((k : Nat) : Int)), (14, .bool true), (34, .bool true)] ?_
    refine at_in_normal ?_
    refine at_then_normal ?_
    refine ar (id := 7) 2 ?_
    refine sr 39 (.int .i64 (((k : Nat) : Int) + 1)) (run_eq (v := .int .i64 (IntKind.i64.wrap (((k : Nat) : Int) + 1))) (fun _ => by kernel_rfl) (by rw [wrap_in (by omega) (by omega)])) ?_
    refine sp 13 (.int .i64 (((k : Nat) : Int) + 1)) ?_
    refine ops_end ?_
    refine ae [(0, .pointer (some ⟨b, 0, none⟩)), (1, .int .i64 line), (5, .slice a2 (om + 1) c2), (7, .pointer (some ⟨b2, 0, none⟩)), (11, .slice ca1 c.l.length cc1), (12, .int .i64 ((c.l.length : Nat) : Int)), (13, .int .i64 (((k : Nat) : Int) + 1)), (14, .bool true), (34, .bool true)] ?_
    refine at_round_normal ?_
    refine At.conv (fun w hw => EntsR.imm (.there (.there (.there (.there (.there (.there .here)))))) he1 hrow1 hw) ?_
    refine At.conv (fun w hw => hw.less (.take (.there (.there (.there (.there .here)))) (.take .here (.take .here (.take .here (.take .here (.take .here (.take .here (.take .here .refl))))))))) ?_
    refine At.conv (fun w hw => EntsR.push (e := e1) hw c1) ?_
    exact at_roundR (c.l.length - (k + 1)) [(0, .pointer (some ⟨b, 0, none⟩)), (1, .int .i64 line), (5, .slice a2 (om + 1) c2), (11, .slice ca1 c.l.length cc1), (12, .int .i64 ((c.l.length : Nat) : Int)), (13, .int .i64 (((k + 1) : Nat) : Int))] ((EntsR (orows ++ [entRow e1 a1 c1]) (oes ++ [e1])) :: (RowsA 6 a2 c2 (orows ++ [entRow e1 a1 c1])) :: (Asn.own b (.cells #[.slice ca1 c.l.length cc1, .int .i64 c.sets, .int .i64 c.ways, .int .i64 c.clock] T1 (0, 0))) :: (RowsA 6 ca1 cc1 rows1) :: (EntsR rows1 c.l) :: Γ) (by omega) ⟨by kernel_rfl, by kernel_rfl, by kernel_rfl, by kernel_rfl, by kernel_rfl, by kernel_rfl, trivial⟩ (fun w hw => hw.less (.take .here (.take .here (.take (.there (.there .here)) (.take (.there (.there .here)) (.take (.there (.there .here)) (.drop .here (.drop .here .refl)))))))) ⟨(k + 1), a2, c2, (orows ++ [entRow e1 a1 c1]), (oes ++ [e1]), (om + 1), (by omega), (set_step hl2 he1 (inSet_yes h2 h3)), (by simp; omega), rfl, rfl, rfl⟩
   ·refine d_pure 16 33 (.bool false) (by kernel_rfl) (by kernel_rfl) (by kernel_rfl) (run_eq (v := .bool (decide ((e1.line.tmod c.sets) = (line.tmod c.sets)))) (fun _ => by kernel_rfl) (congrArg Value.bool (by rw [decide_eq_false h3]))) ?_
    refine dp 17 34 (.bool false) ?_
    refine draw_end (by kernel_rfl) ?_
    refine ae [(0, .pointer (some ⟨b, 0, none⟩)), (1, .int .i64 line), (5, .slice oa om oc), (7, .pointer (some ⟨b2, 0, none⟩)), (11, .slice ca1 c.l.length cc1), (12, .int .i64 ((c.l.length : Nat) : Int)), (13, .int .i64 ((k : Nat) : Int)), (14, .bool true), (34, .bool false)] ?_
    refine at_then_normal ?_
    refine at_false (t := false) (x := C62 [1, 1, 0, 1, 0, 0, 1, 1, 0, 0, 1, 1, 0]) (y := C62 [1, 1, 0, 1, 0, 0, 1, 1, 0, 0, 1, 1, 1]) (o := .tmp 34) (by kernel_rfl) (by kernel_rfl) (by kernel_rfl) rfl ?_
    refine at_skip (by kernel_rfl) ?_
    refine at_in_normal ?_
    refine at_then_normal ?_
    refine ar (id := 7) 2 ?_
    refine sr 39 (.int .i64 (((k : Nat) : Int) + 1)) (run_eq (v := .int .i64 (IntKind.i64.wrap (((k : Nat) : Int) + 1))) (fun _ => by kernel_rfl) (by rw [wrap_in (by omega) (by omega)])) ?_
    refine sp 13 (.int .i64 (((k : Nat) : Int) + 1)) ?_
    refine ops_end ?_
    refine ae [(0, .pointer (some ⟨b, 0, none⟩)), (1, .int .i64 line), (5, .slice oa om oc), (7, .pointer (some ⟨b2, 0, none⟩)), (11, .slice ca1 c.l.length cc1), (12, .int .i64 ((c.l.length : Nat) : Int)), (13, .int .i64 (((k : Nat) : Int) + 1)), (14, .bool true), (34, .bool false)] ?_
    refine at_round_normal ?_
    exact at_roundR (c.l.length - (k + 1)) [(0, .pointer (some ⟨b, 0, none⟩)), (1, .int .i64 line), (5, .slice oa om oc), (11, .slice ca1 c.l.length cc1), (12, .int .i64 ((c.l.length : Nat) : Int)), (13, .int .i64 (((k + 1) : Nat) : Int))] ((EntsR orows oes) :: (RowsA 6 oa oc orows) :: (Asn.own b (.cells #[.slice ca1 c.l.length cc1, .int .i64 c.sets, .int .i64 c.ways, .int .i64 c.clock] T1 (0, 0))) :: (RowsA 6 ca1 cc1 rows1) :: (EntsR rows1 c.l) :: Γ) (by omega) ⟨by kernel_rfl, by kernel_rfl, by kernel_rfl, by kernel_rfl, by kernel_rfl, by kernel_rfl, trivial⟩ (fun w hw => hw.less (.take (.there .here) (.take (.there .here) (.take (.there .here) (.take (.there .here) (.take (.there .here) (.drop .here .refl))))))) ⟨(k + 1), oa, oc, orows, oes, om, (by omega), (set_skip hl2 he1 (inSet_no2 h3)), hl3, rfl, rfl, rfl⟩
  ·refine d_pure 1 18 (.bool false) (by kernel_rfl) (by kernel_rfl) (by kernel_rfl) (run_eq (v := .bool (decide ((0 : Int) ≤ line))) (fun _ => by kernel_rfl) (congrArg Value.bool (by rw [decide_eq_false h2]))) ?_
   refine dp 2 19 (.bool false) ?_
   refine d_off 3 20 (by kernel_rfl) (by kernel_rfl) (by kernel_rfl) ?_
   refine d_off 4 21 (by kernel_rfl) (by kernel_rfl) (by kernel_rfl) ?_
   refine d_off 5 22 (by kernel_rfl) (by kernel_rfl) (by kernel_rfl) ?_
   refine d_off 6 23 (by kernel_rfl) (by kernel_rfl) (by kernel_rfl) ?_
   refine d_off 7 24 (by kernel_rfl) (by kernel_rfl) (by kernel_rfl) ?_
   refine d_off 8 25 (by kernel_rfl) (by kernel_rfl) (by kernel_rfl) ?_
   refine d_off 9 26 (by kernel_rfl) (by kernel_rfl) (by kernel_rfl) ?_
   refine d_off 10 27 (by kernel_rfl) (by kernel_rfl) (by kernel_rfl) ?_
   refine d_off 11 28 (by kernel_rfl) (by kernel_rfl) (by kernel_rfl) ?_
   refine d_off 12 29 (by kernel_rfl) (by kernel_rfl) (by kernel_rfl) ?_
   refine d_off 13 30 (by kernel_rfl) (by kernel_rfl) (by kernel_rfl) ?_
   refine d_off 14 31 (by kernel_rfl) (by kernel_rfl) (by kernel_rfl) ?_
   refine d_off 15 32 (by kernel_rfl) (by kernel_rfl) (by kernel_rfl) ?_
   refine d_off 16 33 (by kernel_rfl) (by kernel_rfl) (by kernel_rfl) ?_
   refine dp 17 34 (.bool false) ?_
   refine draw_end (by kernel_rfl) ?_
   refine ae [(0, .pointer (some ⟨b, 0, none⟩)), (1, .int .i64 line), (5, .slice oa om oc), (7, .pointer (some ⟨b2, 0, none⟩)), (11, .slice ca1 c.l.length cc1), (12, .int .i64 ((c.l.length : Nat) : Int)), (13, .int .i64 ((k : Nat) : Int)), (14, .bool true), (34, .bool false)] ?_
   refine at_then_normal ?_
   refine at_false (t := false) (x := C62 [1, 1, 0, 1, 0, 0, 1, 1, 0, 0, 1, 1, 0]) (y := C62 [1, 1, 0, 1, 0, 0, 1, 1, 0, 0, 1, 1, 1]) (o := .tmp 34) (by kernel_rfl) (by kernel_rfl) (by kernel_rfl) rfl ?_
   refine at_skip (by kernel_rfl) ?_
   refine at_in_normal ?_
   refine at_then_normal ?_
   refine ar (id := 7) 2 ?_
   refine sr 39 (.int .i64 (((k : Nat) : Int) + 1)) (run_eq (v := .int .i64 (IntKind.i64.wrap (((k : Nat) : Int) + 1))) (fun _ => by kernel_rfl) (by rw [wrap_in (by omega) (by omega)])) ?_
   refine sp 13 (.int .i64 (((k : Nat) : Int) + 1)) ?_
   refine ops_end ?_
   refine ae [(0, .pointer (some ⟨b, 0, none⟩)), (1, .int .i64 line), (5, .slice oa om oc), (7, .pointer (some ⟨b2, 0, none⟩)), (11, .slice ca1 c.l.length cc1), (12, .int .i64 ((c.l.length : Nat) : Int)), (13, .int .i64 (((k : Nat) : Int) + 1)), (14, .bool true), (34, .bool false)] ?_
   refine at_round_normal ?_
   exact at_roundR (c.l.length - (k + 1)) [(0, .pointer (some ⟨b, 0, none⟩)), (1, .int .i64 line), (5, .slice oa om oc), (11, .slice ca1 c.l.length cc1), (12, .int .i64 ((c.l.length : Nat) : Int)), (13, .int .i64 (((k + 1) : Nat) : Int))] ((EntsR orows oes) :: (RowsA 6 oa oc orows) :: (Asn.own b (.cells #[.slice ca1 c.l.length cc1, .int .i64 c.sets, .int .i64 c.ways, .int .i64 c.clock] T1 (0, 0))) :: (RowsA 6 ca1 cc1 rows1) :: (EntsR rows1 c.l) :: Γ) (by omega) ⟨by kernel_rfl, by kernel_rfl, by kernel_rfl, by kernel_rfl, by kernel_rfl, by kernel_rfl, trivial⟩ (fun w hw => hw.less (.take (.there .here) (.take (.there .here) (.take (.there .here) (.take (.there .here) (.take (.there .here) (.drop .here .refl))))))) ⟨(k + 1), oa, oc, orows, oes, om, (by omega), (set_skip hl2 he1 (inSet_no h2)), hl3, rfl, rfl, rfl⟩
 ·refine sr 14 (.bool false) (run_eq (v := .bool (decide (((k : Nat) : Int) < ((c.l.length : Nat) : Int)))) (fun _ => by kernel_rfl) (congrArg Value.bool (by rw [decide_eq_false h1]))) ?_
  refine ops_end ?_
  refine ae [(0, .pointer (some ⟨b, 0, none⟩)), (1, .int .i64 line), (5, .slice oa om oc), (11, .slice ca1 c.l.length cc1), (12, .int .i64 ((c.l.length : Nat) : Int)), (13, .int .i64 ((k : Nat) : Int)), (14, .bool false)] ?_
  refine at_then_normal ?_
  refine aq (x := C62 [1, 1, 0, 1, 0, 0, 1, 0]) (y := C62 [1, 1, 0, 1, 0, 0, 1, 1]) ?_
  refine at_false (t := false) (x := C62 [1, 1, 0, 1, 0, 0, 1, 0, 0]) (y := C62 [1, 1, 0, 1, 0, 0, 1, 0, 1]) (o := .tmp 14) (by kernel_rfl) (by kernel_rfl) (by kernel_rfl) rfl ?_
  refine at_exit (i := 0) (by kernel_rfl) ?_
  refine at_then_exit ?_
  refine at_then_exit ?_
  refine at_in_here ?_
  refine at_then_normal ?_
  refine aq (x := C62 [1, 1, 1, 0]) (y := C62 [1, 1, 1, 1]) ?_
  refine ar (id := 8) 2 ?_
  refine sp 40 (.slice oa om oc) ?_
  refine sp 4 (.slice oa om oc) ?_
  refine ops_end ?_
  refine ae [(0, .pointer (some ⟨b, 0, none⟩)), (1, .int .i64 line), (4, .slice oa om oc), (5, .slice oa om oc), (11, .slice ca1 c.l.length cc1), (12, .int .i64 ((c.l.length : Nat) : Int)), (13, .int .i64 ((k : Nat) : Int)), (14, .bool false)] ?_
  refine at_then_normal ?_
  refine at_ret (by kernel_rfl) ?_
  obtain rfl := set_all hl2 h1
  obtain rfl := hl3
  refine at_backR [.slice oa ((setL c line).length) oc] (RowsA 6 oa oc orows :: EntsR orows (setL c line) :: CacheA b c :: Γ) (rs := [.tmp 4]) (by kernel_rfl) (.cons (.tmp (by kernel_rfl)) .nil) (fun w hw => (CacheA.close c rfl rfl rfl rfl (hw.less (.take (.there (.there .here)) (.take (.there (.there .here)) (.take (.there (.there .here)) (.take (.there .here) (.take .here .refl))))))).less (.take (.there .here) (.take (.there .here) (.take .here .refl)))) ?_
  exact ⟨_, _, _, rfl, rfl⟩
noncomputable def C40 (p : List Nat) : Code := codeAt (bodyOf Try.f40) p
set_option maxRecDepth 100000 in
theorem Full_none {W0 : World} {Γ : List Asn} (b : Nat) (c : CacheS) (line : Int) (hlen : c.l.length ≤ 1099511627776) (hs : 1 ≤ c.sets) (hidx : idx c.l line = none) : Tr Try.prog 40 #[.pointer (some ⟨b, 0, none⟩), .int .i64 line] W0 ((CacheA b c) :: Γ) (fun r Δ => r = .bool (decide (c.ways ≤ (setL c line).length)) ∧ Δ = CacheA b c :: Γ) := by
 refine Tr.enter (fn := Try.f40) (c := C40 []) (args := [.pointer (some ⟨b, 0, none⟩), .int .i64 line]) 20 Try.func40 (by kernel_rfl) (by kernel_rfl) ?_
 refine ae [(0, .pointer (some ⟨b, 0, none⟩)), (1, .int .i64 line)] ?_
 refine aq (x := C40 [0]) (y := C40 [1]) ?_
 refine ar (id := 0) 1 ?_
 refine sp 4 (.bool false) ?_
 refine ops_end ?_
 refine ae [(0, .pointer (some ⟨b, 0, none⟩)), (1, .int .i64 line), (4, .bool false)] ?_
 refine at_then_normal ?_
 refine aq (x := C40 [1, 0]) (y := C40 [1, 1]) ?_
 refine at_region_draw (id := 1) (by kernel_rfl) (by kernel_rfl) ?_
 refine dp 0 5 (.pointer (some ⟨b, 0, none⟩)) ?_
 refine dp 1 6 (.int .i64 line) ?_
 refine Draw.conv (fun w hw => hw.less (.take .here .refl)) (fun w hw => hw.less (.take .here .refl)) ?_
 refine d_call 2 7 [0, 1] [] [] 39 #[.pointer (some ⟨b, 0, none⟩), .int .i64 line] (by kernel_rfl) (by kernel_rfl) (by kernel_rfl) (fun _ => by kernel_rfl) (Tr.as (At_tr b c line hlen) (congrArg (Value.int .i64) (idxI_none hidx))) ?_
 rintro _ _ ⟨rfl, rfl⟩
 refine ⟨stable_nil, ?_⟩
 refine dp 3 8 (.bool true) ?_
 refine dp 4 9 (.bool true) ?_
 refine dp 5 10 (.pointer (some ⟨b, 0, none⟩)) ?_
 refine dp 6 11 (.int .i64 line) ?_
 refine dp 9 14 (.pointer (some ⟨b, 0, none⟩)) ?_
 refine dp 10 15 (.pointer (some ⟨b, 0, none⟩)) ?_
 refine dp 11 16 (.pointer (some ⟨b, 2, none⟩)) ?_
 refine dl 12 17 (.int .i64 c.ways) (load1_cell (fun _ => by kernel_rfl) (fun w hw => (CacheA.cells .here w hw).2.1)) ?_
 refine Draw.conv (fun w hw => hw.less (.take .here .refl)) (fun w hw => hw.less (.take .here .refl)) ?_
 refine d_call 7 12 [5, 6, 4, 3, 2, 0, 1] [11, 10, 9] [12] 62 #[.pointer (some ⟨b, 0, none⟩), .int .i64 line] (by kernel_rfl) (by kernel_rfl) (by kernel_rfl) (fun _ => by kernel_rfl) (Set_tr b c line hlen hs) ?_
 rintro _ _ ⟨a1, c1, rows1, rfl, rfl⟩
 refine ⟨(stable_cons 12 17 (.int .i64 c.ways) (by kernel_rfl) (by kernel_rfl) (by kernel_rfl) (load1_cell (fun _ => by kernel_rfl) (fun w hw => (CacheA.cells (.there (.there .here)) w hw).2.1)) stable_nil), ?_⟩
 refine dp 8 13 (.int .i64 (((setL c line).length : Nat) : Int)) ?_
 rcases Decidable.em (c.ways ≤ (((setL c line).length : Nat) : Int)) with h1 | h1
 ·refine d_pure 13 18 (.bool true) (by kernel_rfl) (by kernel_rfl) (by kernel_rfl) (run_eq (v := .bool (decide (c.ways ≤ (((setL c line).length : Nat) : Int)))) (fun _ => by kernel_rfl) (congrArg Value.bool (by rw [decide_eq_true h1]))) ?_
  refine dp 14 19 (.bool true) ?_
  refine dp 15 4 (.bool true) ?_
  refine draw_end (by kernel_rfl) ?_
  refine ae [(0, .pointer (some ⟨b, 0, none⟩)), (1, .int .i64 line), (4, .bool true)] ?_
  refine at_then_normal ?_
  refine at_ret (by kernel_rfl) ?_
  refine at_backR [.bool true] ((CacheA b c) :: Γ) (rs := [.tmp 4]) (by kernel_rfl) (.cons (.tmp (by kernel_rfl)) .nil) (fun w hw => hw.less (.take (.there (.there .here)) (.drop .here (.drop .here .refl)))) ?_
  exact ⟨congrArg Value.bool (by simp [*]), rfl⟩
 ·refine d_pure 13 18 (.bool false) (by kernel_rfl) (by kernel_rfl) (by kernel_rfl) (run_eq (v := .bool (decide (c.ways ≤ (((setL c line).length : Nat) : Int)))) (fun _ => by kernel_rfl) (congrArg Value.bool (by rw [decide_eq_false h1]))) ?_
  refine dp 14 19 (.bool false) ?_
  refine dp 15 4 (.bool false) ?_
  refine draw_end (by kernel_rfl) ?_
  refine ae [(0, .pointer (some ⟨b, 0, none⟩)), (1, .int .i64 line), (4, .bool false)] ?_
  refine at_then_normal ?_
  refine at_ret (by kernel_rfl) ?_
  refine at_backR [.bool false] ((CacheA b c) :: Γ) (rs := [.tmp 4]) (by kernel_rfl) (.cons (.tmp (by kernel_rfl)) .nil) (fun w hw => hw.less (.take (.there (.there .here)) (.drop .here (.drop .here .refl)))) ?_
  exact ⟨congrArg Value.bool (by simp [*]), rfl⟩
set_option maxRecDepth 100000 in
theorem Full_there {W0 : World} {Γ : List Asn} (b : Nat) (c : CacheS) (line : Int) (hlen : c.l.length ≤ 1099511627776) (i : Nat) (hidx : idx c.l line = some i) : Tr Try.prog 40 #[.pointer (some ⟨b, 0, none⟩), .int .i64 line] W0 ((CacheA b c) :: Γ) (fun r Δ => r = .bool false ∧ Δ = CacheA b c :: Γ) := by
 refine Tr.enter (fn := Try.f40) (c := C40 []) (args := [.pointer (some ⟨b, 0, none⟩), .int .i64 line]) 20 Try.func40 (by kernel_rfl) (by kernel_rfl) ?_
 refine ae [(0, .pointer (some ⟨b, 0, none⟩)), (1, .int .i64 line)] ?_
 refine aq (x := C40 [0]) (y := C40 [1]) ?_
 refine ar (id := 0) 1 ?_
 refine sp 4 (.bool false) ?_
 refine ops_end ?_
 refine ae [(0, .pointer (some ⟨b, 0, none⟩)), (1, .int .i64 line), (4, .bool false)] ?_
 refine at_then_normal ?_
 refine aq (x := C40 [1, 0]) (y := C40 [1, 1]) ?_
 refine at_region_draw (id := 1) (by kernel_rfl) (by kernel_rfl) ?_
 refine dp 0 5 (.pointer (some ⟨b, 0, none⟩)) ?_
 refine dp 1 6 (.int .i64 line) ?_
 refine Draw.conv (fun w hw => hw.less (.take .here .refl)) (fun w hw => hw.less (.take .here .refl)) ?_
 refine d_call 2 7 [0, 1] [] [] 39 #[.pointer (some ⟨b, 0, none⟩), .int .i64 line] (by kernel_rfl) (by kernel_rfl) (by kernel_rfl) (fun _ => by kernel_rfl) (Tr.as (At_tr b c line hlen) (congrArg (Value.int .i64) (idxI_some hidx))) ?_
 rintro _ _ ⟨rfl, rfl⟩
 refine ⟨stable_nil, ?_⟩
 refine d_pure 3 8 (.bool false) (by kernel_rfl) (by kernel_rfl) (by kernel_rfl) (run_eq (v := .bool (decide (((i : Nat) : Int) < (0 : Int)))) (fun _ => by kernel_rfl) (congrArg Value.bool (by rw [decide_eq_false (by omega)]))) ?_
 refine dp 4 9 (.bool false) ?_
 refine d_off 5 10 (by kernel_rfl) (by kernel_rfl) (by kernel_rfl) ?_
 refine d_off 6 11 (by kernel_rfl) (by kernel_rfl) (by kernel_rfl) ?_
 refine d_off 7 12 (by kernel_rfl) (by kernel_rfl) (by kernel_rfl) ?_
 refine d_off 8 13 (by kernel_rfl) (by kernel_rfl) (by kernel_rfl) ?_
 refine d_off 9 14 (by kernel_rfl) (by kernel_rfl) (by kernel_rfl) ?_
 refine d_off 10 15 (by kernel_rfl) (by kernel_rfl) (by kernel_rfl) ?_
 refine d_off 11 16 (by kernel_rfl) (by kernel_rfl) (by kernel_rfl) ?_
 refine d_off 12 17 (by kernel_rfl) (by kernel_rfl) (by kernel_rfl) ?_
 refine d_off 13 18 (by kernel_rfl) (by kernel_rfl) (by kernel_rfl) ?_
 refine dp 14 19 (.bool false) ?_
 refine dp 15 4 (.bool false) ?_
 refine draw_end (by kernel_rfl) ?_
 refine ae [(0, .pointer (some ⟨b, 0, none⟩)), (1, .int .i64 line), (4, .bool false)] ?_
 refine at_then_normal ?_
 refine at_ret (by kernel_rfl) ?_
 refine at_backR [.bool false] ((CacheA b c) :: Γ) (rs := [.tmp 4]) (by kernel_rfl) (.cons (.tmp (by kernel_rfl)) .nil) (fun w hw => hw.less (.take .here .refl)) ?_
 exact ⟨rfl, rfl⟩
noncomputable def C14 (p : List Nat) : Code := codeAt (bodyOf Try.f14) p
set_option maxRecDepth 100000 in
theorem Put_neg {W0 : World} {Γ : List Asn} (b : Nat) (c : CacheS) (f bk l u : Int) (d : Bool) (a : Option Addr) (m cap : Nat) (xs : List Int) (hm : m = xs.length) (hr : Reads W0 Γ a (ints xs)) (hlx : xs.length ≤ 1099511627776) (hlen : c.l.length ≤ 1099511627776) (hs : 1 ≤ c.sets) (hneg : l < 0) : Tr Try.prog 14 #[.pointer (some ⟨b, 0, none⟩), .agg #[.int .i64 f, .int .i64 bk, .int .i64 l, .int .i64 u, .bool d, .slice a m cap]] W0 ((CacheA b c) :: Γ) (fun r Δ => r = .int .i64 1 ∧ Δ = CacheA b c :: Γ) := by
 refine Tr.enter (fn := Try.f14) (c := C14 []) (args := [.pointer (some ⟨b, 0, none⟩), .agg #[.int .i64 f, .int .i64 bk, .int .i64 l, .int .i64 u, .bool d, .slice a m cap]]) 59 Try.func14 (by kernel_rfl) (by kernel_rfl) ?_
 refine ae [(0, .pointer (some ⟨b, 0, none⟩)), (1, .agg #[.int .i64 f, .int .i64 bk, .int .i64 l, .int .i64 u, .bool d, .slice a m cap])] ?_
 refine aq (x := C14 [0]) (y := C14 [1]) ?_
 refine ar (id := 0) 2 ?_
 refine s_step 3 (by kernel_rfl) (by kernel_rfl) (st_new (T := 32) (cells := #[.int .i64 f, .int .i64 bk, .int .i64 l, .int .i64 u, .bool d, .slice a m cap]) (fun a => .pointer (some a)) (fun _ => by kernel_rfl)) ?_
 rintro _ _ ⟨b1, rfl, rfl⟩
 refine sp 4 (.int .i64 (0)) ?_
 refine ops_end ?_
 refine ae [(0, .pointer (some ⟨b, 0, none⟩)), (1, .agg #[.int .i64 f, .int .i64 bk, .int .i64 l, .int .i64 u, .bool d, .slice a m cap]), (3, .pointer (some ⟨b1, 0, none⟩)), (4, .int .i64 (0))] ?_
 refine at_then_normal ?_
 refine aq (x := C14 [1, 0]) (y := C14 [1, 1]) ?_
 refine ar (id := 1) 3 ?_
 refine sl 6 (.agg #[.int .i64 f, .int .i64 bk, .int .i64 l, .int .i64 u, .bool d, .slice a m cap]) (loadN (off := 0) (vs := [.int .i64 f, .int .i64 bk, .int .i64 l, .int .i64 u, .bool d, .slice a m cap]) 6 (fun _ => by kernel_rfl) (holds_own .here) rfl (by exact ⟨rfl, rfl, rfl, rfl, rfl, rfl, trivial⟩)) ?_
 refine s_call 7 38 #[.agg #[.int .i64 f, .int .i64 bk, .int .i64 l, .int .i64 u, .bool d, .slice a m cap]] (by kernel_rfl) (by kernel_rfl) (fun _ => by kernel_rfl) (EClone_tr f bk l u d a m cap xs (hm) (Reads.conv (fun w hw => hw.less (.drop .here (.drop .here .refl))) hr) (hlx)) ?_
 rintro _ _ ⟨a1, c1, rfl, rfl⟩
 refine s_do (by kernel_rfl) (by kernel_rfl) (st_store (off := 0) (vs := [.int .i64 f, .int .i64 bk, .int .i64 l, .int .i64 u, .bool d, .slice a1 m c1]) (c' := #[.int .i64 f, .int .i64 bk, .int .i64 l, .int .i64 u, .bool d, .slice a1 m c1]) (fun _ => by kernel_rfl) (.there .here) (by kernel_rfl) (by kernel_rfl) (by kernel_rfl)) ?_
 rintro _ _ ⟨rfl, rfl⟩
 refine ops_end ?_
 refine ae [(0, .pointer (some ⟨b, 0, none⟩)), (1, .agg #[.int .i64 f, .int .i64 bk, .int .i64 l, .int .i64 u, .bool d, .slice a m cap]), (3, .pointer (some ⟨b1, 0, none⟩)), (4, .int .i64 (0))] ?_
 refine at_then_normal ?_
 refine aq (x := C14 [1, 1, 0]) (y := C14 [1, 1, 1]) ?_
 refine aq (x := C14 [1, 1, 0, 0]) (y := C14 [1, 1, 0, 1]) ?_
 refine ar (id := 2) 3 ?_
 refine sp 8 (.pointer (some ⟨b1, 2, none⟩)) ?_
 refine sl 9 (.int .i64 l) (load1 (off := 2) (fun _ => by kernel_rfl) (holds_own .here) (by kernel_rfl)) ?_
 refine sr 10 (.bool true) (run_eq (v := .bool (decide (l < (0 : Int)))) (fun _ => by kernel_rfl) (congrArg Value.bool (by rw [decide_eq_true hneg]))) ?_
 refine ops_end ?_
 refine ae [(0, .pointer (some ⟨b, 0, none⟩)), (1, .agg #[.int .i64 f, .int .i64 bk, .int .i64 l, .int .i64 u, .bool d, .slice a m cap]), (3, .pointer (some ⟨b1, 0, none⟩)), (4, .int .i64 (0)), (10, .bool true)] ?_
 refine at_then_normal ?_
 refine at_true (t := true) (x := C14 [1, 1, 0, 1, 0]) (y := C14 [1, 1, 0, 1, 1]) (o := .tmp 10) (by kernel_rfl) (by kernel_rfl) (by kernel_rfl) rfl ?_
 refine aq (x := C14 [1, 1, 0, 1, 0, 0]) (y := C14 [1, 1, 0, 1, 0, 1]) ?_
 refine ar (id := 3) 1 ?_
 refine sp 4 (.int .i64 (1)) ?_
 refine ops_end ?_
 refine ae [(0, .pointer (some ⟨b, 0, none⟩)), (1, .agg #[.int .i64 f, .int .i64 bk, .int .i64 l, .int .i64 u, .bool d, .slice a m cap]), (3, .pointer (some ⟨b1, 0, none⟩)), (4, .int .i64 (1)), (10, .bool true)] ?_
 refine at_then_normal ?_
 refine at_ret (by kernel_rfl) ?_
 refine at_then_ret ?_
 refine at_backR [.int .i64 (1)] ((CacheA b c) :: Γ) (rs := [.tmp 4]) (by kernel_rfl) (.cons (.tmp (by kernel_rfl)) .nil) (fun w hw => hw.less (.take (.there (.there .here)) (.drop .here (.drop .here .refl)))) ?_
 exact ⟨rfl, rfl⟩
set_option maxRecDepth 100000 in
theorem Put_set {W0 : World} {Γ : List Asn} (b : Nat) (c : CacheS) (f bk l u : Int) (d : Bool) (a : Option Addr) (m cap : Nat) (xs : List Int) (hm : m = xs.length) (hr : Reads W0 Γ a (ints xs)) (hlx : xs.length ≤ 1099511627776) (hlen : c.l.length ≤ 1099511627776) (hs : 1 ≤ c.sets) (hneg : ¬ l < 0) (i : Nat) (e0 : Ent) (hidx : idx c.l l = some i) (he : c.l[i]? = some e0) : Tr Try.prog 14 #[.pointer (some ⟨b, 0, none⟩), .agg #[.int .i64 f, .int .i64 bk, .int .i64 l, .int .i64 u, .bool d, .slice a m cap]] W0 ((CacheA b c) :: Γ) (fun r Δ => r = .int .i64 0 ∧ Δ = CacheA b { c with l := c.l.set i ⟨f, bk, l, e0.used, d, xs⟩ } :: Γ) := by
 refine Tr.enter (fn := Try.f14) (c := C14 []) (args := [.pointer (some ⟨b, 0, none⟩), .agg #[.int .i64 f, .int .i64 bk, .int .i64 l, .int .i64 u, .bool d, .slice a m cap]]) 59 Try.func14 (by kernel_rfl) (by kernel_rfl) ?_
 refine ae [(0, .pointer (some ⟨b, 0, none⟩)), (1, .agg #[.int .i64 f, .int .i64 bk, .int .i64 l, .int .i64 u, .bool d, .slice a m cap])] ?_
 refine aq (x := C14 [0]) (y := C14 [1]) ?_
 refine ar (id := 0) 2 ?_
 refine s_step 3 (by kernel_rfl) (by kernel_rfl) (st_new (T := 32) (cells := #[.int .i64 f, .int .i64 bk, .int .i64 l, .int .i64 u, .bool d, .slice a m cap]) (fun a => .pointer (some a)) (fun _ => by kernel_rfl)) ?_
 rintro _ _ ⟨b1, rfl, rfl⟩
 refine sp 4 (.int .i64 (0)) ?_
 refine ops_end ?_
 refine ae [(0, .pointer (some ⟨b, 0, none⟩)), (1, .agg #[.int .i64 f, .int .i64 bk, .int .i64 l, .int .i64 u, .bool d, .slice a m cap]), (3, .pointer (some ⟨b1, 0, none⟩)), (4, .int .i64 (0))] ?_
 refine at_then_normal ?_
 refine aq (x := C14 [1, 0]) (y := C14 [1, 1]) ?_
 refine ar (id := 1) 3 ?_
 refine sl 6 (.agg #[.int .i64 f, .int .i64 bk, .int .i64 l, .int .i64 u, .bool d, .slice a m cap]) (loadN (off := 0) (vs := [.int .i64 f, .int .i64 bk, .int .i64 l, .int .i64 u, .bool d, .slice a m cap]) 6 (fun _ => by kernel_rfl) (holds_own .here) rfl (by exact ⟨rfl, rfl, rfl, rfl, rfl, rfl, trivial⟩)) ?_
 refine s_call 7 38 #[.agg #[.int .i64 f, .int .i64 bk, .int .i64 l, .int .i64 u, .bool d, .slice a m cap]] (by kernel_rfl) (by kernel_rfl) (fun _ => by kernel_rfl) (EClone_tr f bk l u d a m cap xs (hm) (Reads.conv (fun w hw => hw.less (.drop .here (.drop .here .refl))) hr) (hlx)) ?_
 rintro _ _ ⟨a1, c1, rfl, rfl⟩
 refine s_do (by kernel_rfl) (by kernel_rfl) (st_store (off := 0) (vs := [.int .i64 f, .int .i64 bk, .int .i64 l, .int .i64 u, .bool d, .slice a1 m c1]) (c' := #[.int .i64 f, .int .i64 bk, .int .i64 l, .int .i64 u, .bool d, .slice a1 m c1]) (fun _ => by kernel_rfl) (.there .here) (by kernel_rfl) (by kernel_rfl) (by kernel_rfl)) ?_
 rintro _ _ ⟨rfl, rfl⟩
 refine ops_end ?_
 refine ae [(0, .pointer (some ⟨b, 0, none⟩)), (1, .agg #[.int .i64 f, .int .i64 bk, .int .i64 l, .int .i64 u, .bool d, .slice a m cap]), (3, .pointer (some ⟨b1, 0, none⟩)), (4, .int .i64 (0))] ?_
 refine at_then_normal ?_
 refine aq (x := C14 [1, 1, 0]) (y := C14 [1, 1, 1]) ?_
 refine aq (x := C14 [1, 1, 0, 0]) (y := C14 [1, 1, 0, 1]) ?_
 refine ar (id := 2) 3 ?_
 refine sp 8 (.pointer (some ⟨b1, 2, none⟩)) ?_
 refine sl 9 (.int .i64 l) (load1 (off := 2) (fun _ => by kernel_rfl) (holds_own .here) (by kernel_rfl)) ?_
 refine sr 10 (.bool false) (run_eq (v := .bool (decide (l < (0 : Int)))) (fun _ => by kernel_rfl) (congrArg Value.bool (by rw [decide_eq_false hneg]))) ?_
 refine ops_end ?_
 refine ae [(0, .pointer (some ⟨b, 0, none⟩)), (1, .agg #[.int .i64 f, .int .i64 bk, .int .i64 l, .int .i64 u, .bool d, .slice a m cap]), (3, .pointer (some ⟨b1, 0, none⟩)), (4, .int .i64 (0)), (10, .bool false)] ?_
 refine at_then_normal ?_
 refine at_false (t := false) (x := C14 [1, 1, 0, 1, 0]) (y := C14 [1, 1, 0, 1, 1]) (o := .tmp 10) (by kernel_rfl) (by kernel_rfl) (by kernel_rfl) rfl ?_
 refine at_skip (by kernel_rfl) ?_
 refine at_then_normal ?_
 refine aq (x := C14 [1, 1, 1, 0]) (y := C14 [1, 1, 1, 1]) ?_
 refine aq (x := C14 [1, 1, 1, 0, 0]) (y := C14 [1, 1, 1, 0, 1]) ?_
 refine ar (id := 4) 5 ?_
 refine sp 11 (.pointer (some ⟨b, 0, none⟩)) ?_
 refine sp 12 (.pointer (some ⟨b1, 2, none⟩)) ?_
 refine sl 13 (.int .i64 l) (load1 (off := 2) (fun _ => by kernel_rfl) (holds_own .here) (by kernel_rfl)) ?_
 refine At.conv (fun w hw => hw.less (.take (.there (.there .here)) (.take .here (.take .here .refl)))) ?_
 refine s_quiet 14 (.int .i64 ((i : Nat) : Int)) 39 #[.pointer (some ⟨b, 0, none⟩), .int .i64 l] (by kernel_rfl) (by kernel_rfl) (fun _ => by kernel_rfl) (Tr.as (At_tr b c l hlen) (congrArg (Value.int .i64) (idxI_some hidx))) ?_
 refine sp 5 (.int .i64 ((i : Nat) : Int)) ?_
 refine ops_end ?_
 refine ae [(0, .pointer (some ⟨b, 0, none⟩)), (1, .agg #[.int .i64 f, .int .i64 bk, .int .i64 l, .int .i64 u, .bool d, .slice a m cap]), (3, .pointer (some ⟨b1, 0, none⟩)), (4, .int .i64 (0)), (5, .int .i64 ((i : Nat) : Int)), (10, .bool false)] ?_
 refine at_then_normal ?_
 refine aq (x := C14 [1, 1, 1, 0, 1, 0]) (y := C14 [1, 1, 1, 0, 1, 1]) ?_
 refine ar (id := 5) 2 ?_
 refine sp 15 (.int .i64 ((i : Nat) : Int)) ?_
 refine sr 16 (.bool true) (run_eq (v := .bool (decide ((0 : Int) ≤ ((i : Nat) : Int)))) (fun _ => by kernel_rfl) (congrArg Value.bool (by rw [decide_eq_true (by omega)]))) ?_
 refine ops_end ?_
 refine ae [(0, .pointer (some ⟨b, 0, none⟩)), (1, .agg #[.int .i64 f, .int .i64 bk, .int .i64 l, .int .i64 u, .bool d, .slice a m cap]), (3, .pointer (some ⟨b1, 0, none⟩)), (4, .int .i64 (0)), (5, .int .i64 ((i : Nat) : Int)), (10, .bool false), (16, .bool true)] ?_
 refine at_then_normal ?_
 refine at_true (t := true) (x := C14 [1, 1, 1, 0, 1, 1, 0]) (y := C14 [1, 1, 1, 0, 1, 1, 1]) (o := .tmp 16) (by kernel_rfl) (by kernel_rfl) (by kernel_rfl) rfl ?_
 refine aq (x := C14 [1, 1, 1, 0, 1, 1, 0, 0]) (y := C14 [1, 1, 1, 0, 1, 1, 0, 1]) ?_
 refine ar (id := 6) 10 ?_
 refine sp 17 (.pointer (some ⟨b, 0, none⟩)) ?_
 refine sp 18 (.pointer (some ⟨b, 0, none⟩)) ?_
 refine sp 19 (.pointer (some ⟨b, 0, none⟩)) ?_
 refine CacheA.open .here ?_
 intro ca1 cc1 rows1 T1
 refine At.known (fun w hw => EntsR.length (.there (.there .here)) w hw) ?_
 intro hrl1
 refine sl 20 (.slice ca1 c.l.length cc1) (load1 (off := 0) (fun _ => by kernel_rfl) (holds_own .here) (by kernel_rfl)) ?_
 refine sp 21 (.int .i64 ((i : Nat) : Int)) ?_
 refine rows_at (.there .here) (by rw [hrl1]; have := idx_lt hidx; omega) ?_
 intro b2 o1 ha1
 refine At.known (fun w hw => EntsR.get (.there (.there .here)) he w hw) ?_
 rintro ⟨a2, c2, hrow1⟩
 refine sr 22 (.pointer (some ⟨b2, o1 + (i * 6 + 0), none⟩)) (index_at (t := 70) (sz := 6) (E := 32) (a := ca1) (m := c.l.length) (c := cc1) (b := b2) (off := o1) (i := i) (tinfo 32) (fun _ => by kernel_rfl) (by kernel_rfl) (by kernel_rfl) (by kernel_rfl) ha1 (by first | rfl | simp | omega) (idx_lt hidx) rfl) ?_
 refine sr 23 (.pointer (some ⟨b2, o1 + (i * 6 + 3), none⟩)) (field_at (f := 3) (addr := ⟨b2, o1 + (i * 6 + 0), none⟩) (fun _ => by kernel_rfl) rfl rfl) ?_
 refine sl 24 (.int .i64 e0.used) (load1_at (off := o1 + (i * 6 + 3)) (v := .int .i64 e0.used) (fun _ => by kernel_rfl) rfl (rows_cell (k := 6) (.there .here) ha1 hrow1 (show [(.int .i64 e0.fwd : Value), (.int .i64 e0.back : Value), (.int .i64 e0.line : Value), (.int .i64 e0.used : Value), (.bool e0.dirty : Value), (.slice a2 e0.data.length c2 : Value)][3]? = some (.int .i64 e0.used) from rfl))) ?_
 refine sp 25 (.pointer (some ⟨b1, 3, none⟩)) ?_
 refine s_do (by kernel_rfl) (by kernel_rfl) (st_store (off := 3) (vs := [.int .i64 e0.used]) (c' := #[.int .i64 f, .int .i64 bk, .int .i64 l, .int .i64 e0.used, .bool d, .slice a1 m c1]) (fun _ => by kernel_rfl) (.there (.there (.there .here))) (by kernel_rfl) (by kernel_rfl) (by kernel_rfl)) ?_
 rintro _ _ ⟨rfl, rfl⟩
 refine ops_end ?_
 refine ae [(0, .pointer (some ⟨b, 0, none⟩)), (1, .agg #[.int .i64 f, .int .i64 bk, .int .i64 l, .int .i64 u, .bool d, .slice a m cap]), (3, .pointer (some ⟨b1, 0, none⟩)), (4, .int .i64 (0)), (5, .int .i64 ((i : Nat) : Int)), (10, .bool false), (16, .bool true)] ?_
 refine at_then_normal ?_
 refine aq (x := C14 [1, 1, 1, 0, 1, 1, 0, 1, 0]) (y := C14 [1, 1, 1, 0, 1, 1, 0, 1, 1]) ?_
 refine at_region_draw (id := 7) (by kernel_rfl) (by kernel_rfl) ?_
 refine dp 0 26 (.pointer (some ⟨b, 0, none⟩)) ?_
 refine dp 1 27 (.pointer (some ⟨b, 0, none⟩)) ?_
 refine dp 2 28 (.pointer (some ⟨b, 0, none⟩)) ?_
 refine dl 3 29 (.slice ca1 c.l.length cc1) (load1 (off := 0) (fun _ => by kernel_rfl) (holds_own (.there .here)) (by kernel_rfl)) ?_
 refine dp 4 30 (.int .i64 ((i : Nat) : Int)) ?_
 refine dl 5 31 (.agg #[.int .i64 f, .int .i64 bk, .int .i64 l, .int .i64 e0.used, .bool d, .slice a1 m c1]) (loadN (off := 0) (vs := [.int .i64 f, .int .i64 bk, .int .i64 l, .int .i64 e0.used, .bool d, .slice a1 m c1]) 6 (fun _ => by kernel_rfl) (holds_own .here) rfl (by exact ⟨rfl, rfl, rfl, rfl, rfl, rfl, trivial⟩)) ?_
 refine d_pure 6 32 (.pointer (some ⟨b2, o1 + (i * 6 + 0), none⟩)) (by kernel_rfl) (by kernel_rfl) (by kernel_rfl) (index_at (t := 70) (sz := 6) (E := 32) (a := ca1) (m := c.l.length) (c := cc1) (b := b2) (off := o1) (i := i) (tinfo 32) (fun _ => by kernel_rfl) (by kernel_rfl) (by kernel_rfl) (by kernel_rfl) ha1 (by first | rfl | simp | omega) (idx_lt hidx) rfl) ?_
 refine d_do 7 [6, 5, 0, 1, 2, 3, 4] [] [] (by kernel_rfl) (by kernel_rfl) (by kernel_rfl) (st_row (k := 6) (off := o1) (i := i) (j := 0) (row := [.int .i64 e0.fwd, .int .i64 e0.back, .int .i64 e0.line, .int .i64 e0.used, .bool e0.dirty, .slice a2 e0.data.length c2]) (row' := [.int .i64 f, .int .i64 bk, .int .i64 l, .int .i64 e0.used, .bool d, .slice a1 m c1]) (vs := [.int .i64 f, .int .i64 bk, .int .i64 l, .int .i64 e0.used, .bool d, .slice a1 m c1]) (fun _ => by kernel_rfl) (.there (.there .here)) ha1 hrow1 rfl (by kernel_rfl) (by kernel_rfl) rfl) ?_
 rintro _ _ ⟨rfl, rfl⟩
 refine ⟨stable_nil, ?_⟩
 refine draw_end (by kernel_rfl) ?_
 refine ae [(0, .pointer (some ⟨b, 0, none⟩)), (1, .agg #[.int .i64 f, .int .i64 bk, .int .i64 l, .int .i64 u, .bool d, .slice a m cap]), (3, .pointer (some ⟨b1, 0, none⟩)), (4, .int .i64 (0)), (5, .int .i64 ((i : Nat) : Int)), (10, .bool false), (16, .bool true)] ?_
 refine at_then_normal ?_
 refine aq (x := C14 [1, 1, 1, 0, 1, 1, 0, 1, 1, 0]) (y := C14 [1, 1, 1, 0, 1, 1, 0, 1, 1, 1]) ?_
 refine ar (id := 8) 1 ?_
 refine sp 4 (.int .i64 (0)) ?_
 refine ops_end ?_
 refine ae [(0, .pointer (some ⟨b, 0, none⟩)), (1, .agg #[.int .i64 f, .int .i64 bk, .int .i64 l, .int .i64 u, .bool d, .slice a m cap]), (3, .pointer (some ⟨b1, 0, none⟩)), (4, .int .i64 (0)), (5, .int .i64 ((i : Nat) : Int)), (10, .bool false), (16, .bool true)] ?_
 refine at_then_normal ?_
 refine at_ret (by kernel_rfl) ?_
 refine at_then_ret ?_
 refine At.conv (fun w hw => hw.less (.take (.there (.there (.there (.there .here)))) (.take .here (.take .here (.take .here (.take .here .refl)))))) ?_
 refine At.conv (fun w hw => RowsA.freeze hw) ?_
 subst hm
 refine at_backR [.int .i64 (0)] (CacheA b ({ c with l := c.l.set i ⟨f, bk, l, e0.used, d, xs⟩ }) :: Γ) (rs := [.tmp 4]) (by kernel_rfl) (.cons (.tmp (by kernel_rfl)) .nil) (fun w hw => CacheA.close ({ c with l := c.l.set i ⟨f, bk, l, e0.used, d, xs⟩ }) (by simp) rfl rfl rfl ((EntsR.set (e := ⟨f, bk, l, e0.used, d, xs⟩) (hw.less (.take (.there (.there (.there (.there .here)))) (.take .here (.take (.there (.there .here)) (.take .here (.drop .here .refl)))))) i c1).less (.take (.there .here) (.take (.there .here) (.take .here .refl))))) ?_
 exact ⟨rfl, rfl⟩
set_option maxRecDepth 100000 in
theorem Put_full {W0 : World} {Γ : List Asn} (b : Nat) (c : CacheS) (f bk l u : Int) (d : Bool) (a : Option Addr) (m cap : Nat) (xs : List Int) (hm : m = xs.length) (hr : Reads W0 Γ a (ints xs)) (hlx : xs.length ≤ 1099511627776) (hlen : c.l.length ≤ 1099511627776) (hs : 1 ≤ c.sets) (hneg : ¬ l < 0) (hidx : idx c.l l = none) (hful : c.ways ≤ (setL c l).length) : Tr Try.prog 14 #[.pointer (some ⟨b, 0, none⟩), .agg #[.int .i64 f, .int .i64 bk, .int .i64 l, .int .i64 u, .bool d, .slice a m cap]] W0 ((CacheA b c) :: Γ) (fun r Δ => r = .int .i64 5 ∧ Δ = CacheA b c :: Γ) := by
 refine Tr.enter (fn := Try.f14) (c := C14 []) (args := [.pointer (some ⟨b, 0, none⟩), .agg #[.int .i64 f, .int .i64 bk, .int .i64 l, .int .i64 u, .bool d, .slice a m cap]]) 59 Try.func14 (by kernel_rfl) (by kernel_rfl) ?_
 refine ae [(0, .pointer (some ⟨b, 0, none⟩)), (1, .agg #[.int .i64 f, .int .i64 bk, .int .i64 l, .int .i64 u, .bool d, .slice a m cap])] ?_
 refine aq (x := C14 [0]) (y := C14 [1]) ?_
 refine ar (id := 0) 2 ?_
 refine s_step 3 (by kernel_rfl) (by kernel_rfl) (st_new (T := 32) (cells := #[.int .i64 f, .int .i64 bk, .int .i64 l, .int .i64 u, .bool d, .slice a m cap]) (fun a => .pointer (some a)) (fun _ => by kernel_rfl)) ?_
 rintro _ _ ⟨b1, rfl, rfl⟩
 refine sp 4 (.int .i64 (0)) ?_
 refine ops_end ?_
 refine ae [(0, .pointer (some ⟨b, 0, none⟩)), (1, .agg #[.int .i64 f, .int .i64 bk, .int .i64 l, .int .i64 u, .bool d, .slice a m cap]), (3, .pointer (some ⟨b1, 0, none⟩)), (4, .int .i64 (0))] ?_
 refine at_then_normal ?_
 refine aq (x := C14 [1, 0]) (y := C14 [1, 1]) ?_
 refine ar (id := 1) 3 ?_
 refine sl 6 (.agg #[.int .i64 f, .int .i64 bk, .int .i64 l, .int .i64 u, .bool d, .slice a m cap]) (loadN (off := 0) (vs := [.int .i64 f, .int .i64 bk, .int .i64 l, .int .i64 u, .bool d, .slice a m cap]) 6 (fun _ => by kernel_rfl) (holds_own .here) rfl (by exact ⟨rfl, rfl, rfl, rfl, rfl, rfl, trivial⟩)) ?_
 refine s_call 7 38 #[.agg #[.int .i64 f, .int .i64 bk, .int .i64 l, .int .i64 u, .bool d, .slice a m cap]] (by kernel_rfl) (by kernel_rfl) (fun _ => by kernel_rfl) (EClone_tr f bk l u d a m cap xs (hm) (Reads.conv (fun w hw => hw.less (.drop .here (.drop .here .refl))) hr) (hlx)) ?_
 rintro _ _ ⟨a1, c1, rfl, rfl⟩
 refine s_do (by kernel_rfl) (by kernel_rfl) (st_store (off := 0) (vs := [.int .i64 f, .int .i64 bk, .int .i64 l, .int .i64 u, .bool d, .slice a1 m c1]) (c' := #[.int .i64 f, .int .i64 bk, .int .i64 l, .int .i64 u, .bool d, .slice a1 m c1]) (fun _ => by kernel_rfl) (.there .here) (by kernel_rfl) (by kernel_rfl) (by kernel_rfl)) ?_
 rintro _ _ ⟨rfl, rfl⟩
 refine ops_end ?_
 refine ae [(0, .pointer (some ⟨b, 0, none⟩)), (1, .agg #[.int .i64 f, .int .i64 bk, .int .i64 l, .int .i64 u, .bool d, .slice a m cap]), (3, .pointer (some ⟨b1, 0, none⟩)), (4, .int .i64 (0))] ?_
 refine at_then_normal ?_
 refine aq (x := C14 [1, 1, 0]) (y := C14 [1, 1, 1]) ?_
 refine aq (x := C14 [1, 1, 0, 0]) (y := C14 [1, 1, 0, 1]) ?_
 refine ar (id := 2) 3 ?_
 refine sp 8 (.pointer (some ⟨b1, 2, none⟩)) ?_
 refine sl 9 (.int .i64 l) (load1 (off := 2) (fun _ => by kernel_rfl) (holds_own .here) (by kernel_rfl)) ?_
 refine sr 10 (.bool false) (run_eq (v := .bool (decide (l < (0 : Int)))) (fun _ => by kernel_rfl) (congrArg Value.bool (by rw [decide_eq_false hneg]))) ?_
 refine ops_end ?_
 refine ae [(0, .pointer (some ⟨b, 0, none⟩)), (1, .agg #[.int .i64 f, .int .i64 bk, .int .i64 l, .int .i64 u, .bool d, .slice a m cap]), (3, .pointer (some ⟨b1, 0, none⟩)), (4, .int .i64 (0)), (10, .bool false)] ?_
 refine at_then_normal ?_
 refine at_false (t := false) (x := C14 [1, 1, 0, 1, 0]) (y := C14 [1, 1, 0, 1, 1]) (o := .tmp 10) (by kernel_rfl) (by kernel_rfl) (by kernel_rfl) rfl ?_
 refine at_skip (by kernel_rfl) ?_
 refine at_then_normal ?_
 refine aq (x := C14 [1, 1, 1, 0]) (y := C14 [1, 1, 1, 1]) ?_
 refine aq (x := C14 [1, 1, 1, 0, 0]) (y := C14 [1, 1, 1, 0, 1]) ?_
 refine ar (id := 4) 5 ?_
 refine sp 11 (.pointer (some ⟨b, 0, none⟩)) ?_
 refine sp 12 (.pointer (some ⟨b1, 2, none⟩)) ?_
 refine sl 13 (.int .i64 l) (load1 (off := 2) (fun _ => by kernel_rfl) (holds_own .here) (by kernel_rfl)) ?_
 refine At.conv (fun w hw => hw.less (.take (.there (.there .here)) (.take .here (.take .here .refl)))) ?_
 refine s_quiet 14 (.int .i64 (-1)) 39 #[.pointer (some ⟨b, 0, none⟩), .int .i64 l] (by kernel_rfl) (by kernel_rfl) (fun _ => by kernel_rfl) (Tr.as (At_tr b c l hlen) (congrArg (Value.int .i64) (idxI_none hidx))) ?_
 refine sp 5 (.int .i64 (-1)) ?_
 refine ops_end ?_
 refine ae [(0, .pointer (some ⟨b, 0, none⟩)), (1, .agg #[.int .i64 f, .int .i64 bk, .int .i64 l, .int .i64 u, .bool d, .slice a m cap]), (3, .pointer (some ⟨b1, 0, none⟩)), (4, .int .i64 (0)), (5, .int .i64 (-1)), (10, .bool false)] ?_
 refine at_then_normal ?_
 refine aq (x := C14 [1, 1, 1, 0, 1, 0]) (y := C14 [1, 1, 1, 0, 1, 1]) ?_
 refine ar (id := 5) 2 ?_
 refine sp 15 (.int .i64 (-1)) ?_
 refine sp 16 (.bool false) ?_
 refine ops_end ?_
 refine ae [(0, .pointer (some ⟨b, 0, none⟩)), (1, .agg #[.int .i64 f, .int .i64 bk, .int .i64 l, .int .i64 u, .bool d, .slice a m cap]), (3, .pointer (some ⟨b1, 0, none⟩)), (4, .int .i64 (0)), (5, .int .i64 (-1)), (10, .bool false), (16, .bool false)] ?_
 refine at_then_normal ?_
 refine at_false (t := false) (x := C14 [1, 1, 1, 0, 1, 1, 0]) (y := C14 [1, 1, 1, 0, 1, 1, 1]) (o := .tmp 16) (by kernel_rfl) (by kernel_rfl) (by kernel_rfl) rfl ?_
 refine at_skip (by kernel_rfl) ?_
 refine at_then_normal ?_
 refine aq (x := C14 [1, 1, 1, 1, 0]) (y := C14 [1, 1, 1, 1, 1]) ?_
 refine aq (x := C14 [1, 1, 1, 1, 0, 0]) (y := C14 [1, 1, 1, 1, 0, 1]) ?_
 refine ar (id := 9) 4 ?_
 refine sp 33 (.pointer (some ⟨b, 0, none⟩)) ?_
 refine sp 34 (.pointer (some ⟨b1, 2, none⟩)) ?_
 refine sl 35 (.int .i64 l) (load1 (off := 2) (fun _ => by kernel_rfl) (holds_own (.there .here)) (by kernel_rfl)) ?_
 refine At.conv (fun w hw => hw.less (.take .here (.take .here (.take .here .refl)))) ?_
 refine s_quiet 36 (.bool true) 40 #[.pointer (some ⟨b, 0, none⟩), .int .i64 l] (by kernel_rfl) (by kernel_rfl) (fun _ => by kernel_rfl) (Tr.as (Full_none b c l hlen hs hidx) (congrArg Value.bool (decide_eq_true hful))) ?_
 refine ops_end ?_
 refine ae [(0, .pointer (some ⟨b, 0, none⟩)), (1, .agg #[.int .i64 f, .int .i64 bk, .int .i64 l, .int .i64 u, .bool d, .slice a m cap]), (3, .pointer (some ⟨b1, 0, none⟩)), (4, .int .i64 (0)), (5, .int .i64 (-1)), (10, .bool false), (16, .bool false), (36, .bool true)] ?_
 refine at_then_normal ?_
 refine at_true (t := true) (x := C14 [1, 1, 1, 1, 0, 1, 0]) (y := C14 [1, 1, 1, 1, 0, 1, 1]) (o := .tmp 36) (by kernel_rfl) (by kernel_rfl) (by kernel_rfl) rfl ?_
 refine aq (x := C14 [1, 1, 1, 1, 0, 1, 0, 0]) (y := C14 [1, 1, 1, 1, 0, 1, 0, 1]) ?_
 refine ar (id := 10) 1 ?_
 refine sp 4 (.int .i64 (5)) ?_
 refine ops_end ?_
 refine ae [(0, .pointer (some ⟨b, 0, none⟩)), (1, .agg #[.int .i64 f, .int .i64 bk, .int .i64 l, .int .i64 u, .bool d, .slice a m cap]), (3, .pointer (some ⟨b1, 0, none⟩)), (4, .int .i64 (5)), (5, .int .i64 (-1)), (10, .bool false), (16, .bool false), (36, .bool true)] ?_
 refine at_then_normal ?_
 refine at_ret (by kernel_rfl) ?_
 refine at_then_ret ?_
 refine at_backR [.int .i64 (5)] ((CacheA b c) :: Γ) (rs := [.tmp 4]) (by kernel_rfl) (.cons (.tmp (by kernel_rfl)) .nil) (fun w hw => hw.less (.take .here (.drop .here (.drop .here .refl)))) ?_
 exact ⟨rfl, rfl⟩
set_option maxRecDepth 100000 in
theorem Put_new {W0 : World} {Γ : List Asn} (b : Nat) (c : CacheS) (f bk l u : Int) (d : Bool) (a : Option Addr) (m cap : Nat) (xs : List Int) (hm : m = xs.length) (hr : Reads W0 Γ a (ints xs)) (hlx : xs.length ≤ 1099511627776) (hlen : c.l.length ≤ 1099511627776) (hs : 1 ≤ c.sets) (hck : 0 ≤ c.clock) (hck2 : c.clock ≤ 4611686018427387904) (hneg : ¬ l < 0) (hidx : idx c.l l = none) (hful : ¬ c.ways ≤ (setL c l).length) : Tr Try.prog 14 #[.pointer (some ⟨b, 0, none⟩), .agg #[.int .i64 f, .int .i64 bk, .int .i64 l, .int .i64 u, .bool d, .slice a m cap]] W0 ((CacheA b c) :: Γ) (fun r Δ => r = .int .i64 0 ∧ Δ = CacheA b { c with l := c.l ++ [⟨f, bk, l, c.clock + 1, d, xs⟩], clock := c.clock + 1 } :: Γ) := by
 refine Tr.enter (fn := Try.f14) (c := C14 []) (args := [.pointer (some ⟨b, 0, none⟩), .agg #[.int .i64 f, .int .i64 bk, .int .i64 l, .int .i64 u, .bool d, .slice a m cap]]) 59 Try.func14 (by kernel_rfl) (by kernel_rfl) ?_
 refine ae [(0, .pointer (some ⟨b, 0, none⟩)), (1, .agg #[.int .i64 f, .int .i64 bk, .int .i64 l, .int .i64 u, .bool d, .slice a m cap])] ?_
 refine aq (x := C14 [0]) (y := C14 [1]) ?_
 refine ar (id := 0) 2 ?_
 refine s_step 3 (by kernel_rfl) (by kernel_rfl) (st_new (T := 32) (cells := #[.int .i64 f, .int .i64 bk, .int .i64 l, .int .i64 u, .bool d, .slice a m cap]) (fun a => .pointer (some a)) (fun _ => by kernel_rfl)) ?_
 rintro _ _ ⟨b1, rfl, rfl⟩
 refine sp 4 (.int .i64 (0)) ?_
 refine ops_end ?_
 refine ae [(0, .pointer (some ⟨b, 0, none⟩)), (1, .agg #[.int .i64 f, .int .i64 bk, .int .i64 l, .int .i64 u, .bool d, .slice a m cap]), (3, .pointer (some ⟨b1, 0, none⟩)), (4, .int .i64 (0))] ?_
 refine at_then_normal ?_
 refine aq (x := C14 [1, 0]) (y := C14 [1, 1]) ?_
 refine ar (id := 1) 3 ?_
 refine sl 6 (.agg #[.int .i64 f, .int .i64 bk, .int .i64 l, .int .i64 u, .bool d, .slice a m cap]) (loadN (off := 0) (vs := [.int .i64 f, .int .i64 bk, .int .i64 l, .int .i64 u, .bool d, .slice a m cap]) 6 (fun _ => by kernel_rfl) (holds_own .here) rfl (by exact ⟨rfl, rfl, rfl, rfl, rfl, rfl, trivial⟩)) ?_
 refine s_call 7 38 #[.agg #[.int .i64 f, .int .i64 bk, .int .i64 l, .int .i64 u, .bool d, .slice a m cap]] (by kernel_rfl) (by kernel_rfl) (fun _ => by kernel_rfl) (EClone_tr f bk l u d a m cap xs (hm) (Reads.conv (fun w hw => hw.less (.drop .here (.drop .here .refl))) hr) (hlx)) ?_
 rintro _ _ ⟨a1, c1, rfl, rfl⟩
 refine s_do (by kernel_rfl) (by kernel_rfl) (st_store (off := 0) (vs := [.int .i64 f, .int .i64 bk, .int .i64 l, .int .i64 u, .bool d, .slice a1 m c1]) (c' := #[.int .i64 f, .int .i64 bk, .int .i64 l, .int .i64 u, .bool d, .slice a1 m c1]) (fun _ => by kernel_rfl) (.there .here) (by kernel_rfl) (by kernel_rfl) (by kernel_rfl)) ?_
 rintro _ _ ⟨rfl, rfl⟩
 refine ops_end ?_
 refine ae [(0, .pointer (some ⟨b, 0, none⟩)), (1, .agg #[.int .i64 f, .int .i64 bk, .int .i64 l, .int .i64 u, .bool d, .slice a m cap]), (3, .pointer (some ⟨b1, 0, none⟩)), (4, .int .i64 (0))] ?_
 refine at_then_normal ?_
 refine aq (x := C14 [1, 1, 0]) (y := C14 [1, 1, 1]) ?_
 refine aq (x := C14 [1, 1, 0, 0]) (y := C14 [1, 1, 0, 1]) ?_
 refine ar (id := 2) 3 ?_
 refine sp 8 (.pointer (some ⟨b1, 2, none⟩)) ?_
 refine sl 9 (.int .i64 l) (load1 (off := 2) (fun _ => by kernel_rfl) (holds_own .here) (by kernel_rfl)) ?_
 refine sr 10 (.bool false) (run_eq (v := .bool (decide (l < (0 : Int)))) (fun _ => by kernel_rfl) (congrArg Value.bool (by rw [decide_eq_false hneg]))) ?_
 refine ops_end ?_
 refine ae [(0, .pointer (some ⟨b, 0, none⟩)), (1, .agg #[.int .i64 f, .int .i64 bk, .int .i64 l, .int .i64 u, .bool d, .slice a m cap]), (3, .pointer (some ⟨b1, 0, none⟩)), (4, .int .i64 (0)), (10, .bool false)] ?_
 refine at_then_normal ?_
 refine at_false (t := false) (x := C14 [1, 1, 0, 1, 0]) (y := C14 [1, 1, 0, 1, 1]) (o := .tmp 10) (by kernel_rfl) (by kernel_rfl) (by kernel_rfl) rfl ?_
 refine at_skip (by kernel_rfl) ?_
 refine at_then_normal ?_
 refine aq (x := C14 [1, 1, 1, 0]) (y := C14 [1, 1, 1, 1]) ?_
 refine aq (x := C14 [1, 1, 1, 0, 0]) (y := C14 [1, 1, 1, 0, 1]) ?_
 refine ar (id := 4) 5 ?_
 refine sp 11 (.pointer (some ⟨b, 0, none⟩)) ?_
 refine sp 12 (.pointer (some ⟨b1, 2, none⟩)) ?_
 refine sl 13 (.int .i64 l) (load1 (off := 2) (fun _ => by kernel_rfl) (holds_own .here) (by kernel_rfl)) ?_
 refine At.conv (fun w hw => hw.less (.take (.there (.there .here)) (.take .here (.take .here .refl)))) ?_
 refine s_quiet 14 (.int .i64 (-1)) 39 #[.pointer (some ⟨b, 0, none⟩), .int .i64 l] (by kernel_rfl) (by kernel_rfl) (fun _ => by kernel_rfl) (Tr.as (At_tr b c l hlen) (congrArg (Value.int .i64) (idxI_none hidx))) ?_
 refine sp 5 (.int .i64 (-1)) ?_
 refine ops_end ?_
 refine ae [(0, .pointer (some ⟨b, 0, none⟩)), (1, .agg #[.int .i64 f, .int .i64 bk, .int .i64 l, .int .i64 u, .bool d, .slice a m cap]), (3, .pointer (some ⟨b1, 0, none⟩)), (4, .int .i64 (0)), (5, .int .i64 (-1)), (10, .bool false)] ?_
 refine at_then_normal ?_
 refine aq (x := C14 [1, 1, 1, 0, 1, 0]) (y := C14 [1, 1, 1, 0, 1, 1]) ?_
 refine ar (id := 5) 2 ?_
 refine sp 15 (.int .i64 (-1)) ?_
 refine sp 16 (.bool false) ?_
 refine ops_end ?_
 refine ae [(0, .pointer (some ⟨b, 0, none⟩)), (1, .agg #[.int .i64 f, .int .i64 bk, .int .i64 l, .int .i64 u, .bool d, .slice a m cap]), (3, .pointer (some ⟨b1, 0, none⟩)), (4, .int .i64 (0)), (5, .int .i64 (-1)), (10, .bool false), (16, .bool false)] ?_
 refine at_then_normal ?_
 refine at_false (t := false) (x := C14 [1, 1, 1, 0, 1, 1, 0]) (y := C14 [1, 1, 1, 0, 1, 1, 1]) (o := .tmp 16) (by kernel_rfl) (by kernel_rfl) (by kernel_rfl) rfl ?_
 refine at_skip (by kernel_rfl) ?_
 refine at_then_normal ?_
 refine aq (x := C14 [1, 1, 1, 1, 0]) (y := C14 [1, 1, 1, 1, 1]) ?_
 refine aq (x := C14 [1, 1, 1, 1, 0, 0]) (y := C14 [1, 1, 1, 1, 0, 1]) ?_
 refine ar (id := 9) 4 ?_
 refine sp 33 (.pointer (some ⟨b, 0, none⟩)) ?_
 refine sp 34 (.pointer (some ⟨b1, 2, none⟩)) ?_
 refine sl 35 (.int .i64 l) (load1 (off := 2) (fun _ => by kernel_rfl) (holds_own (.there .here)) (by kernel_rfl)) ?_
 refine At.conv (fun w hw => hw.less (.take .here (.take .here (.take .here .refl)))) ?_
 refine s_quiet 36 (.bool false) 40 #[.pointer (some ⟨b, 0, none⟩), .int .i64 l] (by kernel_rfl) (by kernel_rfl) (fun _ => by kernel_rfl) (Tr.as (Full_none b c l hlen hs hidx) (congrArg Value.bool (decide_eq_false hful))) ?_
 refine ops_end ?_
 refine ae [(0, .pointer (some ⟨b, 0, none⟩)), (1, .agg #[.int .i64 f, .int .i64 bk, .int .i64 l, .int .i64 u, .bool d, .slice a m cap]), (3, .pointer (some ⟨b1, 0, none⟩)), (4, .int .i64 (0)), (5, .int .i64 (-1)), (10, .bool false), (16, .bool false), (36, .bool false)] ?_
 refine at_then_normal ?_
 refine at_false (t := false) (x := C14 [1, 1, 1, 1, 0, 1, 0]) (y := C14 [1, 1, 1, 1, 0, 1, 1]) (o := .tmp 36) (by kernel_rfl) (by kernel_rfl) (by kernel_rfl) rfl ?_
 refine at_skip (by kernel_rfl) ?_
 refine at_then_normal ?_
 refine aq (x := C14 [1, 1, 1, 1, 1, 0]) (y := C14 [1, 1, 1, 1, 1, 1]) ?_
 refine ar (id := 11) 8 ?_
 refine sp 37 (.pointer (some ⟨b, 0, none⟩)) ?_
 refine sp 38 (.pointer (some ⟨b, 0, none⟩)) ?_
 refine sp 39 (.pointer (some ⟨b, 3, none⟩)) ?_
 refine sl 40 (.int .i64 c.clock) (load1_cell (fun _ => by kernel_rfl) (fun w hw => (CacheA.cells .here w hw).2.2)) ?_
 refine sr 41 (.int .i64 (c.clock + 1)) (run_eq (v := .int .i64 (IntKind.i64.wrap (c.clock + 1))) (fun _ => by kernel_rfl) (by rw [wrap_in (by omega) (by omega)])) ?_
 refine sp 42 (.pointer (some ⟨b, 0, none⟩)) ?_
 refine sp 43 (.pointer (some ⟨b, 3, none⟩)) ?_
 refine CacheA.open .here ?_
 intro ca1 cc1 rows1 T1
 refine At.known (fun w hw => EntsR.length (.there (.there .here)) w hw) ?_
 intro hrl1
 refine s_do (by kernel_rfl) (by kernel_rfl) (st_store (off := 3) (vs := [.int .i64 (c.clock + 1)]) (c' := #[.slice ca1 c.l.length cc1, .int .i64 c.sets, .int .i64 c.ways, .int .i64 (c.clock + 1)]) (fun _ => by kernel_rfl) .here (by kernel_rfl) (by kernel_rfl) (by kernel_rfl)) ?_
 rintro _ _ ⟨rfl, rfl⟩
 refine ops_end ?_
 refine ae [(0, .pointer (some ⟨b, 0, none⟩)), (1, .agg #[.int .i64 f, .int .i64 bk, .int .i64 l, .int .i64 u, .bool d, .slice a m cap]), (3, .pointer (some ⟨b1, 0, none⟩)), (4, .int .i64 (0)), (5, .int .i64 (-1)), (10, .bool false), (16, .bool false), (36, .bool false)] ?_
 refine at_then_normal ?_
 refine aq (x := C14 [1, 1, 1, 1, 1, 1, 0]) (y := C14 [1, 1, 1, 1, 1, 1, 1]) ?_
 refine ar (id := 12) 6 ?_
 refine sp 44 (.pointer (some ⟨b, 0, none⟩)) ?_
 refine sp 45 (.pointer (some ⟨b, 0, none⟩)) ?_
 refine sp 46 (.pointer (some ⟨b, 3, none⟩)) ?_
 refine sl 47 (.int .i64 (c.clock + 1)) (load1 (off := 3) (fun _ => by kernel_rfl) (holds_own .here) (by kernel_rfl)) ?_
 refine sp 48 (.pointer (some ⟨b1, 3, none⟩)) ?_
 refine s_do (by kernel_rfl) (by kernel_rfl) (st_store (off := 3) (vs := [.int .i64 (c.clock + 1)]) (c' := #[.int .i64 f, .int .i64 bk, .int .i64 l, .int .i64 (c.clock + 1), .bool d, .slice a1 m c1]) (fun _ => by kernel_rfl) (.there (.there (.there .here))) (by kernel_rfl) (by kernel_rfl) (by kernel_rfl)) ?_
 rintro _ _ ⟨rfl, rfl⟩
 refine ops_end ?_
 refine ae [(0, .pointer (some ⟨b, 0, none⟩)), (1, .agg #[.int .i64 f, .int .i64 bk, .int .i64 l, .int .i64 u, .bool d, .slice a m cap]), (3, .pointer (some ⟨b1, 0, none⟩)), (4, .int .i64 (0)), (5, .int .i64 (-1)), (10, .bool false), (16, .bool false), (36, .bool false)] ?_
 refine at_then_normal ?_
 refine aq (x := C14 [1, 1, 1, 1, 1, 1, 1, 0]) (y := C14 [1, 1, 1, 1, 1, 1, 1, 1]) ?_
 refine at_region_draw (id := 13) (by kernel_rfl) (by kernel_rfl) ?_
 refine dp 0 49 (.pointer (some ⟨b, 0, none⟩)) ?_
 refine dp 1 50 (.pointer (some ⟨b, 0, none⟩)) ?_
 refine dp 2 51 (.pointer (some ⟨b, 0, none⟩)) ?_
 refine dp 3 52 (.pointer (some ⟨b, 0, none⟩)) ?_
 refine dl 4 53 (.slice ca1 c.l.length cc1) (load1 (off := 0) (fun _ => by kernel_rfl) (holds_own (.there .here)) (by kernel_rfl)) ?_
 refine dl 5 54 (.agg #[.int .i64 f, .int .i64 bk, .int .i64 l, .int .i64 (c.clock + 1), .bool d, .slice a1 m c1]) (loadN (off := 0) (vs := [.int .i64 f, .int .i64 bk, .int .i64 l, .int .i64 (c.clock + 1), .bool d, .slice a1 m c1]) 6 (fun _ => by kernel_rfl) (holds_own .here) rfl (by exact ⟨rfl, rfl, rfl, rfl, rfl, rfl, trivial⟩)) ?_
 refine d_step 6 55 [5] [3, 2, 1, 0] [4] (by kernel_rfl) (by kernel_rfl) (by kernel_rfl) (st_new (T := 32) (cells := #[.int .i64 f, .int .i64 bk, .int .i64 l, .int .i64 (c.clock + 1), .bool d, .slice a1 m c1]) (fun a => .slice (some a) 1 1) (fun _ => by kernel_rfl)) ?_
 rintro _ _ ⟨b2, rfl, rfl⟩
 refine ⟨(stable_cons 4 53 (.slice ca1 c.l.length cc1) (by kernel_rfl) (by kernel_rfl) (by kernel_rfl) (load1 (off := 0) (fun _ => by kernel_rfl) (holds_own (.there (.there .here))) (by kernel_rfl)) stable_nil), ?_⟩
 refine d_step 7 56 [4, 6, 3, 5, 2, 1] [0] [] (by kernel_rfl) (by kernel_rfl) (by kernel_rfl) (st_appendP (k := 6) (rows := rows1) (news := [[.int .i64 f, .int .i64 bk, .int .i64 l, .int .i64 (c.clock + 1), .bool d, .slice a1 m c1]]) (m1 := c.l.length) (m2 := 1) (cap2 := 1) 70 70 32 64 (.agg #[.int .i64 0, .int .i64 0, .int .i64 0, .int .i64 0, .bool false, .slice none 0 0]) (tinfo 32) (fun _ => by kernel_rfl) (by kernel_rfl) (by kernel_rfl) (by kernel_rfl) (by kernel_rfl) (by kernel_rfl) (by kernel_rfl) rfl (.there (.there (.there .here))) (Reads.own .here rfl) (fun r hr => by simp only [List.mem_singleton] at hr; subst hr; rfl) rfl (by omega) rfl (by omega)) ?_
 rintro _ _ ⟨a2, c2, rfl, rfl⟩
 refine ⟨stable_nil, ?_⟩
 refine dp 8 57 (.pointer (some ⟨b, 0, none⟩)) ?_
 refine dp 9 58 (.pointer (some ⟨b, 0, none⟩)) ?_
 refine d_do 10 [9, 7, 0, 1, 2, 3, 4, 5, 6, 8] [] [] (by kernel_rfl) (by kernel_rfl) (by kernel_rfl) (st_store (off := 0) (vs := [.slice a2 (c.l.length + 1) c2]) (c' := #[.slice a2 (c.l.length + 1) c2, .int .i64 c.sets, .int .i64 c.ways, .int .i64 (c.clock + 1)]) (fun _ => by kernel_rfl) (.there (.there (.there .here))) (by kernel_rfl) (by kernel_rfl) (by kernel_rfl)) ?_
 rintro _ _ ⟨rfl, rfl⟩
 refine ⟨stable_nil, ?_⟩
 refine draw_end (by kernel_rfl) ?_
 refine ae [(0, .pointer (some ⟨b, 0, none⟩)), (1, .agg #[.int .i64 f, .int .i64 bk, .int .i64 l, .int .i64 u, .bool d, .slice a m cap]), (3, .pointer (some ⟨b1, 0, none⟩)), (4, .int .i64 (0)), (5, .int .i64 (-1)), (10, .bool false), (16, .bool false), (36, .bool false)] ?_
 refine at_then_normal ?_
 refine aq (x := C14 [1, 1, 1, 1, 1, 1, 1, 1, 0]) (y := C14 [1, 1, 1, 1, 1, 1, 1, 1, 1]) ?_
 refine ar (id := 14) 1 ?_
 refine sp 4 (.int .i64 (0)) ?_
 refine ops_end ?_
 refine ae [(0, .pointer (some ⟨b, 0, none⟩)), (1, .agg #[.int .i64 f, .int .i64 bk, .int .i64 l, .int .i64 u, .bool d, .slice a m cap]), (3, .pointer (some ⟨b1, 0, none⟩)), (4, .int .i64 (0)), (5, .int .i64 (-1)), (10, .bool false), (16, .bool false), (36, .bool false)] ?_
 refine at_then_normal ?_
 refine at_ret (by kernel_rfl) ?_
 refine At.conv (fun w hw => hw.less (.take (.there (.there (.there (.there (.there .here))))) (.take .here (.take .here (.take .here (.take .here (.take .here .refl))))))) ?_
 refine At.conv (fun w hw => RowsA.freeze hw) ?_
 subst hm
 refine at_backR [.int .i64 (0)] (CacheA b ({ c with l := c.l ++ [⟨f, bk, l, c.clock + 1, d, xs⟩], clock := c.clock + 1 }) :: Γ) (rs := [.tmp 4]) (by kernel_rfl) (.cons (.tmp (by kernel_rfl)) .nil) (fun w hw => CacheA.close ({ c with l := c.l ++ [⟨f, bk, l, c.clock + 1, d, xs⟩], clock := c.clock + 1 }) (by simp) rfl rfl rfl ((EntsR.push (e := ⟨f, bk, l, c.clock + 1, d, xs⟩) (hw.less (.take (.there (.there (.there (.there (.there .here))))) (.take .here (.take .here (.take .here (.drop .here (.drop .here .refl))))))) c1).less (.take (.there .here) (.take (.there .here) (.take .here .refl))))) ?_
 exact ⟨rfl, rfl⟩
def maxI (a b : Int) : Int := if a < b then b else a
noncomputable def C32 (p : List Nat) : Code := codeAt (bodyOf Try.f32) p
set_option maxRecDepth 100000 in
theorem New_tr {W0 : World} {Γ : List Asn} (sets ways : Int) : Tr Try.prog 32 #[.int .i64 sets, .int .i64 ways] W0 (Γ) (fun r Δ => ∃ b : Nat, r = .pointer (some ⟨b, 0, none⟩) ∧ Δ = CacheA b ⟨[], maxI 1 sets, maxI 1 ways, 0⟩ :: Γ) := by
 refine Tr.enter (fn := Try.f32) (c := C32 []) (args := [.int .i64 sets, .int .i64 ways]) 11 Try.func32 (by kernel_rfl) (by kernel_rfl) ?_
 refine ae [(0, .int .i64 sets), (1, .int .i64 ways)] ?_
 refine aq (x := C32 [0]) (y := C32 [1]) ?_
 refine ar (id := 0) 1 ?_
 refine sp 4 (.pointer none) ?_
 refine ops_end ?_
 refine ae [(0, .int .i64 sets), (1, .int .i64 ways), (4, .pointer none)] ?_
 refine at_then_normal ?_
 refine aq (x := C32 [1, 0]) (y := C32 [1, 1]) ?_
 refine ar (id := 1) 7 ?_
 refine sp 5 (.int .i64 sets) ?_
 rcases Decidable.em ((1 : Int) < sets) with h1 | h1
 ·refine sr 6 (.int .i64 sets) (run_eq (v := .int .i64 (if (1 : Int) < sets then sets else (1 : Int))) (fun _ => by kernel_rfl) (by rw [if_pos h1])) ?_
  refine sp 7 (.int .i64 ways) ?_
  rcases Decidable.em ((1 : Int) < ways) with h2 | h2
  ·refine sr 8 (.int .i64 ways) (run_eq (v := .int .i64 (if (1 : Int) < ways then ways else (1 : Int))) (fun _ => by kernel_rfl) (by rw [if_pos h2])) ?_
   refine sp 9 (.agg #[.slice none 0 0, .int .i64 sets, .int .i64 ways, .int .i64 (0)]) ?_
   refine s_step 10 (by kernel_rfl) (by kernel_rfl) (st_new (T := 72) (cells := #[.slice none 0 0, .int .i64 sets, .int .i64 ways, .int .i64 (0)]) (fun a => .pointer (some a)) (fun _ => by kernel_rfl)) ?_
   rintro _ _ ⟨b1, rfl, rfl⟩
   refine sp 4 (.pointer (some ⟨b1, 0, none⟩)) ?_
   refine ops_end ?_
   refine ae [(0, .int .i64 sets), (1, .int .i64 ways), (4, .pointer (some ⟨b1, 0, none⟩))] ?_
   refine at_then_normal ?_
   refine at_ret (by kernel_rfl) ?_
   refine at_backR [.pointer (some ⟨b1, 0, none⟩)] (CacheA b1 ⟨[], sets, ways, 0⟩ :: Γ) (rs := [.tmp 4]) (by kernel_rfl) (.cons (.tmp (by kernel_rfl)) .nil) (fun w hw => CacheA.close (a := none) (cap := 0) (rows := []) (⟨[], sets, ways, 0⟩) rfl rfl rfl rfl ((EntsR.nil (RowsA.none_mk (k := 6) (a := none) (hw.less (.take .here .refl)))).less (.take (.there (.there .here)) (.take (.there .here) (.take .here .refl))))) ?_
   exact ⟨_, rfl, by simp only [maxI, *, if_true, if_false, if_neg, not_false_eq_true] <;> first | rfl | omega⟩
  ·refine sr 8 (.int .i64 (1)) (run_eq (v := .int .i64 (if (1 : Int) < ways then ways else (1 : Int))) (fun _ => by kernel_rfl) (by rw [if_neg h2])) ?_
   refine sp 9 (.agg #[.slice none 0 0, .int .i64 sets, .int .i64 (1), .int .i64 (0)]) ?_
   refine s_step 10 (by kernel_rfl) (by kernel_rfl) (st_new (T := 72) (cells := #[.slice none 0 0, .int .i64 sets, .int .i64 (1), .int .i64 (0)]) (fun a => .pointer (some a)) (fun _ => by kernel_rfl)) ?_
   rintro _ _ ⟨b2, rfl, rfl⟩
   refine sp 4 (.pointer (some ⟨b2, 0, none⟩)) ?_
   refine ops_end ?_
   refine ae [(0, .int .i64 sets), (1, .int .i64 ways), (4, .pointer (some ⟨b2, 0, none⟩))] ?_
   refine at_then_normal ?_
   refine at_ret (by kernel_rfl) ?_
   refine at_backR [.pointer (some ⟨b2, 0, none⟩)] (CacheA b2 ⟨[], sets, 1, 0⟩ :: Γ) (rs := [.tmp 4]) (by kernel_rfl) (.cons (.tmp (by kernel_rfl)) .nil) (fun w hw => CacheA.close (a := none) (cap := 0) (rows := []) (⟨[], sets, 1, 0⟩) rfl rfl rfl rfl ((EntsR.nil (RowsA.none_mk (k := 6) (a := none) (hw.less (.take .here .refl)))).less (.take (.there (.there .here)) (.take (.there .here) (.take .here .refl))))) ?_
   exact ⟨_, rfl, by simp only [maxI, *, if_true, if_false, if_neg, not_false_eq_true] <;> first | rfl | omega⟩
 ·refine sr 6 (.int .i64 (1)) (run_eq (v := .int .i64 (if (1 : Int) < sets then sets else (1 : Int))) (fun _ => by kernel_rfl) (by rw [if_neg h1])) ?_
  refine sp 7 (.int .i64 ways) ?_
  rcases Decidable.em ((1 : Int) < ways) with h3 | h3
  ·refine sr 8 (.int .i64 ways) (run_eq (v := .int .i64 (if (1 : Int) < ways then ways else (1 : Int))) (fun _ => by kernel_rfl) (by rw [if_pos h3])) ?_
   refine sp 9 (.agg #[.slice none 0 0, .int .i64 (1), .int .i64 ways, .int .i64 (0)]) ?_
   refine s_step 10 (by kernel_rfl) (by kernel_rfl) (st_new (T := 72) (cells := #[.slice none 0 0, .int .i64 (1), .int .i64 ways, .int .i64 (0)]) (fun a => .pointer (some a)) (fun _ => by kernel_rfl)) ?_
   rintro _ _ ⟨b3, rfl, rfl⟩
   refine sp 4 (.pointer (some ⟨b3, 0, none⟩)) ?_
   refine ops_end ?_
   refine ae [(0, .int .i64 sets), (1, .int .i64 ways), (4, .pointer (some ⟨b3, 0, none⟩))] ?_
   refine at_then_normal ?_
   refine at_ret (by kernel_rfl) ?_
   refine at_backR [.pointer (some ⟨b3, 0, none⟩)] (CacheA b3 ⟨[], 1, ways, 0⟩ :: Γ) (rs := [.tmp 4]) (by kernel_rfl) (.cons (.tmp (by kernel_rfl)) .nil) (fun w hw => CacheA.close (a := none) (cap := 0) (rows := []) (⟨[], 1, ways, 0⟩) rfl rfl rfl rfl ((EntsR.nil (RowsA.none_mk (k := 6) (a := none) (hw.less (.take .here .refl)))).less (.take (.there (.there .here)) (.take (.there .here) (.take .here .refl))))) ?_
   exact ⟨_, rfl, by simp only [maxI, *, if_true, if_false, if_neg, not_false_eq_true] <;> first | rfl | omega⟩
  ·refine sr 8 (.int .i64 (1)) (run_eq (v := .int .i64 (if (1 : Int) < ways then ways else (1 : Int))) (fun _ => by kernel_rfl) (by rw [if_neg h3])) ?_
   refine sp 9 (.agg #[.slice none 0 0, .int .i64 (1), .int .i64 (1), .int .i64 (0)]) ?_
   refine s_step 10 (by kernel_rfl) (by kernel_rfl) (st_new (T := 72) (cells := #[.slice none 0 0, .int .i64 (1), .int .i64 (1), .int .i64 (0)]) (fun a => .pointer (some a)) (fun _ => by kernel_rfl)) ?_
   rintro _ _ ⟨b4, rfl, rfl⟩
   refine sp 4 (.pointer (some ⟨b4, 0, none⟩)) ?_
   refine ops_end ?_
   refine ae [(0, .int .i64 sets), (1, .int .i64 ways), (4, .pointer (some ⟨b4, 0, none⟩))] ?_
   refine at_then_normal ?_
   refine at_ret (by kernel_rfl) ?_
   refine at_backR [.pointer (some ⟨b4, 0, none⟩)] (CacheA b4 ⟨[], 1, 1, 0⟩ :: Γ) (rs := [.tmp 4]) (by kernel_rfl) (.cons (.tmp (by kernel_rfl)) .nil) (fun w hw => CacheA.close (a := none) (cap := 0) (rows := []) (⟨[], 1, 1, 0⟩) rfl rfl rfl rfl ((EntsR.nil (RowsA.none_mk (k := 6) (a := none) (hw.less (.take .here .refl)))).less (.take (.there (.there .here)) (.take (.there .here) (.take .here .refl))))) ?_
   exact ⟨_, rfl, by simp only [maxI, *, if_true, if_false, if_neg, not_false_eq_true] <;> first | rfl | omega⟩
noncomputable def C23 (p : List Nat) : Code := codeAt (bodyOf Try.f23) p
set_option maxRecDepth 100000 in
theorem Len_tr {W0 : World} {Γ : List Asn} (b : Nat) (c : CacheS) : Tr Try.prog 23 #[.pointer (some ⟨b, 0, none⟩)] W0 ((CacheA b c) :: Γ) (fun r Δ => r = .int .i64 ((c.l.length : Nat) : Int) ∧ Δ = CacheA b c :: Γ) := by
 refine Tr.enter (fn := Try.f23) (c := C23 []) (args := [.pointer (some ⟨b, 0, none⟩)]) 8 Try.func23 (by kernel_rfl) (by kernel_rfl) ?_
 refine ae [(0, .pointer (some ⟨b, 0, none⟩))] ?_
 refine aq (x := C23 [0]) (y := C23 [1]) ?_
 refine ar (id := 0) 1 ?_
 refine sp 2 (.int .i64 (0)) ?_
 refine ops_end ?_
 refine ae [(0, .pointer (some ⟨b, 0, none⟩)), (2, .int .i64 (0))] ?_
 refine at_then_normal ?_
 refine aq (x := C23 [1, 0]) (y := C23 [1, 1]) ?_
 refine ar (id := 1) 6 ?_
 refine sp 3 (.pointer (some ⟨b, 0, none⟩)) ?_
 refine sp 4 (.pointer (some ⟨b, 0, none⟩)) ?_
 refine sp 5 (.pointer (some ⟨b, 0, none⟩)) ?_
 refine CacheA.open .here ?_
 intro ca1 cc1 rows1 T1
 refine At.known (fun w hw => EntsR.length (.there (.there .here)) w hw) ?_
 intro hrl1
 refine sl 6 (.slice ca1 c.l.length cc1) (load1 (off := 0) (fun _ => by kernel_rfl) (holds_own .here) (by kernel_rfl)) ?_
 refine sp 7 (.int .i64 ((c.l.length : Nat) : Int)) ?_
 refine sp 2 (.int .i64 ((c.l.length : Nat) : Int)) ?_
 refine ops_end ?_
 refine ae [(0, .pointer (some ⟨b, 0, none⟩)), (2, .int .i64 ((c.l.length : Nat) : Int))] ?_
 refine at_then_normal ?_
 refine at_ret (by kernel_rfl) ?_
 refine at_backR [.int .i64 ((c.l.length : Nat) : Int)] (CacheA b (c) :: Γ) (rs := [.tmp 2]) (by kernel_rfl) (.cons (.tmp (by kernel_rfl)) .nil) (fun w hw => CacheA.close (c) rfl rfl rfl rfl (hw.less (.take .here (.take .here (.take .here .refl))))) ?_
 exact ⟨rfl, rfl⟩
end Go.Proofs.Ytlnjnkbnppnbkaa
