/- Deals by small numbers; what the second writing of them asks for. -/
import Derived.Test.YtpcffplbedbpkaaDealA
import Derived.Test.YtpcffplbedbpkaaSlIn
namespace Go.Proofs.Ytpcffplbedbpkaa
open Go Go.RowKit
noncomputable def C23 (p : List Nat) : Code := codeAt (bodyOf Try.f23) p
set_option maxRecDepth 100000 in
theorem Deal13_tr {W0 : World} {Γ : List Asn} (rk rl ri rs rt rh rn rd : Int) (a : Option Addr) (m cap : Nat) (xs : List Int) (hm : m = xs.length) (hr : Reads W0 Γ a (ints xs)) (hcap : m ≤ cap) : Tr Try.prog 23 #[.agg #[.int .i64 rk, .int .i64 rl, .int .i64 ri, .int .i64 rs, .int .i64 rt, .int .i64 rh, .int .i64 rn, .int .i64 rd, .slice a m cap]] W0 (Γ) (fun r Δ => ∃ a' m' cap', r = .agg #[.int .i64 (rk % 5), .int .i64 (rl % 4), .int .i64 (ri % 5), .int .i64 (rs % 8), .int .i64 (rt % 3), .int .i64 ((rh % 5) - 1), .slice a' m' cap', .int .i64 ((rn % 5) - 1), .int .i64 ((rd % 5) - 1)] ∧ m' = (xs.take 3).length ∧ Δ = IntsA a' cap' (xs.take 3) :: Γ) := by
  refine Tr.enter (fn := Try.f23) (c := C23 []) (args := [.agg #[.int .i64 rk, .int .i64 rl, .int .i64 ri, .int .i64 rs, .int .i64 rt, .int .i64 rh, .int .i64 rn, .int .i64 rd, .slice a m cap]]) 34 Try.func23 (by kernel_rfl) (by kernel_rfl) ?_
  refine At.env [(0, .agg #[.int .i64 rk, .int .i64 rl, .int .i64 ri, .int .i64 rs, .int .i64 rt, .int .i64 rh, .int .i64 rn, .int .i64 rd, .slice a m cap])] ⟨by kernel_rfl, trivial⟩ ?_
  refine at_seq (x := C23 [0]) (y := C23 [1]) (by kernel_rfl) ?_
  refine at_region (id := 0) 2 (by kernel_rfl) (by kernel_rfl) ?_
  refine s_step 1 (by kernel_rfl) (by kernel_rfl) (st_new (T := 44) (cells := #[.int .i64 rk, .int .i64 rl, .int .i64 ri, .int .i64 rs, .int .i64 rt, .int .i64 rh, .int .i64 rn, .int .i64 rd, .slice a m cap]) (fun a => .pointer (some a)) (fun _ => by kernel_rfl)) ?_
  rintro _ _ ⟨b1, rfl, rfl⟩
  refine s_step 2 (by kernel_rfl) (by kernel_rfl) (st_new (T := 36) (cells := #[.int .i64 (0), .int .i64 (0), .int .i64 (0), .int .i64 (0), .int .i64 (0), .int .i64 (0), .slice none 0 0, .int .i64 (0), .int .i64 (0)]) (fun a => .pointer (some a)) (fun _ => by kernel_rfl)) ?_
  rintro _ _ ⟨b2, rfl, rfl⟩
  refine ops_end ?_
  refine At.env [(0, .agg #[.int .i64 rk, .int .i64 rl, .int .i64 ri, .int .i64 rs, .int .i64 rt, .int .i64 rh, .int .i64 rn, .int .i64 rd, .slice a m cap]), (1, .pointer (some ⟨b1, 0, none⟩)), (2, .pointer (some ⟨b2, 0, none⟩))] ⟨by kernel_rfl, by kernel_rfl, by kernel_rfl, trivial⟩ ?_
  refine at_then_normal ?_
  refine at_seq (x := C23 [1, 0]) (y := C23 [1, 1]) (by kernel_rfl) ?_
  refine at_region_draw (id := 1) (by kernel_rfl) (by kernel_rfl) ?_
  refine d_pure 0 3 (.pointer (some ⟨b1, 0, none⟩)) (by kernel_rfl) (by kernel_rfl) (by kernel_rfl) (fun _ => by kernel_rfl) ?_
  refine d_load 1 4 (.int .i64 rk) (by kernel_rfl) (by kernel_rfl) (by kernel_rfl) (load1 (off := 0) (fun _ => by kernel_rfl) (holds_own (.there .here)) (by kernel_rfl)) ?_
  refine d_quiet 2 5 (.int .i64 (rk % 5)) 12 #[.int .i64 rk, .int .i64 (5)] (by kernel_rfl) (by kernel_rfl) (by kernel_rfl) (fun _ => by kernel_rfl) (fun _ => (Within_tr (rk) (5) (by omega) (by omega))) ?_
  refine d_pure 3 6 (.pointer (some ⟨b1, 1, none⟩)) (by kernel_rfl) (by kernel_rfl) (by kernel_rfl) (fun _ => by kernel_rfl) ?_
  refine d_load 4 7 (.int .i64 rl) (by kernel_rfl) (by kernel_rfl) (by kernel_rfl) (load1 (off := 1) (fun _ => by kernel_rfl) (holds_own (.there .here)) (by kernel_rfl)) ?_
  refine d_quiet 5 8 (.int .i64 (rl % 4)) 12 #[.int .i64 rl, .int .i64 (4)] (by kernel_rfl) (by kernel_rfl) (by kernel_rfl) (fun _ => by kernel_rfl) (fun _ => (Within_tr (rl) (4) (by omega) (by omega))) ?_
  refine d_pure 6 9 (.pointer (some ⟨b1, 2, none⟩)) (by kernel_rfl) (by kernel_rfl) (by kernel_rfl) (fun _ => by kernel_rfl) ?_
  refine d_load 7 10 (.int .i64 ri) (by kernel_rfl) (by kernel_rfl) (by kernel_rfl) (load1 (off := 2) (fun _ => by kernel_rfl) (holds_own (.there .here)) (by kernel_rfl)) ?_
  refine d_quiet 8 11 (.int .i64 (ri % 5)) 12 #[.int .i64 ri, .int .i64 (5)] (by kernel_rfl) (by kernel_rfl) (by kernel_rfl) (fun _ => by kernel_rfl) (fun _ => (Within_tr (ri) (5) (by omega) (by omega))) ?_
  refine d_pure 9 12 (.pointer (some ⟨b1, 3, none⟩)) (by kernel_rfl) (by kernel_rfl) (by kernel_rfl) (fun _ => by kernel_rfl) ?_
  refine d_load 10 13 (.int .i64 rs) (by kernel_rfl) (by kernel_rfl) (by kernel_rfl) (load1 (off := 3) (fun _ => by kernel_rfl) (holds_own (.there .here)) (by kernel_rfl)) ?_
  refine d_quiet 11 14 (.int .i64 (rs % 8)) 12 #[.int .i64 rs, .int .i64 (8)] (by kernel_rfl) (by kernel_rfl) (by kernel_rfl) (fun _ => by kernel_rfl) (fun _ => (Within_tr (rs) (8) (by omega) (by omega))) ?_
  refine d_pure 12 15 (.pointer (some ⟨b1, 4, none⟩)) (by kernel_rfl) (by kernel_rfl) (by kernel_rfl) (fun _ => by kernel_rfl) ?_
  refine d_load 13 16 (.int .i64 rt) (by kernel_rfl) (by kernel_rfl) (by kernel_rfl) (load1 (off := 4) (fun _ => by kernel_rfl) (holds_own (.there .here)) (by kernel_rfl)) ?_
  refine d_quiet 14 17 (.int .i64 (rt % 3)) 12 #[.int .i64 rt, .int .i64 (3)] (by kernel_rfl) (by kernel_rfl) (by kernel_rfl) (fun _ => by kernel_rfl) (fun _ => (Within_tr (rt) (3) (by omega) (by omega))) ?_
  refine d_pure 15 18 (.pointer (some ⟨b1, 5, none⟩)) (by kernel_rfl) (by kernel_rfl) (by kernel_rfl) (fun _ => by kernel_rfl) ?_
  refine d_load 16 19 (.int .i64 rh) (by kernel_rfl) (by kernel_rfl) (by kernel_rfl) (load1 (off := 5) (fun _ => by kernel_rfl) (holds_own (.there .here)) (by kernel_rfl)) ?_
  refine d_quiet 17 20 (.int .i64 (rh % 5)) 12 #[.int .i64 rh, .int .i64 (5)] (by kernel_rfl) (by kernel_rfl) (by kernel_rfl) (fun _ => by kernel_rfl) (fun _ => (Within_tr (rh) (5) (by omega) (by omega))) ?_
  refine d_pure 18 21 (.int .i64 ((rh % 5) - 1)) (by kernel_rfl) (by kernel_rfl) (by kernel_rfl) (run_eq (v := .int .i64 (IntKind.i64.wrap ((rh % 5) - 1))) (fun _ => by kernel_rfl) (by rw [wrap_in (by omega) (by omega)])) ?_
  refine d_pure 19 22 (.pointer (some ⟨b1, 6, none⟩)) (by kernel_rfl) (by kernel_rfl) (by kernel_rfl) (fun _ => by kernel_rfl) ?_
  refine d_load 20 23 (.int .i64 rn) (by kernel_rfl) (by kernel_rfl) (by kernel_rfl) (load1 (off := 6) (fun _ => by kernel_rfl) (holds_own (.there .here)) (by kernel_rfl)) ?_
  refine d_quiet 21 24 (.int .i64 (rn % 5)) 12 #[.int .i64 rn, .int .i64 (5)] (by kernel_rfl) (by kernel_rfl) (by kernel_rfl) (fun _ => by kernel_rfl) (fun _ => (Within_tr (rn) (5) (by omega) (by omega))) ?_
  refine d_pure 22 25 (.int .i64 ((rn % 5) - 1)) (by kernel_rfl) (by kernel_rfl) (by kernel_rfl) (run_eq (v := .int .i64 (IntKind.i64.wrap ((rn % 5) - 1))) (fun _ => by kernel_rfl) (by rw [wrap_in (by omega) (by omega)])) ?_
  refine d_pure 23 26 (.pointer (some ⟨b1, 7, none⟩)) (by kernel_rfl) (by kernel_rfl) (by kernel_rfl) (fun _ => by kernel_rfl) ?_
  refine d_load 24 27 (.int .i64 rd) (by kernel_rfl) (by kernel_rfl) (by kernel_rfl) (load1 (off := 7) (fun _ => by kernel_rfl) (holds_own (.there .here)) (by kernel_rfl)) ?_
  refine d_quiet 25 28 (.int .i64 (rd % 5)) 12 #[.int .i64 rd, .int .i64 (5)] (by kernel_rfl) (by kernel_rfl) (by kernel_rfl) (fun _ => by kernel_rfl) (fun _ => (Within_tr (rd) (5) (by omega) (by omega))) ?_
  refine d_pure 26 29 (.int .i64 ((rd % 5) - 1)) (by kernel_rfl) (by kernel_rfl) (by kernel_rfl) (run_eq (v := .int .i64 (IntKind.i64.wrap ((rd % 5) - 1))) (fun _ => by kernel_rfl) (by rw [wrap_in (by omega) (by omega)])) ?_
  refine d_pure 27 30 (.pointer (some ⟨b1, 8, none⟩)) (by kernel_rfl) (by kernel_rfl) (by kernel_rfl) (fun _ => by kernel_rfl) ?_
  refine d_load 28 31 (.slice a m cap) (by kernel_rfl) (by kernel_rfl) (by kernel_rfl) (load1 (off := 8) (fun _ => by kernel_rfl) (holds_own (.there .here)) (by kernel_rfl)) ?_
  refine d_call 29 32 [28, 25, 27, 24, 21, 23, 20, 17, 19, 16, 14, 15, 13, 11, 12, 10, 8, 9, 7, 5, 6, 4, 2, 3, 1, 0] [26, 22, 18] [] 19 #[.slice a m cap, .int .i64 (3)] (by kernel_rfl) (by kernel_rfl) (by kernel_rfl) (fun _ => by kernel_rfl) (Cut_tr a m cap 3 xs (hm) (Reads.conv (fun w hw => hw.less (.drop .here (.drop .here .refl))) hr) (by omega) (by omega)) ?_
  rintro _ _ ⟨a1, m1, c1, rfl, hm1, rfl⟩
  refine ⟨stable_nil, ?_⟩
  refine d_pure 30 33 (.agg #[.int .i64 (rk % 5), .int .i64 (rl % 4), .int .i64 (ri % 5), .int .i64 (rs % 8), .int .i64 (rt % 3), .int .i64 ((rh % 5) - 1), .slice a1 m1 c1, .int .i64 ((rn % 5) - 1), .int .i64 ((rd % 5) - 1)]) (by kernel_rfl) (by kernel_rfl) (by kernel_rfl) (fun _ => by kernel_rfl) ?_
  refine d_do 31 [30, 29, 0, 1, 2, 3, 4, 5, 6, 7, 8, 9, 10, 11, 12, 13, 14, 15, 16, 17, 18, 19, 20, 21, 22, 23, 24, 25, 26, 27, 28] [] [] (by kernel_rfl) (by kernel_rfl) (by kernel_rfl) (st_store (off := 0) (vs := [.int .i64 (rk % 5), .int .i64 (rl % 4), .int .i64 (ri % 5), .int .i64 (rs % 8), .int .i64 (rt % 3), .int .i64 ((rh % 5) - 1), .slice a1 m1 c1, .int .i64 ((rn % 5) - 1), .int .i64 ((rd % 5) - 1)]) (c' := #[.int .i64 (rk % 5), .int .i64 (rl % 4), .int .i64 (ri % 5), .int .i64 (rs % 8), .int .i64 (rt % 3), .int .i64 ((rh % 5) - 1), .slice a1 m1 c1, .int .i64 ((rn % 5) - 1), .int .i64 ((rd % 5) - 1)]) (fun _ => by kernel_rfl) (.there .here) (by kernel_rfl) (by kernel_rfl) (by kernel_rfl)) ?_
  rintro _ _ ⟨rfl, rfl⟩
  refine ⟨stable_nil, ?_⟩
  refine draw_end (by kernel_rfl) ?_
  refine At.env [(0, .agg #[.int .i64 rk, .int .i64 rl, .int .i64 ri, .int .i64 rs, .int .i64 rt, .int .i64 rh, .int .i64 rn, .int .i64 rd, .slice a m cap]), (1, .pointer (some ⟨b1, 0, none⟩)), (2, .pointer (some ⟨b2, 0, none⟩))] ⟨by kernel_rfl, by kernel_rfl, by kernel_rfl, trivial⟩ ?_
  refine at_then_normal ?_
  refine at_ret (by kernel_rfl) ?_
  -- .agg #[.int .i64 (rk % 5), .int .i64 (rl % 4), .int .i64 (ri % 5), .int .i64 (rs % 8), .int .i64 (rt % 3), .int .i64 ((rh % 5) - 1), .slice a1 m1 c1, .int .i64 ((rn % 5) - 1), .int .i64 ((rd % 5) - 1)]
  refine at_backR [.agg #[.int .i64 (rk % 5), .int .i64 (rl % 4), .int .i64 (ri % 5), .int .i64 (rs % 8), .int .i64 (rt % 3), .int .i64 ((rh % 5) - 1), .slice a1 m1 c1, .int .i64 ((rn % 5) - 1), .int .i64 ((rd % 5) - 1)]] ((IntsA a1 c1 (xs.take 3)) :: Γ) (rs := [.cell 2 36]) (by kernel_rfl) (.cons (.cell (by kernel_rfl) (retN (off := 0) (vs := [.int .i64 (rk % 5), .int .i64 (rl % 4), .int .i64 (ri % 5), .int .i64 (rs % 8), .int .i64 (rt % 3), .int .i64 ((rh % 5) - 1), .slice a1 m1 c1, .int .i64 ((rn % 5) - 1), .int .i64 ((rd % 5) - 1)]) 9 (fun _ => by kernel_rfl) (holds_own .here) rfl (by exact ⟨rfl, rfl, rfl, rfl, rfl, rfl, rfl, rfl, rfl, trivial⟩))) .nil) (fun w hw => hw.less (.take (.there .here) (.drop .here (.drop .here .refl)))) ?_
  exact ⟨_, _, _, rfl, by assumption, rfl⟩
theorem Deal13_ex {W0 : World} {Γ : List Asn} (rk rl ri rs rt rh rn rd : Int) (a : Option Addr) (m cap : Nat) (xs : List Int) (hm : m = xs.length) (hr : Reads W0 Γ a (ints xs)) (hcap : m ≤ cap) : Tr Try.prog 23 #[.agg #[.int .i64 rk, .int .i64 rl, .int .i64 ri, .int .i64 rs, .int .i64 rt, .int .i64 rh, .int .i64 rn, .int .i64 rd, .slice a m cap]] W0 Γ
    (fun r Δ => ∃ k l i s t h n d a' m' cap', (0 ≤ k ∧ k < 5) ∧ (0 ≤ l ∧ l < 4) ∧ (0 ≤ i ∧ i < 5) ∧ (0 ≤ s ∧ s < 8) ∧ (0 ≤ t ∧ t < 3) ∧ (-1 ≤ h ∧ h < 4) ∧ (-1 ≤ n ∧ n < 4) ∧ (-1 ≤ d ∧ d < 4) ∧ r = .agg #[.int .i64 k, .int .i64 l, .int .i64 i, .int .i64 s, .int .i64 t, .int .i64 h, .slice a' m' cap', .int .i64 n, .int .i64 d] ∧ m' = (xs.take 3).length ∧ Δ = IntsA a' cap' (xs.take 3) :: Γ) := by
  refine Tr.mono (Deal13_tr rk rl ri rs rt rh rn rd a m cap xs hm hr hcap) ?_
  rintro r Δ ⟨a', m', cap', rfl, h2, rfl⟩
  exact ⟨_, _, _, _, _, _, _, _, _, _, _, by omega, by omega, by omega, by omega, by omega, by omega, by omega, by omega, rfl, h2, rfl⟩
noncomputable def C32 (p : List Nat) : Code := codeAt (bodyOf Try.f32) p
set_option maxRecDepth 100000 in
theorem RAnswer_tr {W0 : World} {Γ : List Asn} (k : Int) : Tr Try.prog 32 #[.int .i64 k] W0 (Γ) (fun r Δ => r = .int .i64 (answerI k) ∧ Δ = Γ) := by
  refine Tr.enter (fn := Try.f32) (c := C32 []) (args := [.int .i64 k]) 13 Try.func32 (by kernel_rfl) (by kernel_rfl) ?_
  refine At.env [(0, .int .i64 k)] ⟨by kernel_rfl, trivial⟩ ?_
  refine at_seq (x := C32 [0]) (y := C32 [1]) (by kernel_rfl) ?_
  refine at_region (id := 0) 1 (by kernel_rfl) (by kernel_rfl) ?_
  refine s_pure 2 (.int .i64 (0)) (by kernel_rfl) (by kernel_rfl) (fun _ => by kernel_rfl) ?_
  refine ops_end ?_
  refine At.env [(0, .int .i64 k), (2, .int .i64 (0))] ⟨by kernel_rfl, by kernel_rfl, trivial⟩ ?_
  refine at_then_normal ?_
  refine at_seq (x := C32 [1, 0]) (y := C32 [1, 1]) (by kernel_rfl) ?_
  refine at_seq (x := C32 [1, 0, 0]) (y := C32 [1, 0, 1]) (by kernel_rfl) ?_
  refine at_region (id := 1) 1 (by kernel_rfl) (by kernel_rfl) ?_
  refine s_pure 3 (.int .i64 k) (by kernel_rfl) (by kernel_rfl) (fun _ => by kernel_rfl) ?_
  refine ops_end ?_
  refine At.env [(0, .int .i64 k), (2, .int .i64 (0)), (3, .int .i64 k)] ⟨by kernel_rfl, by kernel_rfl, by kernel_rfl, trivial⟩ ?_
  refine at_then_normal ?_
  refine at_block (i := 0) (x := C32 [1, 0, 1, 0]) (by kernel_rfl) ?_
  refine at_seq (x := C32 [1, 0, 1, 0, 0]) (y := C32 [1, 0, 1, 0, 1]) (by kernel_rfl) ?_
  refine at_region (id := 2) 2 (by kernel_rfl) (by kernel_rfl) ?_
  rcases Decidable.em (k = (1 : Int)) with h1 | h1
  · refine s_pure 5 (.bool true) (by kernel_rfl) (by kernel_rfl) (run_eq (v := .bool (decide (k = (1 : Int)))) (fun _ => by kernel_rfl) (congrArg Value.bool (by rw [decide_eq_true h1]))) ?_
    refine s_pure 4 (.bool true) (by kernel_rfl) (by kernel_rfl) (fun _ => by kernel_rfl) ?_
    refine ops_end ?_
    refine At.env [(0, .int .i64 k), (2, .int .i64 (0)), (3, .int .i64 k), (4, .bool true)] ⟨by kernel_rfl, by kernel_rfl, by kernel_rfl, by kernel_rfl, trivial⟩ ?_
    refine at_then_normal ?_
    refine at_true (t := true) (x := C32 [1, 0, 1, 0, 1, 0]) (y := C32 [1, 0, 1, 0, 1, 1]) (o := .tmp 4) (by kernel_rfl) (by kernel_rfl) (by kernel_rfl) rfl ?_
    refine at_seq (x := C32 [1, 0, 1, 0, 1, 0, 0]) (y := C32 [1, 0, 1, 0, 1, 0, 1]) (by kernel_rfl) ?_
    refine at_region (id := 3) 1 (by kernel_rfl) (by kernel_rfl) ?_
    refine s_pure 2 (.int .i64 (7)) (by kernel_rfl) (by kernel_rfl) (fun _ => by kernel_rfl) ?_
    refine ops_end ?_
    refine At.env [(0, .int .i64 k), (2, .int .i64 (7)), (3, .int .i64 k), (4, .bool true)] ⟨by kernel_rfl, by kernel_rfl, by kernel_rfl, by kernel_rfl, trivial⟩ ?_
    refine at_then_normal ?_
    refine at_ret (by kernel_rfl) ?_
    refine at_in_ret ?_
    refine at_then_ret ?_
    refine at_backR [.int .i64 (7)] (Γ) (rs := [.tmp 2]) (by kernel_rfl) (.cons (.tmp (by kernel_rfl)) .nil) (fun w hw => hw.less .refl) ?_
    exact ⟨congrArg (Value.int .i64) (by simp [answerI, *]), rfl⟩
  · refine s_pure 5 (.bool false) (by kernel_rfl) (by kernel_rfl) (run_eq (v := .bool (decide (k = (1 : Int)))) (fun _ => by kernel_rfl) (congrArg Value.bool (by rw [decide_eq_false h1]))) ?_
    refine s_pure 4 (.bool false) (by kernel_rfl) (by kernel_rfl) (fun _ => by kernel_rfl) ?_
    refine ops_end ?_
    refine At.env [(0, .int .i64 k), (2, .int .i64 (0)), (3, .int .i64 k), (4, .bool false)] ⟨by kernel_rfl, by kernel_rfl, by kernel_rfl, by kernel_rfl, trivial⟩ ?_
    refine at_then_normal ?_
    refine at_false (t := false) (x := C32 [1, 0, 1, 0, 1, 0]) (y := C32 [1, 0, 1, 0, 1, 1]) (o := .tmp 4) (by kernel_rfl) (by kernel_rfl) (by kernel_rfl) rfl ?_
    refine at_seq (x := C32 [1, 0, 1, 0, 1, 1, 0]) (y := C32 [1, 0, 1, 0, 1, 1, 1]) (by kernel_rfl) ?_
    refine at_seq (x := C32 [1, 0, 1, 0, 1, 1, 0, 0]) (y := C32 [1, 0, 1, 0, 1, 1, 0, 1]) (by kernel_rfl) ?_
    refine at_region (id := 4) 2 (by kernel_rfl) (by kernel_rfl) ?_
    rcases Decidable.em (k = (2 : Int)) with h2 | h2
    · refine s_pure 7 (.bool true) (by kernel_rfl) (by kernel_rfl) (run_eq (v := .bool (decide (k = (2 : Int)))) (fun _ => by kernel_rfl) (congrArg Value.bool (by rw [decide_eq_true h2]))) ?_
      refine s_pure 6 (.bool true) (by kernel_rfl) (by kernel_rfl) (fun _ => by kernel_rfl) ?_
      refine ops_end ?_
      refine At.env [(0, .int .i64 k), (2, .int .i64 (0)), (3, .int .i64 k), (4, .bool false), (6, .bool true)] ⟨by kernel_rfl, by kernel_rfl, by kernel_rfl, by kernel_rfl, by kernel_rfl, trivial⟩ ?_
      refine at_then_normal ?_
      refine at_true (t := true) (x := C32 [1, 0, 1, 0, 1, 1, 0, 1, 0]) (y := C32 [1, 0, 1, 0, 1, 1, 0, 1, 1]) (o := .tmp 6) (by kernel_rfl) (by kernel_rfl) (by kernel_rfl) rfl ?_
      refine at_skip (by kernel_rfl) ?_
      refine at_then_normal ?_
      refine at_true (t := true) (x := C32 [1, 0, 1, 0, 1, 1, 1, 0]) (y := C32 [1, 0, 1, 0, 1, 1, 1, 1]) (o := .tmp 6) (by kernel_rfl) (by kernel_rfl) (by kernel_rfl) rfl ?_
      refine at_seq (x := C32 [1, 0, 1, 0, 1, 1, 1, 0, 0]) (y := C32 [1, 0, 1, 0, 1, 1, 1, 0, 1]) (by kernel_rfl) ?_
      refine at_region (id := 7) 1 (by kernel_rfl) (by kernel_rfl) ?_
      refine s_pure 2 (.int .i64 (8)) (by kernel_rfl) (by kernel_rfl) (fun _ => by kernel_rfl) ?_
      refine ops_end ?_
      refine At.env [(0, .int .i64 k), (2, .int .i64 (8)), (3, .int .i64 k), (4, .bool false), (6, .bool true)] ⟨by kernel_rfl, by kernel_rfl, by kernel_rfl, by kernel_rfl, by kernel_rfl, trivial⟩ ?_
      refine at_then_normal ?_
      refine at_ret (by kernel_rfl) ?_
      refine at_in_ret ?_
      refine at_then_ret ?_
      refine at_backR [.int .i64 (8)] (Γ) (rs := [.tmp 2]) (by kernel_rfl) (.cons (.tmp (by kernel_rfl)) .nil) (fun w hw => hw.less .refl) ?_
      exact ⟨congrArg (Value.int .i64) (by simp [answerI, *]), rfl⟩
    · refine s_pure 7 (.bool false) (by kernel_rfl) (by kernel_rfl) (run_eq (v := .bool (decide (k = (2 : Int)))) (fun _ => by kernel_rfl) (congrArg Value.bool (by rw [decide_eq_false h2]))) ?_
      refine s_pure 6 (.bool false) (by kernel_rfl) (by kernel_rfl) (fun _ => by kernel_rfl) ?_
      refine ops_end ?_
      refine At.env [(0, .int .i64 k), (2, .int .i64 (0)), (3, .int .i64 k), (4, .bool false), (6, .bool false)] ⟨by kernel_rfl, by kernel_rfl, by kernel_rfl, by kernel_rfl, by kernel_rfl, trivial⟩ ?_
      refine at_then_normal ?_
      refine at_false (t := false) (x := C32 [1, 0, 1, 0, 1, 1, 0, 1, 0]) (y := C32 [1, 0, 1, 0, 1, 1, 0, 1, 1]) (o := .tmp 6) (by kernel_rfl) (by kernel_rfl) (by kernel_rfl) rfl ?_
      refine at_seq (x := C32 [1, 0, 1, 0, 1, 1, 0, 1, 1, 0]) (y := C32 [1, 0, 1, 0, 1, 1, 0, 1, 1, 1]) (by kernel_rfl) ?_
      refine at_region (id := 5) 2 (by kernel_rfl) (by kernel_rfl) ?_
      rcases Decidable.em (k = (4 : Int)) with h3 | h3
      · refine s_pure 8 (.bool true) (by kernel_rfl) (by kernel_rfl) (run_eq (v := .bool (decide (k = (4 : Int)))) (fun _ => by kernel_rfl) (congrArg Value.bool (by rw [decide_eq_true h3]))) ?_
        refine s_pure 6 (.bool true) (by kernel_rfl) (by kernel_rfl) (fun _ => by kernel_rfl) ?_
        refine ops_end ?_
        refine At.env [(0, .int .i64 k), (2, .int .i64 (0)), (3, .int .i64 k), (4, .bool false), (6, .bool true)] ⟨by kernel_rfl, by kernel_rfl, by kernel_rfl, by kernel_rfl, by kernel_rfl, trivial⟩ ?_
        refine at_then_normal ?_
        refine at_true (t := true) (x := C32 [1, 0, 1, 0, 1, 1, 0, 1, 1, 1, 0]) (y := C32 [1, 0, 1, 0, 1, 1, 0, 1, 1, 1, 1]) (o := .tmp 6) (by kernel_rfl) (by kernel_rfl) (by kernel_rfl) rfl ?_
        refine at_skip (by kernel_rfl) ?_
        refine at_then_normal ?_
        refine at_true (t := true) (x := C32 [1, 0, 1, 0, 1, 1, 1, 0]) (y := C32 [1, 0, 1, 0, 1, 1, 1, 1]) (o := .tmp 6) (by kernel_rfl) (by kernel_rfl) (by kernel_rfl) rfl ?_
        refine at_seq (x := C32 [1, 0, 1, 0, 1, 1, 1, 0, 0]) (y := C32 [1, 0, 1, 0, 1, 1, 1, 0, 1]) (by kernel_rfl) ?_
        refine at_region (id := 7) 1 (by kernel_rfl) (by kernel_rfl) ?_
        refine s_pure 2 (.int .i64 (8)) (by kernel_rfl) (by kernel_rfl) (fun _ => by kernel_rfl) ?_
        refine ops_end ?_
        refine At.env [(0, .int .i64 k), (2, .int .i64 (8)), (3, .int .i64 k), (4, .bool false), (6, .bool true)] ⟨by kernel_rfl, by kernel_rfl, by kernel_rfl, by kernel_rfl, by kernel_rfl, trivial⟩ ?_
        refine at_then_normal ?_
        refine at_ret (by kernel_rfl) ?_
        refine at_in_ret ?_
        refine at_then_ret ?_
        refine at_backR [.int .i64 (8)] (Γ) (rs := [.tmp 2]) (by kernel_rfl) (.cons (.tmp (by kernel_rfl)) .nil) (fun w hw => hw.less .refl) ?_
        exact ⟨congrArg (Value.int .i64) (by simp [answerI, *]), rfl⟩
      · refine s_pure 8 (.bool false) (by kernel_rfl) (by kernel_rfl) (run_eq (v := .bool (decide (k = (4 : Int)))) (fun _ => by kernel_rfl) (congrArg Value.bool (by rw [decide_eq_false h3]))) ?_
        refine s_pure 6 (.bool false) (by kernel_rfl) (by kernel_rfl) (fun _ => by kernel_rfl) ?_
        refine ops_end ?_
        refine At.env [(0, .int .i64 k), (2, .int .i64 (0)), (3, .int .i64 k), (4, .bool false), (6, .bool false)] ⟨by kernel_rfl, by kernel_rfl, by kernel_rfl, by kernel_rfl, by kernel_rfl, trivial⟩ ?_
        refine at_then_normal ?_
        refine at_false (t := false) (x := C32 [1, 0, 1, 0, 1, 1, 0, 1, 1, 1, 0]) (y := C32 [1, 0, 1, 0, 1, 1, 0, 1, 1, 1, 1]) (o := .tmp 6) (by kernel_rfl) (by kernel_rfl) (by kernel_rfl) rfl ?_
        refine at_region (id := 6) 2 (by kernel_rfl) (by kernel_rfl) ?_
        rcases Decidable.em (k = (5 : Int)) with h4 | h4
        · refine s_pure 9 (.bool true) (by kernel_rfl) (by kernel_rfl) (run_eq (v := .bool (decide (k = (5 : Int)))) (fun _ => by kernel_rfl) (congrArg Value.bool (by rw [decide_eq_true h4]))) ?_
          refine s_pure 6 (.bool true) (by kernel_rfl) (by kernel_rfl) (fun _ => by kernel_rfl) ?_
          refine ops_end ?_
          refine At.env [(0, .int .i64 k), (2, .int .i64 (0)), (3, .int .i64 k), (4, .bool false), (6, .bool true)] ⟨by kernel_rfl, by kernel_rfl, by kernel_rfl, by kernel_rfl, by kernel_rfl, trivial⟩ ?_
          refine at_then_normal ?_
          refine at_true (t := true) (x := C32 [1, 0, 1, 0, 1, 1, 1, 0]) (y := C32 [1, 0, 1, 0, 1, 1, 1, 1]) (o := .tmp 6) (by kernel_rfl) (by kernel_rfl) (by kernel_rfl) rfl ?_
          refine at_seq (x := C32 [1, 0, 1, 0, 1, 1, 1, 0, 0]) (y := C32 [1, 0, 1, 0, 1, 1, 1, 0, 1]) (by kernel_rfl) ?_
          refine at_region (id := 7) 1 (by kernel_rfl) (by kernel_rfl) ?_
          refine s_pure 2 (.int .i64 (8)) (by kernel_rfl) (by kernel_rfl) (fun _ => by kernel_rfl) ?_
          refine ops_end ?_
          refine At.env [(0, .int .i64 k), (2, .int .i64 (8)), (3, .int .i64 k), (4, .bool false), (6, .bool true)] ⟨by kernel_rfl, by kernel_rfl, by kernel_rfl, by kernel_rfl, by kernel_rfl, trivial⟩ ?_
          refine at_then_normal ?_
          refine at_ret (by kernel_rfl) ?_
          refine at_in_ret ?_
          refine at_then_ret ?_
          refine at_backR [.int .i64 (8)] (Γ) (rs := [.tmp 2]) (by kernel_rfl) (.cons (.tmp (by kernel_rfl)) .nil) (fun w hw => hw.less .refl) ?_
          exact ⟨congrArg (Value.int .i64) (by simp [answerI, *]), rfl⟩
        · refine s_pure 9 (.bool false) (by kernel_rfl) (by kernel_rfl) (run_eq (v := .bool (decide (k = (5 : Int)))) (fun _ => by kernel_rfl) (congrArg Value.bool (by rw [decide_eq_false h4]))) ?_
          refine s_pure 6 (.bool false) (by kernel_rfl) (by kernel_rfl) (fun _ => by kernel_rfl) ?_
          refine ops_end ?_
          refine At.env [(0, .int .i64 k), (2, .int .i64 (0)), (3, .int .i64 k), (4, .bool false), (6, .bool false)] ⟨by kernel_rfl, by kernel_rfl, by kernel_rfl, by kernel_rfl, by kernel_rfl, trivial⟩ ?_
          refine at_then_normal ?_
          refine at_false (t := false) (x := C32 [1, 0, 1, 0, 1, 1, 1, 0]) (y := C32 [1, 0, 1, 0, 1, 1, 1, 1]) (o := .tmp 6) (by kernel_rfl) (by kernel_rfl) (by kernel_rfl) rfl ?_
          refine at_seq (x := C32 [1, 0, 1, 0, 1, 1, 1, 1, 0]) (y := C32 [1, 0, 1, 0, 1, 1, 1, 1, 1]) (by kernel_rfl) ?_
          refine at_seq (x := C32 [1, 0, 1, 0, 1, 1, 1, 1, 0, 0]) (y := C32 [1, 0, 1, 0, 1, 1, 1, 1, 0, 1]) (by kernel_rfl) ?_
          refine at_region (id := 8) 2 (by kernel_rfl) (by kernel_rfl) ?_
          rcases Decidable.em (k = (3 : Int)) with h5 | h5
          · refine s_pure 11 (.bool true) (by kernel_rfl) (by kernel_rfl) (run_eq (v := .bool (decide (k = (3 : Int)))) (fun _ => by kernel_rfl) (congrArg Value.bool (by rw [decide_eq_true h5]))) ?_
            refine s_pure 10 (.bool true) (by kernel_rfl) (by kernel_rfl) (fun _ => by kernel_rfl) ?_
            refine ops_end ?_
            refine At.env [(0, .int .i64 k), (2, .int .i64 (0)), (3, .int .i64 k), (4, .bool false), (6, .bool false), (10, .bool true)] ⟨by kernel_rfl, by kernel_rfl, by kernel_rfl, by kernel_rfl, by kernel_rfl, by kernel_rfl, trivial⟩ ?_
            refine at_then_normal ?_
            refine at_true (t := true) (x := C32 [1, 0, 1, 0, 1, 1, 1, 1, 0, 1, 0]) (y := C32 [1, 0, 1, 0, 1, 1, 1, 1, 0, 1, 1]) (o := .tmp 10) (by kernel_rfl) (by kernel_rfl) (by kernel_rfl) rfl ?_
            refine at_skip (by kernel_rfl) ?_
            refine at_then_normal ?_
            refine at_true (t := true) (x := C32 [1, 0, 1, 0, 1, 1, 1, 1, 1, 0]) (y := C32 [1, 0, 1, 0, 1, 1, 1, 1, 1, 1]) (o := .tmp 10) (by kernel_rfl) (by kernel_rfl) (by kernel_rfl) rfl ?_
            refine at_seq (x := C32 [1, 0, 1, 0, 1, 1, 1, 1, 1, 0, 0]) (y := C32 [1, 0, 1, 0, 1, 1, 1, 1, 1, 0, 1]) (by kernel_rfl) ?_
            refine at_region (id := 10) 1 (by kernel_rfl) (by kernel_rfl) ?_
            refine s_pure 2 (.int .i64 (9)) (by kernel_rfl) (by kernel_rfl) (fun _ => by kernel_rfl) ?_
            refine ops_end ?_
            refine At.env [(0, .int .i64 k), (2, .int .i64 (9)), (3, .int .i64 k), (4, .bool false), (6, .bool false), (10, .bool true)] ⟨by kernel_rfl, by kernel_rfl, by kernel_rfl, by kernel_rfl, by kernel_rfl, by kernel_rfl, trivial⟩ ?_
            refine at_then_normal ?_
            refine at_ret (by kernel_rfl) ?_
            refine at_in_ret ?_
            refine at_then_ret ?_
            refine at_backR [.int .i64 (9)] (Γ) (rs := [.tmp 2]) (by kernel_rfl) (.cons (.tmp (by kernel_rfl)) .nil) (fun w hw => hw.less .refl) ?_
            exact ⟨congrArg (Value.int .i64) (by simp [answerI, *]), rfl⟩
          · refine s_pure 11 (.bool false) (by kernel_rfl) (by kernel_rfl) (run_eq (v := .bool (decide (k = (3 : Int)))) (fun _ => by kernel_rfl) (congrArg Value.bool (by rw [decide_eq_false h5]))) ?_
            refine s_pure 10 (.bool false) (by kernel_rfl) (by kernel_rfl) (fun _ => by kernel_rfl) ?_
            refine ops_end ?_
            refine At.env [(0, .int .i64 k), (2, .int .i64 (0)), (3, .int .i64 k), (4, .bool false), (6, .bool false), (10, .bool false)] ⟨by kernel_rfl, by kernel_rfl, by kernel_rfl, by kernel_rfl, by kernel_rfl, by kernel_rfl, trivial⟩ ?_
            refine at_then_normal ?_
            refine at_false (t := false) (x := C32 [1, 0, 1, 0, 1, 1, 1, 1, 0, 1, 0]) (y := C32 [1, 0, 1, 0, 1, 1, 1, 1, 0, 1, 1]) (o := .tmp 10) (by kernel_rfl) (by kernel_rfl) (by kernel_rfl) rfl ?_
            refine at_region (id := 9) 2 (by kernel_rfl) (by kernel_rfl) ?_
            rcases Decidable.em (k = (6 : Int)) with h6 | h6
            · refine s_pure 12 (.bool true) (by kernel_rfl) (by kernel_rfl) (run_eq (v := .bool (decide (k = (6 : Int)))) (fun _ => by kernel_rfl) (congrArg Value.bool (by rw [decide_eq_true h6]))) ?_
              refine s_pure 10 (.bool true) (by kernel_rfl) (by kernel_rfl) (fun _ => by kernel_rfl) ?_
              refine ops_end ?_
              refine At.env [(0, .int .i64 k), (2, .int .i64 (0)), (3, .int .i64 k), (4, .bool false), (6, .bool false), (10, .bool true)] ⟨by kernel_rfl, by kernel_rfl, by kernel_rfl, by kernel_rfl, by kernel_rfl, by kernel_rfl, trivial⟩ ?_
              refine at_then_normal ?_
              refine at_true (t := true) (x := C32 [1, 0, 1, 0, 1, 1, 1, 1, 1, 0]) (y := C32 [1, 0, 1, 0, 1, 1, 1, 1, 1, 1]) (o := .tmp 10) (by kernel_rfl) (by kernel_rfl) (by kernel_rfl) rfl ?_
              refine at_seq (x := C32 [1, 0, 1, 0, 1, 1, 1, 1, 1, 0, 0]) (y := C32 [1, 0, 1, 0, 1, 1, 1, 1, 1, 0, 1]) (by kernel_rfl) ?_
              refine at_region (id := 10) 1 (by kernel_rfl) (by kernel_rfl) ?_
              refine s_pure 2 (.int .i64 (9)) (by kernel_rfl) (by kernel_rfl) (fun _ => by kernel_rfl) ?_
              refine ops_end ?_
              refine At.env [(0, .int .i64 k), (2, .int .i64 (9)), (3, .int .i64 k), (4, .bool false), (6, .bool false), (10, .bool true)] ⟨by kernel_rfl, by kernel_rfl, by kernel_rfl, by kernel_rfl, by kernel_rfl, by kernel_rfl, trivial⟩ ?_
              refine at_then_normal ?_
              refine at_ret (by kernel_rfl) ?_
              refine at_in_ret ?_
              refine at_then_ret ?_
              refine at_backR [.int .i64 (9)] (Γ) (rs := [.tmp 2]) (by kernel_rfl) (.cons (.tmp (by kernel_rfl)) .nil) (fun w hw => hw.less .refl) ?_
              exact ⟨congrArg (Value.int .i64) (by simp [answerI, *]), rfl⟩
            · refine s_pure 12 (.bool false) (by kernel_rfl) (by kernel_rfl) (run_eq (v := .bool (decide (k = (6 : Int)))) (fun _ => by kernel_rfl) (congrArg Value.bool (by rw [decide_eq_false h6]))) ?_
              refine s_pure 10 (.bool false) (by kernel_rfl) (by kernel_rfl) (fun _ => by kernel_rfl) ?_
              refine ops_end ?_
              refine At.env [(0, .int .i64 k), (2, .int .i64 (0)), (3, .int .i64 k), (4, .bool false), (6, .bool false), (10, .bool false)] ⟨by kernel_rfl, by kernel_rfl, by kernel_rfl, by kernel_rfl, by kernel_rfl, by kernel_rfl, trivial⟩ ?_
              refine at_then_normal ?_
              refine at_false (t := false) (x := C32 [1, 0, 1, 0, 1, 1, 1, 1, 1, 0]) (y := C32 [1, 0, 1, 0, 1, 1, 1, 1, 1, 1]) (o := .tmp 10) (by kernel_rfl) (by kernel_rfl) (by kernel_rfl) rfl ?_
              refine at_skip (by kernel_rfl) ?_
              refine at_in_normal ?_
              refine at_then_normal ?_
              refine at_seq (x := C32 [1, 1, 0]) (y := C32 [1, 1, 1]) (by kernel_rfl) ?_
              refine at_region (id := 11) 1 (by kernel_rfl) (by kernel_rfl) ?_
              refine s_pure 2 (.int .i64 (0)) (by kernel_rfl) (by kernel_rfl) (fun _ => by kernel_rfl) ?_
              refine ops_end ?_
              refine At.env [(0, .int .i64 k), (2, .int .i64 (0)), (3, .int .i64 k), (4, .bool false), (6, .bool false), (10, .bool false)] ⟨by kernel_rfl, by kernel_rfl, by kernel_rfl, by kernel_rfl, by kernel_rfl, by kernel_rfl, trivial⟩ ?_
              refine at_then_normal ?_
              refine at_ret (by kernel_rfl) ?_
              refine at_backR [.int .i64 (0)] (Γ) (rs := [.tmp 2]) (by kernel_rfl) (.cons (.tmp (by kernel_rfl)) .nil) (fun w hw => hw.less .refl) ?_
              exact ⟨congrArg (Value.int .i64) (by simp [answerI, *]), rfl⟩
end Go.Proofs.Ytpcffplbedbpkaa
