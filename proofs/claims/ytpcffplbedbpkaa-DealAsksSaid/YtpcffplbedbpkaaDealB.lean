/- Deals by small numbers; what the second writing of them asks for. -/
import Derived.Test.YtpcffplbedbpkaaDealA
import Derived.Test.YtpcffplbedbpkaaSlIn
namespace Go.Proofs.Ytpcffplbedbpkaa
open Go Go.RowKit
noncomputable def C23 (p : List Nat) : Code := codeAt (bodyOf Try.f23) p
set_option maxRecDepth 100000 in
theorem Deal13_tr {W0 : World} {Γ : List Asn} (rk rl ri rs rt rh rn rd : Int) (a : Option Addr) (m cap : Nat) (xs : List Int) (hm : m = xs.length) (hr : Reads W0 Γ a (ints xs)) (hcap : m ≤ cap) : Tr Try.prog 23 #[.agg #[.int .i64 rk, .int .i64 rl, .int .i64 ri, .int .i64 rs, .int .i64 rt, .int .i64 rh, .int .i64 rn, .int .i64 rd, .slice a m cap]] W0 (Γ) (fun r Δ => ∃ a' m' cap', r = .agg #[.int .i64 (rk % 5), .int .i64 (rl % 4), .int .i64 (ri % 5), .int .i64 (rs % 8), .int .i64 (rt % 3), .int .i64 ((rh % 5) - 1), .slice a' m' cap', .int .i64 ((rn % 5) - 1), .int .i64 ((rd % 5) - 1)] ∧ m' = (xs.take 3).length ∧ Δ = IntsA a' cap' (xs.take 3) :: Γ) := by
  refine Tr.enter (fn := Try.f23) (c := C23 []) (args := [.agg #[.int .i64 rk, .int .i64 rl, .int .i64 ri, .int .i64 rs, .int .i64 rt, .int .i64 rh, .int .i64 rn, .int .i64 rd, .slice a m cap]]) 34 Try.func23 (by kernel_rfl) (by kernel_rfl) ?_
  refine At.env [(0, .agg #[.int .i64 rk, .int .i64 rl, .int .i64 ri, .int .i64 rs, .int .i64 rt, .int .i64 rh, .int .i64 rn, .int .i64 rd, .slice a m cap])] ⟨by kernel_rfl, trivial⟩ ?_
  refine at_seq (x := C23 [0]) (y := C23 [1]) (by kernel_rfl) ?_
  refine at_region (id := 0) 2 (by kernel_rfl) (by kernel_rfl) ?_
  refine s_step 1 (by kernel_rfl) (by kernel_rfl) (st_new (T := 44) (cells := #[.int .i64 rk, .int .i64 rl, .int .i64 ri, .int .i64 rs, .int .i64 rt, .int .i64 rh, .int .i64 rn, .int .i64 rd, .slice a m cap]) (fun a => .pointer (some a)) (fun _ => by kernel_rfl)) ?_
  rintro _ _ ⟨b1, rfl, rfl⟩
  refine s_step 2 (by kernel_rfl) (by kernel_rfl) (st_new (T := 36) (cells := #[.int .i64 (0), .int .i64 (0), .int .i64 (0), .int .i64 (0), .int .i64 (0), .int .i64 (0), .slice none 0 0, .int .i64 (0), .int .i64 (0)]) (fun a => .pointer (some a)) (fun _ => by kernel_rfl)) ?_
  rintro _ _ ⟨b2, rfl, rfl⟩
  refine ops_end ?_
  refine At.env [(0, .agg #[.int .i64 rk, .int .i64 rl, .int .i64 ri, .int .i64 rs, .int .i64 rt, .int .i64 rh, .int .i64 rn, .int .i64 rd, .slice a m cap]), (1, .pointer (some ⟨b1, 0, none⟩)), (2, .pointer (some ⟨b2, 0, none⟩))] ⟨by kernel_rfl, by kernel_rfl, by kernel_rfl, trivial⟩ ?_
  refine at_then_normal ?_
  refine at_seq (x := C23 [1, 0]) (y := C23 [1, 1]) (by kernel_rfl) ?_
  refine at_region_draw (id := 1) (by kernel_rfl) (by kernel_rfl) ?_
  refine d_pure 0 3 (.pointer (some ⟨b1, 0, none⟩)) (by kernel_rfl) (by kernel_rfl) (by kernel_rfl) (fun _ => by kernel_rfl) ?_
  refine d_load 1 4 (.int .i64 rk) (by kernel_rfl) (by kernel_rfl) (by kernel_rfl) (load1 (off := 0) (fun _ => by kernel_rfl) (holds_own (.there .here)) (by kernel_rfl)) ?_
  refine d_quiet 2 5 (.int .i64 (rk % 5)) 12 #[.int .i64 rk, .int .i64 (5)] (by kernel_rfl) (by kernel_rfl) (by kernel_rfl) (fun _ => by kernel_rfl) (fun _ => (Within_tr (rk) (5) (by omega) (by omega))) ?_
  refine d_pure 3 6 (.pointer (some ⟨b1, 1, none⟩)) (by kernel_rfl) (by kernel_rfl) (by kernel_rfl) (fun _ => by kernel_rfl) ?_
  refine d_load 4 7 (.int .i64 rl) (by kernel_rfl) (by kernel_rfl) (by kernel_rfl) (load1 (off := 1) (fun _ => by kernel_rfl) (holds_own (.there .here)) (by kernel_rfl)) ?_
  refine d_quiet 5 8 (.int .i64 (rl % 4)) 12 #[.int .i64 rl, .int .i64 (4)] (by kernel_rfl) (by kernel_rfl) (by kernel_rfl) (fun _ => by kernel_rfl) (fun _ => (Within_tr (rl) (4) (by omega) (by omega))) ?_
  refine d_pure 6 9 (.pointer (some ⟨b1, 2, none⟩)) (by kernel_rfl) (by kernel_rfl) (by kernel_rfl) (fun _ => by kernel_rfl) ?_
  refine d_load 7 10 (.int .i64 ri) (by kernel_rfl) (by kernel_rfl) (by kernel_rfl) (load1 (off := 2) (fun _ => by kernel_rfl) (holds_own (.there .here)) (by kernel_rfl)) ?_
  refine d_quiet 8 11 (.int .i64 (ri % 5)) 12 #[.int .i64 ri, .int .i64 (5)] (by kernel_rfl) (by kernel_rfl) (by kernel_rfl) (fun _ => by kernel_rfl) (fun _ => (Within_tr (ri) (5) (by omega) (by omega))) ?_
  refine d_pure 9 12 (.pointer (some ⟨b1, 3, none⟩)) (by kernel_rfl) (by kernel_rfl) (by kernel_rfl) (fun _ => by kernel_rfl) ?_
  refine d_load 10 13 (.int .i64 rs) (by kernel_rfl) (by kernel_rfl) (by kernel_rfl) (load1 (off := 3) (fun _ => by kernel_rfl) (holds_own (.there .here)) (by kernel_rfl)) ?_
  refine d_quiet 11 14 (.int .i64 (rs % 8)) 12 #[.int .i64 rs, .int .i64 (8)] (by kernel_rfl) (by kernel_rfl) (by kernel_rfl) (fun _ => by kernel_rfl) (fun _ => (Within_tr (rs) (8) (by omega) (by omega))) ?_
  refine d_pure 12 15 (.pointer (some ⟨b1, 4, none⟩)) (by kernel_rfl) (by kernel_rfl) (by kernel_rfl) (fun _ => by kernel_rfl) ?_
  refine d_load 13 16 (.int .i64 rt) (by kernel_rfl) (by kernel_rfl) (by kernel_rfl) (load1 (off := 4) (fun _ => by kernel_rfl) (holds_own (.there .here)) (by kernel_rfl)) ?_
  refine d_quiet 14 17 (.int .i64 (rt % 3)) 12 #[.int .i64 rt, .int .i64 (3)] (by kernel_rfl) (by kernel_rfl) (by kernel_rfl) (fun _ => by kernel_rfl) (fun _ => (Within_tr (rt) (3) (by omega) (by omega))) ?_
  refine d_pure 15 18 (.pointer (some ⟨b1, 5, none⟩)) (by kernel_rfl) (by kernel_rfl) (by kernel_rfl) (fun _ => by kernel_rfl) ?_
  refine d_load 16 19 (.int .i64 rh) (by kernel_rfl) (by kernel_rfl) (by kernel_rfl) (load1 (off := 5) (fun _ => by kernel_rfl) (holds_own (.there .here)) (by kernel_rfl)) ?_
  refine d_quiet 17 20 (.int .i64 (rh % 5)) 12 #[.int .i64 rh, .int .i64 (5)] (by kernel_rfl) (by kernel_rfl) (by kernel_rfl) (fun _ => by kernel_rfl) (fun _ => (Within_tr (rh) (5) (by omega) (by omega))) ?_
  refine d_pure 18 21 (.int .i64 ((rh % 5) - 1)) (by kernel_rfl) (by kernel_rfl) (by kernel_rfl) (run_eq (v := .int .i64 (IntKind.i64.wrap ((rh % 5) - 1))) (fun _ => by kernel_rfl) (by rw [wrap_in (by omega) (by omega)])) ?_
  refine d_pure 19 22 (.pointer (some ⟨b1, 6, none⟩)) (by kernel_rfl) (by kernel_rfl) (by kernel_rfl) (fun _ => by kernel_rfl) ?_
  refine d_load 20 23 (.int .i64 rn) (by kernel_rfl) (by kernel_rfl) (by kernel_rfl) (load1 (off := 6) (fun _ => by kernel_rfl) (holds_own (.there .here)) (by kernel_rfl)) ?_
  refine d_quiet 21 24 (.int .i64 (rn % 5)) 12 #[.int .i64 rn, .int .i64 (5)] (by kernel_rfl) (by kernel_rfl) (by kernel_rfl) (fun _ => by kernel_rfl) (fun _ => (Within_tr (rn) (5) (by omega) (by omega))) ?_
  refine d_pure 22 25 (.int .i64 ((rn % 5) - 1)) (by kernel_rfl) (by kernel_rfl) (by kernel_rfl) (run_eq (v := .int .i64 (IntKind.i64.wrap ((rn % 5) - 1))) (fun _ => by kernel_rfl) (by rw [wrap_in (by omega) (by omega)])) ?_
  refine d_pure 23 26 (.pointer (some ⟨b1, 7, none⟩)) (by kernel_rfl) (by kernel_rfl) (by kernel_rfl) (fun _ => by kernel_rfl) ?_
  refine d_load 24 27 (.int .i64 rd) (by kernel_rfl) (by kernel_rfl) (by kernel_rfl) (load1 (off := 7) (fun _ => by kernel_rfl) (holds_own (.there .here)) (by kernel_rfl)) ?_
  refine d_quiet 25 28 (.int .i64 (rd % 5)) 12 #[.int .i64 rd, .int .i64 (5)] (by kernel_rfl) (by kernel_rfl) (by kernel_rfl) (fun _ => by kernel_rfl) (fun _ => (Within_tr (rd) (5) (by omega) (by omega))) ?_
  refine d_pure 26 29 (.int .i64 ((rd % 5) - 1)) (by kernel_rfl) (by kernel_rfl) (by kernel_rfl) (run_eq (v := .int .i64 (IntKind.i64.wrap ((rd % 5) - 1))) (fun _ => by kernel_rfl) (by rw [wrap_in (by omega) (by omega)])) ?_
  refine d_pure 27 30 (.pointer (some ⟨b1, 8, none⟩)) (by kernel_rfl) (by kernel_rfl) (by kernel_rfl) (fun _ => by kernel_rfl) ?_
  refine d_load 28 31 (.slice a m cap) (by kernel_rfl) (by kernel_rfl) (by kernel_rfl) (load1 (off := 8) (fun _ => by kernel_rfl) (holds_own (.there .here)) (by kernel_rfl)) ?_
  refine d_call 29 32 [28, 25, 27, 24, 21, 23, 20, 17, 19, 16, 14, 15, 13, 11, 12, 10, 8, 9, 7, 5, 6, 4, 2, 3, 1, 0] [26, 22, 18] [] 19 #[.slice a m cap, .int .i64 (3)] (by kernel_rfl) (by kernel_rfl) (by kernel_rfl) (fun _ => by kernel_rfl) (Cut_tr a m cap 3 xs (hm) (Reads.conv (fun w hw => hw.less (.drop .here (.drop .here .refl))) hr) (by omega) (by omega)) ?_
  rintro _ _ ⟨a1, m1, c1, rfl, hm1, rfl⟩
  refine ⟨stable_nil, ?_⟩
  refine d_pure 30 33 (.agg #[.int .i64 (rk % 5), .int .i64 (rl % 4), .int .i64 (ri % 5), .int .i64 (rs % 8), .int .i64 (rt % 3), .int .i64 ((rh % 5) - 1), .slice a1 m1 c1, .int .i64 ((rn % 5) - 1), .int .i64 ((rd % 5) - 1)]) (by kernel_rfl) (by kernel_rfl) (by kernel_rfl) (fun _ => by kernel_rfl) ?_
  refine d_do 31 [30, 29, 0, 1, 2, 3, 4, 5, 6, 7, 8, 9, 10, 11, 12, 13, 14, 15, 16, 17, 18, 19, 20, 21, 22, 23, 24, 25, 26, 27, 28] [] [] (by kernel_rfl) (by kernel_rfl) (by kernel_rfl) (st_store (off := 0) (vs := [.int .i64 (rk % 5), .int .i64 (rl % 4), .int .i64 (ri % 5), .int .i64 (rs % 8), .int .i64 (rt % 3), .int .i64 ((rh % 5) - 1), .slice a1 m1 c1, .int .i64 ((rn % 5) - 1), .int .i64 ((rd % 5) - 1)]) (c' := #[.int .i64 (rk % 5), .int .i64 (rl % 4), .int .i64 (ri % 5), .int .i64 (rs % 8), .int .i64 (rt % 3), .int .i64 ((rh % 5) - 1), .slice a1 m1 c1, .int .i64 ((rn % 5) - 1), .int .i64 ((rd % 5) - 1)]) (fun _ => by kernel_rfl) (.there .here) (by kernel_rfl) (by kernel_rfl) (by kernel_rfl)) ?_
  rintro _ _ ⟨rfl, rfl⟩
  refine ⟨stable_nil, ?_⟩
  refine draw_end (by kernel_rfl) ?_
  refine At.env [(0, .agg #[.int .i64 rk, .int .i64 rl, .int .i64 ri, .int .i64 rs, .int .i64 rt, .int .i64 rh, .int .i64 rn, .int .i64 rd, .slice a m cap]), (1, .pointer (some ⟨b1, 0, none⟩)), (2, .pointer (some ⟨b2, 0, none⟩))] ⟨by kernel_rfl, by kernel_rfl, by kernel_rfl, trivial⟩ ?_
  refine at_then_normal ?_
  refine at_ret (by kernel_rfl) ?_
  -- .agg #[.int .i64 (rk % 5), .int .i64 (rl % 4), .int .i64 (ri % 5), .int .i64 (rs % 8), .int .i64 (rt % 3), .int .i64 ((rh % 5) - 1), .slice a1 m1 c1, .int .i64 ((rn % 5) - 1), .int .i64 ((rd % 5) - 1)]
  refine at_backR [.agg #[.int .i64 (rk % 5), .int .i64 (rl % 4), .int .i64 (ri % 5), .int .i64 (rs % 8), .int .i64 (rt % 3), .int .i64 ((rh % 5) - 1), .slice a1 m1 c1, .int .i64 ((rn % 5) - 1), .int .i64 ((rd % 5) - 1)]] ((IntsA a1 c1 (xs.take 3)) :: Γ) (rs := [.cell 2 36]) (by kernel_rfl) (.cons (.cell (by kernel_rfl) (retN (off := 0) (vs := [.int .i64 (rk % 5), .int .i64 (rl % 4), .int .i64 (ri % 5), .int .i64 (rs % 8), .int .i64 (rt % 3), .int .i64 ((rh % 5) - 1), .slice a1 m1 c1, .int .i64 ((rn % 5) - 1), .int .i64 ((rd % 5) - 1)]) 9 (fun _ => by kernel_rfl) (holds_own .here) rfl (by exact ⟨rfl, rfl, rfl, rfl, rfl, rfl, rfl, rfl, rfl, trivial⟩))) .nil) (fun w hw => hw.less (.take (.there .here) (.drop .here (.drop .here .refl)))) ?_
  exact ⟨_, _, _, rfl, by assumption, rfl⟩
theorem Deal13_ex {W0 : World} {Γ : List Asn} (rk rl ri rs rt rh rn rd : Int) (a : Option Addr) (m cap : Nat) (xs : List Int) (hm : m = xs.length) (hr : Reads W0 Γ a (ints xs)) (hcap : m ≤ cap) : Tr Try.prog 23 #[.agg #[.int .i64 rk, .int .i64 rl, .int .i64 ri, .int .i64 rs, .int .i64 rt, .int .i64 rh, .int .i64 rn, .int .i64 rd, .slice a m cap]] W0 Γ
    (fun r Δ => ∃ k l i s t h n d a' m' cap', (0 ≤ k ∧ k < 5) ∧ (0 ≤ l ∧ l < 4) ∧ (0 ≤ i ∧ i < 5) ∧ (0 ≤ s ∧ s < 8) ∧ (0 ≤ t ∧ t < 3) ∧ (-1 ≤ h ∧ h < 4) ∧ (-1 ≤ n ∧ n < 4) ∧ (-1 ≤ d ∧ d < 4) ∧ r = .agg #[.int .i64 k, .int .i64 l, .int .i64 i, .int .i64 s, .int .i64 t, .int .i64 h, .slice a' m' cap', .int .i64 n, .int .i64 d] ∧ m' = (xs.take 3).length ∧ Δ = IntsA a' cap' (xs.take 3) :: Γ) := by
  refine Tr.mono (Deal13_tr rk rl ri rs rt rh rn rd a m cap xs hm hr hcap) ?_
  rintro r Δ ⟨a', m', cap', rfl, h2, rfl⟩
  exact ⟨_, _, _, _, _, _, _, _, _, _, _, by omega, by omega, by omega, by omega, by omega, by omega, by omega, by omega, rfl, h2, rfl⟩
noncomputable def C34 (p : List Nat) : Code := codeAt (bodyOf Try.f34) p
set_option maxRecDepth 100000 in
theorem KSame_tr0 {W0 : World} {Γ : List Asn} (a : Option Addr) (cap : Nat) (b : Option Addr) (cap2 : Nat) (xs : List Int) (hr : Reads W0 Γ a (ints xs)) (hr2 : Reads W0 Γ b (ints xs)) (hlx : xs.length ≤ 1099511627776) : Tr Try.prog 34 #[.slice a xs.length cap, .slice b xs.length cap2] W0 (Γ) (fun r Δ => r = .bool true ∧ Δ = Γ) := by
  refine Tr.enter (fn := Try.f34) (c := C34 []) (args := [.slice a xs.length cap, .slice b xs.length cap2]) 26 Try.func34 (by kernel_rfl) (by kernel_rfl) ?_
  refine At.env [(0, .slice a xs.length cap), (1, .slice b xs.length cap2)] ⟨by kernel_rfl, by kernel_rfl, trivial⟩ ?_
  refine at_seq (x := C34 [0]) (y := C34 [1]) (by kernel_rfl) ?_
  refine at_region (id := 0) 1 (by kernel_rfl) (by kernel_rfl) ?_
  refine s_pure 4 (.bool false) (by kernel_rfl) (by kernel_rfl) (fun _ => by kernel_rfl) ?_
  refine ops_end ?_
  refine At.env [(0, .slice a xs.length cap), (1, .slice b xs.length cap2), (4, .bool false)] ⟨by kernel_rfl, by kernel_rfl, by kernel_rfl, trivial⟩ ?_
  refine at_then_normal ?_
  refine at_seq (x := C34 [1, 0]) (y := C34 [1, 1]) (by kernel_rfl) ?_
  refine at_seq (x := C34 [1, 0, 0]) (y := C34 [1, 0, 1]) (by kernel_rfl) ?_
  refine at_region (id := 1) 5 (by kernel_rfl) (by kernel_rfl) ?_
  refine s_pure 6 (.slice a xs.length cap) (by kernel_rfl) (by kernel_rfl) (fun _ => by kernel_rfl) ?_
  refine s_pure 7 (.int .i64 ((xs.length : Nat) : Int)) (by kernel_rfl) (by kernel_rfl) (fun _ => by kernel_rfl) ?_
  refine s_pure 8 (.slice b xs.length cap2) (by kernel_rfl) (by kernel_rfl) (fun _ => by kernel_rfl) ?_
  refine s_pure 9 (.int .i64 ((xs.length : Nat) : Int)) (by kernel_rfl) (by kernel_rfl) (fun _ => by kernel_rfl) ?_
  refine s_pure 10 (.bool false) (by kernel_rfl) (by kernel_rfl) (run_eq (v := .bool (!(decide (((xs.length : Nat) : Int) = ((xs.length : Nat) : Int))))) (fun _ => by kernel_rfl) (congrArg Value.bool (by rw [decide_eq_true rfl]; rfl))) ?_
  refine ops_end ?_
  refine At.env [(0, .slice a xs.length cap), (1, .slice b xs.length cap2), (4, .bool false), (10, .bool false)] ⟨by kernel_rfl, by kernel_rfl, by kernel_rfl, by kernel_rfl, trivial⟩ ?_
  refine at_then_normal ?_
  refine at_false (t := false) (x := C34 [1, 0, 1, 0]) (y := C34 [1, 0, 1, 1]) (o := .tmp 10) (by kernel_rfl) (by kernel_rfl) (by kernel_rfl) rfl ?_
  refine at_skip (by kernel_rfl) ?_
  refine at_then_normal ?_
  refine at_seq (x := C34 [1, 1, 0]) (y := C34 [1, 1, 1]) (by kernel_rfl) ?_
  refine at_seq (x := C34 [1, 1, 0, 0]) (y := C34 [1, 1, 0, 1]) (by kernel_rfl) ?_
  refine at_region (id := 3) 1 (by kernel_rfl) (by kernel_rfl) ?_
  refine s_pure 5 (.int .i64 (0)) (by kernel_rfl) (by kernel_rfl) (fun _ => by kernel_rfl) ?_
  refine ops_end ?_
  refine At.env [(0, .slice a xs.length cap), (1, .slice b xs.length cap2), (4, .bool false), (5, .int .i64 (0)), (10, .bool false)] ⟨by kernel_rfl, by kernel_rfl, by kernel_rfl, by kernel_rfl, by kernel_rfl, trivial⟩ ?_
  refine at_then_normal ?_
  refine at_block (i := 0) (x := C34 [1, 1, 0, 1, 0]) (by kernel_rfl) ?_
  refine at_loopR (x := C34 [1, 1, 0, 1, 0, 0]) (fun mm ff ΔΔ => ∃ k : Nat, (k ≤ xs.length) ∧ mm = xs.length - k ∧ ff = [(0, .slice a xs.length cap), (1, .slice b xs.length cap2), (4, .bool false), (5, .int .i64 ((k : Nat) : Int)), (10, .bool false)] ∧ Γ = ΔΔ) (xs.length - 0) (by kernel_rfl) [(0, .slice a xs.length cap), (1, .slice b xs.length cap2), (4, .bool false), (5, .int .i64 ((0 : Nat) : Int)), (10, .bool false)] ⟨by kernel_rfl, by kernel_rfl, by kernel_rfl, by kernel_rfl, by kernel_rfl, trivial⟩ ⟨0, Nat.zero_le _, rfl, rfl, rfl⟩ ?_
  rintro _ _ _ ⟨k, hl1, rfl, rfl, rfl⟩
  refine at_seq (x := C34 [1, 1, 0, 1, 0, 0, 0]) (y := C34 [1, 1, 0, 1, 0, 0, 1]) (by kernel_rfl) ?_
  refine at_seq (x := C34 [1, 1, 0, 1, 0, 0, 0, 0]) (y := C34 [1, 1, 0, 1, 0, 0, 0, 1]) (by kernel_rfl) ?_
  refine at_region (id := 4) 4 (by kernel_rfl) (by kernel_rfl) ?_
  refine s_pure 11 (.int .i64 ((k : Nat) : Int)) (by kernel_rfl) (by kernel_rfl) (fun _ => by kernel_rfl) ?_
  refine s_pure 12 (.slice a xs.length cap) (by kernel_rfl) (by kernel_rfl) (fun _ => by kernel_rfl) ?_
  refine s_pure 13 (.int .i64 ((xs.length : Nat) : Int)) (by kernel_rfl) (by kernel_rfl) (fun _ => by kernel_rfl) ?_
  rcases Decidable.em (((k : Nat) : Int) < ((xs.length : Nat) : Int)) with h1 | h1
  · refine s_pure 14 (.bool true) (by kernel_rfl) (by kernel_rfl) (run_eq (v := .bool (decide (((k : Nat) : Int) < ((xs.length : Nat) : Int)))) (fun _ => by kernel_rfl) (congrArg Value.bool (by rw [decide_eq_true h1]))) ?_
    refine ops_end ?_
    refine At.env [(0, .slice a xs.length cap), (1, .slice b xs.length cap2), (4, .bool false), (5, .int .i64 ((k : Nat) : Int)), (10, .bool false), (14, .bool true)] ⟨by kernel_rfl, by kernel_rfl, by kernel_rfl, by kernel_rfl, by kernel_rfl, by kernel_rfl, trivial⟩ ?_
    refine at_then_normal ?_
    refine at_true (t := true) (x := C34 [1, 1, 0, 1, 0, 0, 0, 1, 0]) (y := C34 [1, 1, 0, 1, 0, 0, 0, 1, 1]) (o := .tmp 14) (by kernel_rfl) (by kernel_rfl) (by kernel_rfl) rfl ?_
    refine at_skip (by kernel_rfl) ?_
    refine at_then_normal ?_
    refine at_seq (x := C34 [1, 1, 0, 1, 0, 0, 1, 0]) (y := C34 [1, 1, 0, 1, 0, 0, 1, 1]) (by kernel_rfl) ?_
    refine at_block (i := 1) (x := C34 [1, 1, 0, 1, 0, 0, 1, 0, 0]) (by kernel_rfl) ?_
    refine at_seq (x := C34 [1, 1, 0, 1, 0, 0, 1, 0, 0, 0]) (y := C34 [1, 1, 0, 1, 0, 0, 1, 0, 0, 1]) (by kernel_rfl) ?_
    refine at_region_draw (id := 6) (by kernel_rfl) (by kernel_rfl) ?_
    refine d_pure 0 17 (.slice a xs.length cap) (by kernel_rfl) (by kernel_rfl) (by kernel_rfl) (fun _ => by kernel_rfl) ?_
    refine d_pure 1 18 (.int .i64 ((k : Nat) : Int)) (by kernel_rfl) (by kernel_rfl) (by kernel_rfl) (fun _ => by kernel_rfl) ?_
    refine reads_at_draw (Reads.conv (fun w hw => hw.less .refl) hr) (by omega) ?_
    intro b1 o1 ha1
    obtain ⟨x1, hx1⟩ := getAt xs (k) (by omega)
    refine d_pure 2 19 (.pointer (some ⟨b1, o1 + (k * 1 + 0), none⟩)) (by kernel_rfl) (by kernel_rfl) (by kernel_rfl) (index_at (t := 22) (sz := 1) (E := 3) (a := a) (m := xs.length) (c := cap) (b := b1) (off := o1) (i := k) (tinfo 3) (fun _ => by kernel_rfl) (by kernel_rfl) (by kernel_rfl) (by kernel_rfl) ha1 (by first | rfl | simp | omega) (by omega) rfl) ?_
    refine d_load 3 20 (.int .i64 x1) (by kernel_rfl) (by kernel_rfl) (by kernel_rfl) (load1_at (off := o1 + (k * 1 + 0)) (v := .int .i64 x1) (fun _ => by kernel_rfl) rfl (reads_cell (k := 1) (Reads.conv (fun w hw => hw.less .refl) hr) (ints_rows _) ha1 (ints_get hx1) (show [(.int .i64 x1 : Value)][0]? = some (.int .i64 x1) from rfl))) ?_
    refine d_pure 4 21 (.slice b xs.length cap2) (by kernel_rfl) (by kernel_rfl) (by kernel_rfl) (fun _ => by kernel_rfl) ?_
    refine d_pure 5 22 (.int .i64 ((k : Nat) : Int)) (by kernel_rfl) (by kernel_rfl) (by kernel_rfl) (fun _ => by kernel_rfl) ?_
    refine reads_at_draw (Reads.conv (fun w hw => hw.less .refl) hr2) (by omega) ?_
    intro b2 o2 ha2
    refine d_pure 6 23 (.pointer (some ⟨b2, o2 + (k * 1 + 0), none⟩)) (by kernel_rfl) (by kernel_rfl) (by kernel_rfl) (index_at (t := 22) (sz := 1) (E := 3) (a := b) (m := xs.length) (c := cap2) (b := b2) (off := o2) (i := k) (tinfo 3) (fun _ => by kernel_rfl) (by kernel_rfl) (by kernel_rfl) (by kernel_rfl) ha2 (by first | rfl | simp | omega) (by omega) rfl) ?_
    refine d_load 7 24 (.int .i64 x1) (by kernel_rfl) (by kernel_rfl) (by kernel_rfl) (load1_at (off := o2 + (k * 1 + 0)) (v := .int .i64 x1) (fun _ => by kernel_rfl) rfl (reads_cell (k := 1) (Reads.conv (fun w hw => hw.less .refl) hr2) (ints_rows _) ha2 (ints_get hx1) (show [(.int .i64 x1 : Value)][0]? = some (.int .i64 x1) from rfl))) ?_
    refine d_pure 8 25 (.bool false) (by kernel_rfl) (by kernel_rfl) (by kernel_rfl) (run_eq (v := .bool (!(decide (x1 = x1)))) (fun _ => by kernel_rfl) (congrArg Value.bool (by rw [decide_eq_true rfl]; rfl))) ?_
    refine draw_end (by kernel_rfl) ?_
    refine At.env [(0, .slice a xs.length cap), (1, .slice b xs.length cap2), (4, .bool false), (5, .int .i64 ((k : Nat) : Int)), (10, .bool false), (14, .bool true), (25, .bool false)] ⟨by kernel_rfl, by kernel_rfl, by kernel_rfl, by kernel_rfl, by kernel_rfl, by kernel_rfl, by kernel_rfl, trivial⟩ ?_
    refine at_then_normal ?_
    refine at_false (t := false) (x := C34 [1, 1, 0, 1, 0, 0, 1, 0, 0, 1, 0]) (y := C34 [1, 1, 0, 1, 0, 0, 1, 0, 0, 1, 1]) (o := .tmp 25) (by kernel_rfl) (by kernel_rfl) (by kernel_rfl) rfl ?_
    refine at_skip (by kernel_rfl) ?_
    refine at_in_normal ?_
    refine at_then_normal ?_
    refine at_region (id := 5) 3 (by kernel_rfl) (by kernel_rfl) ?_
    refine s_pure 15 (.int .i64 ((k : Nat) : Int)) (by kernel_rfl) (by kernel_rfl) (fun _ => by kernel_rfl) ?_
    refine s_pure 16 (.int .i64 (((k : Nat) : Int) + 1)) (by kernel_rfl) (by kernel_rfl) (run_eq (v := .int .i64 (IntKind.i64.wrap (((k : Nat) : Int) + 1))) (fun _ => by kernel_rfl) (by rw [wrap_in (by omega) (by omega)])) ?_
    refine s_pure 5 (.int .i64 (((k : Nat) : Int) + 1)) (by kernel_rfl) (by kernel_rfl) (fun _ => by kernel_rfl) ?_
    refine ops_end ?_
    refine At.env [(0, .slice a xs.length cap), (1, .slice b xs.length cap2), (4, .bool false), (5, .int .i64 (((k : Nat) : Int) + 1)), (10, .bool false), (14, .bool true), (25, .bool false)] ⟨by kernel_rfl, by kernel_rfl, by kernel_rfl, by kernel_rfl, by kernel_rfl, by kernel_rfl, by kernel_rfl, trivial⟩ ?_
    refine at_round_normal ?_
    exact at_roundR (xs.length - (k + 1)) [(0, .slice a xs.length cap), (1, .slice b xs.length cap2), (4, .bool false), (5, .int .i64 (((k + 1) : Nat) : Int)), (10, .bool false)] (Γ) (by omega) ⟨by kernel_rfl, by kernel_rfl, by kernel_rfl, by kernel_rfl, by kernel_rfl, trivial⟩ (fun w hw => hw.less .refl) ⟨(k + 1), (by omega), rfl, rfl, rfl⟩
  · refine s_pure 14 (.bool false) (by kernel_rfl) (by kernel_rfl) (run_eq (v := .bool (decide (((k : Nat) : Int) < ((xs.length : Nat) : Int)))) (fun _ => by kernel_rfl) (congrArg Value.bool (by rw [decide_eq_false h1]))) ?_
    refine ops_end ?_
    refine At.env [(0, .slice a xs.length cap), (1, .slice b xs.length cap2), (4, .bool false), (5, .int .i64 ((k : Nat) : Int)), (10, .bool false), (14, .bool false)] ⟨by kernel_rfl, by kernel_rfl, by kernel_rfl, by kernel_rfl, by kernel_rfl, by kernel_rfl, trivial⟩ ?_
    refine at_then_normal ?_
    refine at_false (t := false) (x := C34 [1, 1, 0, 1, 0, 0, 0, 1, 0]) (y := C34 [1, 1, 0, 1, 0, 0, 0, 1, 1]) (o := .tmp 14) (by kernel_rfl) (by kernel_rfl) (by kernel_rfl) rfl ?_
    refine at_exit (i := 0) (by kernel_rfl) ?_
    refine at_then_exit ?_
    refine at_then_exit ?_
    refine at_in_here ?_
    refine at_then_normal ?_
    refine at_seq (x := C34 [1, 1, 1, 0]) (y := C34 [1, 1, 1, 1]) (by kernel_rfl) ?_
    refine at_region (id := 8) 1 (by kernel_rfl) (by kernel_rfl) ?_
    refine s_pure 4 (.bool true) (by kernel_rfl) (by kernel_rfl) (fun _ => by kernel_rfl) ?_
    refine ops_end ?_
    refine At.env [(0, .slice a xs.length cap), (1, .slice b xs.length cap2), (4, .bool true), (5, .int .i64 ((k : Nat) : Int)), (10, .bool false), (14, .bool false)] ⟨by kernel_rfl, by kernel_rfl, by kernel_rfl, by kernel_rfl, by kernel_rfl, by kernel_rfl, trivial⟩ ?_
    refine at_then_normal ?_
    refine at_ret (by kernel_rfl) ?_
    refine at_backR [.bool true] (Γ) (rs := [.tmp 4]) (by kernel_rfl) (.cons (.tmp (by kernel_rfl)) .nil) (fun w hw => hw.less .refl) ?_
    exact ⟨rfl, rfl⟩
theorem KSame_tr {W0 : World} {Γ : List Asn} (a : Option Addr) (m cap : Nat) (b : Option Addr) (m2 cap2 : Nat) (xs : List Int) (hm : m = xs.length) (hm2 : m2 = xs.length) (hr : Reads W0 Γ a (ints xs)) (hr2 : Reads W0 Γ b (ints xs)) (hlx : xs.length ≤ 1099511627776) : Tr Try.prog 34 #[.slice a m cap, .slice b m2 cap2] W0 Γ (fun r Δ => r = .bool true ∧ Δ = Γ) := by
  subst hm; subst hm2; exact KSame_tr0 a cap b cap2 xs hr hr2 hlx
noncomputable def C21 (p : List Nat) : Code := codeAt (bodyOf Try.f21) p
set_option maxRecDepth 100000 in
theorem PSame_tr0 {W0 : World} {Γ : List Asn} (pk pf pt pid pl pp ps : Int) (pfl : Bool) (a : Option Addr) (cap : Nat) (b : Option Addr) (cap2 : Nat) (xs : List Int) (hr : Reads W0 Γ a (ints xs)) (hr2 : Reads W0 Γ b (ints xs)) (hlx : xs.length ≤ 1099511627776) : Tr Try.prog 21 #[.agg #[.int .i64 pk, .int .i64 pf, .int .i64 pt, .int .i64 pid, .int .i64 pl, .int .i64 pp, .int .i64 ps, .bool pfl, .slice a xs.length cap], .agg #[.int .i64 pk, .int .i64 pf, .int .i64 pt, .int .i64 pid, .int .i64 pl, .int .i64 pp, .int .i64 ps, .bool pfl, .slice b xs.length cap2]] W0 (Γ) (fun r Δ => r = .bool true ∧ Δ = Γ) := by
  refine Tr.enter (fn := Try.f21) (c := C21 []) (args := [.agg #[.int .i64 pk, .int .i64 pf, .int .i64 pt, .int .i64 pid, .int .i64 pl, .int .i64 pp, .int .i64 ps, .bool pfl, .slice a xs.length cap], .agg #[.int .i64 pk, .int .i64 pf, .int .i64 pt, .int .i64 pid, .int .i64 pl, .int .i64 pp, .int .i64 ps, .bool pfl, .slice b xs.length cap2]]) 87 Try.func21 (by kernel_rfl) (by kernel_rfl) ?_
  refine At.env [(0, .agg #[.int .i64 pk, .int .i64 pf, .int .i64 pt, .int .i64 pid, .int .i64 pl, .int .i64 pp, .int .i64 ps, .bool pfl, .slice a xs.length cap]), (1, .agg #[.int .i64 pk, .int .i64 pf, .int .i64 pt, .int .i64 pid, .int .i64 pl, .int .i64 pp, .int .i64 ps, .bool pfl, .slice b xs.length cap2])] ⟨by kernel_rfl, by kernel_rfl, trivial⟩ ?_
  refine at_seq (x := C21 [0]) (y := C21 [1]) (by kernel_rfl) ?_
  refine at_region (id := 0) 3 (by kernel_rfl) (by kernel_rfl) ?_
  refine s_step 2 (by kernel_rfl) (by kernel_rfl) (st_new (T := 38) (cells := #[.int .i64 pk, .int .i64 pf, .int .i64 pt, .int .i64 pid, .int .i64 pl, .int .i64 pp, .int .i64 ps, .bool pfl, .slice a xs.length cap]) (fun a => .pointer (some a)) (fun _ => by kernel_rfl)) ?_
  rintro _ _ ⟨b1, rfl, rfl⟩
  refine s_step 3 (by kernel_rfl) (by kernel_rfl) (st_new (T := 38) (cells := #[.int .i64 pk, .int .i64 pf, .int .i64 pt, .int .i64 pid, .int .i64 pl, .int .i64 pp, .int .i64 ps, .bool pfl, .slice b xs.length cap2]) (fun a => .pointer (some a)) (fun _ => by kernel_rfl)) ?_
  rintro _ _ ⟨b2, rfl, rfl⟩
  refine s_pure 4 (.bool false) (by kernel_rfl) (by kernel_rfl) (fun _ => by kernel_rfl) ?_
  refine ops_end ?_
  refine At.env [(0, .agg #[.int .i64 pk, .int .i64 pf, .int .i64 pt, .int .i64 pid, .int .i64 pl, .int .i64 pp, .int .i64 ps, .bool pfl, .slice a xs.length cap]), (1, .agg #[.int .i64 pk, .int .i64 pf, .int .i64 pt, .int .i64 pid, .int .i64 pl, .int .i64 pp, .int .i64 ps, .bool pfl, .slice b xs.length cap2]), (2, .pointer (some ⟨b1, 0, none⟩)), (3, .pointer (some ⟨b2, 0, none⟩)), (4, .bool false)] ⟨by kernel_rfl, by kernel_rfl, by kernel_rfl, by kernel_rfl, by kernel_rfl, trivial⟩ ?_
  refine at_then_normal ?_
  refine at_seq (x := C21 [1, 0]) (y := C21 [1, 1]) (by kernel_rfl) ?_
  refine at_seq (x := C21 [1, 0, 0]) (y := C21 [1, 0, 1]) (by kernel_rfl) ?_
  refine at_region (id := 1) 63 (by kernel_rfl) (by kernel_rfl) ?_
  refine s_pure 6 (.pointer (some ⟨b1, 0, none⟩)) (by kernel_rfl) (by kernel_rfl) (fun _ => by kernel_rfl) ?_
  refine s_load 7 (.int .i64 pk) (by kernel_rfl) (by kernel_rfl) (load1 (off := 0) (fun _ => by kernel_rfl) (holds_own (.there .here)) (by kernel_rfl)) ?_
  refine s_pure 8 (.pointer (some ⟨b2, 0, none⟩)) (by kernel_rfl) (by kernel_rfl) (fun _ => by kernel_rfl) ?_
  refine s_load 9 (.int .i64 pk) (by kernel_rfl) (by kernel_rfl) (load1 (off := 0) (fun _ => by kernel_rfl) (holds_own .here) (by kernel_rfl)) ?_
  refine s_pure 10 (.bool false) (by kernel_rfl) (by kernel_rfl) (run_eq (v := .bool (!(decide (pk = pk)))) (fun _ => by kernel_rfl) (congrArg Value.bool (by rw [decide_eq_true rfl]; rfl))) ?_
  refine s_pure 11 (.bool false) (by kernel_rfl) (by kernel_rfl) (fun _ => by kernel_rfl) ?_
  refine s_pure 12 (.pointer (some ⟨b1, 1, none⟩)) (by kernel_rfl) (by kernel_rfl) (fun _ => by kernel_rfl) ?_
  refine s_load 13 (.int .i64 pf) (by kernel_rfl) (by kernel_rfl) (load1 (off := 1) (fun _ => by kernel_rfl) (holds_own (.there .here)) (by kernel_rfl)) ?_
  refine s_pure 14 (.pointer (some ⟨b2, 1, none⟩)) (by kernel_rfl) (by kernel_rfl) (fun _ => by kernel_rfl) ?_
  refine s_load 15 (.int .i64 pf) (by kernel_rfl) (by kernel_rfl) (load1 (off := 1) (fun _ => by kernel_rfl) (holds_own .here) (by kernel_rfl)) ?_
  refine s_pure 16 (.bool false) (by kernel_rfl) (by kernel_rfl) (run_eq (v := .bool (!(decide (pf = pf)))) (fun _ => by kernel_rfl) (congrArg Value.bool (by rw [decide_eq_true rfl]; rfl))) ?_
  refine s_pure 17 (.bool false) (by kernel_rfl) (by kernel_rfl) (fun _ => by kernel_rfl) ?_
  refine s_pure 18 (.bool false) (by kernel_rfl) (by kernel_rfl) (fun _ => by kernel_rfl) ?_
  refine s_pure 19 (.pointer (some ⟨b1, 2, none⟩)) (by kernel_rfl) (by kernel_rfl) (fun _ => by kernel_rfl) ?_
  refine s_load 20 (.int .i64 pt) (by kernel_rfl) (by kernel_rfl) (load1 (off := 2) (fun _ => by kernel_rfl) (holds_own (.there .here)) (by kernel_rfl)) ?_
  refine s_pure 21 (.pointer (some ⟨b2, 2, none⟩)) (by kernel_rfl) (by kernel_rfl) (fun _ => by kernel_rfl) ?_
  refine s_load 22 (.int .i64 pt) (by kernel_rfl) (by kernel_rfl) (load1 (off := 2) (fun _ => by kernel_rfl) (holds_own .here) (by kernel_rfl)) ?_
  refine s_pure 23 (.bool false) (by kernel_rfl) (by kernel_rfl) (run_eq (v := .bool (!(decide (pt = pt)))) (fun _ => by kernel_rfl) (congrArg Value.bool (by rw [decide_eq_true rfl]; rfl))) ?_
  refine s_pure 24 (.bool false) (by kernel_rfl) (by kernel_rfl) (fun _ => by kernel_rfl) ?_
  refine s_pure 25 (.bool false) (by kernel_rfl) (by kernel_rfl) (fun _ => by kernel_rfl) ?_
  refine s_pure 26 (.pointer (some ⟨b1, 3, none⟩)) (by kernel_rfl) (by kernel_rfl) (fun _ => by kernel_rfl) ?_
  refine s_load 27 (.int .i64 pid) (by kernel_rfl) (by kernel_rfl) (load1 (off := 3) (fun _ => by kernel_rfl) (holds_own (.there .here)) (by kernel_rfl)) ?_
  refine s_pure 28 (.pointer (some ⟨b2, 3, none⟩)) (by kernel_rfl) (by kernel_rfl) (fun _ => by kernel_rfl) ?_
  refine s_load 29 (.int .i64 pid) (by kernel_rfl) (by kernel_rfl) (load1 (off := 3) (fun _ => by kernel_rfl) (holds_own .here) (by kernel_rfl)) ?_
  refine s_pure 30 (.bool false) (by kernel_rfl) (by kernel_rfl) (run_eq (v := .bool (!(decide (pid = pid)))) (fun _ => by kernel_rfl) (congrArg Value.bool (by rw [decide_eq_true rfl]; rfl))) ?_
  refine s_pure 31 (.bool false) (by kernel_rfl) (by kernel_rfl) (fun _ => by kernel_rfl) ?_
  refine s_pure 32 (.bool false) (by kernel_rfl) (by kernel_rfl) (fun _ => by kernel_rfl) ?_
  refine s_pure 33 (.pointer (some ⟨b1, 4, none⟩)) (by kernel_rfl) (by kernel_rfl) (fun _ => by kernel_rfl) ?_
  refine s_load 34 (.int .i64 pl) (by kernel_rfl) (by kernel_rfl) (load1 (off := 4) (fun _ => by kernel_rfl) (holds_own (.there .here)) (by kernel_rfl)) ?_
  refine s_pure 35 (.pointer (some ⟨b2, 4, none⟩)) (by kernel_rfl) (by kernel_rfl) (fun _ => by kernel_rfl) ?_
  refine s_load 36 (.int .i64 pl) (by kernel_rfl) (by kernel_rfl) (load1 (off := 4) (fun _ => by kernel_rfl) (holds_own .here) (by kernel_rfl)) ?_
  refine s_pure 37 (.bool false) (by kernel_rfl) (by kernel_rfl) (run_eq (v := .bool (!(decide (pl = pl)))) (fun _ => by kernel_rfl) (congrArg Value.bool (by rw [decide_eq_true rfl]; rfl))) ?_
  refine s_pure 38 (.bool false) (by kernel_rfl) (by kernel_rfl) (fun _ => by kernel_rfl) ?_
  refine s_pure 39 (.bool false) (by kernel_rfl) (by kernel_rfl) (fun _ => by kernel_rfl) ?_
  refine s_pure 40 (.pointer (some ⟨b1, 5, none⟩)) (by kernel_rfl) (by kernel_rfl) (fun _ => by kernel_rfl) ?_
  refine s_load 41 (.int .i64 pp) (by kernel_rfl) (by kernel_rfl) (load1 (off := 5) (fun _ => by kernel_rfl) (holds_own (.there .here)) (by kernel_rfl)) ?_
  refine s_pure 42 (.pointer (some ⟨b2, 5, none⟩)) (by kernel_rfl) (by kernel_rfl) (fun _ => by kernel_rfl) ?_
  refine s_load 43 (.int .i64 pp) (by kernel_rfl) (by kernel_rfl) (load1 (off := 5) (fun _ => by kernel_rfl) (holds_own .here) (by kernel_rfl)) ?_
  refine s_pure 44 (.bool false) (by kernel_rfl) (by kernel_rfl) (run_eq (v := .bool (!(decide (pp = pp)))) (fun _ => by kernel_rfl) (congrArg Value.bool (by rw [decide_eq_true rfl]; rfl))) ?_
  refine s_pure 45 (.bool false) (by kernel_rfl) (by kernel_rfl) (fun _ => by kernel_rfl) ?_
  refine s_pure 46 (.bool false) (by kernel_rfl) (by kernel_rfl) (fun _ => by kernel_rfl) ?_
  refine s_pure 47 (.pointer (some ⟨b1, 6, none⟩)) (by kernel_rfl) (by kernel_rfl) (fun _ => by kernel_rfl) ?_
  refine s_load 48 (.int .i64 ps) (by kernel_rfl) (by kernel_rfl) (load1 (off := 6) (fun _ => by kernel_rfl) (holds_own (.there .here)) (by kernel_rfl)) ?_
  refine s_pure 49 (.pointer (some ⟨b2, 6, none⟩)) (by kernel_rfl) (by kernel_rfl) (fun _ => by kernel_rfl) ?_
  refine s_load 50 (.int .i64 ps) (by kernel_rfl) (by kernel_rfl) (load1 (off := 6) (fun _ => by kernel_rfl) (holds_own .here) (by kernel_rfl)) ?_
  refine s_pure 51 (.bool false) (by kernel_rfl) (by kernel_rfl) (run_eq (v := .bool (!(decide (ps = ps)))) (fun _ => by kernel_rfl) (congrArg Value.bool (by rw [decide_eq_true rfl]; rfl))) ?_
  refine s_pure 52 (.bool false) (by kernel_rfl) (by kernel_rfl) (fun _ => by kernel_rfl) ?_
  refine s_pure 53 (.bool false) (by kernel_rfl) (by kernel_rfl) (fun _ => by kernel_rfl) ?_
  refine s_pure 54 (.pointer (some ⟨b1, 7, none⟩)) (by kernel_rfl) (by kernel_rfl) (fun _ => by kernel_rfl) ?_
  refine s_load 55 (.bool pfl) (by kernel_rfl) (by kernel_rfl) (load1 (off := 7) (fun _ => by kernel_rfl) (holds_own (.there .here)) (by kernel_rfl)) ?_
  refine s_pure 56 (.pointer (some ⟨b2, 7, none⟩)) (by kernel_rfl) (by kernel_rfl) (fun _ => by kernel_rfl) ?_
  refine s_load 57 (.bool pfl) (by kernel_rfl) (by kernel_rfl) (load1 (off := 7) (fun _ => by kernel_rfl) (holds_own .here) (by kernel_rfl)) ?_
  refine s_pure 58 (.bool false) (by kernel_rfl) (by kernel_rfl) (run_eq (v := .bool (!(pfl == pfl))) (fun _ => by kernel_rfl) (congrArg Value.bool (by rw [beq_self_eq_true]; rfl))) ?_
  refine s_pure 59 (.bool false) (by kernel_rfl) (by kernel_rfl) (fun _ => by kernel_rfl) ?_
  refine s_pure 60 (.bool false) (by kernel_rfl) (by kernel_rfl) (fun _ => by kernel_rfl) ?_
  refine s_pure 61 (.pointer (some ⟨b1, 8, none⟩)) (by kernel_rfl) (by kernel_rfl) (fun _ => by kernel_rfl) ?_
  refine s_load 62 (.slice a xs.length cap) (by kernel_rfl) (by kernel_rfl) (load1 (off := 8) (fun _ => by kernel_rfl) (holds_own (.there .here)) (by kernel_rfl)) ?_
  refine s_pure 63 (.int .i64 ((xs.length : Nat) : Int)) (by kernel_rfl) (by kernel_rfl) (fun _ => by kernel_rfl) ?_
  refine s_pure 64 (.pointer (some ⟨b2, 8, none⟩)) (by kernel_rfl) (by kernel_rfl) (fun _ => by kernel_rfl) ?_
  refine s_load 65 (.slice b xs.length cap2) (by kernel_rfl) (by kernel_rfl) (load1 (off := 8) (fun _ => by kernel_rfl) (holds_own .here) (by kernel_rfl)) ?_
  refine s_pure 66 (.int .i64 ((xs.length : Nat) : Int)) (by kernel_rfl) (by kernel_rfl) (fun _ => by kernel_rfl) ?_
  refine s_pure 67 (.bool false) (by kernel_rfl) (by kernel_rfl) (run_eq (v := .bool (!(decide (((xs.length : Nat) : Int) = ((xs.length : Nat) : Int))))) (fun _ => by kernel_rfl) (congrArg Value.bool (by rw [decide_eq_true rfl]; rfl))) ?_
  refine s_pure 68 (.bool false) (by kernel_rfl) (by kernel_rfl) (fun _ => by kernel_rfl) ?_
  refine ops_end ?_
  refine At.env [(0, .agg #[.int .i64 pk, .int .i64 pf, .int .i64 pt, .int .i64 pid, .int .i64 pl, .int .i64 pp, .int .i64 ps, .bool pfl, .slice a xs.length cap]), (1, .agg #[.int .i64 pk, .int .i64 pf, .int .i64 pt, .int .i64 pid, .int .i64 pl, .int .i64 pp, .int .i64 ps, .bool pfl, .slice b xs.length cap2]), (2, .pointer (some ⟨b1, 0, none⟩)), (3, .pointer (some ⟨b2, 0, none⟩)), (4, .bool false), (68, .bool false)] ⟨by kernel_rfl, by kernel_rfl, by kernel_rfl, by kernel_rfl, by kernel_rfl, by kernel_rfl, trivial⟩ ?_
  refine at_then_normal ?_
  refine at_false (t := false) (x := C21 [1, 0, 1, 0]) (y := C21 [1, 0, 1, 1]) (o := .tmp 68) (by kernel_rfl) (by kernel_rfl) (by kernel_rfl) rfl ?_
  refine at_skip (by kernel_rfl) ?_
  refine at_then_normal ?_
  refine at_seq (x := C21 [1, 1, 0]) (y := C21 [1, 1, 1]) (by kernel_rfl) ?_
  refine at_seq (x := C21 [1, 1, 0, 0]) (y := C21 [1, 1, 0, 1]) (by kernel_rfl) ?_
  refine at_region (id := 3) 4 (by kernel_rfl) (by kernel_rfl) ?_
  refine s_pure 69 (.pointer (some ⟨b1, 8, none⟩)) (by kernel_rfl) (by kernel_rfl) (fun _ => by kernel_rfl) ?_
  refine s_load 70 (.slice a xs.length cap) (by kernel_rfl) (by kernel_rfl) (load1 (off := 8) (fun _ => by kernel_rfl) (holds_own (.there .here)) (by kernel_rfl)) ?_
  refine s_pure 71 (.int .i64 ((xs.length : Nat) : Int)) (by kernel_rfl) (by kernel_rfl) (fun _ => by kernel_rfl) ?_
  refine s_pure 72 (.int .i64 (0)) (by kernel_rfl) (by kernel_rfl) (fun _ => by kernel_rfl) ?_
  refine ops_end ?_
  refine At.env [(0, .agg #[.int .i64 pk, .int .i64 pf, .int .i64 pt, .int .i64 pid, .int .i64 pl, .int .i64 pp, .int .i64 ps, .bool pfl, .slice a xs.length cap]), (1, .agg #[.int .i64 pk, .int .i64 pf, .int .i64 pt, .int .i64 pid, .int .i64 pl, .int .i64 pp, .int .i64 ps, .bool pfl, .slice b xs.length cap2]), (2, .pointer (some ⟨b1, 0, none⟩)), (3, .pointer (some ⟨b2, 0, none⟩)), (4, .bool false), (68, .bool false), (71, .int .i64 ((xs.length : Nat) : Int)), (72, .int .i64 (0))] ⟨by kernel_rfl, by kernel_rfl, by kernel_rfl, by kernel_rfl, by kernel_rfl, by kernel_rfl, by kernel_rfl, by kernel_rfl, trivial⟩ ?_
  refine at_then_normal ?_
  refine at_block (i := 0) (x := C21 [1, 1, 0, 1, 0]) (by kernel_rfl) ?_
  refine at_loopR (x := C21 [1, 1, 0, 1, 0, 0]) (fun mm ff ΔΔ => ∃ k : Nat, (k ≤ xs.length) ∧ mm = xs.length - k ∧ ff = [(0, .agg #[.int .i64 pk, .int .i64 pf, .int .i64 pt, .int .i64 pid, .int .i64 pl, .int .i64 pp, .int .i64 ps, .bool pfl, .slice a xs.length cap]), (1, .agg #[.int .i64 pk, .int .i64 pf, .int .i64 pt, .int .i64 pid, .int .i64 pl, .int .i64 pp, .int .i64 ps, .bool pfl, .slice b xs.length cap2]), (2, .pointer (some ⟨b1, 0, none⟩)), (3, .pointer (some ⟨b2, 0, none⟩)), (4, .bool false), (68, .bool false), (71, .int .i64 ((xs.length : Nat) : Int)), (72, .int .i64 ((k : Nat) : Int))] ∧ (Asn.own b2 (.cells #[.int .i64 pk, .int .i64 pf, .int .i64 pt, .int .i64 pid, .int .i64 pl, .int .i64 pp, .int .i64 ps, .bool pfl, .slice b xs.length cap2] 38 (0, 0))) :: (Asn.own b1 (.cells #[.int .i64 pk, .int .i64 pf, .int .i64 pt, .int .i64 pid, .int .i64 pl, .int .i64 pp, .int .i64 ps, .bool pfl, .slice a xs.length cap] 38 (0, 0))) :: Γ = ΔΔ) (xs.length - 0) (by kernel_rfl) [(0, .agg #[.int .i64 pk, .int .i64 pf, .int .i64 pt, .int .i64 pid, .int .i64 pl, .int .i64 pp, .int .i64 ps, .bool pfl, .slice a xs.length cap]), (1, .agg #[.int .i64 pk, .int .i64 pf, .int .i64 pt, .int .i64 pid, .int .i64 pl, .int .i64 pp, .int .i64 ps, .bool pfl, .slice b xs.length cap2]), (2, .pointer (some ⟨b1, 0, none⟩)), (3, .pointer (some ⟨b2, 0, none⟩)), (4, .bool false), (68, .bool false), (71, .int .i64 ((xs.length : Nat) : Int)), (72, .int .i64 ((0 : Nat) : Int))] ⟨by kernel_rfl, by kernel_rfl, by kernel_rfl, by kernel_rfl, by kernel_rfl, by kernel_rfl, by kernel_rfl, by kernel_rfl, trivial⟩ ⟨0, Nat.zero_le _, rfl, rfl, rfl⟩ ?_
  rintro _ _ _ ⟨k, hl1, rfl, rfl, rfl⟩
  refine at_seq (x := C21 [1, 1, 0, 1, 0, 0, 0]) (y := C21 [1, 1, 0, 1, 0, 0, 1]) (by kernel_rfl) ?_
  refine at_region (id := 4) 1 (by kernel_rfl) (by kernel_rfl) ?_
  rcases Decidable.em (((k : Nat) : Int) < ((xs.length : Nat) : Int)) with h1 | h1
  · refine s_pure 73 (.bool true) (by kernel_rfl) (by kernel_rfl) (run_eq (v := .bool (decide (((k : Nat) : Int) < ((xs.length : Nat) : Int)))) (fun _ => by kernel_rfl) (congrArg Value.bool (by rw [decide_eq_true h1]))) ?_
    refine ops_end ?_
    refine At.env [(0, .agg #[.int .i64 pk, .int .i64 pf, .int .i64 pt, .int .i64 pid, .int .i64 pl, .int .i64 pp, .int .i64 ps, .bool pfl, .slice a xs.length cap]), (1, .agg #[.int .i64 pk, .int .i64 pf, .int .i64 pt, .int .i64 pid, .int .i64 pl, .int .i64 pp, .int .i64 ps, .bool pfl, .slice b xs.length cap2]), (2, .pointer (some ⟨b1, 0, none⟩)), (3, .pointer (some ⟨b2, 0, none⟩)), (4, .bool false), (68, .bool false), (71, .int .i64 ((xs.length : Nat) : Int)), (72, .int .i64 ((k : Nat) : Int)), (73, .bool true)] ⟨by kernel_rfl, by kernel_rfl, by kernel_rfl, by kernel_rfl, by kernel_rfl, by kernel_rfl, by kernel_rfl, by kernel_rfl, by kernel_rfl, trivial⟩ ?_
    refine at_then_normal ?_
    refine at_seq (x := C21 [1, 1, 0, 1, 0, 0, 1, 0]) (y := C21 [1, 1, 0, 1, 0, 0, 1, 1]) (by kernel_rfl) ?_
    refine at_true (t := true) (x := C21 [1, 1, 0, 1, 0, 0, 1, 0, 0]) (y := C21 [1, 1, 0, 1, 0, 0, 1, 0, 1]) (o := .tmp 73) (by kernel_rfl) (by kernel_rfl) (by kernel_rfl) rfl ?_
    refine at_skip (by kernel_rfl) ?_
    refine at_then_normal ?_
    refine at_seq (x := C21 [1, 1, 0, 1, 0, 0, 1, 1, 0]) (y := C21 [1, 1, 0, 1, 0, 0, 1, 1, 1]) (by kernel_rfl) ?_
    refine at_block (i := 1) (x := C21 [1, 1, 0, 1, 0, 0, 1, 1, 0, 0]) (by kernel_rfl) ?_
    refine at_seq (x := C21 [1, 1, 0, 1, 0, 0, 1, 1, 0, 0, 0]) (y := C21 [1, 1, 0, 1, 0, 0, 1, 1, 0, 0, 1]) (by kernel_rfl) ?_
    refine at_region (id := 5) 2 (by kernel_rfl) (by kernel_rfl) ?_
    refine s_pure 74 (.int .i64 ((k : Nat) : Int)) (by kernel_rfl) (by kernel_rfl) (fun _ => by kernel_rfl) ?_
    refine s_pure 5 (.int .i64 ((k : Nat) : Int)) (by kernel_rfl) (by kernel_rfl) (fun _ => by kernel_rfl) ?_
    refine ops_end ?_
    refine At.env [(0, .agg #[.int .i64 pk, .int .i64 pf, .int .i64 pt, .int .i64 pid, .int .i64 pl, .int .i64 pp, .int .i64 ps, .bool pfl, .slice a xs.length cap]), (1, .agg #[.int .i64 pk, .int .i64 pf, .int .i64 pt, .int .i64 pid, .int .i64 pl, .int .i64 pp, .int .i64 ps, .bool pfl, .slice b xs.length cap2]), (2, .pointer (some ⟨b1, 0, none⟩)), (3, .pointer (some ⟨b2, 0, none⟩)), (4, .bool false), (5, .int .i64 ((k : Nat) : Int)), (68, .bool false), (71, .int .i64 ((xs.length : Nat) : Int)), (72, .int .i64 ((k : Nat) : Int)), (73, .bool true)] ⟨by kernel_rfl, by kernel_rfl, by kernel_rfl, by kernel_rfl, by kernel_rfl, by kernel_rfl, by kernel_rfl, by kernel_rfl, by kernel_rfl, by kernel_rfl, trivial⟩ ?_
    refine at_then_normal ?_
    refine at_seq (x := C21 [1, 1, 0, 1, 0, 0, 1, 1, 0, 0, 1, 0]) (y := C21 [1, 1, 0, 1, 0, 0, 1, 1, 0, 0, 1, 1]) (by kernel_rfl) ?_
    refine at_region_draw (id := 6) (by kernel_rfl) (by kernel_rfl) ?_
    refine d_pure 0 75 (.pointer (some ⟨b1, 8, none⟩)) (by kernel_rfl) (by kernel_rfl) (by kernel_rfl) (fun _ => by kernel_rfl) ?_
    refine d_load 1 76 (.slice a xs.length cap) (by kernel_rfl) (by kernel_rfl) (by kernel_rfl) (load1 (off := 8) (fun _ => by kernel_rfl) (holds_own (.there .here)) (by kernel_rfl)) ?_
    refine d_pure 2 77 (.int .i64 ((k : Nat) : Int)) (by kernel_rfl) (by kernel_rfl) (by kernel_rfl) (fun _ => by kernel_rfl) ?_
    refine reads_at_draw (Reads.conv (fun w hw => hw.less (.drop .here (.drop .here .refl))) hr) (by omega) ?_
    intro b3 o1 ha1
    obtain ⟨x1, hx1⟩ := getAt xs (k) (by omega)
    refine d_pure 3 78 (.pointer (some ⟨b3, o1 + (k * 1 + 0), none⟩)) (by kernel_rfl) (by kernel_rfl) (by kernel_rfl) (index_at (t := 22) (sz := 1) (E := 3) (a := a) (m := xs.length) (c := cap) (b := b3) (off := o1) (i := k) (tinfo 3) (fun _ => by kernel_rfl) (by kernel_rfl) (by kernel_rfl) (by kernel_rfl) ha1 (by first | rfl | simp | omega) (by omega) rfl) ?_
    refine d_load 4 79 (.int .i64 x1) (by kernel_rfl) (by kernel_rfl) (by kernel_rfl) (load1_at (off := o1 + (k * 1 + 0)) (v := .int .i64 x1) (fun _ => by kernel_rfl) rfl (reads_cell (k := 1) (Reads.conv (fun w hw => hw.less (.drop .here (.drop .here .refl))) hr) (ints_rows _) ha1 (ints_get hx1) (show [(.int .i64 x1 : Value)][0]? = some (.int .i64 x1) from rfl))) ?_
    refine d_pure 5 80 (.pointer (some ⟨b2, 8, none⟩)) (by kernel_rfl) (by kernel_rfl) (by kernel_rfl) (fun _ => by kernel_rfl) ?_
    refine d_load 6 81 (.slice b xs.length cap2) (by kernel_rfl) (by kernel_rfl) (by kernel_rfl) (load1 (off := 8) (fun _ => by kernel_rfl) (holds_own .here) (by kernel_rfl)) ?_
    refine d_pure 7 82 (.int .i64 ((k : Nat) : Int)) (by kernel_rfl) (by kernel_rfl) (by kernel_rfl) (fun _ => by kernel_rfl) ?_
    refine reads_at_draw (Reads.conv (fun w hw => hw.less (.drop .here (.drop .here .refl))) hr2) (by omega) ?_
    intro b4 o2 ha2
    refine d_pure 8 83 (.pointer (some ⟨b4, o2 + (k * 1 + 0), none⟩)) (by kernel_rfl) (by kernel_rfl) (by kernel_rfl) (index_at (t := 22) (sz := 1) (E := 3) (a := b) (m := xs.length) (c := cap2) (b := b4) (off := o2) (i := k) (tinfo 3) (fun _ => by kernel_rfl) (by kernel_rfl) (by kernel_rfl) (by kernel_rfl) ha2 (by first | rfl | simp | omega) (by omega) rfl) ?_
    refine d_load 9 84 (.int .i64 x1) (by kernel_rfl) (by kernel_rfl) (by kernel_rfl) (load1_at (off := o2 + (k * 1 + 0)) (v := .int .i64 x1) (fun _ => by kernel_rfl) rfl (reads_cell (k := 1) (Reads.conv (fun w hw => hw.less (.drop .here (.drop .here .refl))) hr2) (ints_rows _) ha2 (ints_get hx1) (show [(.int .i64 x1 : Value)][0]? = some (.int .i64 x1) from rfl))) ?_
    refine d_pure 10 85 (.bool false) (by kernel_rfl) (by kernel_rfl) (by kernel_rfl) (run_eq (v := .bool (!(decide (x1 = x1)))) (fun _ => by kernel_rfl) (congrArg Value.bool (by rw [decide_eq_true rfl]; rfl))) ?_
    refine draw_end (by kernel_rfl) ?_
    refine At.env [(0, .agg #[.int .i64 pk, .int .i64 pf, .int .i64 pt, .int .i64 pid, .int .i64 pl, .int .i64 pp, .int .i64 ps, .bool pfl, .slice a xs.length cap]), (1, .agg #[.int .i64 pk, .int .i64 pf, .int .i64 pt, .int .i64 pid, .int .i64 pl, .int .i64 pp, .int .i64 ps, .bool pfl, .slice b xs.length cap2]), (2, .pointer (some ⟨b1, 0, none⟩)), (3, .pointer (some ⟨b2, 0, none⟩)), (4, .bool false), (5, .int .i64 ((k : Nat) : Int)), (68, .bool false), (71, .int .i64 ((xs.length : Nat) : Int)), (72, .int .i64 ((k : Nat) : Int)), (73, .bool true), (85, .bool false)] ⟨by kernel_rfl, by kernel_rfl, by kernel_rfl, by kernel_rfl, by kernel_rfl, by kernel_rfl, by kernel_rfl, by kernel_rfl, by kernel_rfl, by kernel_rfl, by kernel_rfl, trivial⟩ ?_
    refine at_then_normal ?_
    refine at_false (t := false) (x := C21 [1, 1, 0, 1, 0, 0, 1, 1, 0, 0, 1, 1, 0]) (y := C21 [1, 1, 0, 1, 0, 0, 1, 1, 0, 0, 1, 1, 1]) (o := .tmp 85) (by kernel_rfl) (by kernel_rfl) (by kernel_rfl) rfl ?_
    refine at_skip (by kernel_rfl) ?_
    refine at_in_normal ?_
    refine at_then_normal ?_
    refine at_region (id := 8) 2 (by kernel_rfl) (by kernel_rfl) ?_
    refine s_pure 86 (.int .i64 (((k : Nat) : Int) + 1)) (by kernel_rfl) (by kernel_rfl) (run_eq (v := .int .i64 (IntKind.i64.wrap (((k : Nat) : Int) + 1))) (fun _ => by kernel_rfl) (by rw [wrap_in (by omega) (by omega)])) ?_
    refine s_pure 72 (.int .i64 (((k : Nat) : Int) + 1)) (by kernel_rfl) (by kernel_rfl) (fun _ => by kernel_rfl) ?_
    refine ops_end ?_
    refine At.env [(0, .agg #[.int .i64 pk, .int .i64 pf, .int .i64 pt, .int .i64 pid, .int .i64 pl, .int .i64 pp, .int .i64 ps, .bool pfl, .slice a xs.length cap]), (1, .agg #[.int .i64 pk, .int .i64 pf, .int .i64 pt, .int .i64 pid, .int .i64 pl, .int .i64 pp, .int .i64 ps, .bool pfl, .slice b xs.length cap2]), (2, .pointer (some ⟨b1, 0, none⟩)), (3, .pointer (some ⟨b2, 0, none⟩)), (4, .bool false), (5, .int .i64 ((k : Nat) : Int)), (68, .bool false), (71, .int .i64 ((xs.length : Nat) : Int)), (72, .int .i64 (((k : Nat) : Int) + 1)), (73, .bool true), (85, .bool false)] ⟨by kernel_rfl, by kernel_rfl, by kernel_rfl, by kernel_rfl, by kernel_rfl, by kernel_rfl, by kernel_rfl, by kernel_rfl, by kernel_rfl, by kernel_rfl, by kernel_rfl, trivial⟩ ?_
    refine at_round_normal ?_
    exact at_roundR (xs.length - (k + 1)) [(0, .agg #[.int .i64 pk, .int .i64 pf, .int .i64 pt, .int .i64 pid, .int .i64 pl, .int .i64 pp, .int .i64 ps, .bool pfl, .slice a xs.length cap]), (1, .agg #[.int .i64 pk, .int .i64 pf, .int .i64 pt, .int .i64 pid, .int .i64 pl, .int .i64 pp, .int .i64 ps, .bool pfl, .slice b xs.length cap2]), (2, .pointer (some ⟨b1, 0, none⟩)), (3, .pointer (some ⟨b2, 0, none⟩)), (4, .bool false), (68, .bool false), (71, .int .i64 ((xs.length : Nat) : Int)), (72, .int .i64 (((k + 1) : Nat) : Int))] ((Asn.own b2 (.cells #[.int .i64 pk, .int .i64 pf, .int .i64 pt, .int .i64 pid, .int .i64 pl, .int .i64 pp, .int .i64 ps, .bool pfl, .slice b xs.length cap2] 38 (0, 0))) :: (Asn.own b1 (.cells #[.int .i64 pk, .int .i64 pf, .int .i64 pt, .int .i64 pid, .int .i64 pl, .int .i64 pp, .int .i64 ps, .bool pfl, .slice a xs.length cap] 38 (0, 0))) :: Γ) (by omega) ⟨by kernel_rfl, by kernel_rfl, by kernel_rfl, by kernel_rfl, by kernel_rfl, by kernel_rfl, by kernel_rfl, by kernel_rfl, trivial⟩ (fun w hw => hw.less (.take .here (.take .here .refl))) ⟨(k + 1), (by omega), rfl, rfl, rfl⟩
  · refine s_pure 73 (.bool false) (by kernel_rfl) (by kernel_rfl) (run_eq (v := .bool (decide (((k : Nat) : Int) < ((xs.length : Nat) : Int)))) (fun _ => by kernel_rfl) (congrArg Value.bool (by rw [decide_eq_false h1]))) ?_
    refine ops_end ?_
    refine At.env [(0, .agg #[.int .i64 pk, .int .i64 pf, .int .i64 pt, .int .i64 pid, .int .i64 pl, .int .i64 pp, .int .i64 ps, .bool pfl, .slice a xs.length cap]), (1, .agg #[.int .i64 pk, .int .i64 pf, .int .i64 pt, .int .i64 pid, .int .i64 pl, .int .i64 pp, .int .i64 ps, .bool pfl, .slice b xs.length cap2]), (2, .pointer (some ⟨b1, 0, none⟩)), (3, .pointer (some ⟨b2, 0, none⟩)), (4, .bool false), (68, .bool false), (71, .int .i64 ((xs.length : Nat) : Int)), (72, .int .i64 ((k : Nat) : Int)), (73, .bool false)] ⟨by kernel_rfl, by kernel_rfl, by kernel_rfl, by kernel_rfl, by kernel_rfl, by kernel_rfl, by kernel_rfl, by kernel_rfl, by kernel_rfl, trivial⟩ ?_
    refine at_then_normal ?_
    refine at_seq (x := C21 [1, 1, 0, 1, 0, 0, 1, 0]) (y := C21 [1, 1, 0, 1, 0, 0, 1, 1]) (by kernel_rfl) ?_
    refine at_false (t := false) (x := C21 [1, 1, 0, 1, 0, 0, 1, 0, 0]) (y := C21 [1, 1, 0, 1, 0, 0, 1, 0, 1]) (o := .tmp 73) (by kernel_rfl) (by kernel_rfl) (by kernel_rfl) rfl ?_
    refine at_exit (i := 0) (by kernel_rfl) ?_
    refine at_then_exit ?_
    refine at_then_exit ?_
    refine at_in_here ?_
    refine at_then_normal ?_
    refine at_seq (x := C21 [1, 1, 1, 0]) (y := C21 [1, 1, 1, 1]) (by kernel_rfl) ?_
    refine at_region (id := 9) 1 (by kernel_rfl) (by kernel_rfl) ?_
    refine s_pure 4 (.bool true) (by kernel_rfl) (by kernel_rfl) (fun _ => by kernel_rfl) ?_
    refine ops_end ?_
    refine At.env [(0, .agg #[.int .i64 pk, .int .i64 pf, .int .i64 pt, .int .i64 pid, .int .i64 pl, .int .i64 pp, .int .i64 ps, .bool pfl, .slice a xs.length cap]), (1, .agg #[.int .i64 pk, .int .i64 pf, .int .i64 pt, .int .i64 pid, .int .i64 pl, .int .i64 pp, .int .i64 ps, .bool pfl, .slice b xs.length cap2]), (2, .pointer (some ⟨b1, 0, none⟩)), (3, .pointer (some ⟨b2, 0, none⟩)), (4, .bool true), (68, .bool false), (71, .int .i64 ((xs.length : Nat) : Int)), (72, .int .i64 ((k : Nat) : Int)), (73, .bool false)] ⟨by kernel_rfl, by kernel_rfl, by kernel_rfl, by kernel_rfl, by kernel_rfl, by kernel_rfl, by kernel_rfl, by kernel_rfl, by kernel_rfl, trivial⟩ ?_
    refine at_then_normal ?_
    refine at_ret (by kernel_rfl) ?_
    refine at_backR [.bool true] (Γ) (rs := [.tmp 4]) (by kernel_rfl) (.cons (.tmp (by kernel_rfl)) .nil) (fun w hw => hw.less (.drop .here (.drop .here .refl))) ?_
    exact ⟨rfl, rfl⟩
theorem PSame_tr {W0 : World} {Γ : List Asn} (pk pf pt pid pl pp ps : Int) (pfl : Bool) (a : Option Addr) (m cap : Nat) (b : Option Addr) (m2 cap2 : Nat) (xs : List Int) (hm : m = xs.length) (hm2 : m2 = xs.length) (hr : Reads W0 Γ a (ints xs)) (hr2 : Reads W0 Γ b (ints xs)) (hlx : xs.length ≤ 1099511627776) : Tr Try.prog 21 #[.agg #[.int .i64 pk, .int .i64 pf, .int .i64 pt, .int .i64 pid, .int .i64 pl, .int .i64 pp, .int .i64 ps, .bool pfl, .slice a m cap], .agg #[.int .i64 pk, .int .i64 pf, .int .i64 pt, .int .i64 pid, .int .i64 pl, .int .i64 pp, .int .i64 ps, .bool pfl, .slice b m2 cap2]] W0 Γ (fun r Δ => r = .bool true ∧ Δ = Γ) := by
  subst hm; subst hm2; exact PSame_tr0 pk pf pt pid pl pp ps pfl a cap b cap2 xs hr hr2 hlx
noncomputable def C29 (p : List Nat) : Code := codeAt (bodyOf Try.f29) p
set_option maxRecDepth 100000 in
theorem LSame_tr {W0 : World} {Γ : List Asn} (s : Int) (k line id state head next told : Int) (a : Option Addr) (m cap : Nat) (b : Option Addr) (m2 cap2 : Nat) (xs : List Int) (hm : m = xs.length) (hm2 : m2 = xs.length) (hr : Reads W0 Γ a (ints xs)) (hr2 : Reads W0 Γ b (ints xs)) (hlx : xs.length ≤ 1099511627776) : Tr Try.prog 29 #[.agg #[.int .i64 k, .int .i64 line, .int .i64 id, .int .i64 s, .int .i64 state, .int .i64 head, .slice a m cap, .int .i64 next, .int .i64 told], .agg #[.int .i64 k, .int .i64 line, .int .i64 id, .int .i64 s, .int .i64 state, .int .i64 head, .slice b m2 cap2, .int .i64 next, .int .i64 told]] W0 (Γ) (fun r Δ => r = .bool true ∧ Δ = Γ) := by
  refine Tr.enter (fn := Try.f29) (c := C29 []) (args := [.agg #[.int .i64 k, .int .i64 line, .int .i64 id, .int .i64 s, .int .i64 state, .int .i64 head, .slice a m cap, .int .i64 next, .int .i64 told], .agg #[.int .i64 k, .int .i64 line, .int .i64 id, .int .i64 s, .int .i64 state, .int .i64 head, .slice b m2 cap2, .int .i64 next, .int .i64 told]]) 66 Try.func29 (by kernel_rfl) (by kernel_rfl) ?_
  refine At.env [(0, .agg #[.int .i64 k, .int .i64 line, .int .i64 id, .int .i64 s, .int .i64 state, .int .i64 head, .slice a m cap, .int .i64 next, .int .i64 told]), (1, .agg #[.int .i64 k, .int .i64 line, .int .i64 id, .int .i64 s, .int .i64 state, .int .i64 head, .slice b m2 cap2, .int .i64 next, .int .i64 told])] ⟨by kernel_rfl, by kernel_rfl, trivial⟩ ?_
  refine at_seq (x := C29 [0]) (y := C29 [1]) (by kernel_rfl) ?_
  refine at_region (id := 0) 3 (by kernel_rfl) (by kernel_rfl) ?_
  refine s_step 2 (by kernel_rfl) (by kernel_rfl) (st_new (T := 36) (cells := #[.int .i64 k, .int .i64 line, .int .i64 id, .int .i64 s, .int .i64 state, .int .i64 head, .slice a m cap, .int .i64 next, .int .i64 told]) (fun a => .pointer (some a)) (fun _ => by kernel_rfl)) ?_
  rintro _ _ ⟨b1, rfl, rfl⟩
  refine s_step 3 (by kernel_rfl) (by kernel_rfl) (st_new (T := 47) (cells := #[.int .i64 k, .int .i64 line, .int .i64 id, .int .i64 s, .int .i64 state, .int .i64 head, .slice b m2 cap2, .int .i64 next, .int .i64 told]) (fun a => .pointer (some a)) (fun _ => by kernel_rfl)) ?_
  rintro _ _ ⟨b2, rfl, rfl⟩
  refine s_pure 4 (.bool false) (by kernel_rfl) (by kernel_rfl) (fun _ => by kernel_rfl) ?_
  refine ops_end ?_
  refine At.env [(0, .agg #[.int .i64 k, .int .i64 line, .int .i64 id, .int .i64 s, .int .i64 state, .int .i64 head, .slice a m cap, .int .i64 next, .int .i64 told]), (1, .agg #[.int .i64 k, .int .i64 line, .int .i64 id, .int .i64 s, .int .i64 state, .int .i64 head, .slice b m2 cap2, .int .i64 next, .int .i64 told]), (2, .pointer (some ⟨b1, 0, none⟩)), (3, .pointer (some ⟨b2, 0, none⟩)), (4, .bool false)] ⟨by kernel_rfl, by kernel_rfl, by kernel_rfl, by kernel_rfl, by kernel_rfl, trivial⟩ ?_
  refine at_then_normal ?_
  refine at_seq (x := C29 [1, 0]) (y := C29 [1, 1]) (by kernel_rfl) ?_
  refine at_region (id := 1) 62 (by kernel_rfl) (by kernel_rfl) ?_
  refine s_pure 5 (.pointer (some ⟨b1, 0, none⟩)) (by kernel_rfl) (by kernel_rfl) (fun _ => by kernel_rfl) ?_
  refine s_load 6 (.int .i64 k) (by kernel_rfl) (by kernel_rfl) (load1 (off := 0) (fun _ => by kernel_rfl) (holds_own (.there .here)) (by kernel_rfl)) ?_
  refine s_pure 7 (.pointer (some ⟨b2, 0, none⟩)) (by kernel_rfl) (by kernel_rfl) (fun _ => by kernel_rfl) ?_
  refine s_load 8 (.int .i64 k) (by kernel_rfl) (by kernel_rfl) (load1 (off := 0) (fun _ => by kernel_rfl) (holds_own .here) (by kernel_rfl)) ?_
  refine s_pure 9 (.bool true) (by kernel_rfl) (by kernel_rfl) (run_eq (v := .bool (decide (k = k))) (fun _ => by kernel_rfl) (congrArg Value.bool (by rw [decide_eq_true rfl]))) ?_
  refine s_pure 10 (.bool true) (by kernel_rfl) (by kernel_rfl) (fun _ => by kernel_rfl) ?_
  refine s_pure 11 (.pointer (some ⟨b1, 1, none⟩)) (by kernel_rfl) (by kernel_rfl) (fun _ => by kernel_rfl) ?_
  refine s_load 12 (.int .i64 line) (by kernel_rfl) (by kernel_rfl) (load1 (off := 1) (fun _ => by kernel_rfl) (holds_own (.there .here)) (by kernel_rfl)) ?_
  refine s_pure 13 (.pointer (some ⟨b2, 1, none⟩)) (by kernel_rfl) (by kernel_rfl) (fun _ => by kernel_rfl) ?_
  refine s_load 14 (.int .i64 line) (by kernel_rfl) (by kernel_rfl) (load1 (off := 1) (fun _ => by kernel_rfl) (holds_own .here) (by kernel_rfl)) ?_
  refine s_pure 15 (.bool true) (by kernel_rfl) (by kernel_rfl) (run_eq (v := .bool (decide (line = line))) (fun _ => by kernel_rfl) (congrArg Value.bool (by rw [decide_eq_true rfl]))) ?_
  refine s_pure 16 (.bool true) (by kernel_rfl) (by kernel_rfl) (fun _ => by kernel_rfl) ?_
  refine s_pure 17 (.bool true) (by kernel_rfl) (by kernel_rfl) (fun _ => by kernel_rfl) ?_
  refine s_pure 18 (.pointer (some ⟨b1, 2, none⟩)) (by kernel_rfl) (by kernel_rfl) (fun _ => by kernel_rfl) ?_
  refine s_load 19 (.int .i64 id) (by kernel_rfl) (by kernel_rfl) (load1 (off := 2) (fun _ => by kernel_rfl) (holds_own (.there .here)) (by kernel_rfl)) ?_
  refine s_pure 20 (.pointer (some ⟨b2, 2, none⟩)) (by kernel_rfl) (by kernel_rfl) (fun _ => by kernel_rfl) ?_
  refine s_load 21 (.int .i64 id) (by kernel_rfl) (by kernel_rfl) (load1 (off := 2) (fun _ => by kernel_rfl) (holds_own .here) (by kernel_rfl)) ?_
  refine s_pure 22 (.bool true) (by kernel_rfl) (by kernel_rfl) (run_eq (v := .bool (decide (id = id))) (fun _ => by kernel_rfl) (congrArg Value.bool (by rw [decide_eq_true rfl]))) ?_
  refine s_pure 23 (.bool true) (by kernel_rfl) (by kernel_rfl) (fun _ => by kernel_rfl) ?_
  refine s_pure 24 (.bool true) (by kernel_rfl) (by kernel_rfl) (fun _ => by kernel_rfl) ?_
  refine s_pure 25 (.pointer (some ⟨b1, 3, none⟩)) (by kernel_rfl) (by kernel_rfl) (fun _ => by kernel_rfl) ?_
  refine s_load 26 (.int .i64 s) (by kernel_rfl) (by kernel_rfl) (load1 (off := 3) (fun _ => by kernel_rfl) (holds_own (.there .here)) (by kernel_rfl)) ?_
  refine s_pure 27 (.pointer (some ⟨b2, 3, none⟩)) (by kernel_rfl) (by kernel_rfl) (fun _ => by kernel_rfl) ?_
  refine s_load 28 (.int .i64 s) (by kernel_rfl) (by kernel_rfl) (load1 (off := 3) (fun _ => by kernel_rfl) (holds_own .here) (by kernel_rfl)) ?_
  refine s_pure 29 (.bool true) (by kernel_rfl) (by kernel_rfl) (run_eq (v := .bool (decide (s = s))) (fun _ => by kernel_rfl) (congrArg Value.bool (by rw [decide_eq_true rfl]))) ?_
  refine s_pure 30 (.bool true) (by kernel_rfl) (by kernel_rfl) (fun _ => by kernel_rfl) ?_
  refine s_pure 31 (.bool true) (by kernel_rfl) (by kernel_rfl) (fun _ => by kernel_rfl) ?_
  refine s_pure 32 (.pointer (some ⟨b1, 4, none⟩)) (by kernel_rfl) (by kernel_rfl) (fun _ => by kernel_rfl) ?_
  refine s_load 33 (.int .i64 state) (by kernel_rfl) (by kernel_rfl) (load1 (off := 4) (fun _ => by kernel_rfl) (holds_own (.there .here)) (by kernel_rfl)) ?_
  refine s_pure 34 (.pointer (some ⟨b2, 4, none⟩)) (by kernel_rfl) (by kernel_rfl) (fun _ => by kernel_rfl) ?_
  refine s_load 35 (.int .i64 state) (by kernel_rfl) (by kernel_rfl) (load1 (off := 4) (fun _ => by kernel_rfl) (holds_own .here) (by kernel_rfl)) ?_
  refine s_pure 36 (.bool true) (by kernel_rfl) (by kernel_rfl) (run_eq (v := .bool (decide (state = state))) (fun _ => by kernel_rfl) (congrArg Value.bool (by rw [decide_eq_true rfl]))) ?_
  refine s_pure 37 (.bool true) (by kernel_rfl) (by kernel_rfl) (fun _ => by kernel_rfl) ?_
  refine s_pure 38 (.bool true) (by kernel_rfl) (by kernel_rfl) (fun _ => by kernel_rfl) ?_
  refine s_pure 39 (.pointer (some ⟨b1, 5, none⟩)) (by kernel_rfl) (by kernel_rfl) (fun _ => by kernel_rfl) ?_
  refine s_load 40 (.int .i64 head) (by kernel_rfl) (by kernel_rfl) (load1 (off := 5) (fun _ => by kernel_rfl) (holds_own (.there .here)) (by kernel_rfl)) ?_
  refine s_pure 41 (.pointer (some ⟨b2, 5, none⟩)) (by kernel_rfl) (by kernel_rfl) (fun _ => by kernel_rfl) ?_
  refine s_load 42 (.int .i64 head) (by kernel_rfl) (by kernel_rfl) (load1 (off := 5) (fun _ => by kernel_rfl) (holds_own .here) (by kernel_rfl)) ?_
  refine s_pure 43 (.bool true) (by kernel_rfl) (by kernel_rfl) (run_eq (v := .bool (decide (head = head))) (fun _ => by kernel_rfl) (congrArg Value.bool (by rw [decide_eq_true rfl]))) ?_
  refine s_pure 44 (.bool true) (by kernel_rfl) (by kernel_rfl) (fun _ => by kernel_rfl) ?_
  refine s_pure 45 (.bool true) (by kernel_rfl) (by kernel_rfl) (fun _ => by kernel_rfl) ?_
  refine s_pure 46 (.pointer (some ⟨b1, 7, none⟩)) (by kernel_rfl) (by kernel_rfl) (fun _ => by kernel_rfl) ?_
  refine s_load 47 (.int .i64 next) (by kernel_rfl) (by kernel_rfl) (load1 (off := 7) (fun _ => by kernel_rfl) (holds_own (.there .here)) (by kernel_rfl)) ?_
  refine s_pure 48 (.pointer (some ⟨b2, 7, none⟩)) (by kernel_rfl) (by kernel_rfl) (fun _ => by kernel_rfl) ?_
  refine s_load 49 (.int .i64 next) (by kernel_rfl) (by kernel_rfl) (load1 (off := 7) (fun _ => by kernel_rfl) (holds_own .here) (by kernel_rfl)) ?_
  refine s_pure 50 (.bool true) (by kernel_rfl) (by kernel_rfl) (run_eq (v := .bool (decide (next = next))) (fun _ => by kernel_rfl) (congrArg Value.bool (by rw [decide_eq_true rfl]))) ?_
  refine s_pure 51 (.bool true) (by kernel_rfl) (by kernel_rfl) (fun _ => by kernel_rfl) ?_
  refine s_pure 52 (.bool true) (by kernel_rfl) (by kernel_rfl) (fun _ => by kernel_rfl) ?_
  refine s_pure 53 (.pointer (some ⟨b1, 8, none⟩)) (by kernel_rfl) (by kernel_rfl) (fun _ => by kernel_rfl) ?_
  refine s_load 54 (.int .i64 told) (by kernel_rfl) (by kernel_rfl) (load1 (off := 8) (fun _ => by kernel_rfl) (holds_own (.there .here)) (by kernel_rfl)) ?_
  refine s_pure 55 (.pointer (some ⟨b2, 8, none⟩)) (by kernel_rfl) (by kernel_rfl) (fun _ => by kernel_rfl) ?_
  refine s_load 56 (.int .i64 told) (by kernel_rfl) (by kernel_rfl) (load1 (off := 8) (fun _ => by kernel_rfl) (holds_own .here) (by kernel_rfl)) ?_
  refine s_pure 57 (.bool true) (by kernel_rfl) (by kernel_rfl) (run_eq (v := .bool (decide (told = told))) (fun _ => by kernel_rfl) (congrArg Value.bool (by rw [decide_eq_true rfl]))) ?_
  refine s_pure 58 (.bool true) (by kernel_rfl) (by kernel_rfl) (fun _ => by kernel_rfl) ?_
  refine s_pure 59 (.bool true) (by kernel_rfl) (by kernel_rfl) (fun _ => by kernel_rfl) ?_
  refine s_pure 60 (.pointer (some ⟨b1, 6, none⟩)) (by kernel_rfl) (by kernel_rfl) (fun _ => by kernel_rfl) ?_
  refine s_load 61 (.slice a m cap) (by kernel_rfl) (by kernel_rfl) (load1 (off := 6) (fun _ => by kernel_rfl) (holds_own (.there .here)) (by kernel_rfl)) ?_
  refine s_pure 62 (.pointer (some ⟨b2, 6, none⟩)) (by kernel_rfl) (by kernel_rfl) (fun _ => by kernel_rfl) ?_
  refine s_load 63 (.slice b m2 cap2) (by kernel_rfl) (by kernel_rfl) (load1 (off := 6) (fun _ => by kernel_rfl) (holds_own .here) (by kernel_rfl)) ?_
  refine s_quiet 64 (.bool true) 34 #[.slice a m cap, .slice b m2 cap2] (by kernel_rfl) (by kernel_rfl) (fun _ => by kernel_rfl) (KSame_tr a m cap b m2 cap2 xs (by first | exact hm | exact hm2) (by first | exact hm | exact hm2) (Reads.conv (fun w hw => hw.less (.drop .here (.drop .here .refl))) hr) (Reads.conv (fun w hw => hw.less (.drop .here (.drop .here .refl))) hr2) (hlx)) ?_
  refine s_pure 65 (.bool true) (by kernel_rfl) (by kernel_rfl) (fun _ => by kernel_rfl) ?_
  refine s_pure 4 (.bool true) (by kernel_rfl) (by kernel_rfl) (fun _ => by kernel_rfl) ?_
  refine ops_end ?_
  refine At.env [(0, .agg #[.int .i64 k, .int .i64 line, .int .i64 id, .int .i64 s, .int .i64 state, .int .i64 head, .slice a m cap, .int .i64 next, .int .i64 told]), (1, .agg #[.int .i64 k, .int .i64 line, .int .i64 id, .int .i64 s, .int .i64 state, .int .i64 head, .slice b m2 cap2, .int .i64 next, .int .i64 told]), (2, .pointer (some ⟨b1, 0, none⟩)), (3, .pointer (some ⟨b2, 0, none⟩)), (4, .bool true)] ⟨by kernel_rfl, by kernel_rfl, by kernel_rfl, by kernel_rfl, by kernel_rfl, trivial⟩ ?_
  refine at_then_normal ?_
  refine at_ret (by kernel_rfl) ?_
  refine at_backR [.bool true] (Γ) (rs := [.tmp 4]) (by kernel_rfl) (.cons (.tmp (by kernel_rfl)) .nil) (fun w hw => hw.less (.drop .here (.drop .here .refl))) ?_
  exact ⟨rfl, rfl⟩
noncomputable def C25 (p : List Nat) : Code := codeAt (bodyOf Try.f25) p
set_option maxRecDepth 100000 in
theorem Ref_tr {W0 : World} {Γ : List Asn} (s : Int) (k line id state head next told : Int) (a : Option Addr) (m cap : Nat) : Tr Try.prog 25 #[.agg #[.int .i64 k, .int .i64 line, .int .i64 id, .int .i64 s, .int .i64 state, .int .i64 head, .slice a m cap, .int .i64 next, .int .i64 told]] W0 (Γ) (fun r Δ => r = .agg #[.int .i64 k, .int .i64 line, .int .i64 id, .int .i64 s, .int .i64 state, .int .i64 head, .slice a m cap, .int .i64 next, .int .i64 told] ∧ Δ = Γ) := by
  refine Tr.enter (fn := Try.f25) (c := C25 []) (args := [.agg #[.int .i64 k, .int .i64 line, .int .i64 id, .int .i64 s, .int .i64 state, .int .i64 head, .slice a m cap, .int .i64 next, .int .i64 told]]) 22 Try.func25 (by kernel_rfl) (by kernel_rfl) ?_
  refine At.env [(0, .agg #[.int .i64 k, .int .i64 line, .int .i64 id, .int .i64 s, .int .i64 state, .int .i64 head, .slice a m cap, .int .i64 next, .int .i64 told])] ⟨by kernel_rfl, trivial⟩ ?_
  refine at_seq (x := C25 [0]) (y := C25 [1]) (by kernel_rfl) ?_
  refine at_region (id := 0) 2 (by kernel_rfl) (by kernel_rfl) ?_
  refine s_step 1 (by kernel_rfl) (by kernel_rfl) (st_new (T := 36) (cells := #[.int .i64 k, .int .i64 line, .int .i64 id, .int .i64 s, .int .i64 state, .int .i64 head, .slice a m cap, .int .i64 next, .int .i64 told]) (fun a => .pointer (some a)) (fun _ => by kernel_rfl)) ?_
  rintro _ _ ⟨b1, rfl, rfl⟩
  refine s_step 2 (by kernel_rfl) (by kernel_rfl) (st_new (T := 47) (cells := #[.int .i64 (0), .int .i64 (0), .int .i64 (0), .int .i64 (0), .int .i64 (0), .int .i64 (0), .slice none 0 0, .int .i64 (0), .int .i64 (0)]) (fun a => .pointer (some a)) (fun _ => by kernel_rfl)) ?_
  rintro _ _ ⟨b2, rfl, rfl⟩
  refine ops_end ?_
  refine At.env [(0, .agg #[.int .i64 k, .int .i64 line, .int .i64 id, .int .i64 s, .int .i64 state, .int .i64 head, .slice a m cap, .int .i64 next, .int .i64 told]), (1, .pointer (some ⟨b1, 0, none⟩)), (2, .pointer (some ⟨b2, 0, none⟩))] ⟨by kernel_rfl, by kernel_rfl, by kernel_rfl, trivial⟩ ?_
  refine at_then_normal ?_
  refine at_seq (x := C25 [1, 0]) (y := C25 [1, 1]) (by kernel_rfl) ?_
  refine at_region (id := 1) 20 (by kernel_rfl) (by kernel_rfl) ?_
  refine s_pure 3 (.pointer (some ⟨b1, 0, none⟩)) (by kernel_rfl) (by kernel_rfl) (fun _ => by kernel_rfl) ?_
  refine s_load 4 (.int .i64 k) (by kernel_rfl) (by kernel_rfl) (load1 (off := 0) (fun _ => by kernel_rfl) (holds_own (.there .here)) (by kernel_rfl)) ?_
  refine s_pure 5 (.pointer (some ⟨b1, 1, none⟩)) (by kernel_rfl) (by kernel_rfl) (fun _ => by kernel_rfl) ?_
  refine s_load 6 (.int .i64 line) (by kernel_rfl) (by kernel_rfl) (load1 (off := 1) (fun _ => by kernel_rfl) (holds_own (.there .here)) (by kernel_rfl)) ?_
  refine s_pure 7 (.pointer (some ⟨b1, 2, none⟩)) (by kernel_rfl) (by kernel_rfl) (fun _ => by kernel_rfl) ?_
  refine s_load 8 (.int .i64 id) (by kernel_rfl) (by kernel_rfl) (load1 (off := 2) (fun _ => by kernel_rfl) (holds_own (.there .here)) (by kernel_rfl)) ?_
  refine s_pure 9 (.pointer (some ⟨b1, 3, none⟩)) (by kernel_rfl) (by kernel_rfl) (fun _ => by kernel_rfl) ?_
  refine s_load 10 (.int .i64 s) (by kernel_rfl) (by kernel_rfl) (load1 (off := 3) (fun _ => by kernel_rfl) (holds_own (.there .here)) (by kernel_rfl)) ?_
  refine s_pure 11 (.pointer (some ⟨b1, 4, none⟩)) (by kernel_rfl) (by kernel_rfl) (fun _ => by kernel_rfl) ?_
  refine s_load 12 (.int .i64 state) (by kernel_rfl) (by kernel_rfl) (load1 (off := 4) (fun _ => by kernel_rfl) (holds_own (.there .here)) (by kernel_rfl)) ?_
  refine s_pure 13 (.pointer (some ⟨b1, 5, none⟩)) (by kernel_rfl) (by kernel_rfl) (fun _ => by kernel_rfl) ?_
  refine s_load 14 (.int .i64 head) (by kernel_rfl) (by kernel_rfl) (load1 (off := 5) (fun _ => by kernel_rfl) (holds_own (.there .here)) (by kernel_rfl)) ?_
  refine s_pure 15 (.pointer (some ⟨b1, 7, none⟩)) (by kernel_rfl) (by kernel_rfl) (fun _ => by kernel_rfl) ?_
  refine s_load 16 (.int .i64 next) (by kernel_rfl) (by kernel_rfl) (load1 (off := 7) (fun _ => by kernel_rfl) (holds_own (.there .here)) (by kernel_rfl)) ?_
  refine s_pure 17 (.pointer (some ⟨b1, 8, none⟩)) (by kernel_rfl) (by kernel_rfl) (fun _ => by kernel_rfl) ?_
  refine s_load 18 (.int .i64 told) (by kernel_rfl) (by kernel_rfl) (load1 (off := 8) (fun _ => by kernel_rfl) (holds_own (.there .here)) (by kernel_rfl)) ?_
  refine s_pure 19 (.pointer (some ⟨b1, 6, none⟩)) (by kernel_rfl) (by kernel_rfl) (fun _ => by kernel_rfl) ?_
  refine s_load 20 (.slice a m cap) (by kernel_rfl) (by kernel_rfl) (load1 (off := 6) (fun _ => by kernel_rfl) (holds_own (.there .here)) (by kernel_rfl)) ?_
  refine s_pure 21 (.agg #[.int .i64 k, .int .i64 line, .int .i64 id, .int .i64 s, .int .i64 state, .int .i64 head, .slice a m cap, .int .i64 next, .int .i64 told]) (by kernel_rfl) (by kernel_rfl) (fun _ => by kernel_rfl) ?_
  refine s_do (by kernel_rfl) (by kernel_rfl) (st_store (off := 0) (vs := [.int .i64 k, .int .i64 line, .int .i64 id, .int .i64 s, .int .i64 state, .int .i64 head, .slice a m cap, .int .i64 next, .int .i64 told]) (c' := #[.int .i64 k, .int .i64 line, .int .i64 id, .int .i64 s, .int .i64 state, .int .i64 head, .slice a m cap, .int .i64 next, .int .i64 told]) (fun _ => by kernel_rfl) .here (by kernel_rfl) (by kernel_rfl) (by kernel_rfl)) ?_
  rintro _ _ ⟨rfl, rfl⟩
  refine ops_end ?_
  refine At.env [(0, .agg #[.int .i64 k, .int .i64 line, .int .i64 id, .int .i64 s, .int .i64 state, .int .i64 head, .slice a m cap, .int .i64 next, .int .i64 told]), (1, .pointer (some ⟨b1, 0, none⟩)), (2, .pointer (some ⟨b2, 0, none⟩))] ⟨by kernel_rfl, by kernel_rfl, by kernel_rfl, trivial⟩ ?_
  refine at_then_normal ?_
  refine at_ret (by kernel_rfl) ?_
  refine at_backR [.agg #[.int .i64 k, .int .i64 line, .int .i64 id, .int .i64 s, .int .i64 state, .int .i64 head, .slice a m cap, .int .i64 next, .int .i64 told]] (Γ) (rs := [.cell 2 47]) (by kernel_rfl) (.cons (.cell (by kernel_rfl) (retN (off := 0) (vs := [.int .i64 k, .int .i64 line, .int .i64 id, .int .i64 s, .int .i64 state, .int .i64 head, .slice a m cap, .int .i64 next, .int .i64 told]) 9 (fun _ => by kernel_rfl) (holds_own .here) rfl (by exact ⟨rfl, rfl, rfl, rfl, rfl, rfl, rfl, rfl, rfl, trivial⟩))) .nil) (fun w hw => hw.less (.drop .here (.drop .here .refl))) ?_
  exact ⟨rfl, rfl⟩
noncomputable def C31 (p : List Nat) : Code := codeAt (bodyOf Try.f31) p
set_option maxRecDepth 100000 in
theorem RBegin_tr {W0 : World} {Γ : List Asn} (k line id : Int) : Tr Try.prog 31 #[.int .i64 k, .int .i64 line, .int .i64 id] W0 (Γ) (fun r Δ => r = .agg #[.int .i64 k, .int .i64 line, .int .i64 id, .int .i64 1, .int .i64 0, .int .i64 (-1), .slice none 0 0, .int .i64 (-1), .int .i64 (-1)] ∧ Δ = Γ) := by
  refine Tr.enter (fn := Try.f31) (c := C31 []) (args := [.int .i64 k, .int .i64 line, .int .i64 id]) 11 Try.func31 (by kernel_rfl) (by kernel_rfl) ?_
  refine At.env [(0, .int .i64 k), (1, .int .i64 line), (2, .int .i64 id)] ⟨by kernel_rfl, by kernel_rfl, by kernel_rfl, trivial⟩ ?_
  refine at_seq (x := C31 [0]) (y := C31 [1]) (by kernel_rfl) ?_
  refine at_region (id := 0) 1 (by kernel_rfl) (by kernel_rfl) ?_
  refine s_step 6 (by kernel_rfl) (by kernel_rfl) (st_new (T := 47) (cells := #[.int .i64 (0), .int .i64 (0), .int .i64 (0), .int .i64 (0), .int .i64 (0), .int .i64 (0), .slice none 0 0, .int .i64 (0), .int .i64 (0)]) (fun a => .pointer (some a)) (fun _ => by kernel_rfl)) ?_
  rintro _ _ ⟨b1, rfl, rfl⟩
  refine ops_end ?_
  refine At.env [(0, .int .i64 k), (1, .int .i64 line), (2, .int .i64 id), (6, .pointer (some ⟨b1, 0, none⟩))] ⟨by kernel_rfl, by kernel_rfl, by kernel_rfl, by kernel_rfl, trivial⟩ ?_
  refine at_then_normal ?_
  refine at_seq (x := C31 [1, 0]) (y := C31 [1, 1]) (by kernel_rfl) ?_
  refine at_region (id := 1) 5 (by kernel_rfl) (by kernel_rfl) ?_
  refine s_pure 7 (.int .i64 k) (by kernel_rfl) (by kernel_rfl) (fun _ => by kernel_rfl) ?_
  refine s_pure 8 (.int .i64 line) (by kernel_rfl) (by kernel_rfl) (fun _ => by kernel_rfl) ?_
  refine s_pure 9 (.int .i64 id) (by kernel_rfl) (by kernel_rfl) (fun _ => by kernel_rfl) ?_
  refine s_pure 10 (.agg #[.int .i64 k, .int .i64 line, .int .i64 id, .int .i64 (1), .int .i64 (0), .int .i64 (-1), .slice none 0 0, .int .i64 (-1), .int .i64 (-1)]) (by kernel_rfl) (by kernel_rfl) (fun _ => by kernel_rfl) ?_
  refine s_do (by kernel_rfl) (by kernel_rfl) (st_store (off := 0) (vs := [.int .i64 k, .int .i64 line, .int .i64 id, .int .i64 (1), .int .i64 (0), .int .i64 (-1), .slice none 0 0, .int .i64 (-1), .int .i64 (-1)]) (c' := #[.int .i64 k, .int .i64 line, .int .i64 id, .int .i64 (1), .int .i64 (0), .int .i64 (-1), .slice none 0 0, .int .i64 (-1), .int .i64 (-1)]) (fun _ => by kernel_rfl) .here (by kernel_rfl) (by kernel_rfl) (by kernel_rfl)) ?_
  rintro _ _ ⟨rfl, rfl⟩
  refine ops_end ?_
  refine At.env [(0, .int .i64 k), (1, .int .i64 line), (2, .int .i64 id), (6, .pointer (some ⟨b1, 0, none⟩))] ⟨by kernel_rfl, by kernel_rfl, by kernel_rfl, by kernel_rfl, trivial⟩ ?_
  refine at_then_normal ?_
  refine at_ret (by kernel_rfl) ?_
  refine at_backR [.agg #[.int .i64 k, .int .i64 line, .int .i64 id, .int .i64 (1), .int .i64 (0), .int .i64 (-1), .slice none 0 0, .int .i64 (-1), .int .i64 (-1)]] (Γ) (rs := [.cell 6 47]) (by kernel_rfl) (.cons (.cell (by kernel_rfl) (retN (off := 0) (vs := [.int .i64 k, .int .i64 line, .int .i64 id, .int .i64 (1), .int .i64 (0), .int .i64 (-1), .slice none 0 0, .int .i64 (-1), .int .i64 (-1)]) 9 (fun _ => by kernel_rfl) (holds_own .here) rfl (by exact ⟨rfl, rfl, rfl, rfl, rfl, rfl, rfl, rfl, rfl, trivial⟩))) .nil) (fun w hw => hw.less (.drop .here .refl)) ?_
  exact ⟨rfl, rfl⟩
noncomputable def C32 (p : List Nat) : Code := codeAt (bodyOf Try.f32) p
set_option maxRecDepth 100000 in
theorem RAnswer_tr {W0 : World} {Γ : List Asn} (k : Int) : Tr Try.prog 32 #[.int .i64 k] W0 (Γ) (fun r Δ => r = .int .i64 (answerI k) ∧ Δ = Γ) := by
  refine Tr.enter (fn := Try.f32) (c := C32 []) (args := [.int .i64 k]) 13 Try.func32 (by kernel_rfl) (by kernel_rfl) ?_
  refine At.env [(0, .int .i64 k)] ⟨by kernel_rfl, trivial⟩ ?_
  refine at_seq (x := C32 [0]) (y := C32 [1]) (by kernel_rfl) ?_
  refine at_region (id := 0) 1 (by kernel_rfl) (by kernel_rfl) ?_
  refine s_pure 2 (.int .i64 (0)) (by kernel_rfl) (by kernel_rfl) (fun _ => by kernel_rfl) ?_
  refine ops_end ?_
  refine At.env [(0, .int .i64 k), (2, .int .i64 (0))] ⟨by kernel_rfl, by kernel_rfl, trivial⟩ ?_
  refine at_then_normal ?_
  refine at_seq (x := C32 [1, 0]) (y := C32 [1, 1]) (by kernel_rfl) ?_
  refine at_seq (x := C32 [1, 0, 0]) (y := C32 [1, 0, 1]) (by kernel_rfl) ?_
  refine at_region (id := 1) 1 (by kernel_rfl) (by kernel_rfl) ?_
  refine s_pure 3 (.int .i64 k) (by kernel_rfl) (by kernel_rfl) (fun _ => by kernel_rfl) ?_
  refine ops_end ?_
  refine At.env [(0, .int .i64 k), (2, .int .i64 (0)), (3, .int .i64 k)] ⟨by kernel_rfl, by kernel_rfl, by kernel_rfl, trivial⟩ ?_
  refine at_then_normal ?_
  refine at_block (i := 0) (x := C32 [1, 0, 1, 0]) (by kernel_rfl) ?_
  refine at_seq (x := C32 [1, 0, 1, 0, 0]) (y := C32 [1, 0, 1, 0, 1]) (by kernel_rfl) ?_
  refine at_region (id := 2) 2 (by kernel_rfl) (by kernel_rfl) ?_
  rcases Decidable.em (k = (1 : Int)) with h1 | h1
  · refine s_pure 5 (.bool true) (by kernel_rfl) (by kernel_rfl) (run_eq (v := .bool (decide (k = (1 : Int)))) (fun _ => by kernel_rfl) (congrArg Value.bool (by rw [decide_eq_true h1]))) ?_
    refine s_pure 4 (.bool true) (by kernel_rfl) (by kernel_rfl) (fun _ => by kernel_rfl) ?_
    refine ops_end ?_
    refine At.env [(0, .int .i64 k), (2, .int .i64 (0)), (3, .int .i64 k), (4, .bool true)] ⟨by kernel_rfl, by kernel_rfl, by kernel_rfl, by kernel_rfl, trivial⟩ ?_
    refine at_then_normal ?_
    refine at_true (t := true) (x := C32 [1, 0, 1, 0, 1, 0]) (y := C32 [1, 0, 1, 0, 1, 1]) (o := .tmp 4) (by kernel_rfl) (by kernel_rfl) (by kernel_rfl) rfl ?_
    refine at_seq (x := C32 [1, 0, 1, 0, 1, 0, 0]) (y := C32 [1, 0, 1, 0, 1, 0, 1]) (by kernel_rfl) ?_
    refine at_region (id := 3) 1 (by kernel_rfl) (by kernel_rfl) ?_
    refine s_pure 2 (.int .i64 (7)) (by kernel_rfl) (by kernel_rfl) (fun _ => by kernel_rfl) ?_
    refine ops_end ?_
    refine At.env [(0, .int .i64 k), (2, .int .i64 (7)), (3, .int .i64 k), (4, .bool true)] ⟨by kernel_rfl, by kernel_rfl, by kernel_rfl, by kernel_rfl, trivial⟩ ?_
    refine at_then_normal ?_
    refine at_ret (by kernel_rfl) ?_
    refine at_in_ret ?_
    refine at_then_ret ?_
    refine at_backR [.int .i64 (7)] (Γ) (rs := [.tmp 2]) (by kernel_rfl) (.cons (.tmp (by kernel_rfl)) .nil) (fun w hw => hw.less .refl) ?_
    exact ⟨congrArg (Value.int .i64) (by simp [answerI, *]), rfl⟩
  · refine s_pure 5 (.bool false) (by kernel_rfl) (by kernel_rfl) (run_eq (v := .bool (decide (k = (1 : Int)))) (fun _ => by kernel_rfl) (congrArg Value.bool (by rw [decide_eq_false h1]))) ?_
    refine s_pure 4 (.bool false) (by kernel_rfl) (by kernel_rfl) (fun _ => by kernel_rfl) ?_
    refine ops_end ?_
    refine At.env [(0, .int .i64 k), (2, .int .i64 (0)), (3, .int .i64 k), (4, .bool false)] ⟨by kernel_rfl, by kernel_rfl, by kernel_rfl, by kernel_rfl, trivial⟩ ?_
    refine at_then_normal ?_
    refine at_false (t := false) (x := C32 [1, 0, 1, 0, 1, 0]) (y := C32 [1, 0, 1, 0, 1, 1]) (o := .tmp 4) (by kernel_rfl) (by kernel_rfl) (by kernel_rfl) rfl ?_
    refine at_seq (x := C32 [1, 0, 1, 0, 1, 1, 0]) (y := C32 [1, 0, 1, 0, 1, 1, 1]) (by kernel_rfl) ?_
    refine at_seq (x := C32 [1, 0, 1, 0, 1, 1, 0, 0]) (y := C32 [1, 0, 1, 0, 1, 1, 0, 1]) (by kernel_rfl) ?_
    refine at_region (id := 4) 2 (by kernel_rfl) (by kernel_rfl) ?_
    rcases Decidable.em (k = (2 : Int)) with h2 | h2
    · refine s_pure 7 (.bool true) (by kernel_rfl) (by kernel_rfl) (run_eq (v := .bool (decide (k = (2 : Int)))) (fun _ => by kernel_rfl) (congrArg Value.bool (by rw [decide_eq_true h2]))) ?_
      refine s_pure 6 (.bool true) (by kernel_rfl) (by kernel_rfl) (fun _ => by kernel_rfl) ?_
      refine ops_end ?_
      refine At.env [(0, .int .i64 k), (2, .int .i64 (0)), (3, .int .i64 k), (4, .bool false), (6, .bool true)] ⟨by kernel_rfl, by kernel_rfl, by kernel_rfl, by kernel_rfl, by kernel_rfl, trivial⟩ ?_
      refine at_then_normal ?_
      refine at_true (t := true) (x := C32 [1, 0, 1, 0, 1, 1, 0, 1, 0]) (y := C32 [1, 0, 1, 0, 1, 1, 0, 1, 1]) (o := .tmp 6) (by kernel_rfl) (by kernel_rfl) (by kernel_rfl) rfl ?_
      refine at_skip (by kernel_rfl) ?_
      refine at_then_normal ?_
      refine at_true (t := true) (x := C32 [1, 0, 1, 0, 1, 1, 1, 0]) (y := C32 [1, 0, 1, 0, 1, 1, 1, 1]) (o := .tmp 6) (by kernel_rfl) (by kernel_rfl) (by kernel_rfl) rfl ?_
      refine at_seq (x := C32 [1, 0, 1, 0, 1, 1, 1, 0, 0]) (y := C32 [1, 0, 1, 0, 1, 1, 1, 0, 1]) (by kernel_rfl) ?_
      refine at_region (id := 7) 1 (by kernel_rfl) (by kernel_rfl) ?_
      refine s_pure 2 (.int .i64 (8)) (by kernel_rfl) (by kernel_rfl) (fun _ => by kernel_rfl) ?_
      refine ops_end ?_
      refine At.env [(0, .int .i64 k), (2, .int .i64 (8)), (3, .int .i64 k), (4, .bool false), (6, .bool true)] ⟨by kernel_rfl, by kernel_rfl, by kernel_rfl, by kernel_rfl, by kernel_rfl, trivial⟩ ?_
      refine at_then_normal ?_
      refine at_ret (by kernel_rfl) ?_
      refine at_in_ret ?_
      refine at_then_ret ?_
      refine at_backR [.int .i64 (8)] (Γ) (rs := [.tmp 2]) (by kernel_rfl) (.cons (.tmp (by kernel_rfl)) .nil) (fun w hw => hw.less .refl) ?_
      exact ⟨congrArg (Value.int .i64) (by simp [answerI, *]), rfl⟩
    · refine s_pure 7 (.bool false) (by kernel_rfl) (by kernel_rfl) (run_eq (v := .bool (decide (k = (2 : Int)))) (fun _ => by kernel_rfl) (congrArg Value.bool (by rw [decide_eq_false h2]))) ?_
      refine s_pure 6 (.bool false) (by kernel_rfl) (by kernel_rfl) (fun _ => by kernel_rfl) ?_
      refine ops_end ?_
      refine At.env [(0, .int .i64 k), (2, .int .i64 (0)), (3, .int .i64 k), (4, .bool false), (6, .bool false)] ⟨by kernel_rfl, by kernel_rfl, by kernel_rfl, by kernel_rfl, by kernel_rfl, trivial⟩ ?_
      refine at_then_normal ?_
      refine at_false (t := false) (x := C32 [1, 0, 1, 0, 1, 1, 0, 1, 0]) (y := C32 [1, 0, 1, 0, 1, 1, 0, 1, 1]) (o := .tmp 6) (by kernel_rfl) (by kernel_rfl) (by kernel_rfl) rfl ?_
      refine at_seq (x := C32 [1, 0, 1, 0, 1, 1, 0, 1, 1, 0]) (y := C32 [1, 0, 1, 0, 1, 1, 0, 1, 1, 1]) (by kernel_rfl) ?_
      refine at_region (id := 5) 2 (by kernel_rfl) (by kernel_rfl) ?_
      rcases Decidable.em (k = (4 : Int)) with h3 | h3
      · refine s_pure 8 (.bool true) (by kernel_rfl) (by kernel_rfl) (run_eq (v := .bool (decide (k = (4 : Int)))) (fun _ => by kernel_rfl) (congrArg Value.bool (by rw [decide_eq_true h3]))) ?_
        refine s_pure 6 (.bool true) (by kernel_rfl) (by kernel_rfl) (fun _ => by kernel_rfl) ?_
        refine ops_end ?_
        refine At.env [(0, .int .i64 k), (2, .int .i64 (0)), (3, .int .i64 k), (4, .bool false), (6, .bool true)] ⟨by kernel_rfl, by kernel_rfl, by kernel_rfl, by kernel_rfl, by kernel_rfl, trivial⟩ ?_
        refine at_then_normal ?_
        refine at_true (t := true) (x := C32 [1, 0, 1, 0, 1, 1, 0, 1, 1, 1, 0]) (y := C32 [1, 0, 1, 0, 1, 1, 0, 1, 1, 1, 1]) (o := .tmp 6) (by kernel_rfl) (by kernel_rfl) (by kernel_rfl) rfl ?_
        refine at_skip (by kernel_rfl) ?_
        refine at_then_normal ?_
        refine at_true (t := true) (x := C32 [1, 0, 1, 0, 1, 1, 1, 0]) (y := C32 [1, 0, 1, 0, 1, 1, 1, 1]) (o := .tmp 6) (by kernel_rfl) (by kernel_rfl) (by kernel_rfl) rfl ?_
        refine at_seq (x := C32 [1, 0, 1, 0, 1, 1, 1, 0, 0]) (y := C32 [1, 0, 1, 0, 1, 1, 1, 0, 1]) (by kernel_rfl) ?_
        refine at_region (id := 7) 1 (by kernel_rfl) (by kernel_rfl) ?_
        refine s_pure 2 (.int .i64 (8)) (by kernel_rfl) (by kernel_rfl) (fun _ => by kernel_rfl) ?_
        refine ops_end ?_
        refine At.env [(0, .int .i64 k), (2, .int .i64 (8)), (3, .int .i64 k), (4, .bool false), (6, .bool true)] ⟨by kernel_rfl, by kernel_rfl, by kernel_rfl, by kernel_rfl, by kernel_rfl, trivial⟩ ?_
        refine at_then_normal ?_
        refine at_ret (by kernel_rfl) ?_
        refine at_in_ret ?_
        refine at_then_ret ?_
        refine at_backR [.int .i64 (8)] (Γ) (rs := [.tmp 2]) (by kernel_rfl) (.cons (.tmp (by kernel_rfl)) .nil) (fun w hw => hw.less .refl) ?_
        exact ⟨congrArg (Value.int .i64) (by simp [answerI, *]), rfl⟩
      · refine s_pure 8 (.bool false) (by kernel_rfl) (by kernel_rfl) (run_eq (v := .bool (decide (k = (4 : Int)))) (fun _ => by kernel_rfl) (congrArg Value.bool (by rw [decide_eq_false h3]))) ?_
        refine s_pure 6 (.bool false) (by kernel_rfl) (by kernel_rfl) (fun _ => by kernel_rfl) ?_
        refine ops_end ?_
        refine At.env [(0, .int .i64 k), (2, .int .i64 (0)), (3, .int .i64 k), (4, .bool false), (6, .bool false)] ⟨by kernel_rfl, by kernel_rfl, by kernel_rfl, by kernel_rfl, by kernel_rfl, trivial⟩ ?_
        refine at_then_normal ?_
        refine at_false (t := false) (x := C32 [1, 0, 1, 0, 1, 1, 0, 1, 1, 1, 0]) (y := C32 [1, 0, 1, 0, 1, 1, 0, 1, 1, 1, 1]) (o := .tmp 6) (by kernel_rfl) (by kernel_rfl) (by kernel_rfl) rfl ?_
        refine at_region (id := 6) 2 (by kernel_rfl) (by kernel_rfl) ?_
        rcases Decidable.em (k = (5 : Int)) with h4 | h4
        · refine s_pure 9 (.bool true) (by kernel_rfl) (by kernel_rfl) (run_eq (v := .bool (decide (k = (5 : Int)))) (fun _ => by kernel_rfl) (congrArg Value.bool (by rw [decide_eq_true h4]))) ?_
          refine s_pure 6 (.bool true) (by kernel_rfl) (by kernel_rfl) (fun _ => by kernel_rfl) ?_
          refine ops_end ?_
          refine At.env [(0, .int .i64 k), (2, .int .i64 (0)), (3, .int .i64 k), (4, .bool false), (6, .bool true)] ⟨by kernel_rfl, by kernel_rfl, by kernel_rfl, by kernel_rfl, by kernel_rfl, trivial⟩ ?_
          refine at_then_normal ?_
          refine at_true (t := true) (x := C32 [1, 0, 1, 0, 1, 1, 1, 0]) (y := C32 [1, 0, 1, 0, 1, 1, 1, 1]) (o := .tmp 6) (by kernel_rfl) (by kernel_rfl) (by kernel_rfl) rfl ?_
          refine at_seq (x := C32 [1, 0, 1, 0, 1, 1, 1, 0, 0]) (y := C32 [1, 0, 1, 0, 1, 1, 1, 0, 1]) (by kernel_rfl) ?_
          refine at_region (id := 7) 1 (by kernel_rfl) (by kernel_rfl) ?_
          refine s_pure 2 (.int .i64 (8)) (by kernel_rfl) (by kernel_rfl) (fun _ => by kernel_rfl) ?_
          refine ops_end ?_
          refine At.env [(0, .int .i64 k), (2, .int .i64 (8)), (3, .int .i64 k), (4, .bool false), (6, .bool true)] ⟨by kernel_rfl, by kernel_rfl, by kernel_rfl, by kernel_rfl, by kernel_rfl, trivial⟩ ?_
          refine at_then_normal ?_
          refine at_ret (by kernel_rfl) ?_
          refine at_in_ret ?_
          refine at_then_ret ?_
          refine at_backR [.int .i64 (8)] (Γ) (rs := [.tmp 2]) (by kernel_rfl) (.cons (.tmp (by kernel_rfl)) .nil) (fun w hw => hw.less .refl) ?_
          exact ⟨congrArg (Value.int .i64) (by simp [answerI, *]), rfl⟩
        · refine s_pure 9 (.bool false) (by kernel_rfl) (by kernel_rfl) (run_eq (v := .bool (decide (k = (5 : Int)))) (fun _ => by kernel_rfl) (congrArg Value.bool (by rw [decide_eq_false h4]))) ?_
          refine s_pure 6 (.bool false) (by kernel_rfl) (by kernel_rfl) (fun _ => by kernel_rfl) ?_
          refine ops_end ?_
          refine At.env [(0, .int .i64 k), (2, .int .i64 (0)), (3, .int .i64 k), (4, .bool false), (6, .bool false)] ⟨by kernel_rfl, by kernel_rfl, by kernel_rfl, by kernel_rfl, by kernel_rfl, trivial⟩ ?_
          refine at_then_normal ?_
          refine at_false (t := false) (x := C32 [1, 0, 1, 0, 1, 1, 1, 0]) (y := C32 [1, 0, 1, 0, 1, 1, 1, 1]) (o := .tmp 6) (by kernel_rfl) (by kernel_rfl) (by kernel_rfl) rfl ?_
          refine at_seq (x := C32 [1, 0, 1, 0, 1, 1, 1, 1, 0]) (y := C32 [1, 0, 1, 0, 1, 1, 1, 1, 1]) (by kernel_rfl) ?_
          refine at_seq (x := C32 [1, 0, 1, 0, 1, 1, 1, 1, 0, 0]) (y := C32 [1, 0, 1, 0, 1, 1, 1, 1, 0, 1]) (by kernel_rfl) ?_
          refine at_region (id := 8) 2 (by kernel_rfl) (by kernel_rfl) ?_
          rcases Decidable.em (k = (3 : Int)) with h5 | h5
          · refine s_pure 11 (.bool true) (by kernel_rfl) (by kernel_rfl) (run_eq (v := .bool (decide (k = (3 : Int)))) (fun _ => by kernel_rfl) (congrArg Value.bool (by rw [decide_eq_true h5]))) ?_
            refine s_pure 10 (.bool true) (by kernel_rfl) (by kernel_rfl) (fun _ => by kernel_rfl) ?_
            refine ops_end ?_
            refine At.env [(0, .int .i64 k), (2, .int .i64 (0)), (3, .int .i64 k), (4, .bool false), (6, .bool false), (10, .bool true)] ⟨by kernel_rfl, by kernel_rfl, by kernel_rfl, by kernel_rfl, by kernel_rfl, by kernel_rfl, trivial⟩ ?_
            refine at_then_normal ?_
            refine at_true (t := true) (x := C32 [1, 0, 1, 0, 1, 1, 1, 1, 0, 1, 0]) (y := C32 [1, 0, 1, 0, 1, 1, 1, 1, 0, 1, 1]) (o := .tmp 10) (by kernel_rfl) (by kernel_rfl) (by kernel_rfl) rfl ?_
            refine at_skip (by kernel_rfl) ?_
            refine at_then_normal ?_
            refine at_true (t := true) (x := C32 [1, 0, 1, 0, 1, 1, 1, 1, 1, 0]) (y := C32 [1, 0, 1, 0, 1, 1, 1, 1, 1, 1]) (o := .tmp 10) (by kernel_rfl) (by kernel_rfl) (by kernel_rfl) rfl ?_
            refine at_seq (x := C32 [1, 0, 1, 0, 1, 1, 1, 1, 1, 0, 0]) (y := C32 [1, 0, 1, 0, 1, 1, 1, 1, 1, 0, 1]) (by kernel_rfl) ?_
            refine at_region (id := 10) 1 (by kernel_rfl) (by kernel_rfl) ?_
            refine s_pure 2 (.int .i64 (9)) (by kernel_rfl) (by kernel_rfl) (fun _ => by kernel_rfl) ?_
            refine ops_end ?_
            refine At.env [(0, .int .i64 k), (2, .int .i64 (9)), (3, .int .i64 k), (4, .bool false), (6, .bool false), (10, .bool true)] ⟨by kernel_rfl, by kernel_rfl, by kernel_rfl, by kernel_rfl, by kernel_rfl, by kernel_rfl, trivial⟩ ?_
            refine at_then_normal ?_
            refine at_ret (by kernel_rfl) ?_
            refine at_in_ret ?_
            refine at_then_ret ?_
            refine at_backR [.int .i64 (9)] (Γ) (rs := [.tmp 2]) (by kernel_rfl) (.cons (.tmp (by kernel_rfl)) .nil) (fun w hw => hw.less .refl) ?_
            exact ⟨congrArg (Value.int .i64) (by simp [answerI, *]), rfl⟩
          · refine s_pure 11 (.bool false) (by kernel_rfl) (by kernel_rfl) (run_eq (v := .bool (decide (k = (3 : Int)))) (fun _ => by kernel_rfl) (congrArg Value.bool (by rw [decide_eq_false h5]))) ?_
            refine s_pure 10 (.bool false) (by kernel_rfl) (by kernel_rfl) (fun _ => by kernel_rfl) ?_
            refine ops_end ?_
            refine At.env [(0, .int .i64 k), (2, .int .i64 (0)), (3, .int .i64 k), (4, .bool false), (6, .bool false), (10, .bool false)] ⟨by kernel_rfl, by kernel_rfl, by kernel_rfl, by kernel_rfl, by kernel_rfl, by kernel_rfl, trivial⟩ ?_
            refine at_then_normal ?_
            refine at_false (t := false) (x := C32 [1, 0, 1, 0, 1, 1, 1, 1, 0, 1, 0]) (y := C32 [1, 0, 1, 0, 1, 1, 1, 1, 0, 1, 1]) (o := .tmp 10) (by kernel_rfl) (by kernel_rfl) (by kernel_rfl) rfl ?_
            refine at_region (id := 9) 2 (by kernel_rfl) (by kernel_rfl) ?_
            rcases Decidable.em (k = (6 : Int)) with h6 | h6
            · refine s_pure 12 (.bool true) (by kernel_rfl) (by kernel_rfl) (run_eq (v := .bool (decide (k = (6 : Int)))) (fun _ => by kernel_rfl) (congrArg Value.bool (by rw [decide_eq_true h6]))) ?_
              refine s_pure 10 (.bool true) (by kernel_rfl) (by kernel_rfl) (fun _ => by kernel_rfl) ?_
              refine ops_end ?_
              refine At.env [(0, .int .i64 k), (2, .int .i64 (0)), (3, .int .i64 k), (4, .bool false), (6, .bool false), (10, .bool true)] ⟨by kernel_rfl, by kernel_rfl, by kernel_rfl, by kernel_rfl, by kernel_rfl, by kernel_rfl, trivial⟩ ?_
              refine at_then_normal ?_
              refine at_true (t := true) (x := C32 [1, 0, 1, 0, 1, 1, 1, 1, 1, 0]) (y := C32 [1, 0, 1, 0, 1, 1, 1, 1, 1, 1]) (o := .tmp 10) (by kernel_rfl) (by kernel_rfl) (by kernel_rfl) rfl ?_
              refine at_seq (x := C32 [1, 0, 1, 0, 1, 1, 1, 1, 1, 0, 0]) (y := C32 [1, 0, 1, 0, 1, 1, 1, 1, 1, 0, 1]) (by kernel_rfl) ?_
              refine at_region (id := 10) 1 (by kernel_rfl) (by kernel_rfl) ?_
              refine s_pure 2 (.int .i64 (9)) (by kernel_rfl) (by kernel_rfl) (fun _ => by kernel_rfl) ?_
              refine ops_end ?_
              refine At.env [(0, .int .i64 k), (2, .int .i64 (9)), (3, .int .i64 k), (4, .bool false), (6, .bool false), (10, .bool true)] ⟨by kernel_rfl, by kernel_rfl, by kernel_rfl, by kernel_rfl, by kernel_rfl, by kernel_rfl, trivial⟩ ?_
              refine at_then_normal ?_
              refine at_ret (by kernel_rfl) ?_
              refine at_in_ret ?_
              refine at_then_ret ?_
              refine at_backR [.int .i64 (9)] (Γ) (rs := [.tmp 2]) (by kernel_rfl) (.cons (.tmp (by kernel_rfl)) .nil) (fun w hw => hw.less .refl) ?_
              exact ⟨congrArg (Value.int .i64) (by simp [answerI, *]), rfl⟩
            · refine s_pure 12 (.bool false) (by kernel_rfl) (by kernel_rfl) (run_eq (v := .bool (decide (k = (6 : Int)))) (fun _ => by kernel_rfl) (congrArg Value.bool (by rw [decide_eq_false h6]))) ?_
              refine s_pure 10 (.bool false) (by kernel_rfl) (by kernel_rfl) (fun _ => by kernel_rfl) ?_
              refine ops_end ?_
              refine At.env [(0, .int .i64 k), (2, .int .i64 (0)), (3, .int .i64 k), (4, .bool false), (6, .bool false), (10, .bool false)] ⟨by kernel_rfl, by kernel_rfl, by kernel_rfl, by kernel_rfl, by kernel_rfl, by kernel_rfl, trivial⟩ ?_
              refine at_then_normal ?_
              refine at_false (t := false) (x := C32 [1, 0, 1, 0, 1, 1, 1, 1, 1, 0]) (y := C32 [1, 0, 1, 0, 1, 1, 1, 1, 1, 1]) (o := .tmp 10) (by kernel_rfl) (by kernel_rfl) (by kernel_rfl) rfl ?_
              refine at_skip (by kernel_rfl) ?_
              refine at_in_normal ?_
              refine at_then_normal ?_
              refine at_seq (x := C32 [1, 1, 0]) (y := C32 [1, 1, 1]) (by kernel_rfl) ?_
              refine at_region (id := 11) 1 (by kernel_rfl) (by kernel_rfl) ?_
              refine s_pure 2 (.int .i64 (0)) (by kernel_rfl) (by kernel_rfl) (fun _ => by kernel_rfl) ?_
              refine ops_end ?_
              refine At.env [(0, .int .i64 k), (2, .int .i64 (0)), (3, .int .i64 k), (4, .bool false), (6, .bool false), (10, .bool false)] ⟨by kernel_rfl, by kernel_rfl, by kernel_rfl, by kernel_rfl, by kernel_rfl, by kernel_rfl, trivial⟩ ?_
              refine at_then_normal ?_
              refine at_ret (by kernel_rfl) ?_
              refine at_backR [.int .i64 (0)] (Γ) (rs := [.tmp 2]) (by kernel_rfl) (.cons (.tmp (by kernel_rfl)) .nil) (fun w hw => hw.less .refl) ?_
              exact ⟨congrArg (Value.int .i64) (by simp [answerI, *]), rfl⟩
end Go.Proofs.Ytpcffplbedbpkaa
