/- A packet of small numbers. -/
import Derived.Test.YtpcffplbedbpkaaDealC
namespace Go.Proofs.Ytpcffplbedbpkaa
open Go Go.RowKit
noncomputable def C26 (p : List Nat) : Code := codeAt (bodyOf Try.f26) p
set_option maxRecDepth 100000 in
theorem PlayPacket_tr {W0 : World} {Γ : List Asn} (pk pf pt pid pl pp ps : Int) (pfl : Bool) (pa : Option Addr) (pm pc : Nat) (hw : Int) (xs : List Int) (hm : pm = xs.length) (hr : Reads W0 Γ pa (ints xs)) (hcap : pm ≤ pc) : Tr Try.prog 26 #[.agg #[.int .i64 pk, .int .i64 pf, .int .i64 pt, .int .i64 pid, .int .i64 pl, .int .i64 pp, .int .i64 ps, .bool pfl, .slice pa pm pc], .int .i64 hw] W0 (Γ) (fun r Δ => ∃ k f t i l p s fl a' m' cap' ys, r = .agg #[.int .i64 k, .int .i64 f, .int .i64 t, .int .i64 i, .int .i64 l, .int .i64 p, .int .i64 s, .bool fl, .slice a' m' cap'] ∧ m' = List.length ys ∧ Δ = IntsA a' cap' ys :: Γ) := by
  refine Tr.enter (fn := Try.f26) (c := C26 []) (args := [.agg #[.int .i64 pk, .int .i64 pf, .int .i64 pt, .int .i64 pid, .int .i64 pl, .int .i64 pp, .int .i64 ps, .bool pfl, .slice pa pm pc], .int .i64 hw]) 85 Try.func26 (by kernel_rfl) (by kernel_rfl) ?_
  refine At.env [(0, .agg #[.int .i64 pk, .int .i64 pf, .int .i64 pt, .int .i64 pid, .int .i64 pl, .int .i64 pp, .int .i64 ps, .bool pfl, .slice pa pm pc]), (1, .int .i64 hw)] ⟨by kernel_rfl, by kernel_rfl, trivial⟩ ?_
  refine at_seq (x := C26 [0]) (y := C26 [1]) (by kernel_rfl) ?_
  refine at_region (id := 0) 2 (by kernel_rfl) (by kernel_rfl) ?_
  refine s_step 2 (by kernel_rfl) (by kernel_rfl) (st_new (T := 38) (cells := #[.int .i64 pk, .int .i64 pf, .int .i64 pt, .int .i64 pid, .int .i64 pl, .int .i64 pp, .int .i64 ps, .bool pfl, .slice pa pm pc]) (fun a => .pointer (some a)) (fun _ => by kernel_rfl)) ?_
  rintro _ _ ⟨b1, rfl, rfl⟩
  refine s_step 4 (by kernel_rfl) (by kernel_rfl) (st_new (T := 38) (cells := #[.int .i64 (0), .int .i64 (0), .int .i64 (0), .int .i64 (0), .int .i64 (0), .int .i64 (0), .int .i64 (0), .bool false, .slice none 0 0]) (fun a => .pointer (some a)) (fun _ => by kernel_rfl)) ?_
  rintro _ _ ⟨b2, rfl, rfl⟩
  refine ops_end ?_
  refine At.env [(0, .agg #[.int .i64 pk, .int .i64 pf, .int .i64 pt, .int .i64 pid, .int .i64 pl, .int .i64 pp, .int .i64 ps, .bool pfl, .slice pa pm pc]), (1, .int .i64 hw), (2, .pointer (some ⟨b1, 0, none⟩)), (4, .pointer (some ⟨b2, 0, none⟩))] ⟨by kernel_rfl, by kernel_rfl, by kernel_rfl, by kernel_rfl, trivial⟩ ?_
  refine at_then_normal ?_
  refine at_seq (x := C26 [1, 0]) (y := C26 [1, 1]) (by kernel_rfl) ?_
  refine at_region_draw (id := 1) (by kernel_rfl) (by kernel_rfl) ?_
  refine d_pure 0 6 (.pointer (some ⟨b1, 0, none⟩)) (by kernel_rfl) (by kernel_rfl) (by kernel_rfl) (fun _ => by kernel_rfl) ?_
  refine d_load 1 7 (.int .i64 pk) (by kernel_rfl) (by kernel_rfl) (by kernel_rfl) (load1 (off := 0) (fun _ => by kernel_rfl) (holds_own (.there .here)) (by kernel_rfl)) ?_
  refine d_quiet 2 8 (.int .i64 (pk % 9)) 12 #[.int .i64 pk, .int .i64 (9)] (by kernel_rfl) (by kernel_rfl) (by kernel_rfl) (fun _ => by kernel_rfl) (fun _ => (Within_tr (pk) (9) (by omega) (by omega))) ?_
  refine d_pure 3 9 (.int .i64 (1 + (pk % 9))) (by kernel_rfl) (by kernel_rfl) (by kernel_rfl) (run_eq (v := .int .i64 (IntKind.i64.wrap (1 + (pk % 9)))) (fun _ => by kernel_rfl) (by rw [wrap_in (by omega) (by omega)])) ?_
  refine d_pure 4 10 (.pointer (some ⟨b1, 1, none⟩)) (by kernel_rfl) (by kernel_rfl) (by kernel_rfl) (fun _ => by kernel_rfl) ?_
  refine d_load 5 11 (.int .i64 pf) (by kernel_rfl) (by kernel_rfl) (by kernel_rfl) (load1 (off := 1) (fun _ => by kernel_rfl) (holds_own (.there .here)) (by kernel_rfl)) ?_
  refine d_quiet 6 12 (.int .i64 (pf % 4)) 12 #[.int .i64 pf, .int .i64 (4)] (by kernel_rfl) (by kernel_rfl) (by kernel_rfl) (fun _ => by kernel_rfl) (fun _ => (Within_tr (pf) (4) (by omega) (by omega))) ?_
  refine d_pure 7 13 (.pointer (some ⟨b1, 2, none⟩)) (by kernel_rfl) (by kernel_rfl) (by kernel_rfl) (fun _ => by kernel_rfl) ?_
  refine d_load 8 14 (.int .i64 pt) (by kernel_rfl) (by kernel_rfl) (by kernel_rfl) (load1 (off := 2) (fun _ => by kernel_rfl) (holds_own (.there .here)) (by kernel_rfl)) ?_
  refine d_quiet 9 15 (.int .i64 (pt % 4)) 12 #[.int .i64 pt, .int .i64 (4)] (by kernel_rfl) (by kernel_rfl) (by kernel_rfl) (fun _ => by kernel_rfl) (fun _ => (Within_tr (pt) (4) (by omega) (by omega))) ?_
  refine d_pure 10 16 (.pointer (some ⟨b1, 3, none⟩)) (by kernel_rfl) (by kernel_rfl) (by kernel_rfl) (fun _ => by kernel_rfl) ?_
  refine d_load 11 17 (.int .i64 pid) (by kernel_rfl) (by kernel_rfl) (by kernel_rfl) (load1 (off := 3) (fun _ => by kernel_rfl) (holds_own (.there .here)) (by kernel_rfl)) ?_
  refine d_quiet 12 18 (.int .i64 (pid % 5)) 12 #[.int .i64 pid, .int .i64 (5)] (by kernel_rfl) (by kernel_rfl) (by kernel_rfl) (fun _ => by kernel_rfl) (fun _ => (Within_tr (pid) (5) (by omega) (by omega))) ?_
  refine d_pure 13 19 (.pointer (some ⟨b1, 4, none⟩)) (by kernel_rfl) (by kernel_rfl) (by kernel_rfl) (fun _ => by kernel_rfl) ?_
  refine d_load 14 20 (.int .i64 pl) (by kernel_rfl) (by kernel_rfl) (by kernel_rfl) (load1 (off := 4) (fun _ => by kernel_rfl) (holds_own (.there .here)) (by kernel_rfl)) ?_
  refine d_quiet 15 21 (.int .i64 (pl % 4)) 12 #[.int .i64 pl, .int .i64 (4)] (by kernel_rfl) (by kernel_rfl) (by kernel_rfl) (fun _ => by kernel_rfl) (fun _ => (Within_tr (pl) (4) (by omega) (by omega))) ?_
  refine d_pure 16 22 (.pointer (some ⟨b1, 5, none⟩)) (by kernel_rfl) (by kernel_rfl) (by kernel_rfl) (fun _ => by kernel_rfl) ?_
  refine d_load 17 23 (.int .i64 pp) (by kernel_rfl) (by kernel_rfl) (by kernel_rfl) (load1 (off := 5) (fun _ => by kernel_rfl) (holds_own (.there .here)) (by kernel_rfl)) ?_
  refine d_quiet 18 24 (.int .i64 (pp % 5)) 12 #[.int .i64 pp, .int .i64 (5)] (by kernel_rfl) (by kernel_rfl) (by kernel_rfl) (fun _ => by kernel_rfl) (fun _ => (Within_tr (pp) (5) (by omega) (by omega))) ?_
  refine d_pure 19 25 (.int .i64 ((pp % 5) - 1)) (by kernel_rfl) (by kernel_rfl) (by kernel_rfl) (run_eq (v := .int .i64 (IntKind.i64.wrap ((pp % 5) - 1))) (fun _ => by kernel_rfl) (by rw [wrap_in (by omega) (by omega)])) ?_
  refine d_pure 20 26 (.pointer (some ⟨b1, 6, none⟩)) (by kernel_rfl) (by kernel_rfl) (by kernel_rfl) (fun _ => by kernel_rfl) ?_
  refine d_load 21 27 (.int .i64 ps) (by kernel_rfl) (by kernel_rfl) (by kernel_rfl) (load1 (off := 6) (fun _ => by kernel_rfl) (holds_own (.there .here)) (by kernel_rfl)) ?_
  refine d_quiet 22 28 (.int .i64 (ps % 3)) 12 #[.int .i64 ps, .int .i64 (3)] (by kernel_rfl) (by kernel_rfl) (by kernel_rfl) (fun _ => by kernel_rfl) (fun _ => (Within_tr (ps) (3) (by omega) (by omega))) ?_
  refine d_pure 23 29 (.pointer (some ⟨b1, 7, none⟩)) (by kernel_rfl) (by kernel_rfl) (by kernel_rfl) (fun _ => by kernel_rfl) ?_
  refine d_load 24 30 (.bool pfl) (by kernel_rfl) (by kernel_rfl) (by kernel_rfl) (load1 (off := 7) (fun _ => by kernel_rfl) (holds_own (.there .here)) (by kernel_rfl)) ?_
  refine d_pure 25 31 (.pointer (some ⟨b1, 8, none⟩)) (by kernel_rfl) (by kernel_rfl) (by kernel_rfl) (fun _ => by kernel_rfl) ?_
  refine d_load 26 32 (.slice pa pm pc) (by kernel_rfl) (by kernel_rfl) (by kernel_rfl) (load1 (off := 8) (fun _ => by kernel_rfl) (holds_own (.there .here)) (by kernel_rfl)) ?_
  refine draw_turns 27 [29] (by kernel_rfl) (turns_cons ?_ (turns_cons ?_ turns_nil))
  · refine t_call 27 33 [26, 22, 25, 21, 18, 20, 17, 15, 16, 14, 12, 13, 11, 9, 10, 8, 6, 7, 5, 2, 4, 1, 0] [23, 19, 3] [24] 19 #[.slice pa pm pc, .int .i64 (4)] (by kernel_rfl) (by kernel_rfl) (by kernel_rfl) (fun _ => by kernel_rfl) (Cut_tr pa pm pc 4 xs (hm) (Reads.conv (fun w hw => hw.less (.drop .here (.drop .here .refl))) hr) (by omega) (by omega)) ?_
    rintro _ _ ⟨a1, m1, c1, rfl, hm1, rfl⟩
    refine ⟨(stable_cons 24 30 (.bool pfl) (by kernel_rfl) (by kernel_rfl) (by kernel_rfl) (load1 (off := 7) (fun _ => by kernel_rfl) (holds_own (.there (.there .here))) (by kernel_rfl)) stable_nil), ?_⟩
    refine d_pure 28 34 (.agg #[.int .i64 (1 + (pk % 9)), .int .i64 (pf % 4), .int .i64 (pt % 4), .int .i64 (pid % 5), .int .i64 (pl % 4), .int .i64 ((pp % 5) - 1), .int .i64 (ps % 3), .bool pfl, .slice a1 m1 c1]) (by kernel_rfl) (by kernel_rfl) (by kernel_rfl) (fun _ => by kernel_rfl) ?_
    refine d_step 29 5 [] [28, 23, 19, 3] [24] (by kernel_rfl) (by kernel_rfl) (by kernel_rfl) (st_new (T := 38) (cells := #[.int .i64 (0), .int .i64 (0), .int .i64 (0), .int .i64 (0), .int .i64 (0), .int .i64 (0), .int .i64 (0), .bool false, .slice none 0 0]) (fun a => .pointer (some a)) (fun _ => by kernel_rfl)) ?_
    rintro _ _ ⟨b3, rfl, rfl⟩
    refine ⟨(stable_cons 24 30 (.bool pfl) (by kernel_rfl) (by kernel_rfl) (by kernel_rfl) (load1 (off := 7) (fun _ => by kernel_rfl) (holds_own (.there (.there (.there .here)))) (by kernel_rfl)) stable_nil), ?_⟩
    refine d_do 30 [29, 28, 27, 0, 1, 2, 3, 4, 5, 6, 7, 8, 9, 10, 11, 12, 13, 14, 15, 16, 17, 18, 19, 20, 21, 22, 23, 24, 25, 26] [] [] (by kernel_rfl) (by kernel_rfl) (by kernel_rfl) (st_store (off := 0) (vs := [.int .i64 (1 + (pk % 9)), .int .i64 (pf % 4), .int .i64 (pt % 4), .int .i64 (pid % 5), .int .i64 (pl % 4), .int .i64 ((pp % 5) - 1), .int .i64 (ps % 3), .bool pfl, .slice a1 m1 c1]) (c' := #[.int .i64 (1 + (pk % 9)), .int .i64 (pf % 4), .int .i64 (pt % 4), .int .i64 (pid % 5), .int .i64 (pl % 4), .int .i64 ((pp % 5) - 1), .int .i64 (ps % 3), .bool pfl, .slice a1 m1 c1]) (fun _ => by kernel_rfl) .here (by kernel_rfl) (by kernel_rfl) (by kernel_rfl)) ?_
    rintro _ _ ⟨rfl, rfl⟩
    refine ⟨stable_nil, ?_⟩
    refine draw_end (by kernel_rfl) ?_
    refine At.env [(0, .agg #[.int .i64 pk, .int .i64 pf, .int .i64 pt, .int .i64 pid, .int .i64 pl, .int .i64 pp, .int .i64 ps, .bool pfl, .slice pa pm pc]), (1, .int .i64 hw), (2, .pointer (some ⟨b1, 0, none⟩)), (4, .pointer (some ⟨b2, 0, none⟩)), (5, .pointer (some ⟨b3, 0, none⟩))] ⟨by kernel_rfl, by kernel_rfl, by kernel_rfl, by kernel_rfl, by kernel_rfl, trivial⟩ ?_
    refine at_then_normal ?_
    refine at_seq (x := C26 [1, 1, 0]) (y := C26 [1, 1, 1]) (by kernel_rfl) ?_
    refine at_seq (x := C26 [1, 1, 0, 0]) (y := C26 [1, 1, 0, 1]) (by kernel_rfl) ?_
    refine at_region (id := 2) 2 (by kernel_rfl) (by kernel_rfl) ?_
    refine s_pure 35 (.int .i64 hw) (by kernel_rfl) (by kernel_rfl) (fun _ => by kernel_rfl) ?_
    refine s_quiet 36 (.int .i64 (hw % 40)) 12 #[.int .i64 hw, .int .i64 (40)] (by kernel_rfl) (by kernel_rfl) (fun _ => by kernel_rfl) (Within_tr (hw) (40) (by omega) (by omega)) ?_
    refine ops_end ?_
    refine At.env [(0, .agg #[.int .i64 pk, .int .i64 pf, .int .i64 pt, .int .i64 pid, .int .i64 pl, .int .i64 pp, .int .i64 ps, .bool pfl, .slice pa pm pc]), (1, .int .i64 hw), (2, .pointer (some ⟨b1, 0, none⟩)), (4, .pointer (some ⟨b2, 0, none⟩)), (5, .pointer (some ⟨b3, 0, none⟩)), (36, .int .i64 (hw % 40))] ⟨by kernel_rfl, by kernel_rfl, by kernel_rfl, by kernel_rfl, by kernel_rfl, by kernel_rfl, trivial⟩ ?_
    refine at_then_normal ?_
    refine at_block (i := 0) (x := C26 [1, 1, 0, 1, 0]) (by kernel_rfl) ?_
    refine at_seq (x := C26 [1, 1, 0, 1, 0, 0]) (y := C26 [1, 1, 0, 1, 0, 1]) (by kernel_rfl) ?_
    refine at_region (id := 3) 2 (by kernel_rfl) (by kernel_rfl) ?_
    rcases Decidable.em ((hw % 40) = (31 : Int)) with h1 | h1
    · refine s_pure 38 (.bool true) (by kernel_rfl) (by kernel_rfl) (run_eq (v := .bool (decide ((hw % 40) = (31 : Int)))) (fun _ => by kernel_rfl) (congrArg Value.bool (by rw [decide_eq_true h1]))) ?_
      refine s_pure 37 (.bool true) (by kernel_rfl) (by kernel_rfl) (fun _ => by kernel_rfl) ?_
      refine ops_end ?_
      refine At.env [(0, .agg #[.int .i64 pk, .int .i64 pf, .int .i64 pt, .int .i64 pid, .int .i64 pl, .int .i64 pp, .int .i64 ps, .bool pfl, .slice pa pm pc]), (1, .int .i64 hw), (2, .pointer (some ⟨b1, 0, none⟩)), (4, .pointer (some ⟨b2, 0, none⟩)), (5, .pointer (some ⟨b3, 0, none⟩)), (36, .int .i64 (hw % 40)), (37, .bool true)] ⟨by kernel_rfl, by kernel_rfl, by kernel_rfl, by kernel_rfl, by kernel_rfl, by kernel_rfl, by kernel_rfl, trivial⟩ ?_
      refine at_then_normal ?_
      refine at_true (t := true) (x := C26 [1, 1, 0, 1, 0, 1, 0]) (y := C26 [1, 1, 0, 1, 0, 1, 1]) (o := .tmp 37) (by kernel_rfl) (by kernel_rfl) (by kernel_rfl) rfl ?_
      refine at_region (id := 4) 4 (by kernel_rfl) (by kernel_rfl) ?_
      refine s_pure 39 (.pointer (some ⟨b1, 0, none⟩)) (by kernel_rfl) (by kernel_rfl) (fun _ => by kernel_rfl) ?_
      refine s_load 40 (.int .i64 pk) (by kernel_rfl) (by kernel_rfl) (load1 (off := 0) (fun _ => by kernel_rfl) (holds_own (.there (.there (.there .here)))) (by kernel_rfl)) ?_
      refine s_pure 41 (.pointer (some ⟨b3, 0, none⟩)) (by kernel_rfl) (by kernel_rfl) (fun _ => by kernel_rfl) ?_
      refine s_do (by kernel_rfl) (by kernel_rfl) (st_store (off := 0) (vs := [.int .i64 pk]) (c' := #[.int .i64 pk, .int .i64 (pf % 4), .int .i64 (pt % 4), .int .i64 (pid % 5), .int .i64 (pl % 4), .int .i64 ((pp % 5) - 1), .int .i64 (ps % 3), .bool pfl, .slice a1 m1 c1]) (fun _ => by kernel_rfl) .here (by kernel_rfl) (by kernel_rfl) (by kernel_rfl)) ?_
      rintro _ _ ⟨rfl, rfl⟩
      refine ops_end ?_
      refine At.env [(0, .agg #[.int .i64 pk, .int .i64 pf, .int .i64 pt, .int .i64 pid, .int .i64 pl, .int .i64 pp, .int .i64 ps, .bool pfl, .slice pa pm pc]), (1, .int .i64 hw), (2, .pointer (some ⟨b1, 0, none⟩)), (4, .pointer (some ⟨b2, 0, none⟩)), (5, .pointer (some ⟨b3, 0, none⟩)), (36, .int .i64 (hw % 40)), (37, .bool true)] ⟨by kernel_rfl, by kernel_rfl, by kernel_rfl, by kernel_rfl, by kernel_rfl, by kernel_rfl, by kernel_rfl, trivial⟩ ?_
      refine at_in_normal ?_
      refine at_then_normal ?_
      refine at_seq (x := C26 [1, 1, 1, 0]) (y := C26 [1, 1, 1, 1]) (by kernel_rfl) ?_
      refine at_region (id := 21) 2 (by kernel_rfl) (by kernel_rfl) ?_
      refine s_load 84 (.agg #[.int .i64 pk, .int .i64 (pf % 4), .int .i64 (pt % 4), .int .i64 (pid % 5), .int .i64 (pl % 4), .int .i64 ((pp % 5) - 1), .int .i64 (ps % 3), .bool pfl, .slice a1 m1 c1]) (by kernel_rfl) (by kernel_rfl) (loadN (off := 0) (vs := [.int .i64 pk, .int .i64 (pf % 4), .int .i64 (pt % 4), .int .i64 (pid % 5), .int .i64 (pl % 4), .int .i64 ((pp % 5) - 1), .int .i64 (ps % 3), .bool pfl, .slice a1 m1 c1]) 9 (fun _ => by kernel_rfl) (holds_own .here) rfl (by exact ⟨rfl, rfl, rfl, rfl, rfl, rfl, rfl, rfl, rfl, trivial⟩)) ?_
      refine s_do (by kernel_rfl) (by kernel_rfl) (st_store (off := 0) (vs := [.int .i64 pk, .int .i64 (pf % 4), .int .i64 (pt % 4), .int .i64 (pid % 5), .int .i64 (pl % 4), .int .i64 ((pp % 5) - 1), .int .i64 (ps % 3), .bool pfl, .slice a1 m1 c1]) (c' := #[.int .i64 pk, .int .i64 (pf % 4), .int .i64 (pt % 4), .int .i64 (pid % 5), .int .i64 (pl % 4), .int .i64 ((pp % 5) - 1), .int .i64 (ps % 3), .bool pfl, .slice a1 m1 c1]) (fun _ => by kernel_rfl) (.there (.there .here)) (by kernel_rfl) (by kernel_rfl) (by kernel_rfl)) ?_
      rintro _ _ ⟨rfl, rfl⟩
      refine ops_end ?_
      refine At.env [(0, .agg #[.int .i64 pk, .int .i64 pf, .int .i64 pt, .int .i64 pid, .int .i64 pl, .int .i64 pp, .int .i64 ps, .bool pfl, .slice pa pm pc]), (1, .int .i64 hw), (2, .pointer (some ⟨b1, 0, none⟩)), (4, .pointer (some ⟨b2, 0, none⟩)), (5, .pointer (some ⟨b3, 0, none⟩)), (36, .int .i64 (hw % 40)), (37, .bool true)] ⟨by kernel_rfl, by kernel_rfl, by kernel_rfl, by kernel_rfl, by kernel_rfl, by kernel_rfl, by kernel_rfl, trivial⟩ ?_
      refine at_then_normal ?_
      refine at_ret (by kernel_rfl) ?_
      refine at_backR [.agg #[.int .i64 pk, .int .i64 (pf % 4), .int .i64 (pt % 4), .int .i64 (pid % 5), .int .i64 (pl % 4), .int .i64 ((pp % 5) - 1), .int .i64 (ps % 3), .bool pfl, .slice a1 m1 c1]] ((IntsA a1 c1 (xs.take 4)) :: Γ) (rs := [.cell 4 38]) (by kernel_rfl) (.cons (.cell (by kernel_rfl) (retN (off := 0) (vs := [.int .i64 pk, .int .i64 (pf % 4), .int .i64 (pt % 4), .int .i64 (pid % 5), .int .i64 (pl % 4), .int .i64 ((pp % 5) - 1), .int .i64 (ps % 3), .bool pfl, .slice a1 m1 c1]) 9 (fun _ => by kernel_rfl) (holds_own .here) rfl (by exact ⟨rfl, rfl, rfl, rfl, rfl, rfl, rfl, rfl, rfl, trivial⟩))) .nil) (fun w hw => hw.less (.take (.there (.there .here)) (.drop .here (.drop .here (.drop .here .refl))))) ?_
      exact ⟨_, _, _, _, _, _, _, _, _, _, _, _, rfl, by assumption, rfl⟩
    · refine s_pure 38 (.bool false) (by kernel_rfl) (by kernel_rfl) (run_eq (v := .bool (decide ((hw % 40) = (31 : Int)))) (fun _ => by kernel_rfl) (congrArg Value.bool (by rw [decide_eq_false h1]))) ?_
      refine s_pure 37 (.bool false) (by kernel_rfl) (by kernel_rfl) (fun _ => by kernel_rfl) ?_
      refine ops_end ?_
      refine At.env [(0, .agg #[.int .i64 pk, .int .i64 pf, .int .i64 pt, .int .i64 pid, .int .i64 pl, .int .i64 pp, .int .i64 ps, .bool pfl, .slice pa pm pc]), (1, .int .i64 hw), (2, .pointer (some ⟨b1, 0, none⟩)), (4, .pointer (some ⟨b2, 0, none⟩)), (5, .pointer (some ⟨b3, 0, none⟩)), (36, .int .i64 (hw % 40)), (37, .bool false)] ⟨by kernel_rfl, by kernel_rfl, by kernel_rfl, by kernel_rfl, by kernel_rfl, by kernel_rfl, by kernel_rfl, trivial⟩ ?_
      refine at_then_normal ?_
      refine at_false (t := false) (x := C26 [1, 1, 0, 1, 0, 1, 0]) (y := C26 [1, 1, 0, 1, 0, 1, 1]) (o := .tmp 37) (by kernel_rfl) (by kernel_rfl) (by kernel_rfl) rfl ?_
      refine at_seq (x := C26 [1, 1, 0, 1, 0, 1, 1, 0]) (y := C26 [1, 1, 0, 1, 0, 1, 1, 1]) (by kernel_rfl) ?_
      refine at_region (id := 5) 2 (by kernel_rfl) (by kernel_rfl) ?_
      rcases Decidable.em ((hw % 40) = (32 : Int)) with h2 | h2
      · refine s_pure 43 (.bool true) (by kernel_rfl) (by kernel_rfl) (run_eq (v := .bool (decide ((hw % 40) = (32 : Int)))) (fun _ => by kernel_rfl) (congrArg Value.bool (by rw [decide_eq_true h2]))) ?_
        refine s_pure 42 (.bool true) (by kernel_rfl) (by kernel_rfl) (fun _ => by kernel_rfl) ?_
        refine ops_end ?_
        refine At.env [(0, .agg #[.int .i64 pk, .int .i64 pf, .int .i64 pt, .int .i64 pid, .int .i64 pl, .int .i64 pp, .int .i64 ps, .bool pfl, .slice pa pm pc]), (1, .int .i64 hw), (2, .pointer (some ⟨b1, 0, none⟩)), (4, .pointer (some ⟨b2, 0, none⟩)), (5, .pointer (some ⟨b3, 0, none⟩)), (36, .int .i64 (hw % 40)), (37, .bool false), (42, .bool true)] ⟨by kernel_rfl, by kernel_rfl, by kernel_rfl, by kernel_rfl, by kernel_rfl, by kernel_rfl, by kernel_rfl, by kernel_rfl, trivial⟩ ?_
        refine at_then_normal ?_
        refine at_true (t := true) (x := C26 [1, 1, 0, 1, 0, 1, 1, 1, 0]) (y := C26 [1, 1, 0, 1, 0, 1, 1, 1, 1]) (o := .tmp 42) (by kernel_rfl) (by kernel_rfl) (by kernel_rfl) rfl ?_
        refine at_region (id := 6) 4 (by kernel_rfl) (by kernel_rfl) ?_
        refine s_pure 44 (.pointer (some ⟨b1, 1, none⟩)) (by kernel_rfl) (by kernel_rfl) (fun _ => by kernel_rfl) ?_
        refine s_load 45 (.int .i64 pf) (by kernel_rfl) (by kernel_rfl) (load1 (off := 1) (fun _ => by kernel_rfl) (holds_own (.there (.there (.there .here)))) (by kernel_rfl)) ?_
        refine s_pure 46 (.pointer (some ⟨b3, 1, none⟩)) (by kernel_rfl) (by kernel_rfl) (fun _ => by kernel_rfl) ?_
        refine s_do (by kernel_rfl) (by kernel_rfl) (st_store (off := 1) (vs := [.int .i64 pf]) (c' := #[.int .i64 (1 + (pk % 9)), .int .i64 pf, .int .i64 (pt % 4), .int .i64 (pid % 5), .int .i64 (pl % 4), .int .i64 ((pp % 5) - 1), .int .i64 (ps % 3), .bool pfl, .slice a1 m1 c1]) (fun _ => by kernel_rfl) .here (by kernel_rfl) (by kernel_rfl) (by kernel_rfl)) ?_
        rintro _ _ ⟨rfl, rfl⟩
        refine ops_end ?_
        refine At.env [(0, .agg #[.int .i64 pk, .int .i64 pf, .int .i64 pt, .int .i64 pid, .int .i64 pl, .int .i64 pp, .int .i64 ps, .bool pfl, .slice pa pm pc]), (1, .int .i64 hw), (2, .pointer (some ⟨b1, 0, none⟩)), (4, .pointer (some ⟨b2, 0, none⟩)), (5, .pointer (some ⟨b3, 0, none⟩)), (36, .int .i64 (hw % 40)), (37, .bool false), (42, .bool true)] ⟨by kernel_rfl, by kernel_rfl, by kernel_rfl, by kernel_rfl, by kernel_rfl, by kernel_rfl, by kernel_rfl, by kernel_rfl, trivial⟩ ?_
        refine at_in_normal ?_
        refine at_then_normal ?_
        refine at_seq (x := C26 [1, 1, 1, 0]) (y := C26 [1, 1, 1, 1]) (by kernel_rfl) ?_
        refine at_region (id := 21) 2 (by kernel_rfl) (by kernel_rfl) ?_
        refine s_load 84 (.agg #[.int .i64 (1 + (pk % 9)), .int .i64 pf, .int .i64 (pt % 4), .int .i64 (pid % 5), .int .i64 (pl % 4), .int .i64 ((pp % 5) - 1), .int .i64 (ps % 3), .bool pfl, .slice a1 m1 c1]) (by kernel_rfl) (by kernel_rfl) (loadN (off := 0) (vs := [.int .i64 (1 + (pk % 9)), .int .i64 pf, .int .i64 (pt % 4), .int .i64 (pid % 5), .int .i64 (pl % 4), .int .i64 ((pp % 5) - 1), .int .i64 (ps % 3), .bool pfl, .slice a1 m1 c1]) 9 (fun _ => by kernel_rfl) (holds_own .here) rfl (by exact ⟨rfl, rfl, rfl, rfl, rfl, rfl, rfl, rfl, rfl, trivial⟩)) ?_
        refine s_do (by kernel_rfl) (by kernel_rfl) (st_store (off := 0) (vs := [.int .i64 (1 + (pk % 9)), .int .i64 pf, .int .i64 (pt % 4), .int .i64 (pid % 5), .int .i64 (pl % 4), .int .i64 ((pp % 5) - 1), .int .i64 (ps % 3), .bool pfl, .slice a1 m1 c1]) (c' := #[.int .i64 (1 + (pk % 9)), .int .i64 pf, .int .i64 (pt % 4), .int .i64 (pid % 5), .int .i64 (pl % 4), .int .i64 ((pp % 5) - 1), .int .i64 (ps % 3), .bool pfl, .slice a1 m1 c1]) (fun _ => by kernel_rfl) (.there (.there .here)) (by kernel_rfl) (by kernel_rfl) (by kernel_rfl)) ?_
        rintro _ _ ⟨rfl, rfl⟩
        refine ops_end ?_
        refine At.env [(0, .agg #[.int .i64 pk, .int .i64 pf, .int .i64 pt, .int .i64 pid, .int .i64 pl, .int .i64 pp, .int .i64 ps, .bool pfl, .slice pa pm pc]), (1, .int .i64 hw), (2, .pointer (some ⟨b1, 0, none⟩)), (4, .pointer (some ⟨b2, 0, none⟩)), (5, .pointer (some ⟨b3, 0, none⟩)), (36, .int .i64 (hw % 40)), (37, .bool false), (42, .bool true)] ⟨by kernel_rfl, by kernel_rfl, by kernel_rfl, by kernel_rfl, by kernel_rfl, by kernel_rfl, by kernel_rfl, by kernel_rfl, trivial⟩ ?_
        refine at_then_normal ?_
        refine at_ret (by kernel_rfl) ?_
        refine at_backR [.agg #[.int .i64 (1 + (pk % 9)), .int .i64 pf, .int .i64 (pt % 4), .int .i64 (pid % 5), .int .i64 (pl % 4), .int .i64 ((pp % 5) - 1), .int .i64 (ps % 3), .bool pfl, .slice a1 m1 c1]] ((IntsA a1 c1 (xs.take 4)) :: Γ) (rs := [.cell 4 38]) (by kernel_rfl) (.cons (.cell (by kernel_rfl) (retN (off := 0) (vs := [.int .i64 (1 + (pk % 9)), .int .i64 pf, .int .i64 (pt % 4), .int .i64 (pid % 5), .int .i64 (pl % 4), .int .i64 ((pp % 5) - 1), .int .i64 (ps % 3), .bool pfl, .slice a1 m1 c1]) 9 (fun _ => by kernel_rfl) (holds_own .here) rfl (by exact ⟨rfl, rfl, rfl, rfl, rfl, rfl, rfl, rfl, rfl, trivial⟩))) .nil) (fun w hw => hw.less (.take (.there (.there .here)) (.drop .here (.drop .here (.drop .here .refl))))) ?_
        exact ⟨_, _, _, _, _, _, _, _, _, _, _, _, rfl, by assumption, rfl⟩
      · refine s_pure 43 (.bool false) (by kernel_rfl) (by kernel_rfl) (run_eq (v := .bool (decide ((hw % 40) = (32 : Int)))) (fun _ => by kernel_rfl) (congrArg Value.bool (by rw [decide_eq_false h2]))) ?_
        refine s_pure 42 (.bool false) (by kernel_rfl) (by kernel_rfl) (fun _ => by kernel_rfl) ?_
        refine ops_end ?_
        refine At.env [(0, .agg #[.int .i64 pk, .int .i64 pf, .int .i64 pt, .int .i64 pid, .int .i64 pl, .int .i64 pp, .int .i64 ps, .bool pfl, .slice pa pm pc]), (1, .int .i64 hw), (2, .pointer (some ⟨b1, 0, none⟩)), (4, .pointer (some ⟨b2, 0, none⟩)), (5, .pointer (some ⟨b3, 0, none⟩)), (36, .int .i64 (hw % 40)), (37, .bool false), (42, .bool false)] ⟨by kernel_rfl, by kernel_rfl, by kernel_rfl, by kernel_rfl, by kernel_rfl, by kernel_rfl, by kernel_rfl, by kernel_rfl, trivial⟩ ?_
        refine at_then_normal ?_
        refine at_false (t := false) (x := C26 [1, 1, 0, 1, 0, 1, 1, 1, 0]) (y := C26 [1, 1, 0, 1, 0, 1, 1, 1, 1]) (o := .tmp 42) (by kernel_rfl) (by kernel_rfl) (by kernel_rfl) rfl ?_
        refine at_seq (x := C26 [1, 1, 0, 1, 0, 1, 1, 1, 1, 0]) (y := C26 [1, 1, 0, 1, 0, 1, 1, 1, 1, 1]) (by kernel_rfl) ?_
        refine at_region (id := 7) 2 (by kernel_rfl) (by kernel_rfl) ?_
        rcases Decidable.em ((hw % 40) = (33 : Int)) with h3 | h3
        · refine s_pure 48 (.bool true) (by kernel_rfl) (by kernel_rfl) (run_eq (v := .bool (decide ((hw % 40) = (33 : Int)))) (fun _ => by kernel_rfl) (congrArg Value.bool (by rw [decide_eq_true h3]))) ?_
          refine s_pure 47 (.bool true) (by kernel_rfl) (by kernel_rfl) (fun _ => by kernel_rfl) ?_
          refine ops_end ?_
          refine At.env [(0, .agg #[.int .i64 pk, .int .i64 pf, .int .i64 pt, .int .i64 pid, .int .i64 pl, .int .i64 pp, .int .i64 ps, .bool pfl, .slice pa pm pc]), (1, .int .i64 hw), (2, .pointer (some ⟨b1, 0, none⟩)), (4, .pointer (some ⟨b2, 0, none⟩)), (5, .pointer (some ⟨b3, 0, none⟩)), (36, .int .i64 (hw % 40)), (37, .bool false), (42, .bool false), (47, .bool true)] ⟨by kernel_rfl, by kernel_rfl, by kernel_rfl, by kernel_rfl, by kernel_rfl, by kernel_rfl, by kernel_rfl, by kernel_rfl, by kernel_rfl, trivial⟩ ?_
          refine at_then_normal ?_
          refine at_true (t := true) (x := C26 [1, 1, 0, 1, 0, 1, 1, 1, 1, 1, 0]) (y := C26 [1, 1, 0, 1, 0, 1, 1, 1, 1, 1, 1]) (o := .tmp 47) (by kernel_rfl) (by kernel_rfl) (by kernel_rfl) rfl ?_
          refine at_region (id := 8) 4 (by kernel_rfl) (by kernel_rfl) ?_
          refine s_pure 49 (.pointer (some ⟨b1, 2, none⟩)) (by kernel_rfl) (by kernel_rfl) (fun _ => by kernel_rfl) ?_
          refine s_load 50 (.int .i64 pt) (by kernel_rfl) (by kernel_rfl) (load1 (off := 2) (fun _ => by kernel_rfl) (holds_own (.there (.there (.there .here)))) (by kernel_rfl)) ?_
          refine s_pure 51 (.pointer (some ⟨b3, 2, none⟩)) (by kernel_rfl) (by kernel_rfl) (fun _ => by kernel_rfl) ?_
          refine s_do (by kernel_rfl) (by kernel_rfl) (st_store (off := 2) (vs := [.int .i64 pt]) (c' := #[.int .i64 (1 + (pk % 9)), .int .i64 (pf % 4), .int .i64 pt, .int .i64 (pid % 5), .int .i64 (pl % 4), .int .i64 ((pp % 5) - 1), .int .i64 (ps % 3), .bool pfl, .slice a1 m1 c1]) (fun _ => by kernel_rfl) .here (by kernel_rfl) (by kernel_rfl) (by kernel_rfl)) ?_
          rintro _ _ ⟨rfl, rfl⟩
          refine ops_end ?_
          refine At.env [(0, .agg #[.int .i64 pk, .int .i64 pf, .int .i64 pt, .int .i64 pid, .int .i64 pl, .int .i64 pp, .int .i64 ps, .bool pfl, .slice pa pm pc]), (1, .int .i64 hw), (2, .pointer (some ⟨b1, 0, none⟩)), (4, .pointer (some ⟨b2, 0, none⟩)), (5, .pointer (some ⟨b3, 0, none⟩)), (36, .int .i64 (hw % 40)), (37, .bool false), (42, .bool false), (47, .bool true)] ⟨by kernel_rfl, by kernel_rfl, by kernel_rfl, by kernel_rfl, by kernel_rfl, by kernel_rfl, by kernel_rfl, by kernel_rfl, by kernel_rfl, trivial⟩ ?_
          refine at_in_normal ?_
          refine at_then_normal ?_
          refine at_seq (x := C26 [1, 1, 1, 0]) (y := C26 [1, 1, 1, 1]) (by kernel_rfl) ?_
          refine at_region (id := 21) 2 (by kernel_rfl) (by kernel_rfl) ?_
          refine s_load 84 (.agg #[.int .i64 (1 + (pk % 9)), .int .i64 (pf % 4), .int .i64 pt, .int .i64 (pid % 5), .int .i64 (pl % 4), .int .i64 ((pp % 5) - 1), .int .i64 (ps % 3), .bool pfl, .slice a1 m1 c1]) (by kernel_rfl) (by kernel_rfl) (loadN (off := 0) (vs := [.int .i64 (1 + (pk % 9)), .int .i64 (pf % 4), .int .i64 pt, .int .i64 (pid % 5), .int .i64 (pl % 4), .int .i64 ((pp % 5) - 1), .int .i64 (ps % 3), .bool pfl, .slice a1 m1 c1]) 9 (fun _ => by kernel_rfl) (holds_own .here) rfl (by exact ⟨rfl, rfl, rfl, rfl, rfl, rfl, rfl, rfl, rfl, trivial⟩)) ?_
          refine s_do (by kernel_rfl) (by kernel_rfl) (st_store (off := 0) (vs := [.int .i64 (1 + (pk % 9)), .int .i64 (pf % 4), .int .i64 pt, .int .i64 (pid % 5), .int .i64 (pl % 4), .int .i64 ((pp % 5) - 1), .int .i64 (ps % 3), .bool pfl, .slice a1 m1 c1]) (c' := #[.int .i64 (1 + (pk % 9)), .int .i64 (pf % 4), .int .i64 pt, .int .i64 (pid % 5), .int .i64 (pl % 4), .int .i64 ((pp % 5) - 1), .int .i64 (ps % 3), .bool pfl, .slice a1 m1 c1]) (fun _ => by kernel_rfl) (.there (.there .here)) (by kernel_rfl) (by kernel_rfl) (by kernel_rfl)) ?_
          rintro _ _ ⟨rfl, rfl⟩
          refine ops_end ?_
          refine At.env [(0, .agg #[.int .i64 pk, .int .i64 pf, .int .i64 pt, .int .i64 pid, .int .i64 pl, .int .i64 pp, .int .i64 ps, .bool pfl, .slice pa pm pc]), (1, .int .i64 hw), (2, .pointer (some ⟨b1, 0, none⟩)), (4, .pointer (some ⟨b2, 0, none⟩)), (5, .pointer (some ⟨b3, 0, none⟩)), (36, .int .i64 (hw % 40)), (37, .bool false), (42, .bool false), (47, .bool true)] ⟨by kernel_rfl, by kernel_rfl, by kernel_rfl, by kernel_rfl, by kernel_rfl, by kernel_rfl, by kernel_rfl, by kernel_rfl, by kernel_rfl, trivial⟩ ?_
          refine at_then_normal ?_
          refine at_ret (by kernel_rfl) ?_
          refine at_backR [.agg #[.int .i64 (1 + (pk % 9)), .int .i64 (pf % 4), .int .i64 pt, .int .i64 (pid % 5), .int .i64 (pl % 4), .int .i64 ((pp % 5) - 1), .int .i64 (ps % 3), .bool pfl, .slice a1 m1 c1]] ((IntsA a1 c1 (xs.take 4)) :: Γ) (rs := [.cell 4 38]) (by kernel_rfl) (.cons (.cell (by kernel_rfl) (retN (off := 0) (vs := [.int .i64 (1 + (pk % 9)), .int .i64 (pf % 4), .int .i64 pt, .int .i64 (pid % 5), .int .i64 (pl % 4), .int .i64 ((pp % 5) - 1), .int .i64 (ps % 3), .bool pfl, .slice a1 m1 c1]) 9 (fun _ => by kernel_rfl) (holds_own .here) rfl (by exact ⟨rfl, rfl, rfl, rfl, rfl, rfl, rfl, rfl, rfl, trivial⟩))) .nil) (fun w hw => hw.less (.take (.there (.there .here)) (.drop .here (.drop .here (.drop .here .refl))))) ?_
          exact ⟨_, _, _, _, _, _, _, _, _, _, _, _, rfl, by assumption, rfl⟩
        · refine s_pure 48 (.bool false) (by kernel_rfl) (by kernel_rfl) (run_eq (v := .bool (decide ((hw % 40) = (33 : Int)))) (fun _ => by kernel_rfl) (congrArg Value.bool (by rw [decide_eq_false h3]))) ?_
          refine s_pure 47 (.bool false) (by kernel_rfl) (by kernel_rfl) (fun _ => by kernel_rfl) ?_
          refine ops_end ?_
          refine At.env [(0, .agg #[.int .i64 pk, .int .i64 pf, .int .i64 pt, .int .i64 pid, .int .i64 pl, .int .i64 pp, .int .i64 ps, .bool pfl, .slice pa pm pc]), (1, .int .i64 hw), (2, .pointer (some ⟨b1, 0, none⟩)), (4, .pointer (some ⟨b2, 0, none⟩)), (5, .pointer (some ⟨b3, 0, none⟩)), (36, .int .i64 (hw % 40)), (37, .bool false), (42, .bool false), (47, .bool false)] ⟨by kernel_rfl, by kernel_rfl, by kernel_rfl, by kernel_rfl, by kernel_rfl, by kernel_rfl, by kernel_rfl, by kernel_rfl, by kernel_rfl, trivial⟩ ?_
          refine at_then_normal ?_
          refine at_false (t := false) (x := C26 [1, 1, 0, 1, 0, 1, 1, 1, 1, 1, 0]) (y := C26 [1, 1, 0, 1, 0, 1, 1, 1, 1, 1, 1]) (o := .tmp 47) (by kernel_rfl) (by kernel_rfl) (by kernel_rfl) rfl ?_
          refine at_seq (x := C26 [1, 1, 0, 1, 0, 1, 1, 1, 1, 1, 1, 0]) (y := C26 [1, 1, 0, 1, 0, 1, 1, 1, 1, 1, 1, 1]) (by kernel_rfl) ?_
          refine at_region (id := 9) 2 (by kernel_rfl) (by kernel_rfl) ?_
          rcases Decidable.em ((hw % 40) = (34 : Int)) with h4 | h4
          · refine s_pure 53 (.bool true) (by kernel_rfl) (by kernel_rfl) (run_eq (v := .bool (decide ((hw % 40) = (34 : Int)))) (fun _ => by kernel_rfl) (congrArg Value.bool (by rw [decide_eq_true h4]))) ?_
            refine s_pure 52 (.bool true) (by kernel_rfl) (by kernel_rfl) (fun _ => by kernel_rfl) ?_
            refine ops_end ?_
            refine At.env [(0, .agg #[.int .i64 pk, .int .i64 pf, .int .i64 pt, .int .i64 pid, .int .i64 pl, .int .i64 pp, .int .i64 ps, .bool pfl, .slice pa pm pc]), (1, .int .i64 hw), (2, .pointer (some ⟨b1, 0, none⟩)), (4, .pointer (some ⟨b2, 0, none⟩)), (5, .pointer (some ⟨b3, 0, none⟩)), (36, .int .i64 (hw % 40)), (37, .bool false), (42, .bool false), (47, .bool false), (52, .bool true)] ⟨by kernel_rfl, by kernel_rfl, by kernel_rfl, by kernel_rfl, by kernel_rfl, by kernel_rfl, by kernel_rfl, by kernel_rfl, by kernel_rfl, by kernel_rfl, trivial⟩ ?_
            refine at_then_normal ?_
            refine at_true (t := true) (x := C26 [1, 1, 0, 1, 0, 1, 1, 1, 1, 1, 1, 1, 0]) (y := C26 [1, 1, 0, 1, 0, 1, 1, 1, 1, 1, 1, 1, 1]) (o := .tmp 52) (by kernel_rfl) (by kernel_rfl) (by kernel_rfl) rfl ?_
            refine at_region (id := 10) 4 (by kernel_rfl) (by kernel_rfl) ?_
            refine s_pure 54 (.pointer (some ⟨b1, 3, none⟩)) (by kernel_rfl) (by kernel_rfl) (fun _ => by kernel_rfl) ?_
            refine s_load 55 (.int .i64 pid) (by kernel_rfl) (by kernel_rfl) (load1 (off := 3) (fun _ => by kernel_rfl) (holds_own (.there (.there (.there .here)))) (by kernel_rfl)) ?_
            refine s_pure 56 (.pointer (some ⟨b3, 3, none⟩)) (by kernel_rfl) (by kernel_rfl) (fun _ => by kernel_rfl) ?_
            refine s_do (by kernel_rfl) (by kernel_rfl) (st_store (off := 3) (vs := [.int .i64 pid]) (c' := #[.int .i64 (1 + (pk % 9)), .int .i64 (pf % 4), .int .i64 (pt % 4), .int .i64 pid, .int .i64 (pl % 4), .int .i64 ((pp % 5) - 1), .int .i64 (ps % 3), .bool pfl, .slice a1 m1 c1]) (fun _ => by kernel_rfl) .here (by kernel_rfl) (by kernel_rfl) (by kernel_rfl)) ?_
            rintro _ _ ⟨rfl, rfl⟩
            refine ops_end ?_
            refine At.env [(0, .agg #[.int .i64 pk, .int .i64 pf, .int .i64 pt, .int .i64 pid, .int .i64 pl, .int .i64 pp, .int .i64 ps, .bool pfl, .slice pa pm pc]), (1, .int .i64 hw), (2, .pointer (some ⟨b1, 0, none⟩)), (4, .pointer (some ⟨b2, 0, none⟩)), (5, .pointer (some ⟨b3, 0, none⟩)), (36, .int .i64 (hw % 40)), (37, .bool false), (42, .bool false), (47, .bool false), (52, .bool true)] ⟨by kernel_rfl, by kernel_rfl, by kernel_rfl, by kernel_rfl, by kernel_rfl, by kernel_rfl, by kernel_rfl, by kernel_rfl, by kernel_rfl, by kernel_rfl, trivial⟩ ?_
            refine at_in_normal ?_
            refine at_then_normal ?_
            refine at_seq (x := C26 [1, 1, 1, 0]) (y := C26 [1, 1, 1, 1]) (by kernel_rfl) ?_
            refine at_region (id := 21) 2 (by kernel_rfl) (by kernel_rfl) ?_
            refine s_load 84 (.agg #[.int .i64 (1 + (pk % 9)), .int .i64 (pf % 4), .int .i64 (pt % 4), .int .i64 pid, .int .i64 (pl % 4), .int .i64 ((pp % 5) - 1), .int .i64 (ps % 3), .bool pfl, .slice a1 m1 c1]) (by kernel_rfl) (by kernel_rfl) (loadN (off := 0) (vs := [.int .i64 (1 + (pk % 9)), .int .i64 (pf % 4), .int .i64 (pt % 4), .int .i64 pid, .int .i64 (pl % 4), .int .i64 ((pp % 5) - 1), .int .i64 (ps % 3), .bool pfl, .slice a1 m1 c1]) 9 (fun _ => by kernel_rfl) (holds_own .here) rfl (by exact ⟨rfl, rfl, rfl, rfl, rfl, rfl, rfl, rfl, rfl, trivial⟩)) ?_
            refine s_do (by kernel_rfl) (by kernel_rfl) (st_store (off := 0) (vs := [.int .i64 (1 + (pk % 9)), .int .i64 (pf % 4), .int .i64 (pt % 4), .int .i64 pid, .int .i64 (pl % 4), .int .i64 ((pp % 5) - 1), .int .i64 (ps % 3), .bool pfl, .slice a1 m1 c1]) (c' := #[.int .i64 (1 + (pk % 9)), .int .i64 (pf % 4), .int .i64 (pt % 4), .int .i64 pid, .int .i64 (pl % 4), .int .i64 ((pp % 5) - 1), .int .i64 (ps % 3), .bool pfl, .slice a1 m1 c1]) (fun _ => by kernel_rfl) (.there (.there .here)) (by kernel_rfl) (by kernel_rfl) (by kernel_rfl)) ?_
            rintro _ _ ⟨rfl, rfl⟩
            refine ops_end ?_
            refine At.env [(0, .agg #[.int .i64 pk, .int .i64 pf, .int .i64 pt, .int .i64 pid, .int .i64 pl, .int .i64 pp, .int .i64 ps, .bool pfl, .slice pa pm pc]), (1, .int .i64 hw), (2, .pointer (some ⟨b1, 0, none⟩)), (4, .pointer (some ⟨b2, 0, none⟩)), (5, .pointer (some ⟨b3, 0, none⟩)), (36, .int .i64 (hw % 40)), (37, .bool false), (42, .bool false), (47, .bool false), (52, .bool true)] ⟨by kernel_rfl, by kernel_rfl, by kernel_rfl, by kernel_rfl, by kernel_rfl, by kernel_rfl, by kernel_rfl, by kernel_rfl, by kernel_rfl, by kernel_rfl, trivial⟩ ?_
            refine at_then_normal ?_
            refine at_ret (by kernel_rfl) ?_
            refine at_backR [.agg #[.int .i64 (1 + (pk % 9)), .int .i64 (pf % 4), .int .i64 (pt % 4), .int .i64 pid, .int .i64 (pl % 4), .int .i64 ((pp % 5) - 1), .int .i64 (ps % 3), .bool pfl, .slice a1 m1 c1]] ((IntsA a1 c1 (xs.take 4)) :: Γ) (rs := [.cell 4 38]) (by kernel_rfl) (.cons (.cell (by kernel_rfl) (retN (off := 0) (vs := [.int .i64 (1 + (pk % 9)), .int .i64 (pf % 4), .int .i64 (pt % 4), .int .i64 pid, .int .i64 (pl % 4), .int .i64 ((pp % 5) - 1), .int .i64 (ps % 3), .bool pfl, .slice a1 m1 c1]) 9 (fun _ => by kernel_rfl) (holds_own .here) rfl (by exact ⟨rfl, rfl, rfl, rfl, rfl, rfl, rfl, rfl, rfl, trivial⟩))) .nil) (fun w hw => hw.less (.take (.there (.there .here)) (.drop .here (.drop .here (.drop .here .refl))))) ?_
            exact ⟨_, _, _, _, _, _, _, _, _, _, _, _, rfl, by assumption, rfl⟩
          · refine s_pure 53 (.bool false) (by kernel_rfl) (by kernel_rfl) (run_eq (v := .bool (decide ((hw % 40) = (34 : Int)))) (fun _ => by kernel_rfl) (congrArg Value.bool (by rw [decide_eq_false h4]))) ?_
            refine s_pure 52 (.bool false) (by kernel_rfl) (by kernel_rfl) (fun _ => by kernel_rfl) ?_
            refine ops_end ?_
            refine At.env [(0, .agg #[.int .i64 pk, .int .i64 pf, .int .i64 pt, .int .i64 pid, .int .i64 pl, .int .i64 pp, .int .i64 ps, .bool pfl, .slice pa pm pc]), (1, .int .i64 hw), (2, .pointer (some ⟨b1, 0, none⟩)), (4, .pointer (some ⟨b2, 0, none⟩)), (5, .pointer (some ⟨b3, 0, none⟩)), (36, .int .i64 (hw % 40)), (37, .bool false), (42, .bool false), (47, .bool false), (52, .bool false)] ⟨by kernel_rfl, by kernel_rfl, by kernel_rfl, by kernel_rfl, by kernel_rfl, by kernel_rfl, by kernel_rfl, by kernel_rfl, by kernel_rfl, by kernel_rfl, trivial⟩ ?_
            refine at_then_normal ?_
            refine at_false (t := false) (x := C26 [1, 1, 0, 1, 0, 1, 1, 1, 1, 1, 1, 1, 0]) (y := C26 [1, 1, 0, 1, 0, 1, 1, 1, 1, 1, 1, 1, 1]) (o := .tmp 52) (by kernel_rfl) (by kernel_rfl) (by kernel_rfl) rfl ?_
            refine at_seq (x := C26 [1, 1, 0, 1, 0, 1, 1, 1, 1, 1, 1, 1, 1, 0]) (y := C26 [1, 1, 0, 1, 0, 1, 1, 1, 1, 1, 1, 1, 1, 1]) (by kernel_rfl) ?_
            refine at_region (id := 11) 2 (by kernel_rfl) (by kernel_rfl) ?_
            rcases Decidable.em ((hw % 40) = (35 : Int)) with h5 | h5
            · refine s_pure 58 (.bool true) (by kernel_rfl) (by kernel_rfl) (run_eq (v := .bool (decide ((hw % 40) = (35 : Int)))) (fun _ => by kernel_rfl) (congrArg Value.bool (by rw [decide_eq_true h5]))) ?_
              refine s_pure 57 (.bool true) (by kernel_rfl) (by kernel_rfl) (fun _ => by kernel_rfl) ?_
              refine ops_end ?_
              refine At.env [(0, .agg #[.int .i64 pk, .int .i64 pf, .int .i64 pt, .int .i64 pid, .int .i64 pl, .int .i64 pp, .int .i64 ps, .bool pfl, .slice pa pm pc]), (1, .int .i64 hw), (2, .pointer (some ⟨b1, 0, none⟩)), (4, .pointer (some ⟨b2, 0, none⟩)), (5, .pointer (some ⟨b3, 0, none⟩)), (36, .int .i64 (hw % 40)), (37, .bool false), (42, .bool false), (47, .bool false), (52, .bool false), (57, .bool true)] ⟨by kernel_rfl, by kernel_rfl, by kernel_rfl, by kernel_rfl, by kernel_rfl, by kernel_rfl, by kernel_rfl, by kernel_rfl, by kernel_rfl, by kernel_rfl, by kernel_rfl, trivial⟩ ?_
              refine at_then_normal ?_
              refine at_true (t := true) (x := C26 [1, 1, 0, 1, 0, 1, 1, 1, 1, 1, 1, 1, 1, 1, 0]) (y := C26 [1, 1, 0, 1, 0, 1, 1, 1, 1, 1, 1, 1, 1, 1, 1]) (o := .tmp 57) (by kernel_rfl) (by kernel_rfl) (by kernel_rfl) rfl ?_
              refine at_region (id := 12) 4 (by kernel_rfl) (by kernel_rfl) ?_
              refine s_pure 59 (.pointer (some ⟨b1, 4, none⟩)) (by kernel_rfl) (by kernel_rfl) (fun _ => by kernel_rfl) ?_
              refine s_load 60 (.int .i64 pl) (by kernel_rfl) (by kernel_rfl) (load1 (off := 4) (fun _ => by kernel_rfl) (holds_own (.there (.there (.there .here)))) (by kernel_rfl)) ?_
              refine s_pure 61 (.pointer (some ⟨b3, 4, none⟩)) (by kernel_rfl) (by kernel_rfl) (fun _ => by kernel_rfl) ?_
              refine s_do (by kernel_rfl) (by kernel_rfl) (st_store (off := 4) (vs := [.int .i64 pl]) (c' := #[.int .i64 (1 + (pk % 9)), .int .i64 (pf % 4), .int .i64 (pt % 4), .int .i64 (pid % 5), .int .i64 pl, .int .i64 ((pp % 5) - 1), .int .i64 (ps % 3), .bool pfl, .slice a1 m1 c1]) (fun _ => by kernel_rfl) .here (by kernel_rfl) (by kernel_rfl) (by kernel_rfl)) ?_
              rintro _ _ ⟨rfl, rfl⟩
              refine ops_end ?_
              refine At.env [(0, .agg #[.int .i64 pk, .int .i64 pf, .int .i64 pt, .int .i64 pid, .int .i64 pl, .int .i64 pp, .int .i64 ps, .bool pfl, .slice pa pm pc]), (1, .int .i64 hw), (2, .pointer (some ⟨b1, 0, none⟩)), (4, .pointer (some ⟨b2, 0, none⟩)), (5, .pointer (some ⟨b3, 0, none⟩)), (36, .int .i64 (hw % 40)), (37, .bool false), (42, .bool false), (47, .bool false), (52, .bool false), (57, .bool true)] ⟨by kernel_rfl, by kernel_rfl, by kernel_rfl, by kernel_rfl, by kernel_rfl, by kernel_rfl, by kernel_rfl, by kernel_rfl, by kernel_rfl, by kernel_rfl, by kernel_rfl, trivial⟩ ?_
              refine at_in_normal ?_
              refine at_then_normal ?_
              refine at_seq (x := C26 [1, 1, 1, 0]) (y := C26 [1, 1, 1, 1]) (by kernel_rfl) ?_
              refine at_region (id := 21) 2 (by kernel_rfl) (by kernel_rfl) ?_
              refine s_load 84 (.agg #[.int .i64 (1 + (pk % 9)), .int .i64 (pf % 4), .int .i64 (pt % 4), .int .i64 (pid % 5), .int .i64 pl, .int .i64 ((pp % 5) - 1), .int .i64 (ps % 3), .bool pfl, .slice a1 m1 c1]) (by kernel_rfl) (by kernel_rfl) (loadN (off := 0) (vs := [.int .i64 (1 + (pk % 9)), .int .i64 (pf % 4), .int .i64 (pt % 4), .int .i64 (pid % 5), .int .i64 pl, .int .i64 ((pp % 5) - 1), .int .i64 (ps % 3), .bool pfl, .slice a1 m1 c1]) 9 (fun _ => by kernel_rfl) (holds_own .here) rfl (by exact ⟨rfl, rfl, rfl, rfl, rfl, rfl, rfl, rfl, rfl, trivial⟩)) ?_
              refine s_do (by kernel_rfl) (by kernel_rfl) (st_store (off := 0) (vs := [.int .i64 (1 + (pk % 9)), .int .i64 (pf % 4), .int .i64 (pt % 4), .int .i64 (pid % 5), .int .i64 pl, .int .i64 ((pp % 5) - 1), .int .i64 (ps % 3), .bool pfl, .slice a1 m1 c1]) (c' := #[.int .i64 (1 + (pk % 9)), .int .i64 (pf % 4), .int .i64 (pt % 4), .int .i64 (pid % 5), .int .i64 pl, .int .i64 ((pp % 5) - 1), .int .i64 (ps % 3), .bool pfl, .slice a1 m1 c1]) (fun _ => by kernel_rfl) (.there (.there .here)) (by kernel_rfl) (by kernel_rfl) (by kernel_rfl)) ?_
              rintro _ _ ⟨rfl, rfl⟩
              refine ops_end ?_
              refine At.env [(0, .agg #[.int .i64 pk, .int .i64 pf, .int .i64 pt, .int .i64 pid, .int .i64 pl, .int .i64 pp, .int .i64 ps, .bool pfl, .slice pa pm pc]), (1, .int .i64 hw), (2, .pointer (some ⟨b1, 0, none⟩)), (4, .pointer (some ⟨b2, 0, none⟩)), (5, .pointer (some ⟨b3, 0, none⟩)), (36, .int .i64 (hw % 40)), (37, .bool false), (42, .bool false), (47, .bool false), (52, .bool false), (57, .bool true)] ⟨by kernel_rfl, by kernel_rfl, by kernel_rfl, by kernel_rfl, by kernel_rfl, by kernel_rfl, by kernel_rfl, by kernel_rfl, by kernel_rfl, by kernel_rfl, by kernel_rfl, trivial⟩ ?_
              refine at_then_normal ?_
              refine at_ret (by kernel_rfl) ?_
              refine at_backR [.agg #[.int .i64 (1 + (pk % 9)), .int .i64 (pf % 4), .int .i64 (pt % 4), .int .i64 (pid % 5), .int .i64 pl, .int .i64 ((pp % 5) - 1), .int .i64 (ps % 3), .bool pfl, .slice a1 m1 c1]] ((IntsA a1 c1 (xs.take 4)) :: Γ) (rs := [.cell 4 38]) (by kernel_rfl) (.cons (.cell (by kernel_rfl) (retN (off := 0) (vs := [.int .i64 (1 + (pk % 9)), .int .i64 (pf % 4), .int .i64 (pt % 4), .int .i64 (pid % 5), .int .i64 pl, .int .i64 ((pp % 5) - 1), .int .i64 (ps % 3), .bool pfl, .slice a1 m1 c1]) 9 (fun _ => by kernel_rfl) (holds_own .here) rfl (by exact ⟨rfl, rfl, rfl, rfl, rfl, rfl, rfl, rfl, rfl, trivial⟩))) .nil) (fun w hw => hw.less (.take (.there (.there .here)) (.drop .here (.drop .here (.drop .here .refl))))) ?_
              exact ⟨_, _, _, _, _, _, _, _, _, _, _, _, rfl, by assumption, rfl⟩
            · refine s_pure 58 (.bool false) (by kernel_rfl) (by kernel_rfl) (run_eq (v := .bool (decide ((hw % 40) = (35 : Int)))) (fun _ => by kernel_rfl) (congrArg Value.bool (by rw [decide_eq_false h5]))) ?_
              refine s_pure 57 (.bool false) (by kernel_rfl) (by kernel_rfl) (fun _ => by kernel_rfl) ?_
              refine ops_end ?_
              refine At.env [(0, .agg #[.int .i64 pk, .int .i64 pf, .int .i64 pt, .int .i64 pid, .int .i64 pl, .int .i64 pp, .int .i64 ps, .bool pfl, .slice pa pm pc]), (1, .int .i64 hw), (2, .pointer (some ⟨b1, 0, none⟩)), (4, .pointer (some ⟨b2, 0, none⟩)), (5, .pointer (some ⟨b3, 0, none⟩)), (36, .int .i64 (hw % 40)), (37, .bool false), (42, .bool false), (47, .bool false), (52, .bool false), (57, .bool false)] ⟨by kernel_rfl, by kernel_rfl, by kernel_rfl, by kernel_rfl, by kernel_rfl, by kernel_rfl, by kernel_rfl, by kernel_rfl, by kernel_rfl, by kernel_rfl, by kernel_rfl, trivial⟩ ?_
              refine at_then_normal ?_
              refine at_false (t := false) (x := C26 [1, 1, 0, 1, 0, 1, 1, 1, 1, 1, 1, 1, 1, 1, 0]) (y := C26 [1, 1, 0, 1, 0, 1, 1, 1, 1, 1, 1, 1, 1, 1, 1]) (o := .tmp 57) (by kernel_rfl) (by kernel_rfl) (by kernel_rfl) rfl ?_
              refine at_seq (x := C26 [1, 1, 0, 1, 0, 1, 1, 1, 1, 1, 1, 1, 1, 1, 1, 0]) (y := C26 [1, 1, 0, 1, 0, 1, 1, 1, 1, 1, 1, 1, 1, 1, 1, 1]) (by kernel_rfl) ?_
              refine at_region (id := 13) 2 (by kernel_rfl) (by kernel_rfl) ?_
              rcases Decidable.em ((hw % 40) = (36 : Int)) with h6 | h6
              · refine s_pure 63 (.bool true) (by kernel_rfl) (by kernel_rfl) (run_eq (v := .bool (decide ((hw % 40) = (36 : Int)))) (fun _ => by kernel_rfl) (congrArg Value.bool (by rw [decide_eq_true h6]))) ?_
                refine s_pure 62 (.bool true) (by kernel_rfl) (by kernel_rfl) (fun _ => by kernel_rfl) ?_
                refine ops_end ?_
                refine At.env [(0, .agg #[.int .i64 pk, .int .i64 pf, .int .i64 pt, .int .i64 pid, .int .i64 pl, .int .i64 pp, .int .i64 ps, .bool pfl, .slice pa pm pc]), (1, .int .i64 hw), (2, .pointer (some ⟨b1, 0, none⟩)), (4, .pointer (some ⟨b2, 0, none⟩)), (5, .pointer (some ⟨b3, 0, none⟩)), (36, .int .i64 (hw % 40)), (37, .bool false), (42, .bool false), (47, .bool false), (52, .bool false), (57, .bool false), (62, .bool true)] ⟨by kernel_rfl, by kernel_rfl, by kernel_rfl, by kernel_rfl, by kernel_rfl, by kernel_rfl, by kernel_rfl, by kernel_rfl, by kernel_rfl, by kernel_rfl, by kernel_rfl, by kernel_rfl, trivial⟩ ?_
                refine at_then_normal ?_
                refine at_true (t := true) (x := C26 [1, 1, 0, 1, 0, 1, 1, 1, 1, 1, 1, 1, 1, 1, 1, 1, 0]) (y := C26 [1, 1, 0, 1, 0, 1, 1, 1, 1, 1, 1, 1, 1, 1, 1, 1, 1]) (o := .tmp 62) (by kernel_rfl) (by kernel_rfl) (by kernel_rfl) rfl ?_
                refine at_region (id := 14) 4 (by kernel_rfl) (by kernel_rfl) ?_
                refine s_pure 64 (.pointer (some ⟨b1, 5, none⟩)) (by kernel_rfl) (by kernel_rfl) (fun _ => by kernel_rfl) ?_
                refine s_load 65 (.int .i64 pp) (by kernel_rfl) (by kernel_rfl) (load1 (off := 5) (fun _ => by kernel_rfl) (holds_own (.there (.there (.there .here)))) (by kernel_rfl)) ?_
                refine s_pure 66 (.pointer (some ⟨b3, 5, none⟩)) (by kernel_rfl) (by kernel_rfl) (fun _ => by kernel_rfl) ?_
                refine s_do (by kernel_rfl) (by kernel_rfl) (st_store (off := 5) (vs := [.int .i64 pp]) (c' := #[.int .i64 (1 + (pk % 9)), .int .i64 (pf % 4), .int .i64 (pt % 4), .int .i64 (pid % 5), .int .i64 (pl % 4), .int .i64 pp, .int .i64 (ps % 3), .bool pfl, .slice a1 m1 c1]) (fun _ => by kernel_rfl) .here (by kernel_rfl) (by kernel_rfl) (by kernel_rfl)) ?_
                rintro _ _ ⟨rfl, rfl⟩
                refine ops_end ?_
                refine At.env [(0, .agg #[.int .i64 pk, .int .i64 pf, .int .i64 pt, .int .i64 pid, .int .i64 pl, .int .i64 pp, .int .i64 ps, .bool pfl, .slice pa pm pc]), (1, .int .i64 hw), (2, .pointer (some ⟨b1, 0, none⟩)), (4, .pointer (some ⟨b2, 0, none⟩)), (5, .pointer (some ⟨b3, 0, none⟩)), (36, .int .i64 (hw % 40)), (37, .bool false), (42, .bool false), (47, .bool false), (52, .bool false), (57, .bool false), (62, .bool true)] ⟨by kernel_rfl, by kernel_rfl, by kernel_rfl, by kernel_rfl, by kernel_rfl, by kernel_rfl, by kernel_rfl, by kernel_rfl, by kernel_rfl, by kernel_rfl, by kernel_rfl, by kernel_rfl, trivial⟩ ?_
                refine at_in_normal ?_
                refine at_then_normal ?_
                refine at_seq (x := C26 [1, 1, 1, 0]) (y := C26 [1, 1, 1, 1]) (by kernel_rfl) ?_
                refine at_region (id := 21) 2 (by kernel_rfl) (by kernel_rfl) ?_
                refine s_load 84 (.agg #[.int .i64 (1 + (pk % 9)), .int .i64 (pf % 4), .int .i64 (pt % 4), .int .i64 (pid % 5), .int .i64 (pl % 4), .int .i64 pp, .int .i64 (ps % 3), .bool pfl, .slice a1 m1 c1]) (by kernel_rfl) (by kernel_rfl) (loadN (off := 0) (vs := [.int .i64 (1 + (pk % 9)), .int .i64 (pf % 4), .int .i64 (pt % 4), .int .i64 (pid % 5), .int .i64 (pl % 4), .int .i64 pp, .int .i64 (ps % 3), .bool pfl, .slice a1 m1 c1]) 9 (fun _ => by kernel_rfl) (holds_own .here) rfl (by exact ⟨rfl, rfl, rfl, rfl, rfl, rfl, rfl, rfl, rfl, trivial⟩)) ?_
                refine s_do (by kernel_rfl) (by kernel_rfl) (st_store (off := 0) (vs := [.int .i64 (1 + (pk % 9)), .int .i64 (pf % 4), .int .i64 (pt % 4), .int .i64 (pid % 5), .int .i64 (pl % 4), .int .i64 pp, .int .i64 (ps % 3), .bool pfl, .slice a1 m1 c1]) (c' := #[.int .i64 (1 + (pk % 9)), .int .i64 (pf % 4), .int .i64 (pt % 4), .int .i64 (pid % 5), .int .i64 (pl % 4), .int .i64 pp, .int .i64 (ps % 3), .bool pfl, .slice a1 m1 c1]) (fun _ => by kernel_rfl) (.there (.there .here)) (by kernel_rfl) (by kernel_rfl) (by kernel_rfl)) ?_
                rintro _ _ ⟨rfl, rfl⟩
                refine ops_end ?_
                refine At.env [(0, .agg #[.int .i64 pk, .int .i64 pf, .int .i64 pt, .int .i64 pid, .int .i64 pl, .int .i64 pp, .int .i64 ps, .bool pfl, .slice pa pm pc]), (1, .int .i64 hw), (2, .pointer (some ⟨b1, 0, none⟩)), (4, .pointer (some ⟨b2, 0, none⟩)), (5, .pointer (some ⟨b3, 0, none⟩)), (36, .int .i64 (hw % 40)), (37, .bool false), (42, .bool false), (47, .bool false), (52, .bool false), (57, .bool false), (62, .bool true)] ⟨by kernel_rfl, by kernel_rfl, by kernel_rfl, by kernel_rfl, by kernel_rfl, by kernel_rfl, by kernel_rfl, by kernel_rfl, by kernel_rfl, by kernel_rfl, by kernel_rfl, by kernel_rfl, trivial⟩ ?_
                refine at_then_normal ?_
                refine at_ret (by kernel_rfl) ?_
                refine at_backR [.agg #[.int .i64 (1 + (pk % 9)), .int .i64 (pf % 4), .int .i64 (pt % 4), .int .i64 (pid % 5), .int .i64 (pl % 4), .int .i64 pp, .int .i64 (ps % 3), .bool pfl, .slice a1 m1 c1]] ((IntsA a1 c1 (xs.take 4)) :: Γ) (rs := [.cell 4 38]) (by kernel_rfl) (.cons (.cell (by kernel_rfl) (retN (off := 0) (vs := [.int .i64 (1 + (pk % 9)), .int .i64 (pf % 4), .int .i64 (pt % 4), .int .i64 (pid % 5), .int .i64 (pl % 4), .int .i64 pp, .int .i64 (ps % 3), .bool pfl, .slice a1 m1 c1]) 9 (fun _ => by kernel_rfl) (holds_own .here) rfl (by exact ⟨rfl, rfl, rfl, rfl, rfl, rfl, rfl, rfl, rfl, trivial⟩))) .nil) (fun w hw => hw.less (.take (.there (.there .here)) (.drop .here (.drop .here (.drop .here .refl))))) ?_
                exact ⟨_, _, _, _, _, _, _, _, _, _, _, _, rfl, by assumption, rfl⟩
              · refine s_pure 63 (.bool false) (by kernel_rfl) (by kernel_rfl) (run_eq (v := .bool (decide ((hw % 40) = (36 : Int)))) (fun _ => by kernel_rfl) (congrArg Value.bool (by rw [decide_eq_false h6]))) ?_
                refine s_pure 62 (.bool false) (by kernel_rfl) (by kernel_rfl) (fun _ => by kernel_rfl) ?_
                refine ops_end ?_
                refine At.env [(0, .agg #[.int .i64 pk, .int .i64 pf, .int .i64 pt, .int .i64 pid, .int .i64 pl, .int .i64 pp, .int .i64 ps, .bool pfl, .slice pa pm pc]), (1, .int .i64 hw), (2, .pointer (some ⟨b1, 0, none⟩)), (4, .pointer (some ⟨b2, 0, none⟩)), (5, .pointer (some ⟨b3, 0, none⟩)), (36, .int .i64 (hw % 40)), (37, .bool false), (42, .bool false), (47, .bool false), (52, .bool false), (57, .bool false), (62, .bool false)] ⟨by kernel_rfl, by kernel_rfl, by kernel_rfl, by kernel_rfl, by kernel_rfl, by kernel_rfl, by kernel_rfl, by kernel_rfl, by kernel_rfl, by kernel_rfl, by kernel_rfl, by kernel_rfl, trivial⟩ ?_
                refine at_then_normal ?_
                refine at_false (t := false) (x := C26 [1, 1, 0, 1, 0, 1, 1, 1, 1, 1, 1, 1, 1, 1, 1, 1, 0]) (y := C26 [1, 1, 0, 1, 0, 1, 1, 1, 1, 1, 1, 1, 1, 1, 1, 1, 1]) (o := .tmp 62) (by kernel_rfl) (by kernel_rfl) (by kernel_rfl) rfl ?_
                refine at_seq (x := C26 [1, 1, 0, 1, 0, 1, 1, 1, 1, 1, 1, 1, 1, 1, 1, 1, 1, 0]) (y := C26 [1, 1, 0, 1, 0, 1, 1, 1, 1, 1, 1, 1, 1, 1, 1, 1, 1, 1]) (by kernel_rfl) ?_
                refine at_region (id := 15) 2 (by kernel_rfl) (by kernel_rfl) ?_
                rcases Decidable.em ((hw % 40) = (37 : Int)) with h7 | h7
                · refine s_pure 68 (.bool true) (by kernel_rfl) (by kernel_rfl) (run_eq (v := .bool (decide ((hw % 40) = (37 : Int)))) (fun _ => by kernel_rfl) (congrArg Value.bool (by rw [decide_eq_true h7]))) ?_
                  refine s_pure 67 (.bool true) (by kernel_rfl) (by kernel_rfl) (fun _ => by kernel_rfl) ?_
                  refine ops_end ?_
                  refine At.env [(0, .agg #[.int .i64 pk, .int .i64 pf, .int .i64 pt, .int .i64 pid, .int .i64 pl, .int .i64 pp, .int .i64 ps, .bool pfl, .slice pa pm pc]), (1, .int .i64 hw), (2, .pointer (some ⟨b1, 0, none⟩)), (4, .pointer (some ⟨b2, 0, none⟩)), (5, .pointer (some ⟨b3, 0, none⟩)), (36, .int .i64 (hw % 40)), (37, .bool false), (42, .bool false), (47, .bool false), (52, .bool false), (57, .bool false), (62, .bool false), (67, .bool true)] ⟨by kernel_rfl, by kernel_rfl, by kernel_rfl, by kernel_rfl, by kernel_rfl, by kernel_rfl, by kernel_rfl, by kernel_rfl, by kernel_rfl, by kernel_rfl, by kernel_rfl, by kernel_rfl, by kernel_rfl, trivial⟩ ?_
                  refine at_then_normal ?_
                  refine at_true (t := true) (x := C26 [1, 1, 0, 1, 0, 1, 1, 1, 1, 1, 1, 1, 1, 1, 1, 1, 1, 1, 0]) (y := C26 [1, 1, 0, 1, 0, 1, 1, 1, 1, 1, 1, 1, 1, 1, 1, 1, 1, 1, 1]) (o := .tmp 67) (by kernel_rfl) (by kernel_rfl) (by kernel_rfl) rfl ?_
                  refine at_region (id := 16) 4 (by kernel_rfl) (by kernel_rfl) ?_
                  refine s_pure 69 (.pointer (some ⟨b1, 6, none⟩)) (by kernel_rfl) (by kernel_rfl) (fun _ => by kernel_rfl) ?_
                  refine s_load 70 (.int .i64 ps) (by kernel_rfl) (by kernel_rfl) (load1 (off := 6) (fun _ => by kernel_rfl) (holds_own (.there (.there (.there .here)))) (by kernel_rfl)) ?_
                  refine s_pure 71 (.pointer (some ⟨b3, 6, none⟩)) (by kernel_rfl) (by kernel_rfl) (fun _ => by kernel_rfl) ?_
                  refine s_do (by kernel_rfl) (by kernel_rfl) (st_store (off := 6) (vs := [.int .i64 ps]) (c' := #[.int .i64 (1 + (pk % 9)), .int .i64 (pf % 4), .int .i64 (pt % 4), .int .i64 (pid % 5), .int .i64 (pl % 4), .int .i64 ((pp % 5) - 1), .int .i64 ps, .bool pfl, .slice a1 m1 c1]) (fun _ => by kernel_rfl) .here (by kernel_rfl) (by kernel_rfl) (by kernel_rfl)) ?_
                  rintro _ _ ⟨rfl, rfl⟩
                  refine ops_end ?_
                  refine At.env [(0, .agg #[.int .i64 pk, .int .i64 pf, .int .i64 pt, .int .i64 pid, .int .i64 pl, .int .i64 pp, .int .i64 ps, .bool pfl, .slice pa pm pc]), (1, .int .i64 hw), (2, .pointer (some ⟨b1, 0, none⟩)), (4, .pointer (some ⟨b2, 0, none⟩)), (5, .pointer (some ⟨b3, 0, none⟩)), (36, .int .i64 (hw % 40)), (37, .bool false), (42, .bool false), (47, .bool false), (52, .bool false), (57, .bool false), (62, .bool false), (67, .bool true)] ⟨by kernel_rfl, by kernel_rfl, by kernel_rfl, by kernel_rfl, by kernel_rfl, by kernel_rfl, by kernel_rfl, by kernel_rfl, by kernel_rfl, by kernel_rfl, by kernel_rfl, by kernel_rfl, by kernel_rfl, trivial⟩ ?_
                  refine at_in_normal ?_
                  refine at_then_normal ?_
                  refine at_seq (x := C26 [1, 1, 1, 0]) (y := C26 [1, 1, 1, 1]) (by kernel_rfl) ?_
                  refine at_region (id := 21) 2 (by kernel_rfl) (by kernel_rfl) ?_
                  refine s_load 84 (.agg #[.int .i64 (1 + (pk % 9)), .int .i64 (pf % 4), .int .i64 (pt % 4), .int .i64 (pid % 5), .int .i64 (pl % 4), .int .i64 ((pp % 5) - 1), .int .i64 ps, .bool pfl, .slice a1 m1 c1]) (by kernel_rfl) (by kernel_rfl) (loadN (off := 0) (vs := [.int .i64 (1 + (pk % 9)), .int .i64 (pf % 4), .int .i64 (pt % 4), .int .i64 (pid % 5), .int .i64 (pl % 4), .int .i64 ((pp % 5) - 1), .int .i64 ps, .bool pfl, .slice a1 m1 c1]) 9 (fun _ => by kernel_rfl) (holds_own .here) rfl (by exact ⟨rfl, rfl, rfl, rfl, rfl, rfl, rfl, rfl, rfl, trivial⟩)) ?_
                  refine s_do (by kernel_rfl) (by kernel_rfl) (st_store (off := 0) (vs := [.int .i64 (1 + (pk % 9)), .int .i64 (pf % 4), .int .i64 (pt % 4), .int .i64 (pid % 5), .int .i64 (pl % 4), .int .i64 ((pp % 5) - 1), .int .i64 ps, .bool pfl, .slice a1 m1 c1]) (c' := #[.int .i64 (1 + (pk % 9)), .int .i64 (pf % 4), .int .i64 (pt % 4), .int .i64 (pid % 5), .int .i64 (pl % 4), .int .i64 ((pp % 5) - 1), .int .i64 ps, .bool pfl, .slice a1 m1 c1]) (fun _ => by kernel_rfl) (.there (.there .here)) (by kernel_rfl) (by kernel_rfl) (by kernel_rfl)) ?_
                  rintro _ _ ⟨rfl, rfl⟩
                  refine ops_end ?_
                  refine At.env [(0, .agg #[.int .i64 pk, .int .i64 pf, .int .i64 pt, .int .i64 pid, .int .i64 pl, .int .i64 pp, .int .i64 ps, .bool pfl, .slice pa pm pc]), (1, .int .i64 hw), (2, .pointer (some ⟨b1, 0, none⟩)), (4, .pointer (some ⟨b2, 0, none⟩)), (5, .pointer (some ⟨b3, 0, none⟩)), (36, .int .i64 (hw % 40)), (37, .bool false), (42, .bool false), (47, .bool false), (52, .bool false), (57, .bool false), (62, .bool false), (67, .bool true)] ⟨by kernel_rfl, by kernel_rfl, by kernel_rfl, by kernel_rfl, by kernel_rfl, by kernel_rfl, by kernel_rfl, by kernel_rfl, by kernel_rfl, by kernel_rfl, by kernel_rfl, by kernel_rfl, by kernel_rfl, trivial⟩ ?_
                  refine at_then_normal ?_
                  refine at_ret (by kernel_rfl) ?_
                  refine at_backR [.agg #[.int .i64 (1 + (pk % 9)), .int .i64 (pf % 4), .int .i64 (pt % 4), .int .i64 (pid % 5), .int .i64 (pl % 4), .int .i64 ((pp % 5) - 1), .int .i64 ps, .bool pfl, .slice a1 m1 c1]] ((IntsA a1 c1 (xs.take 4)) :: Γ) (rs := [.cell 4 38]) (by kernel_rfl) (.cons (.cell (by kernel_rfl) (retN (off := 0) (vs := [.int .i64 (1 + (pk % 9)), .int .i64 (pf % 4), .int .i64 (pt % 4), .int .i64 (pid % 5), .int .i64 (pl % 4), .int .i64 ((pp % 5) - 1), .int .i64 ps, .bool pfl, .slice a1 m1 c1]) 9 (fun _ => by kernel_rfl) (holds_own .here) rfl (by exact ⟨rfl, rfl, rfl, rfl, rfl, rfl, rfl, rfl, rfl, trivial⟩))) .nil) (fun w hw => hw.less (.take (.there (.there .here)) (.drop .here (.drop .here (.drop .here .refl))))) ?_
                  exact ⟨_, _, _, _, _, _, _, _, _, _, _, _, rfl, by assumption, rfl⟩
                · refine s_pure 68 (.bool false) (by kernel_rfl) (by kernel_rfl) (run_eq (v := .bool (decide ((hw % 40) = (37 : Int)))) (fun _ => by kernel_rfl) (congrArg Value.bool (by rw [decide_eq_false h7]))) ?_
                  refine s_pure 67 (.bool false) (by kernel_rfl) (by kernel_rfl) (fun _ => by kernel_rfl) ?_
                  refine ops_end ?_
                  refine At.env [(0, .agg #[.int .i64 pk, .int .i64 pf, .int .i64 pt, .int .i64 pid, .int .i64 pl, .int .i64 pp, .int .i64 ps, .bool pfl, .slice pa pm pc]), (1, .int .i64 hw), (2, .pointer (some ⟨b1, 0, none⟩)), (4, .pointer (some ⟨b2, 0, none⟩)), (5, .pointer (some ⟨b3, 0, none⟩)), (36, .int .i64 (hw % 40)), (37, .bool false), (42, .bool false), (47, .bool false), (52, .bool false), (57, .bool false), (62, .bool false), (67, .bool false)] ⟨by kernel_rfl, by kernel_rfl, by kernel_rfl, by kernel_rfl, by kernel_rfl, by kernel_rfl, by kernel_rfl, by kernel_rfl, by kernel_rfl, by kernel_rfl, by kernel_rfl, by kernel_rfl, by kernel_rfl, trivial⟩ ?_
                  refine at_then_normal ?_
                  refine at_false (t := false) (x := C26 [1, 1, 0, 1, 0, 1, 1, 1, 1, 1, 1, 1, 1, 1, 1, 1, 1, 1, 0]) (y := C26 [1, 1, 0, 1, 0, 1, 1, 1, 1, 1, 1, 1, 1, 1, 1, 1, 1, 1, 1]) (o := .tmp 67) (by kernel_rfl) (by kernel_rfl) (by kernel_rfl) rfl ?_
                  refine at_seq (x := C26 [1, 1, 0, 1, 0, 1, 1, 1, 1, 1, 1, 1, 1, 1, 1, 1, 1, 1, 1, 0]) (y := C26 [1, 1, 0, 1, 0, 1, 1, 1, 1, 1, 1, 1, 1, 1, 1, 1, 1, 1, 1, 1]) (by kernel_rfl) ?_
                  refine at_region (id := 17) 2 (by kernel_rfl) (by kernel_rfl) ?_
                  rcases Decidable.em ((hw % 40) = (38 : Int)) with h8 | h8
                  · refine s_pure 73 (.bool true) (by kernel_rfl) (by kernel_rfl) (run_eq (v := .bool (decide ((hw % 40) = (38 : Int)))) (fun _ => by kernel_rfl) (congrArg Value.bool (by rw [decide_eq_true h8]))) ?_
                    refine s_pure 72 (.bool true) (by kernel_rfl) (by kernel_rfl) (fun _ => by kernel_rfl) ?_
                    refine ops_end ?_
                    refine At.env [(0, .agg #[.int .i64 pk, .int .i64 pf, .int .i64 pt, .int .i64 pid, .int .i64 pl, .int .i64 pp, .int .i64 ps, .bool pfl, .slice pa pm pc]), (1, .int .i64 hw), (2, .pointer (some ⟨b1, 0, none⟩)), (4, .pointer (some ⟨b2, 0, none⟩)), (5, .pointer (some ⟨b3, 0, none⟩)), (36, .int .i64 (hw % 40)), (37, .bool false), (42, .bool false), (47, .bool false), (52, .bool false), (57, .bool false), (62, .bool false), (67, .bool false), (72, .bool true)] ⟨by kernel_rfl, by kernel_rfl, by kernel_rfl, by kernel_rfl, by kernel_rfl, by kernel_rfl, by kernel_rfl, by kernel_rfl, by kernel_rfl, by kernel_rfl, by kernel_rfl, by kernel_rfl, by kernel_rfl, by kernel_rfl, trivial⟩ ?_
                    refine at_then_normal ?_
                    refine at_true (t := true) (x := C26 [1, 1, 0, 1, 0, 1, 1, 1, 1, 1, 1, 1, 1, 1, 1, 1, 1, 1, 1, 1, 0]) (y := C26 [1, 1, 0, 1, 0, 1, 1, 1, 1, 1, 1, 1, 1, 1, 1, 1, 1, 1, 1, 1, 1]) (o := .tmp 72) (by kernel_rfl) (by kernel_rfl) (by kernel_rfl) rfl ?_
                    refine at_region (id := 18) 5 (by kernel_rfl) (by kernel_rfl) ?_
                    refine s_pure 74 (.pointer (some ⟨b1, 8, none⟩)) (by kernel_rfl) (by kernel_rfl) (fun _ => by kernel_rfl) ?_
                    refine s_load 75 (.slice pa pm pc) (by kernel_rfl) (by kernel_rfl) (load1 (off := 8) (fun _ => by kernel_rfl) (holds_own (.there (.there (.there .here)))) (by kernel_rfl)) ?_
                    refine s_call 76 19 #[.slice pa pm pc, .int .i64 (6)] (by kernel_rfl) (by kernel_rfl) (fun _ => by kernel_rfl) (Cut_tr pa pm pc 6 xs (hm) (Reads.conv (fun w hw => hw.less (.drop .here (.drop .here (.drop .here (.drop .here .refl))))) hr) (by omega) (by omega)) ?_
                    rintro _ _ ⟨a2, m2, c2, rfl, hm2, rfl⟩
                    refine s_pure 77 (.pointer (some ⟨b3, 8, none⟩)) (by kernel_rfl) (by kernel_rfl) (fun _ => by kernel_rfl) ?_
                    refine s_do (by kernel_rfl) (by kernel_rfl) (st_store (off := 8) (vs := [.slice a2 m2 c2]) (c' := #[.int .i64 (1 + (pk % 9)), .int .i64 (pf % 4), .int .i64 (pt % 4), .int .i64 (pid % 5), .int .i64 (pl % 4), .int .i64 ((pp % 5) - 1), .int .i64 (ps % 3), .bool pfl, .slice a2 m2 c2]) (fun _ => by kernel_rfl) (.there .here) (by kernel_rfl) (by kernel_rfl) (by kernel_rfl)) ?_
                    rintro _ _ ⟨rfl, rfl⟩
                    refine ops_end ?_
                    refine At.env [(0, .agg #[.int .i64 pk, .int .i64 pf, .int .i64 pt, .int .i64 pid, .int .i64 pl, .int .i64 pp, .int .i64 ps, .bool pfl, .slice pa pm pc]), (1, .int .i64 hw), (2, .pointer (some ⟨b1, 0, none⟩)), (4, .pointer (some ⟨b2, 0, none⟩)), (5, .pointer (some ⟨b3, 0, none⟩)), (36, .int .i64 (hw % 40)), (37, .bool false), (42, .bool false), (47, .bool false), (52, .bool false), (57, .bool false), (62, .bool false), (67, .bool false), (72, .bool true)] ⟨by kernel_rfl, by kernel_rfl, by kernel_rfl, by kernel_rfl, by kernel_rfl, by kernel_rfl, by kernel_rfl, by kernel_rfl, by kernel_rfl, by kernel_rfl, by kernel_rfl, by kernel_rfl, by kernel_rfl, by kernel_rfl, trivial⟩ ?_
                    refine at_in_normal ?_
                    refine at_then_normal ?_
                    refine at_seq (x := C26 [1, 1, 1, 0]) (y := C26 [1, 1, 1, 1]) (by kernel_rfl) ?_
                    refine at_region (id := 21) 2 (by kernel_rfl) (by kernel_rfl) ?_
                    refine s_load 84 (.agg #[.int .i64 (1 + (pk % 9)), .int .i64 (pf % 4), .int .i64 (pt % 4), .int .i64 (pid % 5), .int .i64 (pl % 4), .int .i64 ((pp % 5) - 1), .int .i64 (ps % 3), .bool pfl, .slice a2 m2 c2]) (by kernel_rfl) (by kernel_rfl) (loadN (off := 0) (vs := [.int .i64 (1 + (pk % 9)), .int .i64 (pf % 4), .int .i64 (pt % 4), .int .i64 (pid % 5), .int .i64 (pl % 4), .int .i64 ((pp % 5) - 1), .int .i64 (ps % 3), .bool pfl, .slice a2 m2 c2]) 9 (fun _ => by kernel_rfl) (holds_own .here) rfl (by exact ⟨rfl, rfl, rfl, rfl, rfl, rfl, rfl, rfl, rfl, trivial⟩)) ?_
                    refine s_do (by kernel_rfl) (by kernel_rfl) (st_store (off := 0) (vs := [.int .i64 (1 + (pk % 9)), .int .i64 (pf % 4), .int .i64 (pt % 4), .int .i64 (pid % 5), .int .i64 (pl % 4), .int .i64 ((pp % 5) - 1), .int .i64 (ps % 3), .bool pfl, .slice a2 m2 c2]) (c' := #[.int .i64 (1 + (pk % 9)), .int .i64 (pf % 4), .int .i64 (pt % 4), .int .i64 (pid % 5), .int .i64 (pl % 4), .int .i64 ((pp % 5) - 1), .int .i64 (ps % 3), .bool pfl, .slice a2 m2 c2]) (fun _ => by kernel_rfl) (.there (.there (.there .here))) (by kernel_rfl) (by kernel_rfl) (by kernel_rfl)) ?_
                    rintro _ _ ⟨rfl, rfl⟩
                    refine ops_end ?_
                    refine At.env [(0, .agg #[.int .i64 pk, .int .i64 pf, .int .i64 pt, .int .i64 pid, .int .i64 pl, .int .i64 pp, .int .i64 ps, .bool pfl, .slice pa pm pc]), (1, .int .i64 hw), (2, .pointer (some ⟨b1, 0, none⟩)), (4, .pointer (some ⟨b2, 0, none⟩)), (5, .pointer (some ⟨b3, 0, none⟩)), (36, .int .i64 (hw % 40)), (37, .bool false), (42, .bool false), (47, .bool false), (52, .bool false), (57, .bool false), (62, .bool false), (67, .bool false), (72, .bool true)] ⟨by kernel_rfl, by kernel_rfl, by kernel_rfl, by kernel_rfl, by kernel_rfl, by kernel_rfl, by kernel_rfl, by kernel_rfl, by kernel_rfl, by kernel_rfl, by kernel_rfl, by kernel_rfl, by kernel_rfl, by kernel_rfl, trivial⟩ ?_
                    refine at_then_normal ?_
                    refine at_ret (by kernel_rfl) ?_
                    refine at_backR [.agg #[.int .i64 (1 + (pk % 9)), .int .i64 (pf % 4), .int .i64 (pt % 4), .int .i64 (pid % 5), .int .i64 (pl % 4), .int .i64 ((pp % 5) - 1), .int .i64 (ps % 3), .bool pfl, .slice a2 m2 c2]] ((IntsA a2 c2 (xs.take 6)) :: Γ) (rs := [.cell 4 38]) (by kernel_rfl) (.cons (.cell (by kernel_rfl) (retN (off := 0) (vs := [.int .i64 (1 + (pk % 9)), .int .i64 (pf % 4), .int .i64 (pt % 4), .int .i64 (pid % 5), .int .i64 (pl % 4), .int .i64 ((pp % 5) - 1), .int .i64 (ps % 3), .bool pfl, .slice a2 m2 c2]) 9 (fun _ => by kernel_rfl) (holds_own .here) rfl (by exact ⟨rfl, rfl, rfl, rfl, rfl, rfl, rfl, rfl, rfl, trivial⟩))) .nil) (fun w hw => hw.less (.take (.there (.there .here)) (.drop .here (.drop .here (.drop .here (.drop .here .refl)))))) ?_
                    exact ⟨_, _, _, _, _, _, _, _, _, _, _, _, rfl, by assumption, rfl⟩
                  · refine s_pure 73 (.bool false) (by kernel_rfl) (by kernel_rfl) (run_eq (v := .bool (decide ((hw % 40) = (38 : Int)))) (fun _ => by kernel_rfl) (congrArg Value.bool (by rw [decide_eq_false h8]))) ?_
                    refine s_pure 72 (.bool false) (by kernel_rfl) (by kernel_rfl) (fun _ => by kernel_rfl) ?_
                    refine ops_end ?_
                    refine At.env [(0, .agg #[.int .i64 pk, .int .i64 pf, .int .i64 pt, .int .i64 pid, .int .i64 pl, .int .i64 pp, .int .i64 ps, .bool pfl, .slice pa pm pc]), (1, .int .i64 hw), (2, .pointer (some ⟨b1, 0, none⟩)), (4, .pointer (some ⟨b2, 0, none⟩)), (5, .pointer (some ⟨b3, 0, none⟩)), (36, .int .i64 (hw % 40)), (37, .bool false), (42, .bool false), (47, .bool false), (52, .bool false), (57, .bool false), (62, .bool false), (67, .bool false), (72, .bool false)] ⟨by kernel_rfl, by kernel_rfl, by kernel_rfl, by kernel_rfl, by kernel_rfl, by kernel_rfl, by kernel_rfl, by kernel_rfl, by kernel_rfl, by kernel_rfl, by kernel_rfl, by kernel_rfl, by kernel_rfl, by kernel_rfl, trivial⟩ ?_
                    refine at_then_normal ?_
                    refine at_false (t := false) (x := C26 [1, 1, 0, 1, 0, 1, 1, 1, 1, 1, 1, 1, 1, 1, 1, 1, 1, 1, 1, 1, 0]) (y := C26 [1, 1, 0, 1, 0, 1, 1, 1, 1, 1, 1, 1, 1, 1, 1, 1, 1, 1, 1, 1, 1]) (o := .tmp 72) (by kernel_rfl) (by kernel_rfl) (by kernel_rfl) rfl ?_
                    refine at_seq (x := C26 [1, 1, 0, 1, 0, 1, 1, 1, 1, 1, 1, 1, 1, 1, 1, 1, 1, 1, 1, 1, 1, 0]) (y := C26 [1, 1, 0, 1, 0, 1, 1, 1, 1, 1, 1, 1, 1, 1, 1, 1, 1, 1, 1, 1, 1, 1]) (by kernel_rfl) ?_
                    refine at_region (id := 19) 2 (by kernel_rfl) (by kernel_rfl) ?_
                    rcases Decidable.em ((hw % 40) = (39 : Int)) with h9 | h9
                    · refine s_pure 79 (.bool true) (by kernel_rfl) (by kernel_rfl) (run_eq (v := .bool (decide ((hw % 40) = (39 : Int)))) (fun _ => by kernel_rfl) (congrArg Value.bool (by rw [decide_eq_true h9]))) ?_
                      refine s_pure 78 (.bool true) (by kernel_rfl) (by kernel_rfl) (fun _ => by kernel_rfl) ?_
                      refine ops_end ?_
                      refine At.env [(0, .agg #[.int .i64 pk, .int .i64 pf, .int .i64 pt, .int .i64 pid, .int .i64 pl, .int .i64 pp, .int .i64 ps, .bool pfl, .slice pa pm pc]), (1, .int .i64 hw), (2, .pointer (some ⟨b1, 0, none⟩)), (4, .pointer (some ⟨b2, 0, none⟩)), (5, .pointer (some ⟨b3, 0, none⟩)), (36, .int .i64 (hw % 40)), (37, .bool false), (42, .bool false), (47, .bool false), (52, .bool false), (57, .bool false), (62, .bool false), (67, .bool false), (72, .bool false), (78, .bool true)] ⟨by kernel_rfl, by kernel_rfl, by kernel_rfl, by kernel_rfl, by kernel_rfl, by kernel_rfl, by kernel_rfl, by kernel_rfl, by kernel_rfl, by kernel_rfl, by kernel_rfl, by kernel_rfl, by kernel_rfl, by kernel_rfl, by kernel_rfl, trivial⟩ ?_
                      refine at_then_normal ?_
                      refine at_true (t := true) (x := C26 [1, 1, 0, 1, 0, 1, 1, 1, 1, 1, 1, 1, 1, 1, 1, 1, 1, 1, 1, 1, 1, 1, 0]) (y := C26 [1, 1, 0, 1, 0, 1, 1, 1, 1, 1, 1, 1, 1, 1, 1, 1, 1, 1, 1, 1, 1, 1, 1]) (o := .tmp 78) (by kernel_rfl) (by kernel_rfl) (by kernel_rfl) rfl ?_
                      refine at_region (id := 20) 5 (by kernel_rfl) (by kernel_rfl) ?_
                      refine s_pure 80 (.pointer (some ⟨b1, 3, none⟩)) (by kernel_rfl) (by kernel_rfl) (fun _ => by kernel_rfl) ?_
                      refine s_load 81 (.int .i64 pid) (by kernel_rfl) (by kernel_rfl) (load1 (off := 3) (fun _ => by kernel_rfl) (holds_own (.there (.there (.there .here)))) (by kernel_rfl)) ?_
                      refine s_quiet 82 (.int .i64 (pid % 4096)) 12 #[.int .i64 pid, .int .i64 (4096)] (by kernel_rfl) (by kernel_rfl) (fun _ => by kernel_rfl) (Within_tr (pid) (4096) (by omega) (by omega)) ?_
                      refine s_pure 83 (.pointer (some ⟨b3, 3, none⟩)) (by kernel_rfl) (by kernel_rfl) (fun _ => by kernel_rfl) ?_
                      refine s_do (by kernel_rfl) (by kernel_rfl) (st_store (off := 3) (vs := [.int .i64 (pid % 4096)]) (c' := #[.int .i64 (1 + (pk % 9)), .int .i64 (pf % 4), .int .i64 (pt % 4), .int .i64 (pid % 4096), .int .i64 (pl % 4), .int .i64 ((pp % 5) - 1), .int .i64 (ps % 3), .bool pfl, .slice a1 m1 c1]) (fun _ => by kernel_rfl) .here (by kernel_rfl) (by kernel_rfl) (by kernel_rfl)) ?_
                      rintro _ _ ⟨rfl, rfl⟩
                      refine ops_end ?_
                      refine At.env [(0, .agg #[.int .i64 pk, .int .i64 pf, .int .i64 pt, .int .i64 pid, .int .i64 pl, .int .i64 pp, .int .i64 ps, .bool pfl, .slice pa pm pc]), (1, .int .i64 hw), (2, .pointer (some ⟨b1, 0, none⟩)), (4, .pointer (some ⟨b2, 0, none⟩)), (5, .pointer (some ⟨b3, 0, none⟩)), (36, .int .i64 (hw % 40)), (37, .bool false), (42, .bool false), (47, .bool false), (52, .bool false), (57, .bool false), (62, .bool false), (67, .bool false), (72, .bool false), (78, .bool true)] ⟨by kernel_rfl, by kernel_rfl, by kernel_rfl, by kernel_rfl, by kernel_rfl, by kernel_rfl, by kernel_rfl, by kernel_rfl, by kernel_rfl, by kernel_rfl, by kernel_rfl, by kernel_rfl, by kernel_rfl, by kernel_rfl, by kernel_rfl, trivial⟩ ?_
                      refine at_in_normal ?_
                      refine at_then_normal ?_
                      refine at_seq (x := C26 [1, 1, 1, 0]) (y := C26 [1, 1, 1, 1]) (by kernel_rfl) ?_
                      refine at_region (id := 21) 2 (by kernel_rfl) (by kernel_rfl) ?_
                      refine s_load 84 (.agg #[.int .i64 (1 + (pk % 9)), .int .i64 (pf % 4), .int .i64 (pt % 4), .int .i64 (pid % 4096), .int .i64 (pl % 4), .int .i64 ((pp % 5) - 1), .int .i64 (ps % 3), .bool pfl, .slice a1 m1 c1]) (by kernel_rfl) (by kernel_rfl) (loadN (off := 0) (vs := [.int .i64 (1 + (pk % 9)), .int .i64 (pf % 4), .int .i64 (pt % 4), .int .i64 (pid % 4096), .int .i64 (pl % 4), .int .i64 ((pp % 5) - 1), .int .i64 (ps % 3), .bool pfl, .slice a1 m1 c1]) 9 (fun _ => by kernel_rfl) (holds_own .here) rfl (by exact ⟨rfl, rfl, rfl, rfl, rfl, rfl, rfl, rfl, rfl, trivial⟩)) ?_
                      refine s_do (by kernel_rfl) (by kernel_rfl) (st_store (off := 0) (vs := [.int .i64 (1 + (pk % 9)), .int .i64 (pf % 4), .int .i64 (pt % 4), .int .i64 (pid % 4096), .int .i64 (pl % 4), .int .i64 ((pp % 5) - 1), .int .i64 (ps % 3), .bool pfl, .slice a1 m1 c1]) (c' := #[.int .i64 (1 + (pk % 9)), .int .i64 (pf % 4), .int .i64 (pt % 4), .int .i64 (pid % 4096), .int .i64 (pl % 4), .int .i64 ((pp % 5) - 1), .int .i64 (ps % 3), .bool pfl, .slice a1 m1 c1]) (fun _ => by kernel_rfl) (.there (.there .here)) (by kernel_rfl) (by kernel_rfl) (by kernel_rfl)) ?_
                      rintro _ _ ⟨rfl, rfl⟩
                      refine ops_end ?_
                      refine At.env [(0, .agg #[.int .i64 pk, .int .i64 pf, .int .i64 pt, .int .i64 pid, .int .i64 pl, .int .i64 pp, .int .i64 ps, .bool pfl, .slice pa pm pc]), (1, .int .i64 hw), (2, .pointer (some ⟨b1, 0, none⟩)), (4, .pointer (some ⟨b2, 0, none⟩)), (5, .pointer (some ⟨b3, 0, none⟩)), (36, .int .i64 (hw % 40)), (37, .bool false), (42, .bool false), (47, .bool false), (52, .bool false), (57, .bool false), (62, .bool false), (67, .bool false), (72, .bool false), (78, .bool true)] ⟨by kernel_rfl, by kernel_rfl, by kernel_rfl, by kernel_rfl, by kernel_rfl, by kernel_rfl, by kernel_rfl, by kernel_rfl, by kernel_rfl, by kernel_rfl, by kernel_rfl, by kernel_rfl, by kernel_rfl, by kernel_rfl, by kernel_rfl, trivial⟩ ?_
                      refine at_then_normal ?_
                      refine at_ret (by kernel_rfl) ?_
                      refine at_backR [.agg #[.int .i64 (1 + (pk % 9)), .int .i64 (pf % 4), .int .i64 (pt % 4), .int .i64 (pid % 4096), .int .i64 (pl % 4), .int .i64 ((pp % 5) - 1), .int .i64 (ps % 3), .bool pfl, .slice a1 m1 c1]] ((IntsA a1 c1 (xs.take 4)) :: Γ) (rs := [.cell 4 38]) (by kernel_rfl) (.cons (.cell (by kernel_rfl) (retN (off := 0) (vs := [.int .i64 (1 + (pk % 9)), .int .i64 (pf % 4), .int .i64 (pt % 4), .int .i64 (pid % 4096), .int .i64 (pl % 4), .int .i64 ((pp % 5) - 1), .int .i64 (ps % 3), .bool pfl, .slice a1 m1 c1]) 9 (fun _ => by kernel_rfl) (holds_own .here) rfl (by exact ⟨rfl, rfl, rfl, rfl, rfl, rfl, rfl, rfl, rfl, trivial⟩))) .nil) (fun w hw => hw.less (.take (.there (.there .here)) (.drop .here (.drop .here (.drop .here .refl))))) ?_
                      exact ⟨_, _, _, _, _, _, _, _, _, _, _, _, rfl, by assumption, rfl⟩
                    · refine s_pure 79 (.bool false) (by kernel_rfl) (by kernel_rfl) (run_eq (v := .bool (decide ((hw % 40) = (39 : Int)))) (fun _ => by kernel_rfl) (congrArg Value.bool (by rw [decide_eq_false h9]))) ?_
                      refine s_pure 78 (.bool false) (by kernel_rfl) (by kernel_rfl) (fun _ => by kernel_rfl) ?_
                      refine ops_end ?_
                      refine At.env [(0, .agg #[.int .i64 pk, .int .i64 pf, .int .i64 pt, .int .i64 pid, .int .i64 pl, .int .i64 pp, .int .i64 ps, .bool pfl, .slice pa pm pc]), (1, .int .i64 hw), (2, .pointer (some ⟨b1, 0, none⟩)), (4, .pointer (some ⟨b2, 0, none⟩)), (5, .pointer (some ⟨b3, 0, none⟩)), (36, .int .i64 (hw % 40)), (37, .bool false), (42, .bool false), (47, .bool false), (52, .bool false), (57, .bool false), (62, .bool false), (67, .bool false), (72, .bool false), (78, .bool false)] ⟨by kernel_rfl, by kernel_rfl, by kernel_rfl, by kernel_rfl, by kernel_rfl, by kernel_rfl, by kernel_rfl, by kernel_rfl, by kernel_rfl, by kernel_rfl, by kernel_rfl, by kernel_rfl, by kernel_rfl, by kernel_rfl, by kernel_rfl, trivial⟩ ?_
                      refine at_then_normal ?_
                      refine at_false (t := false) (x := C26 [1, 1, 0, 1, 0, 1, 1, 1, 1, 1, 1, 1, 1, 1, 1, 1, 1, 1, 1, 1, 1, 1, 0]) (y := C26 [1, 1, 0, 1, 0, 1, 1, 1, 1, 1, 1, 1, 1, 1, 1, 1, 1, 1, 1, 1, 1, 1, 1]) (o := .tmp 78) (by kernel_rfl) (by kernel_rfl) (by kernel_rfl) rfl ?_
                      refine at_skip (by kernel_rfl) ?_
                      refine at_in_normal ?_
                      refine at_then_normal ?_
                      refine at_seq (x := C26 [1, 1, 1, 0]) (y := C26 [1, 1, 1, 1]) (by kernel_rfl) ?_
                      refine at_region (id := 21) 2 (by kernel_rfl) (by kernel_rfl) ?_
                      refine s_load 84 (.agg #[.int .i64 (1 + (pk % 9)), .int .i64 (pf % 4), .int .i64 (pt % 4), .int .i64 (pid % 5), .int .i64 (pl % 4), .int .i64 ((pp % 5) - 1), .int .i64 (ps % 3), .bool pfl, .slice a1 m1 c1]) (by kernel_rfl) (by kernel_rfl) (loadN (off := 0) (vs := [.int .i64 (1 + (pk % 9)), .int .i64 (pf % 4), .int .i64 (pt % 4), .int .i64 (pid % 5), .int .i64 (pl % 4), .int .i64 ((pp % 5) - 1), .int .i64 (ps % 3), .bool pfl, .slice a1 m1 c1]) 9 (fun _ => by kernel_rfl) (holds_own .here) rfl (by exact ⟨rfl, rfl, rfl, rfl, rfl, rfl, rfl, rfl, rfl, trivial⟩)) ?_
                      refine s_do (by kernel_rfl) (by kernel_rfl) (st_store (off := 0) (vs := [.int .i64 (1 + (pk % 9)), .int .i64 (pf % 4), .int .i64 (pt % 4), .int .i64 (pid % 5), .int .i64 (pl % 4), .int .i64 ((pp % 5) - 1), .int .i64 (ps % 3), .bool pfl, .slice a1 m1 c1]) (c' := #[.int .i64 (1 + (pk % 9)), .int .i64 (pf % 4), .int .i64 (pt % 4), .int .i64 (pid % 5), .int .i64 (pl % 4), .int .i64 ((pp % 5) - 1), .int .i64 (ps % 3), .bool pfl, .slice a1 m1 c1]) (fun _ => by kernel_rfl) (.there (.there .here)) (by kernel_rfl) (by kernel_rfl) (by kernel_rfl)) ?_
                      rintro _ _ ⟨rfl, rfl⟩
                      refine ops_end ?_
                      refine At.env [(0, .agg #[.int .i64 pk, .int .i64 pf, .int .i64 pt, .int .i64 pid, .int .i64 pl, .int .i64 pp, .int .i64 ps, .bool pfl, .slice pa pm pc]), (1, .int .i64 hw), (2, .pointer (some ⟨b1, 0, none⟩)), (4, .pointer (some ⟨b2, 0, none⟩)), (5, .pointer (some ⟨b3, 0, none⟩)), (36, .int .i64 (hw % 40)), (37, .bool false), (42, .bool false), (47, .bool false), (52, .bool false), (57, .bool false), (62, .bool false), (67, .bool false), (72, .bool false), (78, .bool false)] ⟨by kernel_rfl, by kernel_rfl, by kernel_rfl, by kernel_rfl, by kernel_rfl, by kernel_rfl, by kernel_rfl, by kernel_rfl, by kernel_rfl, by kernel_rfl, by kernel_rfl, by kernel_rfl, by kernel_rfl, by kernel_rfl, by kernel_rfl, trivial⟩ ?_
                      refine at_then_normal ?_
                      refine at_ret (by kernel_rfl) ?_
                      refine at_backR [.agg #[.int .i64 (1 + (pk % 9)), .int .i64 (pf % 4), .int .i64 (pt % 4), .int .i64 (pid % 5), .int .i64 (pl % 4), .int .i64 ((pp % 5) - 1), .int .i64 (ps % 3), .bool pfl, .slice a1 m1 c1]] ((IntsA a1 c1 (xs.take 4)) :: Γ) (rs := [.cell 4 38]) (by kernel_rfl) (.cons (.cell (by kernel_rfl) (retN (off := 0) (vs := [.int .i64 (1 + (pk % 9)), .int .i64 (pf % 4), .int .i64 (pt % 4), .int .i64 (pid % 5), .int .i64 (pl % 4), .int .i64 ((pp % 5) - 1), .int .i64 (ps % 3), .bool pfl, .slice a1 m1 c1]) 9 (fun _ => by kernel_rfl) (holds_own .here) rfl (by exact ⟨rfl, rfl, rfl, rfl, rfl, rfl, rfl, rfl, rfl, trivial⟩))) .nil) (fun w hw => hw.less (.take (.there (.there .here)) (.drop .here (.drop .here (.drop .here .refl))))) ?_
                      exact ⟨_, _, _, _, _, _, _, _, _, _, _, _, rfl, by assumption, rfl⟩
  · refine t_step 29 5 [] [25, 23, 22, 20, 19, 18, 16, 15, 13, 12, 10, 9, 7, 6, 4, 3, 2, 0] [26, 24, 21, 17, 14, 11, 8, 5, 1] (by kernel_rfl) (by kernel_rfl) (by kernel_rfl) (st_new (T := 38) (cells := #[.int .i64 (0), .int .i64 (0), .int .i64 (0), .int .i64 (0), .int .i64 (0), .int .i64 (0), .int .i64 (0), .bool false, .slice none 0 0]) (fun a => .pointer (some a)) (fun _ => by kernel_rfl)) ?_
    rintro _ _ ⟨b4, rfl, rfl⟩
    refine ⟨(stable_cons 26 32 (.slice pa pm pc) (by kernel_rfl) (by kernel_rfl) (by kernel_rfl) (load1 (off := 8) (fun _ => by kernel_rfl) (holds_own (.there (.there .here))) (by kernel_rfl)) (stable_cons 24 30 (.bool pfl) (by kernel_rfl) (by kernel_rfl) (by kernel_rfl) (load1 (off := 7) (fun _ => by kernel_rfl) (holds_own (.there (.there .here))) (by kernel_rfl)) (stable_cons 21 27 (.int .i64 ps) (by kernel_rfl) (by kernel_rfl) (by kernel_rfl) (load1 (off := 6) (fun _ => by kernel_rfl) (holds_own (.there (.there .here))) (by kernel_rfl)) (stable_cons 17 23 (.int .i64 pp) (by kernel_rfl) (by kernel_rfl) (by kernel_rfl) (load1 (off := 5) (fun _ => by kernel_rfl) (holds_own (.there (.there .here))) (by kernel_rfl)) (stable_cons 14 20 (.int .i64 pl) (by kernel_rfl) (by kernel_rfl) (by kernel_rfl) (load1 (off := 4) (fun _ => by kernel_rfl) (holds_own (.there (.there .here))) (by kernel_rfl)) (stable_cons 11 17 (.int .i64 pid) (by kernel_rfl) (by kernel_rfl) (by kernel_rfl) (load1 (off := 3) (fun _ => by kernel_rfl) (holds_own (.there (.there .here))) (by kernel_rfl)) (stable_cons 8 14 (.int .i64 pt) (by kernel_rfl) (by kernel_rfl) (by kernel_rfl) (load1 (off := 2) (fun _ => by kernel_rfl) (holds_own (.there (.there .here))) (by kernel_rfl)) (stable_cons 5 11 (.int .i64 pf) (by kernel_rfl) (by kernel_rfl) (by kernel_rfl) (load1 (off := 1) (fun _ => by kernel_rfl) (holds_own (.there (.there .here))) (by kernel_rfl)) (stable_cons 1 7 (.int .i64 pk) (by kernel_rfl) (by kernel_rfl) (by kernel_rfl) (load1 (off := 0) (fun _ => by kernel_rfl) (holds_own (.there (.there .here))) (by kernel_rfl)) stable_nil))))))))), ?_⟩
    refine d_call 27 33 [26, 22, 25, 21, 18, 20, 17, 15, 16, 14, 12, 13, 11, 9, 10, 8, 6, 7, 5, 2, 4, 1, 0] [23, 19, 3] [24] 19 #[.slice pa pm pc, .int .i64 (4)] (by kernel_rfl) (by kernel_rfl) (by kernel_rfl) (fun _ => by kernel_rfl) (Cut_tr pa pm pc 4 xs (hm) (Reads.conv (fun w hw => hw.less (.drop .here (.drop .here (.drop .here .refl)))) hr) (by omega) (by omega)) ?_
    rintro _ _ ⟨a3, m3, c3, rfl, hm3, rfl⟩
    refine ⟨(stable_cons 24 30 (.bool pfl) (by kernel_rfl) (by kernel_rfl) (by kernel_rfl) (load1 (off := 7) (fun _ => by kernel_rfl) (holds_own (.there (.there (.there .here)))) (by kernel_rfl)) stable_nil), ?_⟩
    refine d_pure 28 34 (.agg #[.int .i64 (1 + (pk % 9)), .int .i64 (pf % 4), .int .i64 (pt % 4), .int .i64 (pid % 5), .int .i64 (pl % 4), .int .i64 ((pp % 5) - 1), .int .i64 (ps % 3), .bool pfl, .slice a3 m3 c3]) (by kernel_rfl) (by kernel_rfl) (by kernel_rfl) (fun _ => by kernel_rfl) ?_
    refine d_do 30 [29, 28, 27, 0, 1, 2, 3, 4, 5, 6, 7, 8, 9, 10, 11, 12, 13, 14, 15, 16, 17, 18, 19, 20, 21, 22, 23, 24, 25, 26] [] [] (by kernel_rfl) (by kernel_rfl) (by kernel_rfl) (st_store (off := 0) (vs := [.int .i64 (1 + (pk % 9)), .int .i64 (pf % 4), .int .i64 (pt % 4), .int .i64 (pid % 5), .int .i64 (pl % 4), .int .i64 ((pp % 5) - 1), .int .i64 (ps % 3), .bool pfl, .slice a3 m3 c3]) (c' := #[.int .i64 (1 + (pk % 9)), .int .i64 (pf % 4), .int .i64 (pt % 4), .int .i64 (pid % 5), .int .i64 (pl % 4), .int .i64 ((pp % 5) - 1), .int .i64 (ps % 3), .bool pfl, .slice a3 m3 c3]) (fun _ => by kernel_rfl) (.there .here) (by kernel_rfl) (by kernel_rfl) (by kernel_rfl)) ?_
    rintro _ _ ⟨rfl, rfl⟩
    refine ⟨stable_nil, ?_⟩
    refine draw_end (by kernel_rfl) ?_
    refine At.env [(0, .agg #[.int .i64 pk, .int .i64 pf, .int .i64 pt, .int .i64 pid, .int .i64 pl, .int .i64 pp, .int .i64 ps, .bool pfl, .slice pa pm pc]), (1, .int .i64 hw), (2, .pointer (some ⟨b1, 0, none⟩)), (4, .pointer (some ⟨b2, 0, none⟩)), (5, .pointer (some ⟨b4, 0, none⟩))] ⟨by kernel_rfl, by kernel_rfl, by kernel_rfl, by kernel_rfl, by kernel_rfl, trivial⟩ ?_
    refine at_then_normal ?_
    refine at_seq (x := C26 [1, 1, 0]) (y := C26 [1, 1, 1]) (by kernel_rfl) ?_
    refine at_seq (x := C26 [1, 1, 0, 0]) (y := C26 [1, 1, 0, 1]) (by kernel_rfl) ?_
    refine at_region (id := 2) 2 (by kernel_rfl) (by kernel_rfl) ?_
    refine s_pure 35 (.int .i64 hw) (by kernel_rfl) (by kernel_rfl) (fun _ => by kernel_rfl) ?_
    refine s_quiet 36 (.int .i64 (hw % 40)) 12 #[.int .i64 hw, .int .i64 (40)] (by kernel_rfl) (by kernel_rfl) (fun _ => by kernel_rfl) (Within_tr (hw) (40) (by omega) (by omega)) ?_
    refine ops_end ?_
    refine At.env [(0, .agg #[.int .i64 pk, .int .i64 pf, .int .i64 pt, .int .i64 pid, .int .i64 pl, .int .i64 pp, .int .i64 ps, .bool pfl, .slice pa pm pc]), (1, .int .i64 hw), (2, .pointer (some ⟨b1, 0, none⟩)), (4, .pointer (some ⟨b2, 0, none⟩)), (5, .pointer (some ⟨b4, 0, none⟩)), (36, .int .i64 (hw % 40))] ⟨by kernel_rfl, by kernel_rfl, by kernel_rfl, by kernel_rfl, by kernel_rfl, by kernel_rfl, trivial⟩ ?_
    refine at_then_normal ?_
    refine at_block (i := 0) (x := C26 [1, 1, 0, 1, 0]) (by kernel_rfl) ?_
    refine at_seq (x := C26 [1, 1, 0, 1, 0, 0]) (y := C26 [1, 1, 0, 1, 0, 1]) (by kernel_rfl) ?_
    refine at_region (id := 3) 2 (by kernel_rfl) (by kernel_rfl) ?_
    rcases Decidable.em ((hw % 40) = (31 : Int)) with h10 | h10
    · refine s_pure 38 (.bool true) (by kernel_rfl) (by kernel_rfl) (run_eq (v := .bool (decide ((hw % 40) = (31 : Int)))) (fun _ => by kernel_rfl) (congrArg Value.bool (by rw [decide_eq_true h10]))) ?_
      refine s_pure 37 (.bool true) (by kernel_rfl) (by kernel_rfl) (fun _ => by kernel_rfl) ?_
      refine ops_end ?_
      refine At.env [(0, .agg #[.int .i64 pk, .int .i64 pf, .int .i64 pt, .int .i64 pid, .int .i64 pl, .int .i64 pp, .int .i64 ps, .bool pfl, .slice pa pm pc]), (1, .int .i64 hw), (2, .pointer (some ⟨b1, 0, none⟩)), (4, .pointer (some ⟨b2, 0, none⟩)), (5, .pointer (some ⟨b4, 0, none⟩)), (36, .int .i64 (hw % 40)), (37, .bool true)] ⟨by kernel_rfl, by kernel_rfl, by kernel_rfl, by kernel_rfl, by kernel_rfl, by kernel_rfl, by kernel_rfl, trivial⟩ ?_
      refine at_then_normal ?_
      refine at_true (t := true) (x := C26 [1, 1, 0, 1, 0, 1, 0]) (y := C26 [1, 1, 0, 1, 0, 1, 1]) (o := .tmp 37) (by kernel_rfl) (by kernel_rfl) (by kernel_rfl) rfl ?_
      refine at_region (id := 4) 4 (by kernel_rfl) (by kernel_rfl) ?_
      refine s_pure 39 (.pointer (some ⟨b1, 0, none⟩)) (by kernel_rfl) (by kernel_rfl) (fun _ => by kernel_rfl) ?_
      refine s_load 40 (.int .i64 pk) (by kernel_rfl) (by kernel_rfl) (load1 (off := 0) (fun _ => by kernel_rfl) (holds_own (.there (.there (.there .here)))) (by kernel_rfl)) ?_
      refine s_pure 41 (.pointer (some ⟨b4, 0, none⟩)) (by kernel_rfl) (by kernel_rfl) (fun _ => by kernel_rfl) ?_
      refine s_do (by kernel_rfl) (by kernel_rfl) (st_store (off := 0) (vs := [.int .i64 pk]) (c' := #[.int .i64 pk, .int .i64 (pf % 4), .int .i64 (pt % 4), .int .i64 (pid % 5), .int .i64 (pl % 4), .int .i64 ((pp % 5) - 1), .int .i64 (ps % 3), .bool pfl, .slice a3 m3 c3]) (fun _ => by kernel_rfl) .here (by kernel_rfl) (by kernel_rfl) (by kernel_rfl)) ?_
      rintro _ _ ⟨rfl, rfl⟩
      refine ops_end ?_
      refine At.env [(0, .agg #[.int .i64 pk, .int .i64 pf, .int .i64 pt, .int .i64 pid, .int .i64 pl, .int .i64 pp, .int .i64 ps, .bool pfl, .slice pa pm pc]), (1, .int .i64 hw), (2, .pointer (some ⟨b1, 0, none⟩)), (4, .pointer (some ⟨b2, 0, none⟩)), (5, .pointer (some ⟨b4, 0, none⟩)), (36, .int .i64 (hw % 40)), (37, .bool true)] ⟨by kernel_rfl, by kernel_rfl, by kernel_rfl, by kernel_rfl, by kernel_rfl, by kernel_rfl, by kernel_rfl, trivial⟩ ?_
      refine at_in_normal ?_
      refine at_then_normal ?_
      refine at_seq (x := C26 [1, 1, 1, 0]) (y := C26 [1, 1, 1, 1]) (by kernel_rfl) ?_
      refine at_region (id := 21) 2 (by kernel_rfl) (by kernel_rfl) ?_
      refine s_load 84 (.agg #[.int .i64 pk, .int .i64 (pf % 4), .int .i64 (pt % 4), .int .i64 (pid % 5), .int .i64 (pl % 4), .int .i64 ((pp % 5) - 1), .int .i64 (ps % 3), .bool pfl, .slice a3 m3 c3]) (by kernel_rfl) (by kernel_rfl) (loadN (off := 0) (vs := [.int .i64 pk, .int .i64 (pf % 4), .int .i64 (pt % 4), .int .i64 (pid % 5), .int .i64 (pl % 4), .int .i64 ((pp % 5) - 1), .int .i64 (ps % 3), .bool pfl, .slice a3 m3 c3]) 9 (fun _ => by kernel_rfl) (holds_own .here) rfl (by exact ⟨rfl, rfl, rfl, rfl, rfl, rfl, rfl, rfl, rfl, trivial⟩)) ?_
      refine s_do (by kernel_rfl) (by kernel_rfl) (st_store (off := 0) (vs := [.int .i64 pk, .int .i64 (pf % 4), .int .i64 (pt % 4), .int .i64 (pid % 5), .int .i64 (pl % 4), .int .i64 ((pp % 5) - 1), .int .i64 (ps % 3), .bool pfl, .slice a3 m3 c3]) (c' := #[.int .i64 pk, .int .i64 (pf % 4), .int .i64 (pt % 4), .int .i64 (pid % 5), .int .i64 (pl % 4), .int .i64 ((pp % 5) - 1), .int .i64 (ps % 3), .bool pfl, .slice a3 m3 c3]) (fun _ => by kernel_rfl) (.there (.there .here)) (by kernel_rfl) (by kernel_rfl) (by kernel_rfl)) ?_
      rintro _ _ ⟨rfl, rfl⟩
      refine ops_end ?_
      refine At.env [(0, .agg #[.int .i64 pk, .int .i64 pf, .int .i64 pt, .int .i64 pid, .int .i64 pl, .int .i64 pp, .int .i64 ps, .bool pfl, .slice pa pm pc]), (1, .int .i64 hw), (2, .pointer (some ⟨b1, 0, none⟩)), (4, .pointer (some ⟨b2, 0, none⟩)), (5, .pointer (some ⟨b4, 0, none⟩)), (36, .int .i64 (hw % 40)), (37, .bool true)] ⟨by kernel_rfl, by kernel_rfl, by kernel_rfl, by kernel_rfl, by kernel_rfl, by kernel_rfl, by kernel_rfl, trivial⟩ ?_
      refine at_then_normal ?_
      refine at_ret (by kernel_rfl) ?_
      refine at_backR [.agg #[.int .i64 pk, .int .i64 (pf % 4), .int .i64 (pt % 4), .int .i64 (pid % 5), .int .i64 (pl % 4), .int .i64 ((pp % 5) - 1), .int .i64 (ps % 3), .bool pfl, .slice a3 m3 c3]] ((IntsA a3 c3 (xs.take 4)) :: Γ) (rs := [.cell 4 38]) (by kernel_rfl) (.cons (.cell (by kernel_rfl) (retN (off := 0) (vs := [.int .i64 pk, .int .i64 (pf % 4), .int .i64 (pt % 4), .int .i64 (pid % 5), .int .i64 (pl % 4), .int .i64 ((pp % 5) - 1), .int .i64 (ps % 3), .bool pfl, .slice a3 m3 c3]) 9 (fun _ => by kernel_rfl) (holds_own .here) rfl (by exact ⟨rfl, rfl, rfl, rfl, rfl, rfl, rfl, rfl, rfl, trivial⟩))) .nil) (fun w hw => hw.less (.take (.there (.there .here)) (.drop .here (.drop .here (.drop .here .refl))))) ?_
      exact ⟨_, _, _, _, _, _, _, _, _, _, _, _, rfl, by assumption, rfl⟩
    · refine s_pure 38 (.bool false) (by kernel_rfl) (by kernel_rfl) (run_eq (v := .bool (decide ((hw % 40) = (31 : Int)))) (fun _ => by kernel_rfl) (congrArg Value.bool (by rw [decide_eq_false h10]))) ?_
      refine s_pure 37 (.bool false) (by kernel_rfl) (by kernel_rfl) (fun _ => by kernel_rfl) ?_
      refine ops_end ?_
      refine At.env [(0, .agg #[.int .i64 pk, .int .i64 pf, .int .i64 pt, .int .i64 pid, .int .i64 pl, .int .i64 pp, .int .i64 ps, .bool pfl, .slice pa pm pc]), (1, .int .i64 hw), (2, .pointer (some ⟨b1, 0, none⟩)), (4, .pointer (some ⟨b2, 0, none⟩)), (5, .pointer (some ⟨b4, 0, none⟩)), (36, .int .i64 (hw % 40)), (37, .bool false)] ⟨by kernel_rfl, by kernel_rfl, by kernel_rfl, by kernel_rfl, by kernel_rfl, by kernel_rfl, by kernel_rfl, trivial⟩ ?_
      refine at_then_normal ?_
      refine at_false (t := false) (x := C26 [1, 1, 0, 1, 0, 1, 0]) (y := C26 [1, 1, 0, 1, 0, 1, 1]) (o := .tmp 37) (by kernel_rfl) (by kernel_rfl) (by kernel_rfl) rfl ?_
      refine at_seq (x := C26 [1, 1, 0, 1, 0, 1, 1, 0]) (y := C26 [1, 1, 0, 1, 0, 1, 1, 1]) (by kernel_rfl) ?_
      refine at_region (id := 5) 2 (by kernel_rfl) (by kernel_rfl) ?_
      rcases Decidable.em ((hw % 40) = (32 : Int)) with h11 | h11
      · refine s_pure 43 (.bool true) (by kernel_rfl) (by kernel_rfl) (run_eq (v := .bool (decide ((hw % 40) = (32 : Int)))) (fun _ => by kernel_rfl) (congrArg Value.bool (by rw [decide_eq_true h11]))) ?_
        refine s_pure 42 (.bool true) (by kernel_rfl) (by kernel_rfl) (fun _ => by kernel_rfl) ?_
        refine ops_end ?_
        refine At.env [(0, .agg #[.int .i64 pk, .int .i64 pf, .int .i64 pt, .int .i64 pid, .int .i64 pl, .int .i64 pp, .int .i64 ps, .bool pfl, .slice pa pm pc]), (1, .int .i64 hw), (2, .pointer (some ⟨b1, 0, none⟩)), (4, .pointer (some ⟨b2, 0, none⟩)), (5, .pointer (some ⟨b4, 0, none⟩)), (36, .int .i64 (hw % 40)), (37, .bool false), (42, .bool true)] ⟨by kernel_rfl, by kernel_rfl, by kernel_rfl, by kernel_rfl, by kernel_rfl, by kernel_rfl, by kernel_rfl, by kernel_rfl, trivial⟩ ?_
        refine at_then_normal ?_
        refine at_true (t := true) (x := C26 [1, 1, 0, 1, 0, 1, 1, 1, 0]) (y := C26 [1, 1, 0, 1, 0, 1, 1, 1, 1]) (o := .tmp 42) (by kernel_rfl) (by kernel_rfl) (by kernel_rfl) rfl ?_
        refine at_region (id := 6) 4 (by kernel_rfl) (by kernel_rfl) ?_
        refine s_pure 44 (.pointer (some ⟨b1, 1, none⟩)) (by kernel_rfl) (by kernel_rfl) (fun _ => by kernel_rfl) ?_
        refine s_load 45 (.int .i64 pf) (by kernel_rfl) (by kernel_rfl) (load1 (off := 1) (fun _ => by kernel_rfl) (holds_own (.there (.there (.there .here)))) (by kernel_rfl)) ?_
        refine s_pure 46 (.pointer (some ⟨b4, 1, none⟩)) (by kernel_rfl) (by kernel_rfl) (fun _ => by kernel_rfl) ?_
        refine s_do (by kernel_rfl) (by kernel_rfl) (st_store (off := 1) (vs := [.int .i64 pf]) (c' := #[.int .i64 (1 + (pk % 9)), .int .i64 pf, .int .i64 (pt % 4), .int .i64 (pid % 5), .int .i64 (pl % 4), .int .i64 ((pp % 5) - 1), .int .i64 (ps % 3), .bool pfl, .slice a3 m3 c3]) (fun _ => by kernel_rfl) .here (by kernel_rfl) (by kernel_rfl) (by kernel_rfl)) ?_
        rintro _ _ ⟨rfl, rfl⟩
        refine ops_end ?_
        refine At.env [(0, .agg #[.int .i64 pk, .int .i64 pf, .int .i64 pt, .int .i64 pid, .int .i64 pl, .int .i64 pp, .int .i64 ps, .bool pfl, .slice pa pm pc]), (1, .int .i64 hw), (2, .pointer (some ⟨b1, 0, none⟩)), (4, .pointer (some ⟨b2, 0, none⟩)), (5, .pointer (some ⟨b4, 0, none⟩)), (36, .int .i64 (hw % 40)), (37, .bool false), (42, .bool true)] ⟨by kernel_rfl, by kernel_rfl, by kernel_rfl, by kernel_rfl, by kernel_rfl, by kernel_rfl, by kernel_rfl, by kernel_rfl, trivial⟩ ?_
        refine at_in_normal ?_
        refine at_then_normal ?_
        refine at_seq (x := C26 [1, 1, 1, 0]) (y := C26 [1, 1, 1, 1]) (by kernel_rfl) ?_
        refine at_region (id := 21) 2 (by kernel_rfl) (by kernel_rfl) ?_
        refine s_load 84 (.agg #[.int .i64 (1 + (pk % 9)), .int .i64 pf, .int .i64 (pt % 4), .int .i64 (pid % 5), .int .i64 (pl % 4), .int .i64 ((pp % 5) - 1), .int .i64 (ps % 3), .bool pfl, .slice a3 m3 c3]) (by kernel_rfl) (by kernel_rfl) (loadN (off := 0) (vs := [.int .i64 (1 + (pk % 9)), .int .i64 pf, .int .i64 (pt % 4), .int .i64 (pid % 5), .int .i64 (pl % 4), .int .i64 ((pp % 5) - 1), .int .i64 (ps % 3), .bool pfl, .slice a3 m3 c3]) 9 (fun _ => by kernel_rfl) (holds_own .here) rfl (by exact ⟨rfl, rfl, rfl, rfl, rfl, rfl, rfl, rfl, rfl, trivial⟩)) ?_
        refine s_do (by kernel_rfl) (by kernel_rfl) (st_store (off := 0) (vs := [.int .i64 (1 + (pk % 9)), .int .i64 pf, .int .i64 (pt % 4), .int .i64 (pid % 5), .int .i64 (pl % 4), .int .i64 ((pp % 5) - 1), .int .i64 (ps % 3), .bool pfl, .slice a3 m3 c3]) (c' := #[.int .i64 (1 + (pk % 9)), .int .i64 pf, .int .i64 (pt % 4), .int .i64 (pid % 5), .int .i64 (pl % 4), .int .i64 ((pp % 5) - 1), .int .i64 (ps % 3), .bool pfl, .slice a3 m3 c3]) (fun _ => by kernel_rfl) (.there (.there .here)) (by kernel_rfl) (by kernel_rfl) (by kernel_rfl)) ?_
        rintro _ _ ⟨rfl, rfl⟩
        refine ops_end ?_
        refine At.env [(0, .agg #[.int .i64 pk, .int .i64 pf, .int .i64 pt, .int .i64 pid, .int .i64 pl, .int .i64 pp, .int .i64 ps, .bool pfl, .slice pa pm pc]), (1, .int .i64 hw), (2, .pointer (some ⟨b1, 0, none⟩)), (4, .pointer (some ⟨b2, 0, none⟩)), (5, .pointer (some ⟨b4, 0, none⟩)), (36, .int .i64 (hw % 40)), (37, .bool false), (42, .bool true)] ⟨by kernel_rfl, by kernel_rfl, by kernel_rfl, by kernel_rfl, by kernel_rfl, by kernel_rfl, by kernel_rfl, by kernel_rfl, trivial⟩ ?_
        refine at_then_normal ?_
        refine at_ret (by kernel_rfl) ?_
        refine at_backR [.agg #[.int .i64 (1 + (pk % 9)), .int .i64 pf, .int .i64 (pt % 4), .int .i64 (pid % 5), .int .i64 (pl % 4), .int .i64 ((pp % 5) - 1), .int .i64 (ps % 3), .bool pfl, .slice a3 m3 c3]] ((IntsA a3 c3 (xs.take 4)) :: Γ) (rs := [.cell 4 38]) (by kernel_rfl) (.cons (.cell (by kernel_rfl) (retN (off := 0) (vs := [.int .i64 (1 + (pk % 9)), .int .i64 pf, .int .i64 (pt % 4), .int .i64 (pid % 5), .int .i64 (pl % 4), .int .i64 ((pp % 5) - 1), .int .i64 (ps % 3), .bool pfl, .slice a3 m3 c3]) 9 (fun _ => by kernel_rfl) (holds_own .here) rfl (by exact ⟨rfl, rfl, rfl, rfl, rfl, rfl, rfl, rfl, rfl, trivial⟩))) .nil) (fun w hw => hw.less (.take (.there (.there .here)) (.drop .here (.drop .here (.drop .here .refl))))) ?_
        exact ⟨_, _, _, _, _, _, _, _, _, _, _, _, rfl, by assumption, rfl⟩
      · refine s_pure 43 (.bool false) (by kernel_rfl) (by kernel_rfl) (run_eq (v := .bool (decide ((hw % 40) = (32 : Int)))) (fun _ => by kernel_rfl) (congrArg Value.bool (by rw [decide_eq_false h11]))) ?_
        refine s_pure 42 (.bool false) (by kernel_rfl) (by kernel_rfl) (fun _ => by kernel_rfl) ?_
        refine ops_end ?_
        refine At.env [(0, .agg #[.int .i64 pk, .int .i64 pf, .int .i64 pt, .int .i64 pid, .int .i64 pl, .int .i64 pp, .int .i64 ps, .bool pfl, .slice pa pm pc]), (1, .int .i64 hw), (2, .pointer (some ⟨b1, 0, none⟩)), (4, .pointer (some ⟨b2, 0, none⟩)), (5, .pointer (some ⟨b4, 0, none⟩)), (36, .int .i64 (hw % 40)), (37, .bool false), (42, .bool false)] ⟨by kernel_rfl, by kernel_rfl, by kernel_rfl, by kernel_rfl, by kernel_rfl, by kernel_rfl, by kernel_rfl, by kernel_rfl, trivial⟩ ?_
        refine at_then_normal ?_
        refine at_false (t := false) (x := C26 [1, 1, 0, 1, 0, 1, 1, 1, 0]) (y := C26 [1, 1, 0, 1, 0, 1, 1, 1, 1]) (o := .tmp 42) (by kernel_rfl) (by kernel_rfl) (by kernel_rfl) rfl ?_
        refine at_seq (x := C26 [1, 1, 0, 1, 0, 1, 1, 1, 1, 0]) (y := C26 [1, 1, 0, 1, 0, 1, 1, 1, 1, 1]) (by kernel_rfl) ?_
        refine at_region (id := 7) 2 (by kernel_rfl) (by kernel_rfl) ?_
        rcases Decidable.em ((hw % 40) = (33 : Int)) with h12 | h12
        · refine s_pure 48 (.bool true) (by kernel_rfl) (by kernel_rfl) (run_eq (v := .bool (decide ((hw % 40) = (33 : Int)))) (fun _ => by kernel_rfl) (congrArg Value.bool (by rw [decide_eq_true h12]))) ?_
          refine s_pure 47 (.bool true) (by kernel_rfl) (by kernel_rfl) (fun _ => by kernel_rfl) ?_
          refine ops_end ?_
          refine At.env [(0, .agg #[.int .i64 pk, .int .i64 pf, .int .i64 pt, .int .i64 pid, .int .i64 pl, .int .i64 pp, .int .i64 ps, .bool pfl, .slice pa pm pc]), (1, .int .i64 hw), (2, .pointer (some ⟨b1, 0, none⟩)), (4, .pointer (some ⟨b2, 0, none⟩)), (5, .pointer (some ⟨b4, 0, none⟩)), (36, .int .i64 (hw % 40)), (37, .bool false), (42, .bool false), (47, .bool true)] ⟨by kernel_rfl, by kernel_rfl, by kernel_rfl, by kernel_rfl, by kernel_rfl, by kernel_rfl, by kernel_rfl, by kernel_rfl, by kernel_rfl, trivial⟩ ?_
          refine at_then_normal ?_
          refine at_true (t := true) (x := C26 [1, 1, 0, 1, 0, 1, 1, 1, 1, 1, 0]) (y := C26 [1, 1, 0, 1, 0, 1, 1, 1, 1, 1, 1]) (o := .tmp 47) (by kernel_rfl) (by kernel_rfl) (by kernel_rfl) rfl ?_
          refine at_region (id := 8) 4 (by kernel_rfl) (by kernel_rfl) ?_
          refine s_pure 49 (.pointer (some ⟨b1, 2, none⟩)) (by kernel_rfl) (by kernel_rfl) (fun _ => by kernel_rfl) ?_
          refine s_load 50 (.int .i64 pt) (by kernel_rfl) (by kernel_rfl) (load1 (off := 2) (fun _ => by kernel_rfl) (holds_own (.there (.there (.there .here)))) (by kernel_rfl)) ?_
          refine s_pure 51 (.pointer (some ⟨b4, 2, none⟩)) (by kernel_rfl) (by kernel_rfl) (fun _ => by kernel_rfl) ?_
          refine s_do (by kernel_rfl) (by kernel_rfl) (st_store (off := 2) (vs := [.int .i64 pt]) (c' := #[.int .i64 (1 + (pk % 9)), .int .i64 (pf % 4), .int .i64 pt, .int .i64 (pid % 5), .int .i64 (pl % 4), .int .i64 ((pp % 5) - 1), .int .i64 (ps % 3), .bool pfl, .slice a3 m3 c3]) (fun _ => by kernel_rfl) .here (by kernel_rfl) (by kernel_rfl) (by kernel_rfl)) ?_
          rintro _ _ ⟨rfl, rfl⟩
          refine ops_end ?_
          refine At.env [(0, .agg #[.int .i64 pk, .int .i64 pf, .int .i64 pt, .int .i64 pid, .int .i64 pl, .int .i64 pp, .int .i64 ps, .bool pfl, .slice pa pm pc]), (1, .int .i64 hw), (2, .pointer (some ⟨b1, 0, none⟩)), (4, .pointer (some ⟨b2, 0, none⟩)), (5, .pointer (some ⟨b4, 0, none⟩)), (36, .int .i64 (hw % 40)), (37, .bool false), (42, .bool false), (47, .bool true)] ⟨by kernel_rfl, by kernel_rfl, by kernel_rfl, by kernel_rfl, by kernel_rfl, by kernel_rfl, by kernel_rfl, by kernel_rfl, by kernel_rfl, trivial⟩ ?_
          refine at_in_normal ?_
          refine at_then_normal ?_
          refine at_seq (x := C26 [1, 1, 1, 0]) (y := C26 [1, 1, 1, 1]) (by kernel_rfl) ?_
          refine at_region (id := 21) 2 (by kernel_rfl) (by kernel_rfl) ?_
          refine s_load 84 (.agg #[.int .i64 (1 + (pk % 9)), .int .i64 (pf % 4), .int .i64 pt, .int .i64 (pid % 5), .int .i64 (pl % 4), .int .i64 ((pp % 5) - 1), .int .i64 (ps % 3), .bool pfl, .slice a3 m3 c3]) (by kernel_rfl) (by kernel_rfl) (loadN (off := 0) (vs := [.int .i64 (1 + (pk % 9)), .int .i64 (pf % 4), .int .i64 pt, .int .i64 (pid % 5), .int .i64 (pl % 4), .int .i64 ((pp % 5) - 1), .int .i64 (ps % 3), .bool pfl, .slice a3 m3 c3]) 9 (fun _ => by kernel_rfl) (holds_own .here) rfl (by exact ⟨rfl, rfl, rfl, rfl, rfl, rfl, rfl, rfl, rfl, trivial⟩)) ?_
          refine s_do (by kernel_rfl) (by kernel_rfl) (st_store (off := 0) (vs := [.int .i64 (1 + (pk % 9)), .int .i64 (pf % 4), .int .i64 pt, .int .i64 (pid % 5), .int .i64 (pl % 4), .int .i64 ((pp % 5) - 1), .int .i64 (ps % 3), .bool pfl, .slice a3 m3 c3]) (c' := #[.int .i64 (1 + (pk % 9)), .int .i64 (pf % 4), .int .i64 pt, .int .i64 (pid % 5), .int .i64 (pl % 4), .int .i64 ((pp % 5) - 1), .int .i64 (ps % 3), .bool pfl, .slice a3 m3 c3]) (fun _ => by kernel_rfl) (.there (.there .here)) (by kernel_rfl) (by kernel_rfl) (by kernel_rfl)) ?_
          rintro _ _ ⟨rfl, rfl⟩
          refine ops_end ?_
          refine At.env [(0, .agg #[.int .i64 pk, .int .i64 pf, .int .i64 pt, .int .i64 pid, .int .i64 pl, .int .i64 pp, .int .i64 ps, .bool pfl, .slice pa pm pc]), (1, .int .i64 hw), (2, .pointer (some ⟨b1, 0, none⟩)), (4, .pointer (some ⟨b2, 0, none⟩)), (5, .pointer (some ⟨b4, 0, none⟩)), (36, .int .i64 (hw % 40)), (37, .bool false), (42, .bool false), (47, .bool true)] ⟨by kernel_rfl, by kernel_rfl, by kernel_rfl, by kernel_rfl, by kernel_rfl, by kernel_rfl, by kernel_rfl, by kernel_rfl, by kernel_rfl, trivial⟩ ?_
          refine at_then_normal ?_
          refine at_ret (by kernel_rfl) ?_
          refine at_backR [.agg #[.int .i64 (1 + (pk % 9)), .int .i64 (pf % 4), .int .i64 pt, .int .i64 (pid % 5), .int .i64 (pl % 4), .int .i64 ((pp % 5) - 1), .int .i64 (ps % 3), .bool pfl, .slice a3 m3 c3]] ((IntsA a3 c3 (xs.take 4)) :: Γ) (rs := [.cell 4 38]) (by kernel_rfl) (.cons (.cell (by kernel_rfl) (retN (off := 0) (vs := [.int .i64 (1 + (pk % 9)), .int .i64 (pf % 4), .int .i64 pt, .int .i64 (pid % 5), .int .i64 (pl % 4), .int .i64 ((pp % 5) - 1), .int .i64 (ps % 3), .bool pfl, .slice a3 m3 c3]) 9 (fun _ => by kernel_rfl) (holds_own .here) rfl (by exact ⟨rfl, rfl, rfl, rfl, rfl, rfl, rfl, rfl, rfl, trivial⟩))) .nil) (fun w hw => hw.less (.take (.there (.there .here)) (.drop .here (.drop .here (.drop .here .refl))))) ?_
          exact ⟨_, _, _, _, _, _, _, _, _, _, _, _, rfl, by assumption, rfl⟩
        · refine s_pure 48 (.bool false) (by kernel_rfl) (by kernel_rfl) (run_eq (v := .bool (decide ((hw % 40) = (33 : Int)))) (fun _ => by kernel_rfl) (congrArg Value.bool (by rw [decide_eq_false h12]))) ?_
          refine s_pure 47 (.bool false) (by kernel_rfl) (by kernel_rfl) (fun _ => by kernel_rfl) ?_
          refine ops_end ?_
          refine At.env [(0, .agg #[.int .i64 pk, .int .i64 pf, .int .i64 pt, .int .i64 pid, .int .i64 pl, .int .i64 pp, .int .i64 ps, .bool pfl, .slice pa pm pc]), (1, .int .i64 hw), (2, .pointer (some ⟨b1, 0, none⟩)), (4, .pointer (some ⟨b2, 0, none⟩)), (5, .pointer (some ⟨b4, 0, none⟩)), (36, .int .i64 (hw % 40)), (37, .bool false), (42, .bool false), (47, .bool false)] ⟨by kernel_rfl, by kernel_rfl, by kernel_rfl, by kernel_rfl, by kernel_rfl, by kernel_rfl, by kernel_rfl, by kernel_rfl, by kernel_rfl, trivial⟩ ?_
          refine at_then_normal ?_
          refine at_false (t := false) (x := C26 [1, 1, 0, 1, 0, 1, 1, 1, 1, 1, 0]) (y := C26 [1, 1, 0, 1, 0, 1, 1, 1, 1, 1, 1]) (o := .tmp 47) (by kernel_rfl) (by kernel_rfl) (by kernel_rfl) rfl ?_
          refine at_seq (x := C26 [1, 1, 0, 1, 0, 1, 1, 1, 1, 1, 1, 0]) (y := C26 [1, 1, 0, 1, 0, 1, 1, 1, 1, 1, 1, 1]) (by kernel_rfl) ?_
          refine at_region (id := 9) 2 (by kernel_rfl) (by kernel_rfl) ?_
          rcases Decidable.em ((hw % 40) = (34 : Int)) with h13 | h13
          · refine s_pure 53 (.bool true) (by kernel_rfl) (by kernel_rfl) (run_eq (v := .bool (decide ((hw % 40) = (34 : Int)))) (fun _ => by kernel_rfl) (congrArg Value.bool (by rw [decide_eq_true h13]))) ?_
            refine s_pure 52 (.bool true) (by kernel_rfl) (by kernel_rfl) (fun _ => by kernel_rfl) ?_
            refine ops_end ?_
            refine At.env [(0, .agg #[.int .i64 pk, .int .i64 pf, .int .i64 pt, .int .i64 pid, .int .i64 pl, .int .i64 pp, .int .i64 ps, .bool pfl, .slice pa pm pc]), (1, .int .i64 hw), (2, .pointer (some ⟨b1, 0, none⟩)), (4, .pointer (some ⟨b2, 0, none⟩)), (5, .pointer (some ⟨b4, 0, none⟩)), (36, .int .i64 (hw % 40)), (37, .bool false), (42, .bool false), (47, .bool false), (52, .bool true)] ⟨by kernel_rfl, by kernel_rfl, by kernel_rfl, by kernel_rfl, by kernel_rfl, by kernel_rfl, by kernel_rfl, by kernel_rfl, by kernel_rfl, by kernel_rfl, trivial⟩ ?_
            refine at_then_normal ?_
            refine at_true (t := true) (x := C26 [1, 1, 0, 1, 0, 1, 1, 1, 1, 1, 1, 1, 0]) (y := C26 [1, 1, 0, 1, 0, 1, 1, 1, 1, 1, 1, 1, 1]) (o := .tmp 52) (by kernel_rfl) (by kernel_rfl) (by kernel_rfl) rfl ?_
            refine at_region (id := 10) 4 (by kernel_rfl) (by kernel_rfl) ?_
            refine s_pure 54 (.pointer (some ⟨b1, 3, none⟩)) (by kernel_rfl) (by kernel_rfl) (fun _ => by kernel_rfl) ?_
            refine s_load 55 (.int .i64 pid) (by kernel_rfl) (by kernel_rfl) (load1 (off := 3) (fun _ => by kernel_rfl) (holds_own (.there (.there (.there .here)))) (by kernel_rfl)) ?_
            refine s_pure 56 (.pointer (some ⟨b4, 3, none⟩)) (by kernel_rfl) (by kernel_rfl) (fun _ => by kernel_rfl) ?_
            refine s_do (by kernel_rfl) (by kernel_rfl) (st_store (off := 3) (vs := [.int .i64 pid]) (c' := #[.int .i64 (1 + (pk % 9)), .int .i64 (pf % 4), .int .i64 (pt % 4), .int .i64 pid, .int .i64 (pl % 4), .int .i64 ((pp % 5) - 1), .int .i64 (ps % 3), .bool pfl, .slice a3 m3 c3]) (fun _ => by kernel_rfl) .here (by kernel_rfl) (by kernel_rfl) (by kernel_rfl)) ?_
            rintro _ _ ⟨rfl, rfl⟩
            refine ops_end ?_
            refine At.env [(0, .agg #[.int .i64 pk, .int .i64 pf, .int .i64 pt, .int .i64 pid, .int .i64 pl, .int .i64 pp, .int .i64 ps, .bool pfl, .slice pa pm pc]), (1, .int .i64 hw), (2, .pointer (some ⟨b1, 0, none⟩)), (4, .pointer (some ⟨b2, 0, none⟩)), (5, .pointer (some ⟨b4, 0, none⟩)), (36, .int .i64 (hw % 40)), (37, .bool false), (42, .bool false), (47, .bool false), (52, .bool true)] ⟨by kernel_rfl, by kernel_rfl, by kernel_rfl, by kernel_rfl, by kernel_rfl, by kernel_rfl, by kernel_rfl, by kernel_rfl, by kernel_rfl, by kernel_rfl, trivial⟩ ?_
            refine at_in_normal ?_
            refine at_then_normal ?_
            refine at_seq (x := C26 [1, 1, 1, 0]) (y := C26 [1, 1, 1, 1]) (by kernel_rfl) ?_
            refine at_region (id := 21) 2 (by kernel_rfl) (by kernel_rfl) ?_
            refine s_load 84 (.agg #[.int .i64 (1 + (pk % 9)), .int .i64 (pf % 4), .int .i64 (pt % 4), .int .i64 pid, .int .i64 (pl % 4), .int .i64 ((pp % 5) - 1), .int .i64 (ps % 3), .bool pfl, .slice a3 m3 c3]) (by kernel_rfl) (by kernel_rfl) (loadN (off := 0) (vs := [.int .i64 (1 + (pk % 9)), .int .i64 (pf % 4), .int .i64 (pt % 4), .int .i64 pid, .int .i64 (pl % 4), .int .i64 ((pp % 5) - 1), .int .i64 (ps % 3), .bool pfl, .slice a3 m3 c3]) 9 (fun _ => by kernel_rfl) (holds_own .here) rfl (by exact ⟨rfl, rfl, rfl, rfl, rfl, rfl, rfl, rfl, rfl, trivial⟩)) ?_
            refine s_do (by kernel_rfl) (by kernel_rfl) (st_store (off := 0) (vs := [.int .i64 (1 + (pk % 9)), .int .i64 (pf % 4), .int .i64 (pt % 4), .int .i64 pid, .int .i64 (pl % 4), .int .i64 ((pp % 5) - 1), .int .i64 (ps % 3), .bool pfl, .slice a3 m3 c3]) (c' := #[.int .i64 (1 + (pk % 9)), .int .i64 (pf % 4), .int .i64 (pt % 4), .int .i64 pid, .int .i64 (pl % 4), .int .i64 ((pp % 5) - 1), .int .i64 (ps % 3), .bool pfl, .slice a3 m3 c3]) (fun _ => by kernel_rfl) (.there (.there .here)) (by kernel_rfl) (by kernel_rfl) (by kernel_rfl)) ?_
            rintro _ _ ⟨rfl, rfl⟩
            refine ops_end ?_
            refine At.env [(0, .agg #[.int .i64 pk, .int .i64 pf, .int .i64 pt, .int .i64 pid, .int .i64 pl, .int .i64 pp, .int .i64 ps, .bool pfl, .slice pa pm pc]), (1, .int .i64 hw), (2, .pointer (some ⟨b1, 0, none⟩)), (4, .pointer (some ⟨b2, 0, none⟩)), (5, .pointer (some ⟨b4, 0, none⟩)), (36, .int .i64 (hw % 40)), (37, .bool false), (42, .bool false), (47, .bool false), (52, .bool true)] ⟨by kernel_rfl, by kernel_rfl, by kernel_rfl, by kernel_rfl, by kernel_rfl, by kernel_rfl, by kernel_rfl, by kernel_rfl, by kernel_rfl, by kernel_rfl, trivial⟩ ?_
            refine at_then_normal ?_
            refine at_ret (by kernel_rfl) ?_
            refine at_backR [.agg #[.int .i64 (1 + (pk % 9)), .int .i64 (pf % 4), .int .i64 (pt % 4), .int .i64 pid, .int .i64 (pl % 4), .int .i64 ((pp % 5) - 1), .int .i64 (ps % 3), .bool pfl, .slice a3 m3 c3]] ((IntsA a3 c3 (xs.take 4)) :: Γ) (rs := [.cell 4 38]) (by kernel_rfl) (.cons (.cell (by kernel_rfl) (retN (off := 0) (vs := [.int .i64 (1 + (pk % 9)), .int .i64 (pf % 4), .int .i64 (pt % 4), .int .i64 pid, .int .i64 (pl % 4), .int .i64 ((pp % 5) - 1), .int .i64 (ps % 3), .bool pfl, .slice a3 m3 c3]) 9 (fun _ => by kernel_rfl) (holds_own .here) rfl (by exact ⟨rfl, rfl, rfl, rfl, rfl, rfl, rfl, rfl, rfl, trivial⟩))) .nil) (fun w hw => hw.less (.take (.there (.there .here)) (.drop .here (.drop .here (.drop .here .refl))))) ?_
            exact ⟨_, _, _, _, _, _, _, _, _, _, _, _, rfl, by assumption, rfl⟩
          · refine s_pure 53 (.bool false) (by kernel_rfl) (by kernel_rfl) (run_eq (v := .bool (decide ((hw % 40) = (34 : Int)))) (fun _ => by kernel_rfl) (congrArg Value.bool (by rw [decide_eq_false h13]))) ?_
            refine s_pure 52 (.bool false) (by kernel_rfl) (by kernel_rfl) (fun _ => by kernel_rfl) ?_
            refine ops_end ?_
            refine At.env [(0, .agg #[.int .i64 pk, .int .i64 pf, .int .i64 pt, .int .i64 pid, .int .i64 pl, .int .i64 pp, .int .i64 ps, .bool pfl, .slice pa pm pc]), (1, .int .i64 hw), (2, .pointer (some ⟨b1, 0, none⟩)), (4, .pointer (some ⟨b2, 0, none⟩)), (5, .pointer (some ⟨b4, 0, none⟩)), (36, .int .i64 (hw % 40)), (37, .bool false), (42, .bool false), (47, .bool false), (52, .bool false)] ⟨by kernel_rfl, by kernel_rfl, by kernel_rfl, by kernel_rfl, by kernel_rfl, by kernel_rfl, by kernel_rfl, by kernel_rfl, by kernel_rfl, by kernel_rfl, trivial⟩ ?_
            refine at_then_normal ?_
            refine at_false (t := false) (x := C26 [1, 1, 0, 1, 0, 1, 1, 1, 1, 1, 1, 1, 0]) (y := C26 [1, 1, 0, 1, 0, 1, 1, 1, 1, 1, 1, 1, 1]) (o := .tmp 52) (by kernel_rfl) (by kernel_rfl) (by kernel_rfl) rfl ?_
            refine at_seq (x := C26 [1, 1, 0, 1, 0, 1, 1, 1, 1, 1, 1, 1, 1, 0]) (y := C26 [1, 1, 0, 1, 0, 1, 1, 1, 1, 1, 1, 1, 1, 1]) (by kernel_rfl) ?_
            refine at_region (id := 11) 2 (by kernel_rfl) (by kernel_rfl) ?_
            rcases Decidable.em ((hw % 40) = (35 : Int)) with h14 | h14
            · refine s_pure 58 (.bool true) (by kernel_rfl) (by kernel_rfl) (run_eq (v := .bool (decide ((hw % 40) = (35 : Int)))) (fun _ => by kernel_rfl) (congrArg Value.bool (by rw [decide_eq_true h14]))) ?_
              refine s_pure 57 (.bool true) (by kernel_rfl) (by kernel_rfl) (fun _ => by kernel_rfl) ?_
              refine ops_end ?_
              refine At.env [(0, .agg #[.int .i64 pk, .int .i64 pf, .int .i64 pt, .int .i64 pid, .int .i64 pl, .int .i64 pp, .int .i64 ps, .bool pfl, .slice pa pm pc]), (1, .int .i64 hw), (2, .pointer (some ⟨b1, 0, none⟩)), (4, .pointer (some ⟨b2, 0, none⟩)), (5, .pointer (some ⟨b4, 0, none⟩)), (36, .int .i64 (hw % 40)), (37, .bool false), (42, .bool false), (47, .bool false), (52, .bool false), (57, .bool true)] ⟨by kernel_rfl, by kernel_rfl, by kernel_rfl, by kernel_rfl, by kernel_rfl, by kernel_rfl, by kernel_rfl, by kernel_rfl, by kernel_rfl, by kernel_rfl, by kernel_rfl, trivial⟩ ?_
              refine at_then_normal ?_
              refine at_true (t := true) (x := C26 [1, 1, 0, 1, 0, 1, 1, 1, 1, 1, 1, 1, 1, 1, 0]) (y := C26 [1, 1, 0, 1, 0, 1, 1, 1, 1, 1, 1, 1, 1, 1, 1]) (o := .tmp 57) (by kernel_rfl) (by kernel_rfl) (by kernel_rfl) rfl ?_
              refine at_region (id := 12) 4 (by kernel_rfl) (by kernel_rfl) ?_
              refine s_pure 59 (.pointer (some ⟨b1, 4, none⟩)) (by kernel_rfl) (by kernel_rfl) (fun _ => by kernel_rfl) ?_
              refine s_load 60 (.int .i64 pl) (by kernel_rfl) (by kernel_rfl) (load1 (off := 4) (fun _ => by kernel_rfl) (holds_own (.there (.there (.there .here)))) (by kernel_rfl)) ?_
              refine s_pure 61 (.pointer (some ⟨b4, 4, none⟩)) (by kernel_rfl) (by kernel_rfl) (fun _ => by kernel_rfl) ?_
              refine s_do (by kernel_rfl) (by kernel_rfl) (st_store (off := 4) (vs := [.int .i64 pl]) (c' := #[.int .i64 (1 + (pk % 9)), .int .i64 (pf % 4), .int .i64 (pt % 4), .int .i64 (pid % 5), .int .i64 pl, .int .i64 ((pp % 5) - 1), .int .i64 (ps % 3), .bool pfl, .slice a3 m3 c3]) (fun _ => by kernel_rfl) .here (by kernel_rfl) (by kernel_rfl) (by kernel_rfl)) ?_
              rintro _ _ ⟨rfl, rfl⟩
              refine ops_end ?_
              refine At.env [(0, .agg #[.int .i64 pk, .int .i64 pf, .int .i64 pt, .int .i64 pid, .int .i64 pl, .int .i64 pp, .int .i64 ps, .bool pfl, .slice pa pm pc]), (1, .int .i64 hw), (2, .pointer (some ⟨b1, 0, none⟩)), (4, .pointer (some ⟨b2, 0, none⟩)), (5, .pointer (some ⟨b4, 0, none⟩)), (36, .int .i64 (hw % 40)), (37, .bool false), (42, .bool false), (47, .bool false), (52, .bool false), (57, .bool true)] ⟨by kernel_rfl, by kernel_rfl, by kernel_rfl, by kernel_rfl, by kernel_rfl, by kernel_rfl, by kernel_rfl, by kernel_rfl, by kernel_rfl, by kernel_rfl, by kernel_rfl, trivial⟩ ?_
              refine at_in_normal ?_
              refine at_then_normal ?_
              refine at_seq (x := C26 [1, 1, 1, 0]) (y := C26 [1, 1, 1, 1]) (by kernel_rfl) ?_
              refine at_region (id := 21) 2 (by kernel_rfl) (by kernel_rfl) ?_
              refine s_load 84 (.agg #[.int .i64 (1 + (pk % 9)), .int .i64 (pf % 4), .int .i64 (pt % 4), .int .i64 (pid % 5), .int .i64 pl, .int .i64 ((pp % 5) - 1), .int .i64 (ps % 3), .bool pfl, .slice a3 m3 c3]) (by kernel_rfl) (by kernel_rfl) (loadN (off := 0) (vs := [.int .i64 (1 + (pk % 9)), .int .i64 (pf % 4), .int .i64 (pt % 4), .int .i64 (pid % 5), .int .i64 pl, .int .i64 ((pp % 5) - 1), .int .i64 (ps % 3), .bool pfl, .slice a3 m3 c3]) 9 (fun _ => by kernel_rfl) (holds_own .here) rfl (by exact ⟨rfl, rfl, rfl, rfl, rfl, rfl, rfl, rfl, rfl, trivial⟩)) ?_
              refine s_do (by kernel_rfl) (by kernel_rfl) (st_store (off := 0) (vs := [.int .i64 (1 + (pk % 9)), .int .i64 (pf % 4), .int .i64 (pt % 4), .int .i64 (pid % 5), .int .i64 pl, .int .i64 ((pp % 5) - 1), .int .i64 (ps % 3), .bool pfl, .slice a3 m3 c3]) (c' := #[.int .i64 (1 + (pk % 9)), .int .i64 (pf % 4), .int .i64 (pt % 4), .int .i64 (pid % 5), .int .i64 pl, .int .i64 ((pp % 5) - 1), .int .i64 (ps % 3), .bool pfl, .slice a3 m3 c3]) (fun _ => by kernel_rfl) (.there (.there .here)) (by kernel_rfl) (by kernel_rfl) (by kernel_rfl)) ?_
              rintro _ _ ⟨rfl, rfl⟩
              refine ops_end ?_
              refine At.env [(0, .agg #[.int .i64 pk, .int .i64 pf, .int .i64 pt, .int .i64 pid, .int .i64 pl, .int .i64 pp, .int .i64 ps, .bool pfl, .slice pa pm pc]), (1, .int .i64 hw), (2, .pointer (some ⟨b1, 0, none⟩)), (4, .pointer (some ⟨b2, 0, none⟩)), (5, .pointer (some ⟨b4, 0, none⟩)), (36, .int .i64 (hw % 40)), (37, .bool false), (42, .bool false), (47, .bool false), (52, .bool false), (57, .bool true)] ⟨by kernel_rfl, by kernel_rfl, by kernel_rfl, by kernel_rfl, by kernel_rfl, by kernel_rfl, by kernel_rfl, by kernel_rfl, by kernel_rfl, by kernel_rfl, by kernel_rfl, trivial⟩ ?_
              refine at_then_normal ?_
              refine at_ret (by kernel_rfl) ?_
              refine at_backR [.agg #[.int .i64 (1 + (pk % 9)), .int .i64 (pf % 4), .int .i64 (pt % 4), .int .i64 (pid % 5), .int .i64 pl, .int .i64 ((pp % 5) - 1), .int .i64 (ps % 3), .bool pfl, .slice a3 m3 c3]] ((IntsA a3 c3 (xs.take 4)) :: Γ) (rs := [.cell 4 38]) (by kernel_rfl) (.cons (.cell (by kernel_rfl) (retN (off := 0) (vs := [.int .i64 (1 + (pk % 9)), .int .i64 (pf % 4), .int .i64 (pt % 4), .int .i64 (pid % 5), .int .i64 pl, .int .i64 ((pp % 5) - 1), .int .i64 (ps % 3), .bool pfl, .slice a3 m3 c3]) 9 (fun _ => by kernel_rfl) (holds_own .here) rfl (by exact ⟨rfl, rfl, rfl, rfl, rfl, rfl, rfl, rfl, rfl, trivial⟩))) .nil) (fun w hw => hw.less (.take (.there (.there .here)) (.drop .here (.drop .here (.drop .here .refl))))) ?_
              exact ⟨_, _, _, _, _, _, _, _, _, _, _, _, rfl, by assumption, rfl⟩
            · refine s_pure 58 (.bool false) (by kernel_rfl) (by kernel_rfl) (run_eq (v := .bool (decide ((hw % 40) = (35 : Int)))) (fun _ => by kernel_rfl) (congrArg Value.bool (by rw [decide_eq_false h14]))) ?_
              refine s_pure 57 (.bool false) (by kernel_rfl) (by kernel_rfl) (fun _ => by kernel_rfl) ?_
              refine ops_end ?_
              refine At.env [(0, .agg #[.int .i64 pk, .int .i64 pf, .int .i64 pt, .int .i64 pid, .int .i64 pl, .int .i64 pp, .int .i64 ps, .bool pfl, .slice pa pm pc]), (1, .int .i64 hw), (2, .pointer (some ⟨b1, 0, none⟩)), (4, .pointer (some ⟨b2, 0, none⟩)), (5, .pointer (some ⟨b4, 0, none⟩)), (36, .int .i64 (hw % 40)), (37, .bool false), (42, .bool false), (47, .bool false), (52, .bool false), (57, .bool false)] ⟨by kernel_rfl, by kernel_rfl, by kernel_rfl, by kernel_rfl, by kernel_rfl, by kernel_rfl, by kernel_rfl, by kernel_rfl, by kernel_rfl, by kernel_rfl, by kernel_rfl, trivial⟩ ?_
              refine at_then_normal ?_
              refine at_false (t := false) (x := C26 [1, 1, 0, 1, 0, 1, 1, 1, 1, 1, 1, 1, 1, 1, 0]) (y := C26 [1, 1, 0, 1, 0, 1, 1, 1, 1, 1, 1, 1, 1, 1, 1]) (o := .tmp 57) (by kernel_rfl) (by kernel_rfl) (by kernel_rfl) rfl ?_
              refine at_seq (x := C26 [1, 1, 0, 1, 0, 1, 1, 1, 1, 1, 1, 1, 1, 1, 1, 0]) (y := C26 [1, 1, 0, 1, 0, 1, 1, 1, 1, 1, 1, 1, 1, 1, 1, 1]) (by kernel_rfl) ?_
              refine at_region (id := 13) 2 (by kernel_rfl) (by kernel_rfl) ?_
              rcases Decidable.em ((hw % 40) = (36 : Int)) with h15 | h15
              · refine s_pure 63 (.bool true) (by kernel_rfl) (by kernel_rfl) (run_eq (v := .bool (decide ((hw % 40) = (36 : Int)))) (fun _ => by kernel_rfl) (congrArg Value.bool (by rw [decide_eq_true h15]))) ?_
                refine s_pure 62 (.bool true) (by kernel_rfl) (by kernel_rfl) (fun _ => by kernel_rfl) ?_
                refine ops_end ?_
                refine At.env [(0, .agg #[.int .i64 pk, .int .i64 pf, .int .i64 pt, .int .i64 pid, .int .i64 pl, .int .i64 pp, .int .i64 ps, .bool pfl, .slice pa pm pc]), (1, .int .i64 hw), (2, .pointer (some ⟨b1, 0, none⟩)), (4, .pointer (some ⟨b2, 0, none⟩)), (5, .pointer (some ⟨b4, 0, none⟩)), (36, .int .i64 (hw % 40)), (37, .bool false), (42, .bool false), (47, .bool false), (52, .bool false), (57, .bool false), (62, .bool true)] ⟨by kernel_rfl, by kernel_rfl, by kernel_rfl, by kernel_rfl, by kernel_rfl, by kernel_rfl, by kernel_rfl, by kernel_rfl, by kernel_rfl, by kernel_rfl, by kernel_rfl, by kernel_rfl, trivial⟩ ?_
                refine at_then_normal ?_
                refine at_true (t := true) (x := C26 [1, 1, 0, 1, 0, 1, 1, 1, 1, 1, 1, 1, 1, 1, 1, 1, 0]) (y := C26 [1, 1, 0, 1, 0, 1, 1, 1, 1, 1, 1, 1, 1, 1, 1, 1, 1]) (o := .tmp 62) (by kernel_rfl) (by kernel_rfl) (by kernel_rfl) rfl ?_
                refine at_region (id := 14) 4 (by kernel_rfl) (by kernel_rfl) ?_
                refine s_pure 64 (.pointer (some ⟨b1, 5, none⟩)) (by kernel_rfl) (by kernel_rfl) (fun _ => by kernel_rfl) ?_
                refine s_load 65 (.int .i64 pp) (by kernel_rfl) (by kernel_rfl) (load1 (off := 5) (fun _ => by kernel_rfl) (holds_own (.there (.there (.there .here)))) (by kernel_rfl)) ?_
                refine s_pure 66 (.pointer (some ⟨b4, 5, none⟩)) (by kernel_rfl) (by kernel_rfl) (fun _ => by kernel_rfl) ?_
                refine s_do (by kernel_rfl) (by kernel_rfl) (st_store (off := 5) (vs := [.int .i64 pp]) (c' := #[.int .i64 (1 + (pk % 9)), .int .i64 (pf % 4), .int .i64 (pt % 4), .int .i64 (pid % 5), .int .i64 (pl % 4), .int .i64 pp, .int .i64 (ps % 3), .bool pfl, .slice a3 m3 c3]) (fun _ => by kernel_rfl) .here (by kernel_rfl) (by kernel_rfl) (by kernel_rfl)) ?_
                rintro _ _ ⟨rfl, rfl⟩
                refine ops_end ?_
                refine At.env [(0, .agg #[.int .i64 pk, .int .i64 pf, .int .i64 pt, .int .i64 pid, .int .i64 pl, .int .i64 pp, .int .i64 ps, .bool pfl, .slice pa pm pc]), (1, .int .i64 hw), (2, .pointer (some ⟨b1, 0, none⟩)), (4, .pointer (some ⟨b2, 0, none⟩)), (5, .pointer (some ⟨b4, 0, none⟩)), (36, .int .i64 (hw % 40)), (37, .bool false), (42, .bool false), (47, .bool false), (52, .bool false), (57, .bool false), (62, .bool true)] ⟨by kernel_rfl, by kernel_rfl, by kernel_rfl, by kernel_rfl, by kernel_rfl, by kernel_rfl, by kernel_rfl, by kernel_rfl, by kernel_rfl, by kernel_rfl, by kernel_rfl, by kernel_rfl, trivial⟩ ?_
                refine at_in_normal ?_
                refine at_then_normal ?_
                refine at_seq (x := C26 [1, 1, 1, 0]) (y := C26 [1, 1, 1, 1]) (by kernel_rfl) ?_
                refine at_region (id := 21) 2 (by kernel_rfl) (by kernel_rfl) ?_
                refine s_load 84 (.agg #[.int .i64 (1 + (pk % 9)), .int .i64 (pf % 4), .int .i64 (pt % 4), .int .i64 (pid % 5), .int .i64 (pl % 4), .int .i64 pp, .int .i64 (ps % 3), .bool pfl, .slice a3 m3 c3]) (by kernel_rfl) (by kernel_rfl) (loadN (off := 0) (vs := [.int .i64 (1 + (pk % 9)), .int .i64 (pf % 4), .int .i64 (pt % 4), .int .i64 (pid % 5), .int .i64 (pl % 4), .int .i64 pp, .int .i64 (ps % 3), .bool pfl, .slice a3 m3 c3]) 9 (fun _ => by kernel_rfl) (holds_own .here) rfl (by exact ⟨rfl, rfl, rfl, rfl, rfl, rfl, rfl, rfl, rfl, trivial⟩)) ?_
                refine s_do (by kernel_rfl) (by kernel_rfl) (st_store (off := 0) (vs := [.int .i64 (1 + (pk % 9)), .int .i64 (pf % 4), .int .i64 (pt % 4), .int .i64 (pid % 5), .int .i64 (pl % 4), .int .i64 pp, .int .i64 (ps % 3), .bool pfl, .slice a3 m3 c3]) (c' := #[.int .i64 (1 + (pk % 9)), .int .i64 (pf % 4), .int .i64 (pt % 4), .int .i64 (pid % 5), .int .i64 (pl % 4), .int .i64 pp, .int .i64 (ps % 3), .bool pfl, .slice a3 m3 c3]) (fun _ => by kernel_rfl) (.there (.there .here)) (by kernel_rfl) (by kernel_rfl) (by kernel_rfl)) ?_
                rintro _ _ ⟨rfl, rfl⟩
                refine ops_end ?_
                refine At.env [(0, .agg #[.int .i64 pk, .int .i64 pf, .int .i64 pt, .int .i64 pid, .int .i64 pl, .int .i64 pp, .int .i64 ps, .bool pfl, .slice pa pm pc]), (1, .int .i64 hw), (2, .pointer (some ⟨b1, 0, none⟩)), (4, .pointer (some ⟨b2, 0, none⟩)), (5, .pointer (some ⟨b4, 0, none⟩)), (36, .int .i64 (hw % 40)), (37, .bool false), (42, .bool false), (47, .bool false), (52, .bool false), (57, .bool false), (62, .bool true)] ⟨by kernel_rfl, by kernel_rfl, by kernel_rfl, by kernel_rfl, by kernel_rfl, by kernel_rfl, by kernel_rfl, by kernel_rfl, by kernel_rfl, by kernel_rfl, by kernel_rfl, by kernel_rfl, trivial⟩ ?_
                refine at_then_normal ?_
                refine at_ret (by kernel_rfl) ?_
                refine at_backR [.agg #[.int .i64 (1 + (pk % 9)), .int .i64 (pf % 4), .int .i64 (pt % 4), .int .i64 (pid % 5), .int .i64 (pl % 4), .int .i64 pp, .int .i64 (ps % 3), .bool pfl, .slice a3 m3 c3]] ((IntsA a3 c3 (xs.take 4)) :: Γ) (rs := [.cell 4 38]) (by kernel_rfl) (.cons (.cell (by kernel_rfl) (retN (off := 0) (vs := [.int .i64 (1 + (pk % 9)), .int .i64 (pf % 4), .int .i64 (pt % 4), .int .i64 (pid % 5), .int .i64 (pl % 4), .int .i64 pp, .int .i64 (ps % 3), .bool pfl, .slice a3 m3 c3]) 9 (fun _ => by kernel_rfl) (holds_own .here) rfl (by exact ⟨rfl, rfl, rfl, rfl, rfl, rfl, rfl, rfl, rfl, trivial⟩))) .nil) (fun w hw => hw.less (.take (.there (.there .here)) (.drop .here (.drop .here (.drop .here .refl))))) ?_
                exact ⟨_, _, _, _, _, _, _, _, _, _, _, _, rfl, by assumption, rfl⟩
              · refine s_pure 63 (.bool false) (by kernel_rfl) (by kernel_rfl) (run_eq (v := .bool (decide ((hw % 40) = (36 : Int)))) (fun _ => by kernel_rfl) (congrArg Value.bool (by rw [decide_eq_false h15]))) ?_
                refine s_pure 62 (.bool false) (by kernel_rfl) (by kernel_rfl) (fun _ => by kernel_rfl) ?_
                refine ops_end ?_
                refine At.env [(0, .agg #[.int .i64 pk, .int .i64 pf, .int .i64 pt, .int .i64 pid, .int .i64 pl, .int .i64 pp, .int .i64 ps, .bool pfl, .slice pa pm pc]), (1, .int .i64 hw), (2, .pointer (some ⟨b1, 0, none⟩)), (4, .pointer (some ⟨b2, 0, none⟩)), (5, .pointer (some ⟨b4, 0, none⟩)), (36, .int .i64 (hw % 40)), (37, .bool false), (42, .bool false), (47, .bool false), (52, .bool false), (57, .bool false), (62, .bool false)] ⟨by kernel_rfl, by kernel_rfl, by kernel_rfl, by kernel_rfl, by kernel_rfl, by kernel_rfl, by kernel_rfl, by kernel_rfl, by kernel_rfl, by kernel_rfl, by kernel_rfl, by kernel_rfl, trivial⟩ ?_
                refine at_then_normal ?_
                refine at_false (t := false) (x := C26 [1, 1, 0, 1, 0, 1, 1, 1, 1, 1, 1, 1, 1, 1, 1, 1, 0]) (y := C26 [1, 1, 0, 1, 0, 1, 1, 1, 1, 1, 1, 1, 1, 1, 1, 1, 1]) (o := .tmp 62) (by kernel_rfl) (by kernel_rfl) (by kernel_rfl) rfl ?_
                refine at_seq (x := C26 [1, 1, 0, 1, 0, 1, 1, 1, 1, 1, 1, 1, 1, 1, 1, 1, 1, 0]) (y := C26 [1, 1, 0, 1, 0, 1, 1, 1, 1, 1, 1, 1, 1, 1, 1, 1, 1, 1]) (by kernel_rfl) ?_
                refine at_region (id := 15) 2 (by kernel_rfl) (by kernel_rfl) ?_
                rcases Decidable.em ((hw % 40) = (37 : Int)) with h16 | h16
                · refine s_pure 68 (.bool true) (by kernel_rfl) (by kernel_rfl) (run_eq (v := .bool (decide ((hw % 40) = (37 : Int)))) (fun _ => by kernel_rfl) (congrArg Value.bool (by rw [decide_eq_true h16]))) ?_
                  refine s_pure 67 (.bool true) (by kernel_rfl) (by kernel_rfl) (fun _ => by kernel_rfl) ?_
                  refine ops_end ?_
                  refine At.env [(0, .agg #[.int .i64 pk, .int .i64 pf, .int .i64 pt, .int .i64 pid, .int .i64 pl, .int .i64 pp, .int .i64 ps, .bool pfl, .slice pa pm pc]), (1, .int .i64 hw), (2, .pointer (some ⟨b1, 0, none⟩)), (4, .pointer (some ⟨b2, 0, none⟩)), (5, .pointer (some ⟨b4, 0, none⟩)), (36, .int .i64 (hw % 40)), (37, .bool false), (42, .bool false), (47, .bool false), (52, .bool false), (57, .bool false), (62, .bool false), (67, .bool true)] ⟨by kernel_rfl, by kernel_rfl, by kernel_rfl, by kernel_rfl, by kernel_rfl, by kernel_rfl, by kernel_rfl, by kernel_rfl, by kernel_rfl, by kernel_rfl, by kernel_rfl, by kernel_rfl, by kernel_rfl, trivial⟩ ?_
                  refine at_then_normal ?_
                  refine at_true (t := true) (x := C26 [1, 1, 0, 1, 0, 1, 1, 1, 1, 1, 1, 1, 1, 1, 1, 1, 1, 1, 0]) (y := C26 [1, 1, 0, 1, 0, 1, 1, 1, 1, 1, 1, 1, 1, 1, 1, 1, 1, 1, 1]) (o := .tmp 67) (by kernel_rfl) (by kernel_rfl) (by kernel_rfl) rfl ?_
                  refine at_region (id := 16) 4 (by kernel_rfl) (by kernel_rfl) ?_
                  refine s_pure 69 (.pointer (some ⟨b1, 6, none⟩)) (by kernel_rfl) (by kernel_rfl) (fun _ => by kernel_rfl) ?_
                  refine s_load 70 (.int .i64 ps) (by kernel_rfl) (by kernel_rfl) (load1 (off := 6) (fun _ => by kernel_rfl) (holds_own (.there (.there (.there .here)))) (by kernel_rfl)) ?_
                  refine s_pure 71 (.pointer (some ⟨b4, 6, none⟩)) (by kernel_rfl) (by kernel_rfl) (fun _ => by kernel_rfl) ?_
                  refine s_do (by kernel_rfl) (by kernel_rfl) (st_store (off := 6) (vs := [.int .i64 ps]) (c' := #[.int .i64 (1 + (pk % 9)), .int .i64 (pf % 4), .int .i64 (pt % 4), .int .i64 (pid % 5), .int .i64 (pl % 4), .int .i64 ((pp % 5) - 1), .int .i64 ps, .bool pfl, .slice a3 m3 c3]) (fun _ => by kernel_rfl) .here (by kernel_rfl) (by kernel_rfl) (by kernel_rfl)) ?_
                  rintro _ _ ⟨rfl, rfl⟩
                  refine ops_end ?_
                  refine At.env [(0, .agg #[.int .i64 pk, .int .i64 pf, .int .i64 pt, .int .i64 pid, .int .i64 pl, .int .i64 pp, .int .i64 ps, .bool pfl, .slice pa pm pc]), (1, .int .i64 hw), (2, .pointer (some ⟨b1, 0, none⟩)), (4, .pointer (some ⟨b2, 0, none⟩)), (5, .pointer (some ⟨b4, 0, none⟩)), (36, .int .i64 (hw % 40)), (37, .bool false), (42, .bool false), (47, .bool false), (52, .bool false), (57, .bool false), (62, .bool false), (67, .bool true)] ⟨by kernel_rfl, by kernel_rfl, by kernel_rfl, by kernel_rfl, by kernel_rfl, by kernel_rfl, by kernel_rfl, by kernel_rfl, by kernel_rfl, by kernel_rfl, by kernel_rfl, by kernel_rfl, by kernel_rfl, trivial⟩ ?_
                  refine at_in_normal ?_
                  refine at_then_normal ?_
                  refine at_seq (x := C26 [1, 1, 1, 0]) (y := C26 [1, 1, 1, 1]) (by kernel_rfl) ?_
                  refine at_region (id := 21) 2 (by kernel_rfl) (by kernel_rfl) ?_
                  refine s_load 84 (.agg #[.int .i64 (1 + (pk % 9)), .int .i64 (pf % 4), .int .i64 (pt % 4), .int .i64 (pid % 5), .int .i64 (pl % 4), .int .i64 ((pp % 5) - 1), .int .i64 ps, .bool pfl, .slice a3 m3 c3]) (by kernel_rfl) (by kernel_rfl) (loadN (off := 0) (vs := [.int .i64 (1 + (pk % 9)), .int .i64 (pf % 4), .int .i64 (pt % 4), .int .i64 (pid % 5), .int .i64 (pl % 4), .int .i64 ((pp % 5) - 1), .int .i64 ps, .bool pfl, .slice a3 m3 c3]) 9 (fun _ => by kernel_rfl) (holds_own .here) rfl (by exact ⟨rfl, rfl, rfl, rfl, rfl, rfl, rfl, rfl, rfl, trivial⟩)) ?_
                  refine s_do (by kernel_rfl) (by kernel_rfl) (st_store (off := 0) (vs := [.int .i64 (1 + (pk % 9)), .int .i64 (pf % 4), .int .i64 (pt % 4), .int .i64 (pid % 5), .int .i64 (pl % 4), .int .i64 ((pp % 5) - 1), .int .i64 ps, .bool pfl, .slice a3 m3 c3]) (c' := #[.int .i64 (1 + (pk % 9)), .int .i64 (pf % 4), .int .i64 (pt % 4), .int .i64 (pid % 5), .int .i64 (pl % 4), .int .i64 ((pp % 5) - 1), .int .i64 ps, .bool pfl, .slice a3 m3 c3]) (fun _ => by kernel_rfl) (.there (.there .here)) (by kernel_rfl) (by kernel_rfl) (by kernel_rfl)) ?_
                  rintro _ _ ⟨rfl, rfl⟩
                  refine ops_end ?_
                  refine At.env [(0, .agg #[.int .i64 pk, .int .i64 pf, .int .i64 pt, .int .i64 pid, .int .i64 pl, .int .i64 pp, .int .i64 ps, .bool pfl, .slice pa pm pc]), (1, .int .i64 hw), (2, .pointer (some ⟨b1, 0, none⟩)), (4, .pointer (some ⟨b2, 0, none⟩)), (5, .pointer (some ⟨b4, 0, none⟩)), (36, .int .i64 (hw % 40)), (37, .bool false), (42, .bool false), (47, .bool false), (52, .bool false), (57, .bool false), (62, .bool false), (67, .bool true)] ⟨by kernel_rfl, by kernel_rfl, by kernel_rfl, by kernel_rfl, by kernel_rfl, by kernel_rfl, by kernel_rfl, by kernel_rfl, by kernel_rfl, by kernel_rfl, by kernel_rfl, by kernel_rfl, by kernel_rfl, trivial⟩ ?_
                  refine at_then_normal ?_
                  refine at_ret (by kernel_rfl) ?_
                  refine at_backR [.agg #[.int .i64 (1 + (pk % 9)), .int .i64 (pf % 4), .int .i64 (pt % 4), .int .i64 (pid % 5), .int .i64 (pl % 4), .int .i64 ((pp % 5) - 1), .int .i64 ps, .bool pfl, .slice a3 m3 c3]] ((IntsA a3 c3 (xs.take 4)) :: Γ) (rs := [.cell 4 38]) (by kernel_rfl) (.cons (.cell (by kernel_rfl) (retN (off := 0) (vs := [.int .i64 (1 + (pk % 9)), .int .i64 (pf % 4), .int .i64 (pt % 4), .int .i64 (pid % 5), .int .i64 (pl % 4), .int .i64 ((pp % 5) - 1), .int .i64 ps, .bool pfl, .slice a3 m3 c3]) 9 (fun _ => by kernel_rfl) (holds_own .here) rfl (by exact ⟨rfl, rfl, rfl, rfl, rfl, rfl, rfl, rfl, rfl, trivial⟩))) .nil) (fun w hw => hw.less (.take (.there (.there .here)) (.drop .here (.drop .here (.drop .here .refl))))) ?_
                  exact ⟨_, _, _, _, _, _, _, _, _, _, _, _, rfl, by assumption, rfl⟩
                · refine s_pure 68 (.bool false) (by kernel_rfl) (by kernel_rfl) (run_eq (v := .bool (decide ((hw % 40) = (37 : Int)))) (fun _ => by kernel_rfl) (congrArg Value.bool (by rw [decide_eq_false h16]))) ?_
                  refine s_pure 67 (.bool false) (by kernel_rfl) (by kernel_rfl) (fun _ => by kernel_rfl) ?_
                  refine ops_end ?_
                  refine At.env [(0, .agg #[.int .i64 pk, .int .i64 pf, .int .i64 pt, .int .i64 pid, .int .i64 pl, .int .i64 pp, .int .i64 ps, .bool pfl, .slice pa pm pc]), (1, .int .i64 hw), (2, .pointer (some ⟨b1, 0, none⟩)), (4, .pointer (some ⟨b2, 0, none⟩)), (5, .pointer (some ⟨b4, 0, none⟩)), (36, .int .i64 (hw % 40)), (37, .bool false), (42, .bool false), (47, .bool false), (52, .bool false), (57, .bool false), (62, .bool false), (67, .bool false)] ⟨by kernel_rfl, by kernel_rfl, by kernel_rfl, by kernel_rfl, by kernel_rfl, by kernel_rfl, by kernel_rfl, by kernel_rfl, by kernel_rfl, by kernel_rfl, by kernel_rfl, by kernel_rfl, by kernel_rfl, trivial⟩ ?_
                  refine at_then_normal ?_
                  refine at_false (t := false) (x := C26 [1, 1, 0, 1, 0, 1, 1, 1, 1, 1, 1, 1, 1, 1, 1, 1, 1, 1, 0]) (y := C26 [1, 1, 0, 1, 0, 1, 1, 1, 1, 1, 1, 1, 1, 1, 1, 1, 1, 1, 1]) (o := .tmp 67) (by kernel_rfl) (by kernel_rfl) (by kernel_rfl) rfl ?_
                  refine at_seq (x := C26 [1, 1, 0, 1, 0, 1, 1, 1, 1, 1, 1, 1, 1, 1, 1, 1, 1, 1, 1, 0]) (y := C26 [1, 1, 0, 1, 0, 1, 1, 1, 1, 1, 1, 1, 1, 1, 1, 1, 1, 1, 1, 1]) (by kernel_rfl) ?_
                  refine at_region (id := 17) 2 (by kernel_rfl) (by kernel_rfl) ?_
                  rcases Decidable.em ((hw % 40) = (38 : Int)) with h17 | h17
                  · refine s_pure 73 (.bool true) (by kernel_rfl) (by kernel_rfl) (run_eq (v := .bool (decide ((hw % 40) = (38 : Int)))) (fun _ => by kernel_rfl) (congrArg Value.bool (by rw [decide_eq_true h17]))) ?_
                    refine s_pure 72 (.bool true) (by kernel_rfl) (by kernel_rfl) (fun _ => by kernel_rfl) ?_
                    refine ops_end ?_
                    refine At.env [(0, .agg #[.int .i64 pk, .int .i64 pf, .int .i64 pt, .int .i64 pid, .int .i64 pl, .int .i64 pp, .int .i64 ps, .bool pfl, .slice pa pm pc]), (1, .int .i64 hw), (2, .pointer (some ⟨b1, 0, none⟩)), (4, .pointer (some ⟨b2, 0, none⟩)), (5, .pointer (some ⟨b4, 0, none⟩)), (36, .int .i64 (hw % 40)), (37, .bool false), (42, .bool false), (47, .bool false), (52, .bool false), (57, .bool false), (62, .bool false), (67, .bool false), (72, .bool true)] ⟨by kernel_rfl, by kernel_rfl, by kernel_rfl, by kernel_rfl, by kernel_rfl, by kernel_rfl, by kernel_rfl, by kernel_rfl, by kernel_rfl, by kernel_rfl, by kernel_rfl, by kernel_rfl, by kernel_rfl, by kernel_rfl, trivial⟩ ?_
                    refine at_then_normal ?_
                    refine at_true (t := true) (x := C26 [1, 1, 0, 1, 0, 1, 1, 1, 1, 1, 1, 1, 1, 1, 1, 1, 1, 1, 1, 1, 0]) (y := C26 [1, 1, 0, 1, 0, 1, 1, 1, 1, 1, 1, 1, 1, 1, 1, 1, 1, 1, 1, 1, 1]) (o := .tmp 72) (by kernel_rfl) (by kernel_rfl) (by kernel_rfl) rfl ?_
                    refine at_region (id := 18) 5 (by kernel_rfl) (by kernel_rfl) ?_
                    refine s_pure 74 (.pointer (some ⟨b1, 8, none⟩)) (by kernel_rfl) (by kernel_rfl) (fun _ => by kernel_rfl) ?_
                    refine s_load 75 (.slice pa pm pc) (by kernel_rfl) (by kernel_rfl) (load1 (off := 8) (fun _ => by kernel_rfl) (holds_own (.there (.there (.there .here)))) (by kernel_rfl)) ?_
                    refine s_call 76 19 #[.slice pa pm pc, .int .i64 (6)] (by kernel_rfl) (by kernel_rfl) (fun _ => by kernel_rfl) (Cut_tr pa pm pc 6 xs (hm) (Reads.conv (fun w hw => hw.less (.drop .here (.drop .here (.drop .here (.drop .here .refl))))) hr) (by omega) (by omega)) ?_
                    rintro _ _ ⟨a4, m4, c4, rfl, hm4, rfl⟩
                    refine s_pure 77 (.pointer (some ⟨b4, 8, none⟩)) (by kernel_rfl) (by kernel_rfl) (fun _ => by kernel_rfl) ?_
                    refine s_do (by kernel_rfl) (by kernel_rfl) (st_store (off := 8) (vs := [.slice a4 m4 c4]) (c' := #[.int .i64 (1 + (pk % 9)), .int .i64 (pf % 4), .int .i64 (pt % 4), .int .i64 (pid % 5), .int .i64 (pl % 4), .int .i64 ((pp % 5) - 1), .int .i64 (ps % 3), .bool pfl, .slice a4 m4 c4]) (fun _ => by kernel_rfl) (.there .here) (by kernel_rfl) (by kernel_rfl) (by kernel_rfl)) ?_
                    rintro _ _ ⟨rfl, rfl⟩
                    refine ops_end ?_
                    refine At.env [(0, .agg #[.int .i64 pk, .int .i64 pf, .int .i64 pt, .int .i64 pid, .int .i64 pl, .int .i64 pp, .int .i64 ps, .bool pfl, .slice pa pm pc]), (1, .int .i64 hw), (2, .pointer (some ⟨b1, 0, none⟩)), (4, .pointer (some ⟨b2, 0, none⟩)), (5, .pointer (some ⟨b4, 0, none⟩)), (36, .int .i64 (hw % 40)), (37, .bool false), (42, .bool false), (47, .bool false), (52, .bool false), (57, .bool false), (62, .bool false), (67, .bool false), (72, .bool true)] ⟨by kernel_rfl, by kernel_rfl, by kernel_rfl, by kernel_rfl, by kernel_rfl, by kernel_rfl, by kernel_rfl, by kernel_rfl, by kernel_rfl, by kernel_rfl, by kernel_rfl, by kernel_rfl, by kernel_rfl, by kernel_rfl, trivial⟩ ?_
                    refine at_in_normal ?_
                    refine at_then_normal ?_
                    refine at_seq (x := C26 [1, 1, 1, 0]) (y := C26 [1, 1, 1, 1]) (by kernel_rfl) ?_
                    refine at_region (id := 21) 2 (by kernel_rfl) (by kernel_rfl) ?_
                    refine s_load 84 (.agg #[.int .i64 (1 + (pk % 9)), .int .i64 (pf % 4), .int .i64 (pt % 4), .int .i64 (pid % 5), .int .i64 (pl % 4), .int .i64 ((pp % 5) - 1), .int .i64 (ps % 3), .bool pfl, .slice a4 m4 c4]) (by kernel_rfl) (by kernel_rfl) (loadN (off := 0) (vs := [.int .i64 (1 + (pk % 9)), .int .i64 (pf % 4), .int .i64 (pt % 4), .int .i64 (pid % 5), .int .i64 (pl % 4), .int .i64 ((pp % 5) - 1), .int .i64 (ps % 3), .bool pfl, .slice a4 m4 c4]) 9 (fun _ => by kernel_rfl) (holds_own .here) rfl (by exact ⟨rfl, rfl, rfl, rfl, rfl, rfl, rfl, rfl, rfl, trivial⟩)) ?_
                    refine s_do (by kernel_rfl) (by kernel_rfl) (st_store (off := 0) (vs := [.int .i64 (1 + (pk % 9)), .int .i64 (pf % 4), .int .i64 (pt % 4), .int .i64 (pid % 5), .int .i64 (pl % 4), .int .i64 ((pp % 5) - 1), .int .i64 (ps % 3), .bool pfl, .slice a4 m4 c4]) (c' := #[.int .i64 (1 + (pk % 9)), .int .i64 (pf % 4), .int .i64 (pt % 4), .int .i64 (pid % 5), .int .i64 (pl % 4), .int .i64 ((pp % 5) - 1), .int .i64 (ps % 3), .bool pfl, .slice a4 m4 c4]) (fun _ => by kernel_rfl) (.there (.there (.there .here))) (by kernel_rfl) (by kernel_rfl) (by kernel_rfl)) ?_
                    rintro _ _ ⟨rfl, rfl⟩
                    refine ops_end ?_
                    refine At.env [(0, .agg #[.int .i64 pk, .int .i64 pf, .int .i64 pt, .int .i64 pid, .int .i64 pl, .int .i64 pp, .int .i64 ps, .bool pfl, .slice pa pm pc]), (1, .int .i64 hw), (2, .pointer (some ⟨b1, 0, none⟩)), (4, .pointer (some ⟨b2, 0, none⟩)), (5, .pointer (some ⟨b4, 0, none⟩)), (36, .int .i64 (hw % 40)), (37, .bool false), (42, .bool false), (47, .bool false), (52, .bool false), (57, .bool false), (62, .bool false), (67, .bool false), (72, .bool true)] ⟨by kernel_rfl, by kernel_rfl, by kernel_rfl, by kernel_rfl, by kernel_rfl, by kernel_rfl, by kernel_rfl, by kernel_rfl, by kernel_rfl, by kernel_rfl, by kernel_rfl, by kernel_rfl, by kernel_rfl, by kernel_rfl, trivial⟩ ?_
                    refine at_then_normal ?_
                    refine at_ret (by kernel_rfl) ?_
                    refine at_backR [.agg #[.int .i64 (1 + (pk % 9)), .int .i64 (pf % 4), .int .i64 (pt % 4), .int .i64 (pid % 5), .int .i64 (pl % 4), .int .i64 ((pp % 5) - 1), .int .i64 (ps % 3), .bool pfl, .slice a4 m4 c4]] ((IntsA a4 c4 (xs.take 6)) :: Γ) (rs := [.cell 4 38]) (by kernel_rfl) (.cons (.cell (by kernel_rfl) (retN (off := 0) (vs := [.int .i64 (1 + (pk % 9)), .int .i64 (pf % 4), .int .i64 (pt % 4), .int .i64 (pid % 5), .int .i64 (pl % 4), .int .i64 ((pp % 5) - 1), .int .i64 (ps % 3), .bool pfl, .slice a4 m4 c4]) 9 (fun _ => by kernel_rfl) (holds_own .here) rfl (by exact ⟨rfl, rfl, rfl, rfl, rfl, rfl, rfl, rfl, rfl, trivial⟩))) .nil) (fun w hw => hw.less (.take (.there (.there .here)) (.drop .here (.drop .here (.drop .here (.drop .here .refl)))))) ?_
                    exact ⟨_, _, _, _, _, _, _, _, _, _, _, _, rfl, by assumption, rfl⟩
                  · refine s_pure 73 (.bool false) (by kernel_rfl) (by kernel_rfl) (run_eq (v := .bool (decide ((hw % 40) = (38 : Int)))) (fun _ => by kernel_rfl) (congrArg Value.bool (by rw [decide_eq_false h17]))) ?_
                    refine s_pure 72 (.bool false) (by kernel_rfl) (by kernel_rfl) (fun _ => by kernel_rfl) ?_
                    refine ops_end ?_
                    refine At.env [(0, .agg #[.int .i64 pk, .int .i64 pf, .int .i64 pt, .int .i64 pid, .int .i64 pl, .int .i64 pp, .int .i64 ps, .bool pfl, .slice pa pm pc]), (1, .int .i64 hw), (2, .pointer (some ⟨b1, 0, none⟩)), (4, .pointer (some ⟨b2, 0, none⟩)), (5, .pointer (some ⟨b4, 0, none⟩)), (36, .int .i64 (hw % 40)), (37, .bool false), (42, .bool false), (47, .bool false), (52, .bool false), (57, .bool false), (62, .bool false), (67, .bool false), (72, .bool false)] ⟨by kernel_rfl, by kernel_rfl, by kernel_rfl, by kernel_rfl, by kernel_rfl, by kernel_rfl, by kernel_rfl, by kernel_rfl, by kernel_rfl, by kernel_rfl, by kernel_rfl, by kernel_rfl, by kernel_rfl, by kernel_rfl, trivial⟩ ?_
                    refine at_then_normal ?_
                    refine at_false (t := false) (x := C26 [1, 1, 0, 1, 0, 1, 1, 1, 1, 1, 1, 1, 1, 1, 1, 1, 1, 1, 1, 1, 0]) (y := C26 [1, 1, 0, 1, 0, 1, 1, 1, 1, 1, 1, 1, 1, 1, 1, 1, 1, 1, 1, 1, 1]) (o := .tmp 72) (by kernel_rfl) (by kernel_rfl) (by kernel_rfl) rfl ?_
                    refine at_seq (x := C26 [1, 1, 0, 1, 0, 1, 1, 1, 1, 1, 1, 1, 1, 1, 1, 1, 1, 1, 1, 1, 1, 0]) (y := C26 [1, 1, 0, 1, 0, 1, 1, 1, 1, 1, 1, 1, 1, 1, 1, 1, 1, 1, 1, 1, 1, 1]) (by kernel_rfl) ?_
                    refine at_region (id := 19) 2 (by kernel_rfl) (by kernel_rfl) ?_
                    rcases Decidable.em ((hw % 40) = (39 : Int)) with h18 | h18
                    · refine s_pure 79 (.bool true) (by kernel_rfl) (by kernel_rfl) (run_eq (v := .bool (decide ((hw % 40) = (39 : Int)))) (fun _ => by kernel_rfl) (congrArg Value.bool (by rw [decide_eq_true h18]))) ?_
                      refine s_pure 78 (.bool true) (by kernel_rfl) (by kernel_rfl) (fun _ => by kernel_rfl) ?_
                      refine ops_end ?_
                      refine At.env [(0, .agg #[.int .i64 pk, .int .i64 pf, .int .i64 pt, .int .i64 pid, .int .i64 pl, .int .i64 pp, .int .i64 ps, .bool pfl, .slice pa pm pc]), (1, .int .i64 hw), (2, .pointer (some ⟨b1, 0, none⟩)), (4, .pointer (some ⟨b2, 0, none⟩)), (5, .pointer (some ⟨b4, 0, none⟩)), (36, .int .i64 (hw % 40)), (37, .bool false), (42, .bool false), (47, .bool false), (52, .bool false), (57, .bool false), (62, .bool false), (67, .bool false), (72, .bool false), (78, .bool true)] ⟨by kernel_rfl, by kernel_rfl, by kernel_rfl, by kernel_rfl, by kernel_rfl, by kernel_rfl, by kernel_rfl, by kernel_rfl, by kernel_rfl, by kernel_rfl, by kernel_rfl, by kernel_rfl, by kernel_rfl, by kernel_rfl, by kernel_rfl, trivial⟩ ?_
                      refine at_then_normal ?_
                      refine at_true (t := true) (x := C26 [1, 1, 0, 1, 0, 1, 1, 1, 1, 1, 1, 1, 1, 1, 1, 1, 1, 1, 1, 1, 1, 1, 0]) (y := C26 [1, 1, 0, 1, 0, 1, 1, 1, 1, 1, 1, 1, 1, 1, 1, 1, 1, 1, 1, 1, 1, 1, 1]) (o := .tmp 78) (by kernel_rfl) (by kernel_rfl) (by kernel_rfl) rfl ?_
                      refine at_region (id := 20) 5 (by kernel_rfl) (by kernel_rfl) ?_
                      refine s_pure 80 (.pointer (some ⟨b1, 3, none⟩)) (by kernel_rfl) (by kernel_rfl) (fun _ => by kernel_rfl) ?_
                      refine s_load 81 (.int .i64 pid) (by kernel_rfl) (by kernel_rfl) (load1 (off := 3) (fun _ => by kernel_rfl) (holds_own (.there (.there (.there .here)))) (by kernel_rfl)) ?_
                      refine s_quiet 82 (.int .i64 (pid % 4096)) 12 #[.int .i64 pid, .int .i64 (4096)] (by kernel_rfl) (by kernel_rfl) (fun _ => by kernel_rfl) (Within_tr (pid) (4096) (by omega) (by omega)) ?_
                      refine s_pure 83 (.pointer (some ⟨b4, 3, none⟩)) (by kernel_rfl) (by kernel_rfl) (fun _ => by kernel_rfl) ?_
                      refine s_do (by kernel_rfl) (by kernel_rfl) (st_store (off := 3) (vs := [.int .i64 (pid % 4096)]) (c' := #[.int .i64 (1 + (pk % 9)), .int .i64 (pf % 4), .int .i64 (pt % 4), .int .i64 (pid % 4096), .int .i64 (pl % 4), .int .i64 ((pp % 5) - 1), .int .i64 (ps % 3), .bool pfl, .slice a3 m3 c3]) (fun _ => by kernel_rfl) .here (by kernel_rfl) (by kernel_rfl) (by kernel_rfl)) ?_
                      rintro _ _ ⟨rfl, rfl⟩
                      refine ops_end ?_
                      refine At.env [(0, .agg #[.int .i64 pk, .int .i64 pf, .int .i64 pt, .int .i64 pid, .int .i64 pl, .int .i64 pp, .int .i64 ps, .bool pfl, .slice pa pm pc]), (1, .int .i64 hw), (2, .pointer (some ⟨b1, 0, none⟩)), (4, .pointer (some ⟨b2, 0, none⟩)), (5, .pointer (some ⟨b4, 0, none⟩)), (36, .int .i64 (hw % 40)), (37, .bool false), (42, .bool false), (47, .bool false), (52, .bool false), (57, .bool false), (62, .bool false), (67, .bool false), (72, .bool false), (78, .bool true)] ⟨by kernel_rfl, by kernel_rfl, by kernel_rfl, by kernel_rfl, by kernel_rfl, by kernel_rfl, by kernel_rfl, by kernel_rfl, by kernel_rfl, by kernel_rfl, by kernel_rfl, by kernel_rfl, by kernel_rfl, by kernel_rfl, by kernel_rfl, trivial⟩ ?_
                      refine at_in_normal ?_
                      refine at_then_normal ?_
                      refine at_seq (x := C26 [1, 1, 1, 0]) (y := C26 [1, 1, 1, 1]) (by kernel_rfl) ?_
                      refine at_region (id := 21) 2 (by kernel_rfl) (by kernel_rfl) ?_
                      refine s_load 84 (.agg #[.int .i64 (1 + (pk % 9)), .int .i64 (pf % 4), .int .i64 (pt % 4), .int .i64 (pid % 4096), .int .i64 (pl % 4), .int .i64 ((pp % 5) - 1), .int .i64 (ps % 3), .bool pfl, .slice a3 m3 c3]) (by kernel_rfl) (by kernel_rfl) (loadN (off := 0) (vs := [.int .i64 (1 + (pk % 9)), .int .i64 (pf % 4), .int .i64 (pt % 4), .int .i64 (pid % 4096), .int .i64 (pl % 4), .int .i64 ((pp % 5) - 1), .int .i64 (ps % 3), .bool pfl, .slice a3 m3 c3]) 9 (fun _ => by kernel_rfl) (holds_own .here) rfl (by exact ⟨rfl, rfl, rfl, rfl, rfl, rfl, rfl, rfl, rfl, trivial⟩)) ?_
                      refine s_do (by kernel_rfl) (by kernel_rfl) (st_store (off := 0) (vs := [.int .i64 (1 + (pk % 9)), .int .i64 (pf % 4), .int .i64 (pt % 4), .int .i64 (pid % 4096), .int .i64 (pl % 4), .int .i64 ((pp % 5) - 1), .int .i64 (ps % 3), .bool pfl, .slice a3 m3 c3]) (c' := #[.int .i64 (1 + (pk % 9)), .int .i64 (pf % 4), .int .i64 (pt % 4), .int .i64 (pid % 4096), .int .i64 (pl % 4), .int .i64 ((pp % 5) - 1), .int .i64 (ps % 3), .bool pfl, .slice a3 m3 c3]) (fun _ => by kernel_rfl) (.there (.there .here)) (by kernel_rfl) (by kernel_rfl) (by kernel_rfl)) ?_
                      rintro _ _ ⟨rfl, rfl⟩
                      refine ops_end ?_
                      refine At.env [(0, .agg #[.int .i64 pk, .int .i64 pf, .int .i64 pt, .int .i64 pid, .int .i64 pl, .int .i64 pp, .int .i64 ps, .bool pfl, .slice pa pm pc]), (1, .int .i64 hw), (2, .pointer (some ⟨b1, 0, none⟩)), (4, .pointer (some ⟨b2, 0, none⟩)), (5, .pointer (some ⟨b4, 0, none⟩)), (36, .int .i64 (hw % 40)), (37, .bool false), (42, .bool false), (47, .bool false), (52, .bool false), (57, .bool false), (62, .bool false), (67, .bool false), (72, .bool false), (78, .bool true)] ⟨by kernel_rfl, by kernel_rfl, by kernel_rfl, by kernel_rfl, by kernel_rfl, by kernel_rfl, by kernel_rfl, by kernel_rfl, by kernel_rfl, by kernel_rfl, by kernel_rfl, by kernel_rfl, by kernel_rfl, by kernel_rfl, by kernel_rfl, trivial⟩ ?_
                      refine at_then_normal ?_
                      refine at_ret (by kernel_rfl) ?_
                      refine at_backR [.agg #[.int .i64 (1 + (pk % 9)), .int .i64 (pf % 4), .int .i64 (pt % 4), .int .i64 (pid % 4096), .int .i64 (pl % 4), .int .i64 ((pp % 5) - 1), .int .i64 (ps % 3), .bool pfl, .slice a3 m3 c3]] ((IntsA a3 c3 (xs.take 4)) :: Γ) (rs := [.cell 4 38]) (by kernel_rfl) (.cons (.cell (by kernel_rfl) (retN (off := 0) (vs := [.int .i64 (1 + (pk % 9)), .int .i64 (pf % 4), .int .i64 (pt % 4), .int .i64 (pid % 4096), .int .i64 (pl % 4), .int .i64 ((pp % 5) - 1), .int .i64 (ps % 3), .bool pfl, .slice a3 m3 c3]) 9 (fun _ => by kernel_rfl) (holds_own .here) rfl (by exact ⟨rfl, rfl, rfl, rfl, rfl, rfl, rfl, rfl, rfl, trivial⟩))) .nil) (fun w hw => hw.less (.take (.there (.there .here)) (.drop .here (.drop .here (.drop .here .refl))))) ?_
                      exact ⟨_, _, _, _, _, _, _, _, _, _, _, _, rfl, by assumption, rfl⟩
                    · refine s_pure 79 (.bool false) (by kernel_rfl) (by kernel_rfl) (run_eq (v := .bool (decide ((hw % 40) = (39 : Int)))) (fun _ => by kernel_rfl) (congrArg Value.bool (by rw [decide_eq_false h18]))) ?_
                      refine s_pure 78 (.bool false) (by kernel_rfl) (by kernel_rfl) (fun _ => by kernel_rfl) ?_
                      refine ops_end ?_
                      refine At.env [(0, .agg #[.int .i64 pk, .int .i64 pf, .int .i64 pt, .int .i64 pid, .int .i64 pl, .int .i64 pp, .int .i64 ps, .bool pfl, .slice pa pm pc]), (1, .int .i64 hw), (2, .pointer (some ⟨b1, 0, none⟩)), (4, .pointer (some ⟨b2, 0, none⟩)), (5, .pointer (some ⟨b4, 0, none⟩)), (36, .int .i64 (hw % 40)), (37, .bool false), (42, .bool false), (47, .bool false), (52, .bool false), (57, .bool false), (62, .bool false), (67, .bool false), (72, .bool false), (78, .bool false)] ⟨by kernel_rfl, by kernel_rfl, by kernel_rfl, by kernel_rfl, by kernel_rfl, by kernel_rfl, by kernel_rfl, by kernel_rfl, by kernel_rfl, by kernel_rfl, by kernel_rfl, by kernel_rfl, by kernel_rfl, by kernel_rfl, by kernel_rfl, trivial⟩ ?_
                      refine at_then_normal ?_
                      refine at_false (t := false) (x := C26 [1, 1, 0, 1, 0, 1, 1, 1, 1, 1, 1, 1, 1, 1, 1, 1, 1, 1, 1, 1, 1, 1, 0]) (y := C26 [1, 1, 0, 1, 0, 1, 1, 1, 1, 1, 1, 1, 1, 1, 1, 1, 1, 1, 1, 1, 1, 1, 1]) (o := .tmp 78) (by kernel_rfl) (by kernel_rfl) (by kernel_rfl) rfl ?_
                      refine at_skip (by kernel_rfl) ?_
                      refine at_in_normal ?_
                      refine at_then_normal ?_
                      refine at_seq (x := C26 [1, 1, 1, 0]) (y := C26 [1, 1, 1, 1]) (by kernel_rfl) ?_
                      refine at_region (id := 21) 2 (by kernel_rfl) (by kernel_rfl) ?_
                      refine s_load 84 (.agg #[.int .i64 (1 + (pk % 9)), .int .i64 (pf % 4), .int .i64 (pt % 4), .int .i64 (pid % 5), .int .i64 (pl % 4), .int .i64 ((pp % 5) - 1), .int .i64 (ps % 3), .bool pfl, .slice a3 m3 c3]) (by kernel_rfl) (by kernel_rfl) (loadN (off := 0) (vs := [.int .i64 (1 + (pk % 9)), .int .i64 (pf % 4), .int .i64 (pt % 4), .int .i64 (pid % 5), .int .i64 (pl % 4), .int .i64 ((pp % 5) - 1), .int .i64 (ps % 3), .bool pfl, .slice a3 m3 c3]) 9 (fun _ => by kernel_rfl) (holds_own .here) rfl (by exact ⟨rfl, rfl, rfl, rfl, rfl, rfl, rfl, rfl, rfl, trivial⟩)) ?_
                      refine s_do (by kernel_rfl) (by kernel_rfl) (st_store (off := 0) (vs := [.int .i64 (1 + (pk % 9)), .int .i64 (pf % 4), .int .i64 (pt % 4), .int .i64 (pid % 5), .int .i64 (pl % 4), .int .i64 ((pp % 5) - 1), .int .i64 (ps % 3), .bool pfl, .slice a3 m3 c3]) (c' := #[.int .i64 (1 + (pk % 9)), .int .i64 (pf % 4), .int .i64 (pt % 4), .int .i64 (pid % 5), .int .i64 (pl % 4), .int .i64 ((pp % 5) - 1), .int .i64 (ps % 3), .bool pfl, .slice a3 m3 c3]) (fun _ => by kernel_rfl) (.there (.there .here)) (by kernel_rfl) (by kernel_rfl) (by kernel_rfl)) ?_
                      rintro _ _ ⟨rfl, rfl⟩
                      refine ops_end ?_
                      refine At.env [(0, .agg #[.int .i64 pk, .int .i64 pf, .int .i64 pt, .int .i64 pid, .int .i64 pl, .int .i64 pp, .int .i64 ps, .bool pfl, .slice pa pm pc]), (1, .int .i64 hw), (2, .pointer (some ⟨b1, 0, none⟩)), (4, .pointer (some ⟨b2, 0, none⟩)), (5, .pointer (some ⟨b4, 0, none⟩)), (36, .int .i64 (hw % 40)), (37, .bool false), (42, .bool false), (47, .bool false), (52, .bool false), (57, .bool false), (62, .bool false), (67, .bool false), (72, .bool false), (78, .bool false)] ⟨by kernel_rfl, by kernel_rfl, by kernel_rfl, by kernel_rfl, by kernel_rfl, by kernel_rfl, by kernel_rfl, by kernel_rfl, by kernel_rfl, by kernel_rfl, by kernel_rfl, by kernel_rfl, by kernel_rfl, by kernel_rfl, by kernel_rfl, trivial⟩ ?_
                      refine at_then_normal ?_
                      refine at_ret (by kernel_rfl) ?_
                      refine at_backR [.agg #[.int .i64 (1 + (pk % 9)), .int .i64 (pf % 4), .int .i64 (pt % 4), .int .i64 (pid % 5), .int .i64 (pl % 4), .int .i64 ((pp % 5) - 1), .int .i64 (ps % 3), .bool pfl, .slice a3 m3 c3]] ((IntsA a3 c3 (xs.take 4)) :: Γ) (rs := [.cell 4 38]) (by kernel_rfl) (.cons (.cell (by kernel_rfl) (retN (off := 0) (vs := [.int .i64 (1 + (pk % 9)), .int .i64 (pf % 4), .int .i64 (pt % 4), .int .i64 (pid % 5), .int .i64 (pl % 4), .int .i64 ((pp % 5) - 1), .int .i64 (ps % 3), .bool pfl, .slice a3 m3 c3]) 9 (fun _ => by kernel_rfl) (holds_own .here) rfl (by exact ⟨rfl, rfl, rfl, rfl, rfl, rfl, rfl, rfl, rfl, trivial⟩))) .nil) (fun w hw => hw.less (.take (.there (.there .here)) (.drop .here (.drop .here (.drop .here .refl))))) ?_
                      exact ⟨_, _, _, _, _, _, _, _, _, _, _, _, rfl, by assumption, rfl⟩
end Go.Proofs.Ytpcffplbedbpkaa
