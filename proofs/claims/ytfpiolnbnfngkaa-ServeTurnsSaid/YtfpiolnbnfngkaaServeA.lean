/- A packet is served from a cache: what is answered, and what the cache is then. -/
import Derived.Test.YtfpiolnbnfngkaaCacheB
import Derived.Test.YtfpiolnbnfngkaaSlDealLaw
namespace Go.Proofs.Ytfpiolnbnfngkaa
open Go Go.RowKit
set_option linter.unusedVariables false
set_option linter.unusedSimpArgs false
noncomputable def C67 (p : List Nat) : Code := codeAt (bodyOf Try.f67) p
set_option maxRecDepth 100000 in
theorem Below_tr {W0 : World} {Γ : List Asn} (x lo hi : Int) : Tr Try.prog 67 #[.int .i64 x, .int .i64 lo, .int .i64 hi] W0 (Γ) (fun r Δ => r = .bool (decide (lo ≤ x) && decide (x < hi)) ∧ Δ = Γ) := by
  refine Tr.enter (fn := Try.f67) (c := C67 []) (args := [.int .i64 x, .int .i64 lo, .int .i64 hi]) 15 Try.func67 (by kernel_rfl) (by kernel_rfl) ?_
  refine At.env [(0, .int .i64 x), (1, .int .i64 lo), (2, .int .i64 hi)] ⟨by kernel_rfl, by kernel_rfl, by kernel_rfl, trivial⟩ ?_
  refine at_seq (x := C67 [0]) (y := C67 [1]) (by kernel_rfl) ?_
  refine at_region (id := 0) 1 (by kernel_rfl) (by kernel_rfl) ?_
  refine s_pure 6 (.bool false) (by kernel_rfl) (by kernel_rfl) (fun _ => by kernel_rfl) ?_
  refine ops_end ?_
  refine At.env [(0, .int .i64 x), (1, .int .i64 lo), (2, .int .i64 hi), (6, .bool false)] ⟨by kernel_rfl, by kernel_rfl, by kernel_rfl, by kernel_rfl, trivial⟩ ?_
  refine at_then_normal ?_
  refine at_seq (x := C67 [1, 0]) (y := C67 [1, 1]) (by kernel_rfl) ?_
  refine at_region (id := 1) 9 (by kernel_rfl) (by kernel_rfl) ?_
  refine s_pure 7 (.int .i64 x) (by kernel_rfl) (by kernel_rfl) (fun _ => by kernel_rfl) ?_
  refine s_pure 8 (.int .i64 lo) (by kernel_rfl) (by kernel_rfl) (fun _ => by kernel_rfl) ?_
  rcases Decidable.em (lo ≤ x) with h1 | h1
  · refine s_pure 9 (.bool true) (by kernel_rfl) (by kernel_rfl) (run_eq (v := .bool (decide (lo ≤ x))) (fun _ => by kernel_rfl) (congrArg Value.bool (by rw [decide_eq_true h1]))) ?_
    refine s_pure 10 (.bool true) (by kernel_rfl) (by kernel_rfl) (fun _ => by kernel_rfl) ?_
    refine s_pure 11 (.int .i64 x) (by kernel_rfl) (by kernel_rfl) (fun _ => by kernel_rfl) ?_
    refine s_pure 12 (.int .i64 hi) (by kernel_rfl) (by kernel_rfl) (fun _ => by kernel_rfl) ?_
    rcases Decidable.em (x < hi) with h2 | h2
    · refine s_pure 13 (.bool true) (by kernel_rfl) (by kernel_rfl) (run_eq (v := .bool (decide (x < hi))) (fun _ => by kernel_rfl) (congrArg Value.bool (by rw [decide_eq_true h2]))) ?_
      refine s_pure 14 (.bool true) (by kernel_rfl) (by kernel_rfl) (fun _ => by kernel_rfl) ?_
      refine s_pure 6 (.bool true) (by kernel_rfl) (by kernel_rfl) (fun _ => by kernel_rfl) ?_
      refine ops_end ?_
      refine At.env [(0, .int .i64 x), (1, .int .i64 lo), (2, .int .i64 hi), (6, .bool true)] ⟨by kernel_rfl, by kernel_rfl, by kernel_rfl, by kernel_rfl, trivial⟩ ?_
      refine at_then_normal ?_
      refine at_ret (by kernel_rfl) ?_
      refine at_backR [.bool true] (Γ) (rs := [.tmp 6]) (by kernel_rfl) (.cons (.tmp (by kernel_rfl)) .nil) (fun w hw => hw.less .refl) ?_
      exact ⟨congrArg Value.bool (by simp [*]), rfl⟩
    · refine s_pure 13 (.bool false) (by kernel_rfl) (by kernel_rfl) (run_eq (v := .bool (decide (x < hi))) (fun _ => by kernel_rfl) (congrArg Value.bool (by rw [decide_eq_false h2]))) ?_
      refine s_pure 14 (.bool false) (by kernel_rfl) (by kernel_rfl) (fun _ => by kernel_rfl) ?_
      refine s_pure 6 (.bool false) (by kernel_rfl) (by kernel_rfl) (fun _ => by kernel_rfl) ?_
      refine ops_end ?_
      refine At.env [(0, .int .i64 x), (1, .int .i64 lo), (2, .int .i64 hi), (6, .bool false)] ⟨by kernel_rfl, by kernel_rfl, by kernel_rfl, by kernel_rfl, trivial⟩ ?_
      refine at_then_normal ?_
      refine at_ret (by kernel_rfl) ?_
      refine at_backR [.bool false] (Γ) (rs := [.tmp 6]) (by kernel_rfl) (.cons (.tmp (by kernel_rfl)) .nil) (fun w hw => hw.less .refl) ?_
      exact ⟨congrArg Value.bool (by simp [*]), rfl⟩
  · refine s_pure 9 (.bool false) (by kernel_rfl) (by kernel_rfl) (run_eq (v := .bool (decide (lo ≤ x))) (fun _ => by kernel_rfl) (congrArg Value.bool (by rw [decide_eq_false h1]))) ?_
    refine s_pure 10 (.bool false) (by kernel_rfl) (by kernel_rfl) (fun _ => by kernel_rfl) ?_
    refine s_pass 11 (by kernel_rfl) (by kernel_rfl) ?_
    refine s_pass 12 (by kernel_rfl) (by kernel_rfl) ?_
    refine s_pass 13 (by kernel_rfl) (by kernel_rfl) ?_
    refine s_pure 14 (.bool false) (by kernel_rfl) (by kernel_rfl) (fun _ => by kernel_rfl) ?_
    refine s_pure 6 (.bool false) (by kernel_rfl) (by kernel_rfl) (fun _ => by kernel_rfl) ?_
    refine ops_end ?_
    refine At.env [(0, .int .i64 x), (1, .int .i64 lo), (2, .int .i64 hi), (6, .bool false)] ⟨by kernel_rfl, by kernel_rfl, by kernel_rfl, by kernel_rfl, trivial⟩ ?_
    refine at_then_normal ?_
    refine at_ret (by kernel_rfl) ?_
    refine at_backR [.bool false] (Γ) (rs := [.tmp 6]) (by kernel_rfl) (.cons (.tmp (by kernel_rfl)) .nil) (fun w hw => hw.less .refl) ?_
    exact ⟨congrArg Value.bool (by simp [*]), rfl⟩
noncomputable def C51 (p : List Nat) : Code := codeAt (bodyOf Try.f51) p
set_option maxRecDepth 100000 in
theorem Check_ok {W0 : World} {Γ : List Asn} (pk pf pt pid pl pp ps : Int) (pfl : Bool) (pa : Option Addr) (pm pc : Nat) (ok1 : 0 ≤ pf ∧ pf < 6) (ok2 : 0 ≤ pt ∧ pt < 6) (ok3 : 0 ≤ pid ∧ pid < 4096) (ok4 : 1 ≤ pk ∧ pk < 10) (ok5 : 0 ≤ pl ∧ pl < 8) (ok6 : -1 ≤ pp ∧ pp < 6) (ok7 : 0 ≤ ps ∧ ps < 3) (ok8 : pm ≤ 4)  : Tr Try.prog 51 #[.agg #[.int .i64 pk, .int .i64 pf, .int .i64 pt, .int .i64 pid, .int .i64 pl, .int .i64 pp, .int .i64 ps, .bool pfl, .slice pa pm pc]] W0 (Γ) (fun r Δ => r = .int .i64 0 ∧ Δ = Γ) := by
  refine Tr.enter (fn := Try.f51) (c := C51 []) (args := [.agg #[.int .i64 pk, .int .i64 pf, .int .i64 pt, .int .i64 pid, .int .i64 pl, .int .i64 pp, .int .i64 ps, .bool pfl, .slice pa pm pc]]) 49 Try.func51 (by kernel_rfl) (by kernel_rfl) ?_
  refine At.env [(0, .agg #[.int .i64 pk, .int .i64 pf, .int .i64 pt, .int .i64 pid, .int .i64 pl, .int .i64 pp, .int .i64 ps, .bool pfl, .slice pa pm pc])] ⟨by kernel_rfl, trivial⟩ ?_
  refine at_seq (x := C51 [0]) (y := C51 [1]) (by kernel_rfl) ?_
  refine at_region (id := 0) 2 (by kernel_rfl) (by kernel_rfl) ?_
  refine s_step 1 (by kernel_rfl) (by kernel_rfl) (st_new (T := 35) (cells := #[.int .i64 pk, .int .i64 pf, .int .i64 pt, .int .i64 pid, .int .i64 pl, .int .i64 pp, .int .i64 ps, .bool pfl, .slice pa pm pc]) (fun a => .pointer (some a)) (fun _ => by kernel_rfl)) ?_
  rintro _ _ ⟨b1, rfl, rfl⟩
  refine s_pure 2 (.int .i64 (0)) (by kernel_rfl) (by kernel_rfl) (fun _ => by kernel_rfl) ?_
  refine ops_end ?_
  refine At.env [(0, .agg #[.int .i64 pk, .int .i64 pf, .int .i64 pt, .int .i64 pid, .int .i64 pl, .int .i64 pp, .int .i64 ps, .bool pfl, .slice pa pm pc]), (1, .pointer (some ⟨b1, 0, none⟩)), (2, .int .i64 (0))] ⟨by kernel_rfl, by kernel_rfl, by kernel_rfl, trivial⟩ ?_
  refine at_then_normal ?_
  refine at_seq (x := C51 [1, 0]) (y := C51 [1, 1]) (by kernel_rfl) ?_
  refine at_region (id := 1) 14 (by kernel_rfl) (by kernel_rfl) ?_
  refine s_pure 5 (.pointer (some ⟨b1, 1, none⟩)) (by kernel_rfl) (by kernel_rfl) (fun _ => by kernel_rfl) ?_
  refine s_load 6 (.int .i64 pf) (by kernel_rfl) (by kernel_rfl) (load1 (off := 1) (fun _ => by kernel_rfl) (holds_own .here) (by kernel_rfl)) ?_
  refine s_quiet 7 (.bool true) 67 #[.int .i64 pf, .int .i64 (0), .int .i64 (6)] (by kernel_rfl) (by kernel_rfl) (fun _ => by kernel_rfl) (Tr.as (Below_tr pf (0) (6)) (congrArg Value.bool (show (decide ((0 : Int) ≤ (pf : Int)) && decide ((pf : Int) < (6 : Int))) = true from (by simp only [Bool.and_eq_true, decide_eq_true_eq]; omega)))) ?_
  refine s_pure 8 (.bool true) (by kernel_rfl) (by kernel_rfl) (fun _ => by kernel_rfl) ?_
  refine s_pure 9 (.pointer (some ⟨b1, 2, none⟩)) (by kernel_rfl) (by kernel_rfl) (fun _ => by kernel_rfl) ?_
  refine s_load 10 (.int .i64 pt) (by kernel_rfl) (by kernel_rfl) (load1 (off := 2) (fun _ => by kernel_rfl) (holds_own .here) (by kernel_rfl)) ?_
  refine s_quiet 11 (.bool true) 67 #[.int .i64 pt, .int .i64 (0), .int .i64 (6)] (by kernel_rfl) (by kernel_rfl) (fun _ => by kernel_rfl) (Tr.as (Below_tr pt (0) (6)) (congrArg Value.bool (show (decide ((0 : Int) ≤ (pt : Int)) && decide ((pt : Int) < (6 : Int))) = true from (by simp only [Bool.and_eq_true, decide_eq_true_eq]; omega)))) ?_
  refine s_pure 12 (.bool true) (by kernel_rfl) (by kernel_rfl) (fun _ => by kernel_rfl) ?_
  refine s_pure 13 (.bool true) (by kernel_rfl) (by kernel_rfl) (fun _ => by kernel_rfl) ?_
  refine s_pure 14 (.pointer (some ⟨b1, 3, none⟩)) (by kernel_rfl) (by kernel_rfl) (fun _ => by kernel_rfl) ?_
  refine s_load 15 (.int .i64 pid) (by kernel_rfl) (by kernel_rfl) (load1 (off := 3) (fun _ => by kernel_rfl) (holds_own .here) (by kernel_rfl)) ?_
  refine s_quiet 16 (.bool true) 67 #[.int .i64 pid, .int .i64 (0), .int .i64 (4096)] (by kernel_rfl) (by kernel_rfl) (fun _ => by kernel_rfl) (Tr.as (Below_tr pid (0) (4096)) (congrArg Value.bool (show (decide ((0 : Int) ≤ (pid : Int)) && decide ((pid : Int) < (4096 : Int))) = true from (by simp only [Bool.and_eq_true, decide_eq_true_eq]; omega)))) ?_
  refine s_pure 17 (.bool true) (by kernel_rfl) (by kernel_rfl) (fun _ => by kernel_rfl) ?_
  refine s_pure 3 (.bool true) (by kernel_rfl) (by kernel_rfl) (fun _ => by kernel_rfl) ?_
  refine ops_end ?_
  refine At.env [(0, .agg #[.int .i64 pk, .int .i64 pf, .int .i64 pt, .int .i64 pid, .int .i64 pl, .int .i64 pp, .int .i64 ps, .bool pfl, .slice pa pm pc]), (1, .pointer (some ⟨b1, 0, none⟩)), (2, .int .i64 (0)), (3, .bool true)] ⟨by kernel_rfl, by kernel_rfl, by kernel_rfl, by kernel_rfl, trivial⟩ ?_
  refine at_then_normal ?_
  refine at_seq (x := C51 [1, 1, 0]) (y := C51 [1, 1, 1]) (by kernel_rfl) ?_
  refine at_region (id := 2) 14 (by kernel_rfl) (by kernel_rfl) ?_
  refine s_pure 18 (.pointer (some ⟨b1, 0, none⟩)) (by kernel_rfl) (by kernel_rfl) (fun _ => by kernel_rfl) ?_
  refine s_load 19 (.int .i64 pk) (by kernel_rfl) (by kernel_rfl) (load1 (off := 0) (fun _ => by kernel_rfl) (holds_own .here) (by kernel_rfl)) ?_
  refine s_quiet 20 (.bool true) 67 #[.int .i64 pk, .int .i64 (1), .int .i64 (10)] (by kernel_rfl) (by kernel_rfl) (fun _ => by kernel_rfl) (Tr.as (Below_tr pk (1) (10)) (congrArg Value.bool (show (decide ((1 : Int) ≤ (pk : Int)) && decide ((pk : Int) < (10 : Int))) = true from (by simp only [Bool.and_eq_true, decide_eq_true_eq]; omega)))) ?_
  refine s_pure 21 (.bool true) (by kernel_rfl) (by kernel_rfl) (fun _ => by kernel_rfl) ?_
  refine s_pure 22 (.pointer (some ⟨b1, 4, none⟩)) (by kernel_rfl) (by kernel_rfl) (fun _ => by kernel_rfl) ?_
  refine s_load 23 (.int .i64 pl) (by kernel_rfl) (by kernel_rfl) (load1 (off := 4) (fun _ => by kernel_rfl) (holds_own .here) (by kernel_rfl)) ?_
  refine s_quiet 24 (.bool true) 67 #[.int .i64 pl, .int .i64 (0), .int .i64 (8)] (by kernel_rfl) (by kernel_rfl) (fun _ => by kernel_rfl) (Tr.as (Below_tr pl (0) (8)) (congrArg Value.bool (show (decide ((0 : Int) ≤ (pl : Int)) && decide ((pl : Int) < (8 : Int))) = true from (by simp only [Bool.and_eq_true, decide_eq_true_eq]; omega)))) ?_
  refine s_pure 25 (.bool true) (by kernel_rfl) (by kernel_rfl) (fun _ => by kernel_rfl) ?_
  refine s_pure 26 (.bool true) (by kernel_rfl) (by kernel_rfl) (fun _ => by kernel_rfl) ?_
  refine s_pure 27 (.pointer (some ⟨b1, 5, none⟩)) (by kernel_rfl) (by kernel_rfl) (fun _ => by kernel_rfl) ?_
  refine s_load 28 (.int .i64 pp) (by kernel_rfl) (by kernel_rfl) (load1 (off := 5) (fun _ => by kernel_rfl) (holds_own .here) (by kernel_rfl)) ?_
  refine s_quiet 29 (.bool true) 67 #[.int .i64 pp, .int .i64 (-1), .int .i64 (6)] (by kernel_rfl) (by kernel_rfl) (fun _ => by kernel_rfl) (Tr.as (Below_tr pp ((-1)) (6)) (congrArg Value.bool (show (decide (((-1) : Int) ≤ (pp : Int)) && decide ((pp : Int) < (6 : Int))) = true from (by simp only [Bool.and_eq_true, decide_eq_true_eq]; omega)))) ?_
  refine s_pure 30 (.bool true) (by kernel_rfl) (by kernel_rfl) (fun _ => by kernel_rfl) ?_
  refine s_pure 4 (.bool true) (by kernel_rfl) (by kernel_rfl) (fun _ => by kernel_rfl) ?_
  refine ops_end ?_
  refine At.env [(0, .agg #[.int .i64 pk, .int .i64 pf, .int .i64 pt, .int .i64 pid, .int .i64 pl, .int .i64 pp, .int .i64 ps, .bool pfl, .slice pa pm pc]), (1, .pointer (some ⟨b1, 0, none⟩)), (2, .int .i64 (0)), (3, .bool true), (4, .bool true)] ⟨by kernel_rfl, by kernel_rfl, by kernel_rfl, by kernel_rfl, by kernel_rfl, trivial⟩ ?_
  refine at_then_normal ?_
  refine at_seq (x := C51 [1, 1, 1, 0]) (y := C51 [1, 1, 1, 1]) (by kernel_rfl) ?_
  refine at_seq (x := C51 [1, 1, 1, 0, 0]) (y := C51 [1, 1, 1, 0, 1]) (by kernel_rfl) ?_
  refine at_region (id := 3) 18 (by kernel_rfl) (by kernel_rfl) ?_
  refine s_pure 31 (.bool true) (by kernel_rfl) (by kernel_rfl) (fun _ => by kernel_rfl) ?_
  refine s_pure 32 (.bool false) (by kernel_rfl) (by kernel_rfl) (fun _ => by kernel_rfl) ?_
  refine s_pure 33 (.bool false) (by kernel_rfl) (by kernel_rfl) (fun _ => by kernel_rfl) ?_
  refine s_pure 34 (.bool true) (by kernel_rfl) (by kernel_rfl) (fun _ => by kernel_rfl) ?_
  refine s_pure 35 (.bool false) (by kernel_rfl) (by kernel_rfl) (fun _ => by kernel_rfl) ?_
  refine s_pure 36 (.bool false) (by kernel_rfl) (by kernel_rfl) (fun _ => by kernel_rfl) ?_
  refine s_pure 37 (.bool false) (by kernel_rfl) (by kernel_rfl) (fun _ => by kernel_rfl) ?_
  refine s_pure 38 (.pointer (some ⟨b1, 6, none⟩)) (by kernel_rfl) (by kernel_rfl) (fun _ => by kernel_rfl) ?_
  refine s_load 39 (.int .i64 ps) (by kernel_rfl) (by kernel_rfl) (load1 (off := 6) (fun _ => by kernel_rfl) (holds_own .here) (by kernel_rfl)) ?_
  refine s_quiet 40 (.bool true) 67 #[.int .i64 ps, .int .i64 (0), .int .i64 (3)] (by kernel_rfl) (by kernel_rfl) (fun _ => by kernel_rfl) (Tr.as (Below_tr ps (0) (3)) (congrArg Value.bool (show (decide ((0 : Int) ≤ (ps : Int)) && decide ((ps : Int) < (3 : Int))) = true from (by simp only [Bool.and_eq_true, decide_eq_true_eq]; omega)))) ?_
  refine s_pure 41 (.bool false) (by kernel_rfl) (by kernel_rfl) (fun _ => by kernel_rfl) ?_
  refine s_pure 42 (.bool false) (by kernel_rfl) (by kernel_rfl) (fun _ => by kernel_rfl) ?_
  refine s_pure 43 (.bool false) (by kernel_rfl) (by kernel_rfl) (fun _ => by kernel_rfl) ?_
  refine s_pure 44 (.pointer (some ⟨b1, 8, none⟩)) (by kernel_rfl) (by kernel_rfl) (fun _ => by kernel_rfl) ?_
  refine s_load 45 (.slice pa pm pc) (by kernel_rfl) (by kernel_rfl) (load1 (off := 8) (fun _ => by kernel_rfl) (holds_own .here) (by kernel_rfl)) ?_
  refine s_pure 46 (.int .i64 ((pm : Nat) : Int)) (by kernel_rfl) (by kernel_rfl) (fun _ => by kernel_rfl) ?_
  refine s_pure 47 (.bool false) (by kernel_rfl) (by kernel_rfl) (run_eq (v := .bool (decide ((4 : Int) < ((pm : Nat) : Int)))) (fun _ => by kernel_rfl) (congrArg Value.bool (by rw [decide_eq_false (by omega)]))) ?_
  refine s_pure 48 (.bool false) (by kernel_rfl) (by kernel_rfl) (fun _ => by kernel_rfl) ?_
  refine ops_end ?_
  refine At.env [(0, .agg #[.int .i64 pk, .int .i64 pf, .int .i64 pt, .int .i64 pid, .int .i64 pl, .int .i64 pp, .int .i64 ps, .bool pfl, .slice pa pm pc]), (1, .pointer (some ⟨b1, 0, none⟩)), (2, .int .i64 (0)), (3, .bool true), (4, .bool true), (48, .bool false)] ⟨by kernel_rfl, by kernel_rfl, by kernel_rfl, by kernel_rfl, by kernel_rfl, by kernel_rfl, trivial⟩ ?_
  refine at_then_normal ?_
  refine at_false (t := false) (x := C51 [1, 1, 1, 0, 1, 0]) (y := C51 [1, 1, 1, 0, 1, 1]) (o := .tmp 48) (by kernel_rfl) (by kernel_rfl) (by kernel_rfl) rfl ?_
  refine at_skip (by kernel_rfl) ?_
  refine at_then_normal ?_
  refine at_seq (x := C51 [1, 1, 1, 1, 0]) (y := C51 [1, 1, 1, 1, 1]) (by kernel_rfl) ?_
  refine at_region (id := 5) 1 (by kernel_rfl) (by kernel_rfl) ?_
  refine s_pure 2 (.int .i64 (0)) (by kernel_rfl) (by kernel_rfl) (fun _ => by kernel_rfl) ?_
  refine ops_end ?_
  refine At.env [(0, .agg #[.int .i64 pk, .int .i64 pf, .int .i64 pt, .int .i64 pid, .int .i64 pl, .int .i64 pp, .int .i64 ps, .bool pfl, .slice pa pm pc]), (1, .pointer (some ⟨b1, 0, none⟩)), (2, .int .i64 (0)), (3, .bool true), (4, .bool true), (48, .bool false)] ⟨by kernel_rfl, by kernel_rfl, by kernel_rfl, by kernel_rfl, by kernel_rfl, by kernel_rfl, trivial⟩ ?_
  refine at_then_normal ?_
  refine at_ret (by kernel_rfl) ?_
  refine at_backR [.int .i64 (0)] (Γ) (rs := [.tmp 2]) (by kernel_rfl) (.cons (.tmp (by kernel_rfl)) .nil) (fun w hw => hw.less (.drop .here .refl)) ?_
  exact ⟨rfl, rfl⟩
noncomputable def C52 (p : List Nat) : Code := codeAt (bodyOf Try.f52) p
set_option maxRecDepth 100000 in
theorem Answer_tr {W0 : World} {Γ : List Asn} (k : Int) : Tr Try.prog 52 #[.int .i64 k] W0 (Γ) (fun r Δ => r = .int .i64 (answerI k) ∧ Δ = Γ) := by
  refine Tr.enter (fn := Try.f52) (c := C52 []) (args := [.int .i64 k]) 13 Try.func52 (by kernel_rfl) (by kernel_rfl) ?_
  refine At.env [(0, .int .i64 k)] ⟨by kernel_rfl, trivial⟩ ?_
  refine at_seq (x := C52 [0]) (y := C52 [1]) (by kernel_rfl) ?_
  refine at_region (id := 0) 1 (by kernel_rfl) (by kernel_rfl) ?_
  refine s_pure 2 (.int .i64 (0)) (by kernel_rfl) (by kernel_rfl) (fun _ => by kernel_rfl) ?_
  refine ops_end ?_
  refine At.env [(0, .int .i64 k), (2, .int .i64 (0))] ⟨by kernel_rfl, by kernel_rfl, trivial⟩ ?_
  refine at_then_normal ?_
  refine at_seq (x := C52 [1, 0]) (y := C52 [1, 1]) (by kernel_rfl) ?_
  refine at_seq (x := C52 [1, 0, 0]) (y := C52 [1, 0, 1]) (by kernel_rfl) ?_
  refine at_region (id := 1) 1 (by kernel_rfl) (by kernel_rfl) ?_
  refine s_pure 3 (.int .i64 k) (by kernel_rfl) (by kernel_rfl) (fun _ => by kernel_rfl) ?_
  refine ops_end ?_
  refine At.env [(0, .int .i64 k), (2, .int .i64 (0)), (3, .int .i64 k)] ⟨by kernel_rfl, by kernel_rfl, by kernel_rfl, trivial⟩ ?_
  refine at_then_normal ?_
  refine at_block (i := 0) (x := C52 [1, 0, 1, 0]) (by kernel_rfl) ?_
  refine at_seq (x := C52 [1, 0, 1, 0, 0]) (y := C52 [1, 0, 1, 0, 1]) (by kernel_rfl) ?_
  refine at_region (id := 2) 2 (by kernel_rfl) (by kernel_rfl) ?_
  rcases Decidable.em (k = (1 : Int)) with h1 | h1
  · refine s_pure 5 (.bool true) (by kernel_rfl) (by kernel_rfl) (run_eq (v := .bool (decide (k = (1 : Int)))) (fun _ => by kernel_rfl) (congrArg Value.bool (by rw [decide_eq_true h1]))) ?_
    refine s_pure 4 (.bool true) (by kernel_rfl) (by kernel_rfl) (fun _ => by kernel_rfl) ?_
    refine ops_end ?_
    refine At.env [(0, .int .i64 k), (2, .int .i64 (0)), (3, .int .i64 k), (4, .bool true)] ⟨by kernel_rfl, by kernel_rfl, by kernel_rfl, by kernel_rfl, trivial⟩ ?_
    refine at_then_normal ?_
    refine at_true (t := true) (x := C52 [1, 0, 1, 0, 1, 0]) (y := C52 [1, 0, 1, 0, 1, 1]) (o := .tmp 4) (by kernel_rfl) (by kernel_rfl) (by kernel_rfl) rfl ?_
    refine at_seq (x := C52 [1, 0, 1, 0, 1, 0, 0]) (y := C52 [1, 0, 1, 0, 1, 0, 1]) (by kernel_rfl) ?_
    refine at_region (id := 3) 1 (by kernel_rfl) (by kernel_rfl) ?_
    refine s_pure 2 (.int .i64 (7)) (by kernel_rfl) (by kernel_rfl) (fun _ => by kernel_rfl) ?_
    refine ops_end ?_
    refine At.env [(0, .int .i64 k), (2, .int .i64 (7)), (3, .int .i64 k), (4, .bool true)] ⟨by kernel_rfl, by kernel_rfl, by kernel_rfl, by kernel_rfl, trivial⟩ ?_
    refine at_then_normal ?_
    refine at_ret (by kernel_rfl) ?_
    refine at_in_ret ?_
    refine at_then_ret ?_
    refine at_backR [.int .i64 (7)] (Γ) (rs := [.tmp 2]) (by kernel_rfl) (.cons (.tmp (by kernel_rfl)) .nil) (fun w hw => hw.less .refl) ?_
    exact ⟨congrArg (Value.int .i64) (by simp [answerI, *]), rfl⟩
  · refine s_pure 5 (.bool false) (by kernel_rfl) (by kernel_rfl) (run_eq (v := .bool (decide (k = (1 : Int)))) (fun _ => by kernel_rfl) (congrArg Value.bool (by rw [decide_eq_false h1]))) ?_
    refine s_pure 4 (.bool false) (by kernel_rfl) (by kernel_rfl) (fun _ => by kernel_rfl) ?_
    refine ops_end ?_
    refine At.env [(0, .int .i64 k), (2, .int .i64 (0)), (3, .int .i64 k), (4, .bool false)] ⟨by kernel_rfl, by kernel_rfl, by kernel_rfl, by kernel_rfl, trivial⟩ ?_
    refine at_then_normal ?_
    refine at_false (t := false) (x := C52 [1, 0, 1, 0, 1, 0]) (y := C52 [1, 0, 1, 0, 1, 1]) (o := .tmp 4) (by kernel_rfl) (by kernel_rfl) (by kernel_rfl) rfl ?_
    refine at_seq (x := C52 [1, 0, 1, 0, 1, 1, 0]) (y := C52 [1, 0, 1, 0, 1, 1, 1]) (by kernel_rfl) ?_
    refine at_seq (x := C52 [1, 0, 1, 0, 1, 1, 0, 0]) (y := C52 [1, 0, 1, 0, 1, 1, 0, 1]) (by kernel_rfl) ?_
    refine at_region (id := 4) 2 (by kernel_rfl) (by kernel_rfl) ?_
    rcases Decidable.em (k = (2 : Int)) with h2 | h2
    · refine s_pure 7 (.bool true) (by kernel_rfl) (by kernel_rfl) (run_eq (v := .bool (decide (k = (2 : Int)))) (fun _ => by kernel_rfl) (congrArg Value.bool (by rw [decide_eq_true h2]))) ?_
      refine s_pure 6 (.bool true) (by kernel_rfl) (by kernel_rfl) (fun _ => by kernel_rfl) ?_
      refine ops_end ?_
      refine At.env [(0, .int .i64 k), (2, .int .i64 (0)), (3, .int .i64 k), (4, .bool false), (6, .bool true)] ⟨by kernel_rfl, by kernel_rfl, by kernel_rfl, by kernel_rfl, by kernel_rfl, trivial⟩ ?_
      refine at_then_normal ?_
      refine at_true (t := true) (x := C52 [1, 0, 1, 0, 1, 1, 0, 1, 0]) (y := C52 [1, 0, 1, 0, 1, 1, 0, 1, 1]) (o := .tmp 6) (by kernel_rfl) (by kernel_rfl) (by kernel_rfl) rfl ?_
      refine at_skip (by kernel_rfl) ?_
      refine at_then_normal ?_
      refine at_true (t := true) (x := C52 [1, 0, 1, 0, 1, 1, 1, 0]) (y := C52 [1, 0, 1, 0, 1, 1, 1, 1]) (o := .tmp 6) (by kernel_rfl) (by kernel_rfl) (by kernel_rfl) rfl ?_
      refine at_seq (x := C52 [1, 0, 1, 0, 1, 1, 1, 0, 0]) (y := C52 [1, 0, 1, 0, 1, 1, 1, 0, 1]) (by kernel_rfl) ?_
      refine at_region (id := 7) 1 (by kernel_rfl) (by kernel_rfl) ?_
      refine s_pure 2 (.int .i64 (8)) (by kernel_rfl) (by kernel_rfl) (fun _ => by kernel_rfl) ?_
      refine ops_end ?_
      refine At.env [(0, .int .i64 k), (2, .int .i64 (8)), (3, .int .i64 k), (4, .bool false), (6, .bool true)] ⟨by kernel_rfl, by kernel_rfl, by kernel_rfl, by kernel_rfl, by kernel_rfl, trivial⟩ ?_
      refine at_then_normal ?_
      refine at_ret (by kernel_rfl) ?_
      refine at_in_ret ?_
      refine at_then_ret ?_
      refine at_backR [.int .i64 (8)] (Γ) (rs := [.tmp 2]) (by kernel_rfl) (.cons (.tmp (by kernel_rfl)) .nil) (fun w hw => hw.less .refl) ?_
      exact ⟨congrArg (Value.int .i64) (by simp [answerI, *]), rfl⟩
    · refine s_pure 7 (.bool false) (by kernel_rfl) (by kernel_rfl) (run_eq (v := .bool (decide (k = (2 : Int)))) (fun _ => by kernel_rfl) (congrArg Value.bool (by rw [decide_eq_false h2]))) ?_
      refine s_pure 6 (.bool false) (by kernel_rfl) (by kernel_rfl) (fun _ => by kernel_rfl) ?_
      refine ops_end ?_
      refine At.env [(0, .int .i64 k), (2, .int .i64 (0)), (3, .int .i64 k), (4, .bool false), (6, .bool false)] ⟨by kernel_rfl, by kernel_rfl, by kernel_rfl, by kernel_rfl, by kernel_rfl, trivial⟩ ?_
      refine at_then_normal ?_
      refine at_false (t := false) (x := C52 [1, 0, 1, 0, 1, 1, 0, 1, 0]) (y := C52 [1, 0, 1, 0, 1, 1, 0, 1, 1]) (o := .tmp 6) (by kernel_rfl) (by kernel_rfl) (by kernel_rfl) rfl ?_
      refine at_seq (x := C52 [1, 0, 1, 0, 1, 1, 0, 1, 1, 0]) (y := C52 [1, 0, 1, 0, 1, 1, 0, 1, 1, 1]) (by kernel_rfl) ?_
      refine at_region (id := 5) 2 (by kernel_rfl) (by kernel_rfl) ?_
      rcases Decidable.em (k = (4 : Int)) with h3 | h3
      · refine s_pure 8 (.bool true) (by kernel_rfl) (by kernel_rfl) (run_eq (v := .bool (decide (k = (4 : Int)))) (fun _ => by kernel_rfl) (congrArg Value.bool (by rw [decide_eq_true h3]))) ?_
        refine s_pure 6 (.bool true) (by kernel_rfl) (by kernel_rfl) (fun _ => by kernel_rfl) ?_
        refine ops_end ?_
        refine At.env [(0, .int .i64 k), (2, .int .i64 (0)), (3, .int .i64 k), (4, .bool false), (6, .bool true)] ⟨by kernel_rfl, by kernel_rfl, by kernel_rfl, by kernel_rfl, by kernel_rfl, trivial⟩ ?_
        refine at_then_normal ?_
        refine at_true (t := true) (x := C52 [1, 0, 1, 0, 1, 1, 0, 1, 1, 1, 0]) (y := C52 [1, 0, 1, 0, 1, 1, 0, 1, 1, 1, 1]) (o := .tmp 6) (by kernel_rfl) (by kernel_rfl) (by kernel_rfl) rfl ?_
        refine at_skip (by kernel_rfl) ?_
        refine at_then_normal ?_
        refine at_true (t := true) (x := C52 [1, 0, 1, 0, 1, 1, 1, 0]) (y := C52 [1, 0, 1, 0, 1, 1, 1, 1]) (o := .tmp 6) (by kernel_rfl) (by kernel_rfl) (by kernel_rfl) rfl ?_
        refine at_seq (x := C52 [1, 0, 1, 0, 1, 1, 1, 0, 0]) (y := C52 [1, 0, 1, 0, 1, 1, 1, 0, 1]) (by kernel_rfl) ?_
        refine at_region (id := 7) 1 (by kernel_rfl) (by kernel_rfl) ?_
        refine s_pure 2 (.int .i64 (8)) (by kernel_rfl) (by kernel_rfl) (fun _ => by kernel_rfl) ?_
        refine ops_end ?_
        refine At.env [(0, .int .i64 k), (2, .int .i64 (8)), (3, .int .i64 k), (4, .bool false), (6, .bool true)] ⟨by kernel_rfl, by kernel_rfl, by kernel_rfl, by kernel_rfl, by kernel_rfl, trivial⟩ ?_
        refine at_then_normal ?_
        refine at_ret (by kernel_rfl) ?_
        refine at_in_ret ?_
        refine at_then_ret ?_
        refine at_backR [.int .i64 (8)] (Γ) (rs := [.tmp 2]) (by kernel_rfl) (.cons (.tmp (by kernel_rfl)) .nil) (fun w hw => hw.less .refl) ?_
        exact ⟨congrArg (Value.int .i64) (by simp [answerI, *]), rfl⟩
      · refine s_pure 8 (.bool false) (by kernel_rfl) (by kernel_rfl) (run_eq (v := .bool (decide (k = (4 : Int)))) (fun _ => by kernel_rfl) (congrArg Value.bool (by rw [decide_eq_false h3]))) ?_
        refine s_pure 6 (.bool false) (by kernel_rfl) (by kernel_rfl) (fun _ => by kernel_rfl) ?_
        refine ops_end ?_
        refine At.env [(0, .int .i64 k), (2, .int .i64 (0)), (3, .int .i64 k), (4, .bool false), (6, .bool false)] ⟨by kernel_rfl, by kernel_rfl, by kernel_rfl, by kernel_rfl, by kernel_rfl, trivial⟩ ?_
        refine at_then_normal ?_
        refine at_false (t := false) (x := C52 [1, 0, 1, 0, 1, 1, 0, 1, 1, 1, 0]) (y := C52 [1, 0, 1, 0, 1, 1, 0, 1, 1, 1, 1]) (o := .tmp 6) (by kernel_rfl) (by kernel_rfl) (by kernel_rfl) rfl ?_
        refine at_region (id := 6) 2 (by kernel_rfl) (by kernel_rfl) ?_
        rcases Decidable.em (k = (5 : Int)) with h4 | h4
        · refine s_pure 9 (.bool true) (by kernel_rfl) (by kernel_rfl) (run_eq (v := .bool (decide (k = (5 : Int)))) (fun _ => by kernel_rfl) (congrArg Value.bool (by rw [decide_eq_true h4]))) ?_
          refine s_pure 6 (.bool true) (by kernel_rfl) (by kernel_rfl) (fun _ => by kernel_rfl) ?_
          refine ops_end ?_
          refine At.env [(0, .int .i64 k), (2, .int .i64 (0)), (3, .int .i64 k), (4, .bool false), (6, .bool true)] ⟨by kernel_rfl, by kernel_rfl, by kernel_rfl, by kernel_rfl, by kernel_rfl, trivial⟩ ?_
          refine at_then_normal ?_
          refine at_true (t := true) (x := C52 [1, 0, 1, 0, 1, 1, 1, 0]) (y := C52 [1, 0, 1, 0, 1, 1, 1, 1]) (o := .tmp 6) (by kernel_rfl) (by kernel_rfl) (by kernel_rfl) rfl ?_
          refine at_seq (x := C52 [1, 0, 1, 0, 1, 1, 1, 0, 0]) (y := C52 [1, 0, 1, 0, 1, 1, 1, 0, 1]) (by kernel_rfl) ?_
          refine at_region (id := 7) 1 (by kernel_rfl) (by kernel_rfl) ?_
          refine s_pure 2 (.int .i64 (8)) (by kernel_rfl) (by kernel_rfl) (fun _ => by kernel_rfl) ?_
          refine ops_end ?_
          refine At.env [(0, .int .i64 k), (2, .int .i64 (8)), (3, .int .i64 k), (4, .bool false), (6, .bool true)] ⟨by kernel_rfl, by kernel_rfl, by kernel_rfl, by kernel_rfl, by kernel_rfl, trivial⟩ ?_
          refine at_then_normal ?_
          refine at_ret (by kernel_rfl) ?_
          refine at_in_ret ?_
          refine at_then_ret ?_
          refine at_backR [.int .i64 (8)] (Γ) (rs := [.tmp 2]) (by kernel_rfl) (.cons (.tmp (by kernel_rfl)) .nil) (fun w hw => hw.less .refl) ?_
          exact ⟨congrArg (Value.int .i64) (by simp [answerI, *]), rfl⟩
        · refine s_pure 9 (.bool false) (by kernel_rfl) (by kernel_rfl) (run_eq (v := .bool (decide (k = (5 : Int)))) (fun _ => by kernel_rfl) (congrArg Value.bool (by rw [decide_eq_false h4]))) ?_
          refine s_pure 6 (.bool false) (by kernel_rfl) (by kernel_rfl) (fun _ => by kernel_rfl) ?_
          refine ops_end ?_
          refine At.env [(0, .int .i64 k), (2, .int .i64 (0)), (3, .int .i64 k), (4, .bool false), (6, .bool false)] ⟨by kernel_rfl, by kernel_rfl, by kernel_rfl, by kernel_rfl, by kernel_rfl, trivial⟩ ?_
          refine at_then_normal ?_
          refine at_false (t := false) (x := C52 [1, 0, 1, 0, 1, 1, 1, 0]) (y := C52 [1, 0, 1, 0, 1, 1, 1, 1]) (o := .tmp 6) (by kernel_rfl) (by kernel_rfl) (by kernel_rfl) rfl ?_
          refine at_seq (x := C52 [1, 0, 1, 0, 1, 1, 1, 1, 0]) (y := C52 [1, 0, 1, 0, 1, 1, 1, 1, 1]) (by kernel_rfl) ?_
          refine at_seq (x := C52 [1, 0, 1, 0, 1, 1, 1, 1, 0, 0]) (y := C52 [1, 0, 1, 0, 1, 1, 1, 1, 0, 1]) (by kernel_rfl) ?_
          refine at_region (id := 8) 2 (by kernel_rfl) (by kernel_rfl) ?_
          rcases Decidable.em (k = (3 : Int)) with h5 | h5
          · refine s_pure 11 (.bool true) (by kernel_rfl) (by kernel_rfl) (run_eq (v := .bool (decide (k = (3 : Int)))) (fun _ => by kernel_rfl) (congrArg Value.bool (by rw [decide_eq_true h5]))) ?_
            refine s_pure 10 (.bool true) (by kernel_rfl) (by kernel_rfl) (fun _ => by kernel_rfl) ?_
            refine ops_end ?_
            refine At.env [(0, .int .i64 k), (2, .int .i64 (0)), (3, .int .i64 k), (4, .bool false), (6, .bool false), (10, .bool true)] ⟨by kernel_rfl, by kernel_rfl, by kernel_rfl, by kernel_rfl, by kernel_rfl, by kernel_rfl, trivial⟩ ?_
            refine at_then_normal ?_
            refine at_true (t := true) (x := C52 [1, 0, 1, 0, 1, 1, 1, 1, 0, 1, 0]) (y := C52 [1, 0, 1, 0, 1, 1, 1, 1, 0, 1, 1]) (o := .tmp 10) (by kernel_rfl) (by kernel_rfl) (by kernel_rfl) rfl ?_
            refine at_skip (by kernel_rfl) ?_
            refine at_then_normal ?_
            refine at_true (t := true) (x := C52 [1, 0, 1, 0, 1, 1, 1, 1, 1, 0]) (y := C52 [1, 0, 1, 0, 1, 1, 1, 1, 1, 1]) (o := .tmp 10) (by kernel_rfl) (by kernel_rfl) (by kernel_rfl) rfl ?_
            refine at_seq (x := C52 [1, 0, 1, 0, 1, 1, 1, 1, 1, 0, 0]) (y := C52 [1, 0, 1, 0, 1, 1, 1, 1, 1, 0, 1]) (by kernel_rfl) ?_
            refine at_region (id := 10) 1 (by kernel_rfl) (by kernel_rfl) ?_
            refine s_pure 2 (.int .i64 (9)) (by kernel_rfl) (by kernel_rfl) (fun _ => by kernel_rfl) ?_
            refine ops_end ?_
            refine At.env [(0, .int .i64 k), (2, .int .i64 (9)), (3, .int .i64 k), (4, .bool false), (6, .bool false), (10, .bool true)] ⟨by kernel_rfl, by kernel_rfl, by kernel_rfl, by kernel_rfl, by kernel_rfl, by kernel_rfl, trivial⟩ ?_
            refine at_then_normal ?_
            refine at_ret (by kernel_rfl) ?_
            refine at_in_ret ?_
            refine at_then_ret ?_
            refine at_backR [.int .i64 (9)] (Γ) (rs := [.tmp 2]) (by kernel_rfl) (.cons (.tmp (by kernel_rfl)) .nil) (fun w hw => hw.less .refl) ?_
            exact ⟨congrArg (Value.int .i64) (by simp [answerI, *]), rfl⟩
          · refine s_pure 11 (.bool false) (by kernel_rfl) (by kernel_rfl) (run_eq (v := .bool (decide (k = (3 : Int)))) (fun _ => by kernel_rfl) (congrArg Value.bool (by rw [decide_eq_false h5]))) ?_
            refine s_pure 10 (.bool false) (by kernel_rfl) (by kernel_rfl) (fun _ => by kernel_rfl) ?_
            refine ops_end ?_
            refine At.env [(0, .int .i64 k), (2, .int .i64 (0)), (3, .int .i64 k), (4, .bool false), (6, .bool false), (10, .bool false)] ⟨by kernel_rfl, by kernel_rfl, by kernel_rfl, by kernel_rfl, by kernel_rfl, by kernel_rfl, trivial⟩ ?_
            refine at_then_normal ?_
            refine at_false (t := false) (x := C52 [1, 0, 1, 0, 1, 1, 1, 1, 0, 1, 0]) (y := C52 [1, 0, 1, 0, 1, 1, 1, 1, 0, 1, 1]) (o := .tmp 10) (by kernel_rfl) (by kernel_rfl) (by kernel_rfl) rfl ?_
            refine at_region (id := 9) 2 (by kernel_rfl) (by kernel_rfl) ?_
            rcases Decidable.em (k = (6 : Int)) with h6 | h6
            · refine s_pure 12 (.bool true) (by kernel_rfl) (by kernel_rfl) (run_eq (v := .bool (decide (k = (6 : Int)))) (fun _ => by kernel_rfl) (congrArg Value.bool (by rw [decide_eq_true h6]))) ?_
              refine s_pure 10 (.bool true) (by kernel_rfl) (by kernel_rfl) (fun _ => by kernel_rfl) ?_
              refine ops_end ?_
              refine At.env [(0, .int .i64 k), (2, .int .i64 (0)), (3, .int .i64 k), (4, .bool false), (6, .bool false), (10, .bool true)] ⟨by kernel_rfl, by kernel_rfl, by kernel_rfl, by kernel_rfl, by kernel_rfl, by kernel_rfl, trivial⟩ ?_
              refine at_then_normal ?_
              refine at_true (t := true) (x := C52 [1, 0, 1, 0, 1, 1, 1, 1, 1, 0]) (y := C52 [1, 0, 1, 0, 1, 1, 1, 1, 1, 1]) (o := .tmp 10) (by kernel_rfl) (by kernel_rfl) (by kernel_rfl) rfl ?_
              refine at_seq (x := C52 [1, 0, 1, 0, 1, 1, 1, 1, 1, 0, 0]) (y := C52 [1, 0, 1, 0, 1, 1, 1, 1, 1, 0, 1]) (by kernel_rfl) ?_
              refine at_region (id := 10) 1 (by kernel_rfl) (by kernel_rfl) ?_
              refine s_pure 2 (.int .i64 (9)) (by kernel_rfl) (by kernel_rfl) (fun _ => by kernel_rfl) ?_
              refine ops_end ?_
              refine At.env [(0, .int .i64 k), (2, .int .i64 (9)), (3, .int .i64 k), (4, .bool false), (6, .bool false), (10, .bool true)] ⟨by kernel_rfl, by kernel_rfl, by kernel_rfl, by kernel_rfl, by kernel_rfl, by kernel_rfl, trivial⟩ ?_
              refine at_then_normal ?_
              refine at_ret (by kernel_rfl) ?_
              refine at_in_ret ?_
              refine at_then_ret ?_
              refine at_backR [.int .i64 (9)] (Γ) (rs := [.tmp 2]) (by kernel_rfl) (.cons (.tmp (by kernel_rfl)) .nil) (fun w hw => hw.less .refl) ?_
              exact ⟨congrArg (Value.int .i64) (by simp [answerI, *]), rfl⟩
            · refine s_pure 12 (.bool false) (by kernel_rfl) (by kernel_rfl) (run_eq (v := .bool (decide (k = (6 : Int)))) (fun _ => by kernel_rfl) (congrArg Value.bool (by rw [decide_eq_false h6]))) ?_
              refine s_pure 10 (.bool false) (by kernel_rfl) (by kernel_rfl) (fun _ => by kernel_rfl) ?_
              refine ops_end ?_
              refine At.env [(0, .int .i64 k), (2, .int .i64 (0)), (3, .int .i64 k), (4, .bool false), (6, .bool false), (10, .bool false)] ⟨by kernel_rfl, by kernel_rfl, by kernel_rfl, by kernel_rfl, by kernel_rfl, by kernel_rfl, trivial⟩ ?_
              refine at_then_normal ?_
              refine at_false (t := false) (x := C52 [1, 0, 1, 0, 1, 1, 1, 1, 1, 0]) (y := C52 [1, 0, 1, 0, 1, 1, 1, 1, 1, 1]) (o := .tmp 10) (by kernel_rfl) (by kernel_rfl) (by kernel_rfl) rfl ?_
              refine at_skip (by kernel_rfl) ?_
              refine at_in_normal ?_
              refine at_then_normal ?_
              refine at_seq (x := C52 [1, 1, 0]) (y := C52 [1, 1, 1]) (by kernel_rfl) ?_
              refine at_region (id := 11) 1 (by kernel_rfl) (by kernel_rfl) ?_
              refine s_pure 2 (.int .i64 (0)) (by kernel_rfl) (by kernel_rfl) (fun _ => by kernel_rfl) ?_
              refine ops_end ?_
              refine At.env [(0, .int .i64 k), (2, .int .i64 (0)), (3, .int .i64 k), (4, .bool false), (6, .bool false), (10, .bool false)] ⟨by kernel_rfl, by kernel_rfl, by kernel_rfl, by kernel_rfl, by kernel_rfl, by kernel_rfl, trivial⟩ ?_
              refine at_then_normal ?_
              refine at_ret (by kernel_rfl) ?_
              refine at_backR [.int .i64 (0)] (Γ) (rs := [.tmp 2]) (by kernel_rfl) (.cons (.tmp (by kernel_rfl)) .nil) (fun w hw => hw.less .refl) ?_
              exact ⟨congrArg (Value.int .i64) (by simp [answerI, *]), rfl⟩
noncomputable def C54 (p : List Nat) : Code := codeAt (bodyOf Try.f54) p
set_option maxRecDepth 100000 in
theorem SetFwd_tr {W0 : World} {Γ : List Asn} (b T : Nat) (f bk l u : Int) (d : Bool) (a : Option Addr) (m cap : Nat) (x : Int) : Tr Try.prog 54 #[.pointer (some ⟨b, 0, none⟩), .int .i64 x] W0 ((Asn.own b (.cells #[.int .i64 f, .int .i64 bk, .int .i64 l, .int .i64 u, .bool d, .slice a m cap] T (0, 0))) :: Γ) (fun r Δ => r = .tuple #[] ∧ Δ = Asn.own b (.cells #[.int .i64 x, .int .i64 bk, .int .i64 l, .int .i64 u, .bool d, .slice a m cap] T (0, 0)) :: Γ) := by
  refine Tr.enter (fn := Try.f54) (c := C54 []) (args := [.pointer (some ⟨b, 0, none⟩), .int .i64 x]) 8 Try.func54 (by kernel_rfl) (by kernel_rfl) ?_
  refine At.env [(0, .pointer (some ⟨b, 0, none⟩)), (1, .int .i64 x)] ⟨by kernel_rfl, by kernel_rfl, trivial⟩ ?_
  refine at_region (id := 0) 5 (by kernel_rfl) (by kernel_rfl) ?_
  refine s_pure 4 (.pointer (some ⟨b, 0, none⟩)) (by kernel_rfl) (by kernel_rfl) (fun _ => by kernel_rfl) ?_
  refine s_pure 5 (.int .i64 x) (by kernel_rfl) (by kernel_rfl) (fun _ => by kernel_rfl) ?_
  refine s_pure 6 (.pointer (some ⟨b, 0, none⟩)) (by kernel_rfl) (by kernel_rfl) (fun _ => by kernel_rfl) ?_
  refine s_pure 7 (.pointer (some ⟨b, 0, none⟩)) (by kernel_rfl) (by kernel_rfl) (fun _ => by kernel_rfl) ?_
  refine s_do (by kernel_rfl) (by kernel_rfl) (st_store (off := 0) (vs := [.int .i64 x]) (c' := #[.int .i64 x, .int .i64 bk, .int .i64 l, .int .i64 u, .bool d, .slice a m cap]) (fun _ => by kernel_rfl) .here (by kernel_rfl) (by kernel_rfl) (by kernel_rfl)) ?_
  rintro _ _ ⟨rfl, rfl⟩
  refine ops_end ?_
  refine At.env [(0, .pointer (some ⟨b, 0, none⟩)), (1, .int .i64 x)] ⟨by kernel_rfl, by kernel_rfl, trivial⟩ ?_
  refine at_backE [] ((Asn.own b (.cells #[.int .i64 x, .int .i64 bk, .int .i64 l, .int .i64 u, .bool d, .slice a m cap] T (0, 0))) :: Γ) (rs := []) (by kernel_rfl) .nil (fun w hw => hw.less (.take .here .refl)) ?_
  exact ⟨rfl, rfl⟩
noncomputable def C53 (p : List Nat) : Code := codeAt (bodyOf Try.f53) p
set_option maxRecDepth 100000 in
theorem SetBack_tr {W0 : World} {Γ : List Asn} (b T : Nat) (f bk l u : Int) (d : Bool) (a : Option Addr) (m cap : Nat) (x : Int) : Tr Try.prog 53 #[.pointer (some ⟨b, 0, none⟩), .int .i64 x] W0 ((Asn.own b (.cells #[.int .i64 f, .int .i64 bk, .int .i64 l, .int .i64 u, .bool d, .slice a m cap] T (0, 0))) :: Γ) (fun r Δ => r = .tuple #[] ∧ Δ = Asn.own b (.cells #[.int .i64 f, .int .i64 x, .int .i64 l, .int .i64 u, .bool d, .slice a m cap] T (0, 0)) :: Γ) := by
  refine Tr.enter (fn := Try.f53) (c := C53 []) (args := [.pointer (some ⟨b, 0, none⟩), .int .i64 x]) 8 Try.func53 (by kernel_rfl) (by kernel_rfl) ?_
  refine At.env [(0, .pointer (some ⟨b, 0, none⟩)), (1, .int .i64 x)] ⟨by kernel_rfl, by kernel_rfl, trivial⟩ ?_
  refine at_region (id := 0) 5 (by kernel_rfl) (by kernel_rfl) ?_
  refine s_pure 4 (.pointer (some ⟨b, 0, none⟩)) (by kernel_rfl) (by kernel_rfl) (fun _ => by kernel_rfl) ?_
  refine s_pure 5 (.int .i64 x) (by kernel_rfl) (by kernel_rfl) (fun _ => by kernel_rfl) ?_
  refine s_pure 6 (.pointer (some ⟨b, 0, none⟩)) (by kernel_rfl) (by kernel_rfl) (fun _ => by kernel_rfl) ?_
  refine s_pure 7 (.pointer (some ⟨b, 1, none⟩)) (by kernel_rfl) (by kernel_rfl) (fun _ => by kernel_rfl) ?_
  refine s_do (by kernel_rfl) (by kernel_rfl) (st_store (off := 1) (vs := [.int .i64 x]) (c' := #[.int .i64 f, .int .i64 x, .int .i64 l, .int .i64 u, .bool d, .slice a m cap]) (fun _ => by kernel_rfl) .here (by kernel_rfl) (by kernel_rfl) (by kernel_rfl)) ?_
  rintro _ _ ⟨rfl, rfl⟩
  refine ops_end ?_
  refine At.env [(0, .pointer (some ⟨b, 0, none⟩)), (1, .int .i64 x)] ⟨by kernel_rfl, by kernel_rfl, trivial⟩ ?_
  refine at_backE [] ((Asn.own b (.cells #[.int .i64 f, .int .i64 x, .int .i64 l, .int .i64 u, .bool d, .slice a m cap] T (0, 0))) :: Γ) (rs := []) (by kernel_rfl) .nil (fun w hw => hw.less (.take .here .refl)) ?_
  exact ⟨rfl, rfl⟩
noncomputable def C18 (p : List Nat) : Code := codeAt (bodyOf Try.f18) p
set_option maxRecDepth 100000 in
theorem Handle_none {W0 : World} {Γ : List Asn} (b : Nat) (c : CacheS) (pk pf pt pid pl pp ps : Int) (pfl : Bool) (pa : Option Addr) (pm pc : Nat) (ok1 : 0 ≤ pf ∧ pf < 6) (ok2 : 0 ≤ pt ∧ pt < 6) (ok3 : 0 ≤ pid ∧ pid < 4096) (ok4 : 1 ≤ pk ∧ pk < 10) (ok5 : 0 ≤ pl ∧ pl < 8) (ok6 : -1 ≤ pp ∧ pp < 6) (ok7 : 0 ≤ ps ∧ ps < 3) (ok8 : pm ≤ 4) (hlen : c.l.length ≤ 1099511627776) (hs : 1 ≤ c.sets) (hk : 3 ≤ pk ∧ pk ≤ 6) (hidx : idx c.l pl = none) : Tr Try.prog 18 #[.pointer (some ⟨b, 0, none⟩), .agg #[.int .i64 pk, .int .i64 pf, .int .i64 pt, .int .i64 pid, .int .i64 pl, .int .i64 pp, .int .i64 ps, .bool pfl, .slice pa pm pc]] W0 ((CacheA b c) :: Γ) (fun r Δ => r = .tuple #[.agg #[.int .i64 0, .int .i64 0, .int .i64 0, .int .i64 0, .int .i64 0, .int .i64 0, .int .i64 0, .bool false, .slice none 0 0], .int .i64 3] ∧ Δ = CacheA b c :: Γ) := by
  refine Tr.enter (fn := Try.f18) (c := C18 []) (args := [.pointer (some ⟨b, 0, none⟩), .agg #[.int .i64 pk, .int .i64 pf, .int .i64 pt, .int .i64 pid, .int .i64 pl, .int .i64 pp, .int .i64 ps, .bool pfl, .slice pa pm pc]]) 93 Try.func18 (by kernel_rfl) (by kernel_rfl) ?_
  refine At.env [(0, .pointer (some ⟨b, 0, none⟩)), (1, .agg #[.int .i64 pk, .int .i64 pf, .int .i64 pt, .int .i64 pid, .int .i64 pl, .int .i64 pp, .int .i64 ps, .bool pfl, .slice pa pm pc])] ⟨by kernel_rfl, by kernel_rfl, trivial⟩ ?_
  refine at_seq (x := C18 [0]) (y := C18 [1]) (by kernel_rfl) ?_
  refine at_region (id := 0) 3 (by kernel_rfl) (by kernel_rfl) ?_
  refine s_step 3 (by kernel_rfl) (by kernel_rfl) (st_new (T := 35) (cells := #[.int .i64 pk, .int .i64 pf, .int .i64 pt, .int .i64 pid, .int .i64 pl, .int .i64 pp, .int .i64 ps, .bool pfl, .slice pa pm pc]) (fun a => .pointer (some a)) (fun _ => by kernel_rfl)) ?_
  rintro _ _ ⟨b1, rfl, rfl⟩
  refine s_step 4 (by kernel_rfl) (by kernel_rfl) (st_new (T := 35) (cells := #[.int .i64 (0), .int .i64 (0), .int .i64 (0), .int .i64 (0), .int .i64 (0), .int .i64 (0), .int .i64 (0), .bool false, .slice none 0 0]) (fun a => .pointer (some a)) (fun _ => by kernel_rfl)) ?_
  rintro _ _ ⟨b2, rfl, rfl⟩
  refine s_pure 5 (.int .i64 (0)) (by kernel_rfl) (by kernel_rfl) (fun _ => by kernel_rfl) ?_
  refine ops_end ?_
  refine At.env [(0, .pointer (some ⟨b, 0, none⟩)), (1, .agg #[.int .i64 pk, .int .i64 pf, .int .i64 pt, .int .i64 pid, .int .i64 pl, .int .i64 pp, .int .i64 ps, .bool pfl, .slice pa pm pc]), (3, .pointer (some ⟨b1, 0, none⟩)), (4, .pointer (some ⟨b2, 0, none⟩)), (5, .int .i64 (0))] ⟨by kernel_rfl, by kernel_rfl, by kernel_rfl, by kernel_rfl, by kernel_rfl, trivial⟩ ?_
  refine at_then_normal ?_
  refine at_seq (x := C18 [1, 0]) (y := C18 [1, 1]) (by kernel_rfl) ?_
  refine at_seq (x := C18 [1, 0, 0]) (y := C18 [1, 0, 1]) (by kernel_rfl) ?_
  refine at_region (id := 1) 13 (by kernel_rfl) (by kernel_rfl) ?_
  refine s_load 9 (.agg #[.int .i64 pk, .int .i64 pf, .int .i64 pt, .int .i64 pid, .int .i64 pl, .int .i64 pp, .int .i64 ps, .bool pfl, .slice pa pm pc]) (by kernel_rfl) (by kernel_rfl) (loadN (off := 0) (vs := [.int .i64 pk, .int .i64 pf, .int .i64 pt, .int .i64 pid, .int .i64 pl, .int .i64 pp, .int .i64 ps, .bool pfl, .slice pa pm pc]) 9 (fun _ => by kernel_rfl) (holds_own (.there .here)) rfl (by exact ⟨rfl, rfl, rfl, rfl, rfl, rfl, rfl, rfl, rfl, trivial⟩)) ?_
  refine s_quiet 10 (.int .i64 (0)) 51 #[.agg #[.int .i64 pk, .int .i64 pf, .int .i64 pt, .int .i64 pid, .int .i64 pl, .int .i64 pp, .int .i64 ps, .bool pfl, .slice pa pm pc]] (by kernel_rfl) (by kernel_rfl) (fun _ => by kernel_rfl) (Check_ok pk pf pt pid pl pp ps pfl pa pm pc (by omega) (by omega) (by omega) (by omega) (by omega) (by omega) (by omega) (by omega)) ?_
  refine s_pure 11 (.bool false) (by kernel_rfl) (by kernel_rfl) (fun _ => by kernel_rfl) ?_
  refine s_pure 12 (.bool false) (by kernel_rfl) (by kernel_rfl) (fun _ => by kernel_rfl) ?_
  refine s_pure 13 (.pointer (some ⟨b1, 0, none⟩)) (by kernel_rfl) (by kernel_rfl) (fun _ => by kernel_rfl) ?_
  refine s_load 14 (.int .i64 pk) (by kernel_rfl) (by kernel_rfl) (load1 (off := 0) (fun _ => by kernel_rfl) (holds_own (.there .here)) (by kernel_rfl)) ?_
  refine s_pure 15 (.bool false) (by kernel_rfl) (by kernel_rfl) (run_eq (v := .bool (decide (pk < (3 : Int)))) (fun _ => by kernel_rfl) (congrArg Value.bool (by rw [decide_eq_false (by omega)]))) ?_
  refine s_pure 16 (.bool false) (by kernel_rfl) (by kernel_rfl) (fun _ => by kernel_rfl) ?_
  refine s_pure 17 (.bool false) (by kernel_rfl) (by kernel_rfl) (fun _ => by kernel_rfl) ?_
  refine s_pure 18 (.pointer (some ⟨b1, 0, none⟩)) (by kernel_rfl) (by kernel_rfl) (fun _ => by kernel_rfl) ?_
  refine s_load 19 (.int .i64 pk) (by kernel_rfl) (by kernel_rfl) (load1 (off := 0) (fun _ => by kernel_rfl) (holds_own (.there .here)) (by kernel_rfl)) ?_
  refine s_pure 20 (.bool false) (by kernel_rfl) (by kernel_rfl) (run_eq (v := .bool (decide ((6 : Int) < pk))) (fun _ => by kernel_rfl) (congrArg Value.bool (by rw [decide_eq_false (by omega)]))) ?_
  refine s_pure 21 (.bool false) (by kernel_rfl) (by kernel_rfl) (fun _ => by kernel_rfl) ?_
  refine ops_end ?_
  refine At.env [(0, .pointer (some ⟨b, 0, none⟩)), (1, .agg #[.int .i64 pk, .int .i64 pf, .int .i64 pt, .int .i64 pid, .int .i64 pl, .int .i64 pp, .int .i64 ps, .bool pfl, .slice pa pm pc]), (3, .pointer (some ⟨b1, 0, none⟩)), (4, .pointer (some ⟨b2, 0, none⟩)), (5, .int .i64 (0)), (21, .bool false)] ⟨by kernel_rfl, by kernel_rfl, by kernel_rfl, by kernel_rfl, by kernel_rfl, by kernel_rfl, trivial⟩ ?_
  refine at_then_normal ?_
  refine at_false (t := false) (x := C18 [1, 0, 1, 0]) (y := C18 [1, 0, 1, 1]) (o := .tmp 21) (by kernel_rfl) (by kernel_rfl) (by kernel_rfl) rfl ?_
  refine at_skip (by kernel_rfl) ?_
  refine at_then_normal ?_
  refine at_seq (x := C18 [1, 1, 0]) (y := C18 [1, 1, 1]) (by kernel_rfl) ?_
  refine at_region (id := 3) 10 (by kernel_rfl) (by kernel_rfl) ?_
  refine s_pure 24 (.pointer (some ⟨b, 0, none⟩)) (by kernel_rfl) (by kernel_rfl) (fun _ => by kernel_rfl) ?_
  refine s_pure 25 (.pointer (some ⟨b1, 4, none⟩)) (by kernel_rfl) (by kernel_rfl) (fun _ => by kernel_rfl) ?_
  refine s_load 26 (.int .i64 pl) (by kernel_rfl) (by kernel_rfl) (load1 (off := 4) (fun _ => by kernel_rfl) (holds_own (.there .here)) (by kernel_rfl)) ?_
  refine At.conv (fun w hw => hw.less (.take (.there (.there .here)) (.take .here (.take .here .refl)))) ?_
  refine s_quiet 27 (.tuple #[.agg #[.int .i64 (0), .int .i64 (0), .int .i64 (0), .int .i64 (0), .bool false, .slice none 0 0], .bool false]) 20 #[.pointer (some ⟨b, 0, none⟩), .int .i64 pl] (by kernel_rfl) (by kernel_rfl) (fun _ => by kernel_rfl) (Find_none b c pl hlen hidx) ?_
  refine s_pure 23 (.tuple #[.agg #[.int .i64 (0), .int .i64 (0), .int .i64 (0), .int .i64 (0), .bool false, .slice none 0 0], .bool false]) (by kernel_rfl) (by kernel_rfl) (fun _ => by kernel_rfl) ?_
  refine s_pure 28 (.agg #[.int .i64 (0), .int .i64 (0), .int .i64 (0), .int .i64 (0), .bool false, .slice none 0 0]) (by kernel_rfl) (by kernel_rfl) (fun _ => by kernel_rfl) ?_
  refine s_pure 29 (.bool false) (by kernel_rfl) (by kernel_rfl) (fun _ => by kernel_rfl) ?_
  refine s_step 6 (by kernel_rfl) (by kernel_rfl) (st_new (T := 31) (cells := #[.int .i64 (0), .int .i64 (0), .int .i64 (0), .int .i64 (0), .bool false, .slice none 0 0]) (fun a => .pointer (some a)) (fun _ => by kernel_rfl)) ?_
  rintro _ _ ⟨b3, rfl, rfl⟩
  refine s_do (by kernel_rfl) (by kernel_rfl) (st_store (off := 0) (vs := [.int .i64 (0), .int .i64 (0), .int .i64 (0), .int .i64 (0), .bool false, .slice none 0 0]) (c' := #[.int .i64 (0), .int .i64 (0), .int .i64 (0), .int .i64 (0), .bool false, .slice none 0 0]) (fun _ => by kernel_rfl) .here (by kernel_rfl) (by kernel_rfl) (by kernel_rfl)) ?_
  rintro _ _ ⟨rfl, rfl⟩
  refine s_pure 7 (.bool false) (by kernel_rfl) (by kernel_rfl) (fun _ => by kernel_rfl) ?_
  refine ops_end ?_
  refine At.env [(0, .pointer (some ⟨b, 0, none⟩)), (1, .agg #[.int .i64 pk, .int .i64 pf, .int .i64 pt, .int .i64 pid, .int .i64 pl, .int .i64 pp, .int .i64 ps, .bool pfl, .slice pa pm pc]), (3, .pointer (some ⟨b1, 0, none⟩)), (4, .pointer (some ⟨b2, 0, none⟩)), (5, .int .i64 (0)), (6, .pointer (some ⟨b3, 0, none⟩)), (7, .bool false), (21, .bool false)] ⟨by kernel_rfl, by kernel_rfl, by kernel_rfl, by kernel_rfl, by kernel_rfl, by kernel_rfl, by kernel_rfl, by kernel_rfl, trivial⟩ ?_
  refine at_then_normal ?_
  refine at_seq (x := C18 [1, 1, 1, 0]) (y := C18 [1, 1, 1, 1]) (by kernel_rfl) ?_
  refine at_seq (x := C18 [1, 1, 1, 0, 0]) (y := C18 [1, 1, 1, 0, 1]) (by kernel_rfl) ?_
  refine at_region (id := 4) 2 (by kernel_rfl) (by kernel_rfl) ?_
  refine s_pure 30 (.bool false) (by kernel_rfl) (by kernel_rfl) (fun _ => by kernel_rfl) ?_
  refine s_pure 31 (.bool true) (by kernel_rfl) (by kernel_rfl) (fun _ => by kernel_rfl) ?_
  refine ops_end ?_
  refine At.env [(0, .pointer (some ⟨b, 0, none⟩)), (1, .agg #[.int .i64 pk, .int .i64 pf, .int .i64 pt, .int .i64 pid, .int .i64 pl, .int .i64 pp, .int .i64 ps, .bool pfl, .slice pa pm pc]), (3, .pointer (some ⟨b1, 0, none⟩)), (4, .pointer (some ⟨b2, 0, none⟩)), (5, .int .i64 (0)), (6, .pointer (some ⟨b3, 0, none⟩)), (7, .bool false), (21, .bool false), (31, .bool true)] ⟨by kernel_rfl, by kernel_rfl, by kernel_rfl, by kernel_rfl, by kernel_rfl, by kernel_rfl, by kernel_rfl, by kernel_rfl, by kernel_rfl, trivial⟩ ?_
  refine at_then_normal ?_
  refine at_true (t := true) (x := C18 [1, 1, 1, 0, 1, 0]) (y := C18 [1, 1, 1, 0, 1, 1]) (o := .tmp 31) (by kernel_rfl) (by kernel_rfl) (by kernel_rfl) rfl ?_
  refine at_seq (x := C18 [1, 1, 1, 0, 1, 0, 0]) (y := C18 [1, 1, 1, 0, 1, 0, 1]) (by kernel_rfl) ?_
  refine at_region (id := 5) 3 (by kernel_rfl) (by kernel_rfl) ?_
  refine s_pure 32 (.agg #[.int .i64 (0), .int .i64 (0), .int .i64 (0), .int .i64 (0), .int .i64 (0), .int .i64 (0), .int .i64 (0), .bool false, .slice none 0 0]) (by kernel_rfl) (by kernel_rfl) (fun _ => by kernel_rfl) ?_
  refine s_do (by kernel_rfl) (by kernel_rfl) (st_store (off := 0) (vs := [.int .i64 (0), .int .i64 (0), .int .i64 (0), .int .i64 (0), .int .i64 (0), .int .i64 (0), .int .i64 (0), .bool false, .slice none 0 0]) (c' := #[.int .i64 (0), .int .i64 (0), .int .i64 (0), .int .i64 (0), .int .i64 (0), .int .i64 (0), .int .i64 (0), .bool false, .slice none 0 0]) (fun _ => by kernel_rfl) (.there (.there .here)) (by kernel_rfl) (by kernel_rfl) (by kernel_rfl)) ?_
  rintro _ _ ⟨rfl, rfl⟩
  refine s_pure 5 (.int .i64 (3)) (by kernel_rfl) (by kernel_rfl) (fun _ => by kernel_rfl) ?_
  refine ops_end ?_
  refine At.env [(0, .pointer (some ⟨b, 0, none⟩)), (1, .agg #[.int .i64 pk, .int .i64 pf, .int .i64 pt, .int .i64 pid, .int .i64 pl, .int .i64 pp, .int .i64 ps, .bool pfl, .slice pa pm pc]), (3, .pointer (some ⟨b1, 0, none⟩)), (4, .pointer (some ⟨b2, 0, none⟩)), (5, .int .i64 (3)), (6, .pointer (some ⟨b3, 0, none⟩)), (7, .bool false), (21, .bool false), (31, .bool true)] ⟨by kernel_rfl, by kernel_rfl, by kernel_rfl, by kernel_rfl, by kernel_rfl, by kernel_rfl, by kernel_rfl, by kernel_rfl, by kernel_rfl, trivial⟩ ?_
  refine at_then_normal ?_
  refine at_ret (by kernel_rfl) ?_
  refine at_then_ret ?_
  refine at_backR [.agg #[.int .i64 (0), .int .i64 (0), .int .i64 (0), .int .i64 (0), .int .i64 (0), .int .i64 (0), .int .i64 (0), .bool false, .slice none 0 0], .int .i64 (3)] ((CacheA b c) :: Γ) (rs := [.cell 4 35, .tmp 5]) (by kernel_rfl) (.cons (.cell (by kernel_rfl) (retN (off := 0) (vs := [.int .i64 (0), .int .i64 (0), .int .i64 (0), .int .i64 (0), .int .i64 (0), .int .i64 (0), .int .i64 (0), .bool false, .slice none 0 0]) 9 (fun _ => by kernel_rfl) (holds_own .here) rfl (by exact ⟨rfl, rfl, rfl, rfl, rfl, rfl, rfl, rfl, rfl, trivial⟩))) (.cons (.tmp (by kernel_rfl)) .nil)) (fun w hw => hw.less (.take (.there (.there .here)) (.drop .here (.drop .here (.drop .here .refl))))) ?_
  exact ⟨rfl, rfl⟩
set_option maxRecDepth 100000 in
theorem Handle_attach {W0 : World} {Γ : List Asn} (b : Nat) (c : CacheS) (pf pt pid pl pp ps : Int) (pfl : Bool) (pa : Option Addr) (pm pc : Nat) (ok1 : 0 ≤ pf ∧ pf < 6) (ok2 : 0 ≤ pt ∧ pt < 6) (ok3 : 0 ≤ pid ∧ pid < 4096) (ok5 : 0 ≤ pl ∧ pl < 8) (ok6 : -1 ≤ pp ∧ pp < 6) (ok7 : 0 ≤ ps ∧ ps < 3) (ok8 : pm ≤ 4) (hlen : c.l.length ≤ 1099511627776) (hs : 1 ≤ c.sets) (hdat : ∀ x ∈ c.l, x.data.length ≤ 1099511627776) (i : Nat) (e : Ent) (hidx : idx c.l pl = some i) (he : c.l[i]? = some e) (hel : e.line = pl) : Tr Try.prog 18 #[.pointer (some ⟨b, 0, none⟩), .agg #[.int .i64 (3), .int .i64 pf, .int .i64 pt, .int .i64 pid, .int .i64 pl, .int .i64 pp, .int .i64 ps, .bool pfl, .slice pa pm pc]] W0 ((CacheA b c) :: Γ) (fun r Δ => ∃ a' cap', r = .tuple #[.agg #[.int .i64 (9), .int .i64 pt, .int .i64 pf, .int .i64 pid, .int .i64 pl, .int .i64 (0), .int .i64 (0), .bool e.dirty, .slice a' e.data.length cap'], .int .i64 0] ∧ Δ = IntsA a' cap' e.data :: CacheA b ({ c with l := c.l.set i ⟨e.fwd, pp, e.line, e.used, false, e.data⟩ }) :: Γ) := by
  refine Tr.enter (fn := Try.f18) (c := C18 []) (args := [.pointer (some ⟨b, 0, none⟩), .agg #[.int .i64 (3), .int .i64 pf, .int .i64 pt, .int .i64 pid, .int .i64 pl, .int .i64 pp, .int .i64 ps, .bool pfl, .slice pa pm pc]]) 93 Try.func18 (by kernel_rfl) (by kernel_rfl) ?_
  refine At.env [(0, .pointer (some ⟨b, 0, none⟩)), (1, .agg #[.int .i64 (3), .int .i64 pf, .int .i64 pt, .int .i64 pid, .int .i64 pl, .int .i64 pp, .int .i64 ps, .bool pfl, .slice pa pm pc])] ⟨by kernel_rfl, by kernel_rfl, trivial⟩ ?_
  refine at_seq (x := C18 [0]) (y := C18 [1]) (by kernel_rfl) ?_
  refine at_region (id := 0) 3 (by kernel_rfl) (by kernel_rfl) ?_
  refine s_step 3 (by kernel_rfl) (by kernel_rfl) (st_new (T := 35) (cells := #[.int .i64 (3), .int .i64 pf, .int .i64 pt, .int .i64 pid, .int .i64 pl, .int .i64 pp, .int .i64 ps, .bool pfl, .slice pa pm pc]) (fun a => .pointer (some a)) (fun _ => by kernel_rfl)) ?_
  rintro _ _ ⟨b1, rfl, rfl⟩
  refine s_step 4 (by kernel_rfl) (by kernel_rfl) (st_new (T := 35) (cells := #[.int .i64 (0), .int .i64 (0), .int .i64 (0), .int .i64 (0), .int .i64 (0), .int .i64 (0), .int .i64 (0), .bool false, .slice none 0 0]) (fun a => .pointer (some a)) (fun _ => by kernel_rfl)) ?_
  rintro _ _ ⟨b2, rfl, rfl⟩
  refine s_pure 5 (.int .i64 (0)) (by kernel_rfl) (by kernel_rfl) (fun _ => by kernel_rfl) ?_
  refine ops_end ?_
  refine At.env [(0, .pointer (some ⟨b, 0, none⟩)), (1, .agg #[.int .i64 (3), .int .i64 pf, .int .i64 pt, .int .i64 pid, .int .i64 pl, .int .i64 pp, .int .i64 ps, .bool pfl, .slice pa pm pc]), (3, .pointer (some ⟨b1, 0, none⟩)), (4, .pointer (some ⟨b2, 0, none⟩)), (5, .int .i64 (0))] ⟨by kernel_rfl, by kernel_rfl, by kernel_rfl, by kernel_rfl, by kernel_rfl, trivial⟩ ?_
  refine at_then_normal ?_
  refine at_seq (x := C18 [1, 0]) (y := C18 [1, 1]) (by kernel_rfl) ?_
  refine at_seq (x := C18 [1, 0, 0]) (y := C18 [1, 0, 1]) (by kernel_rfl) ?_
  refine at_region (id := 1) 13 (by kernel_rfl) (by kernel_rfl) ?_
  refine s_load 9 (.agg #[.int .i64 (3), .int .i64 pf, .int .i64 pt, .int .i64 pid, .int .i64 pl, .int .i64 pp, .int .i64 ps, .bool pfl, .slice pa pm pc]) (by kernel_rfl) (by kernel_rfl) (loadN (off := 0) (vs := [.int .i64 (3), .int .i64 pf, .int .i64 pt, .int .i64 pid, .int .i64 pl, .int .i64 pp, .int .i64 ps, .bool pfl, .slice pa pm pc]) 9 (fun _ => by kernel_rfl) (holds_own (.there .here)) rfl (by exact ⟨rfl, rfl, rfl, rfl, rfl, rfl, rfl, rfl, rfl, trivial⟩)) ?_
  refine s_quiet 10 (.int .i64 (0)) 51 #[.agg #[.int .i64 (3), .int .i64 pf, .int .i64 pt, .int .i64 pid, .int .i64 pl, .int .i64 pp, .int .i64 ps, .bool pfl, .slice pa pm pc]] (by kernel_rfl) (by kernel_rfl) (fun _ => by kernel_rfl) (Check_ok (3) pf pt pid pl pp ps pfl pa pm pc (by omega) (by omega) (by omega) (by omega) (by omega) (by omega) (by omega) (by omega)) ?_
  refine s_pure 11 (.bool false) (by kernel_rfl) (by kernel_rfl) (fun _ => by kernel_rfl) ?_
  refine s_pure 12 (.bool false) (by kernel_rfl) (by kernel_rfl) (fun _ => by kernel_rfl) ?_
  refine s_pure 13 (.pointer (some ⟨b1, 0, none⟩)) (by kernel_rfl) (by kernel_rfl) (fun _ => by kernel_rfl) ?_
  refine s_load 14 (.int .i64 (3)) (by kernel_rfl) (by kernel_rfl) (load1 (off := 0) (fun _ => by kernel_rfl) (holds_own (.there .here)) (by kernel_rfl)) ?_
  refine s_pure 15 (.bool false) (by kernel_rfl) (by kernel_rfl) (fun _ => by kernel_rfl) ?_
  refine s_pure 16 (.bool false) (by kernel_rfl) (by kernel_rfl) (fun _ => by kernel_rfl) ?_
  refine s_pure 17 (.bool false) (by kernel_rfl) (by kernel_rfl) (fun _ => by kernel_rfl) ?_
  refine s_pure 18 (.pointer (some ⟨b1, 0, none⟩)) (by kernel_rfl) (by kernel_rfl) (fun _ => by kernel_rfl) ?_
  refine s_load 19 (.int .i64 (3)) (by kernel_rfl) (by kernel_rfl) (load1 (off := 0) (fun _ => by kernel_rfl) (holds_own (.there .here)) (by kernel_rfl)) ?_
  refine s_pure 20 (.bool false) (by kernel_rfl) (by kernel_rfl) (fun _ => by kernel_rfl) ?_
  refine s_pure 21 (.bool false) (by kernel_rfl) (by kernel_rfl) (fun _ => by kernel_rfl) ?_
  refine ops_end ?_
  refine At.env [(0, .pointer (some ⟨b, 0, none⟩)), (1, .agg #[.int .i64 (3), .int .i64 pf, .int .i64 pt, .int .i64 pid, .int .i64 pl, .int .i64 pp, .int .i64 ps, .bool pfl, .slice pa pm pc]), (3, .pointer (some ⟨b1, 0, none⟩)), (4, .pointer (some ⟨b2, 0, none⟩)), (5, .int .i64 (0)), (21, .bool false)] ⟨by kernel_rfl, by kernel_rfl, by kernel_rfl, by kernel_rfl, by kernel_rfl, by kernel_rfl, trivial⟩ ?_
  refine at_then_normal ?_
  refine at_false (t := false) (x := C18 [1, 0, 1, 0]) (y := C18 [1, 0, 1, 1]) (o := .tmp 21) (by kernel_rfl) (by kernel_rfl) (by kernel_rfl) rfl ?_
  refine at_skip (by kernel_rfl) ?_
  refine at_then_normal ?_
  refine at_seq (x := C18 [1, 1, 0]) (y := C18 [1, 1, 1]) (by kernel_rfl) ?_
  refine at_region (id := 3) 10 (by kernel_rfl) (by kernel_rfl) ?_
  refine s_pure 24 (.pointer (some ⟨b, 0, none⟩)) (by kernel_rfl) (by kernel_rfl) (fun _ => by kernel_rfl) ?_
  refine s_pure 25 (.pointer (some ⟨b1, 4, none⟩)) (by kernel_rfl) (by kernel_rfl) (fun _ => by kernel_rfl) ?_
  refine s_load 26 (.int .i64 pl) (by kernel_rfl) (by kernel_rfl) (load1 (off := 4) (fun _ => by kernel_rfl) (holds_own (.there .here)) (by kernel_rfl)) ?_
  refine At.conv (fun w hw => hw.less (.take (.there (.there .here)) (.take .here (.take .here .refl)))) ?_
  refine s_call 27 20 #[.pointer (some ⟨b, 0, none⟩), .int .i64 pl] (by kernel_rfl) (by kernel_rfl) (fun _ => by kernel_rfl) (Find_some b c pl hlen hdat i e hidx he) ?_
  rintro _ _ ⟨fa, fc, rfl, rfl⟩
  refine s_pure 23 (.tuple #[.agg #[.int .i64 e.fwd, .int .i64 e.back, .int .i64 e.line, .int .i64 e.used, .bool e.dirty, .slice fa e.data.length fc], .bool true]) (by kernel_rfl) (by kernel_rfl) (fun _ => by kernel_rfl) ?_
  refine s_pure 28 (.agg #[.int .i64 e.fwd, .int .i64 e.back, .int .i64 e.line, .int .i64 e.used, .bool e.dirty, .slice fa e.data.length fc]) (by kernel_rfl) (by kernel_rfl) (fun _ => by kernel_rfl) ?_
  refine s_pure 29 (.bool true) (by kernel_rfl) (by kernel_rfl) (fun _ => by kernel_rfl) ?_
  refine s_step 6 (by kernel_rfl) (by kernel_rfl) (st_new (T := 31) (cells := #[.int .i64 (0), .int .i64 (0), .int .i64 (0), .int .i64 (0), .bool false, .slice none 0 0]) (fun a => .pointer (some a)) (fun _ => by kernel_rfl)) ?_
  rintro _ _ ⟨b3, rfl, rfl⟩
  refine s_do (by kernel_rfl) (by kernel_rfl) (st_store (off := 0) (vs := [.int .i64 e.fwd, .int .i64 e.back, .int .i64 e.line, .int .i64 e.used, .bool e.dirty, .slice fa e.data.length fc]) (c' := #[.int .i64 e.fwd, .int .i64 e.back, .int .i64 e.line, .int .i64 e.used, .bool e.dirty, .slice fa e.data.length fc]) (fun _ => by kernel_rfl) .here (by kernel_rfl) (by kernel_rfl) (by kernel_rfl)) ?_
  rintro _ _ ⟨rfl, rfl⟩
  refine s_pure 7 (.bool true) (by kernel_rfl) (by kernel_rfl) (fun _ => by kernel_rfl) ?_
  refine ops_end ?_
  refine At.env [(0, .pointer (some ⟨b, 0, none⟩)), (1, .agg #[.int .i64 (3), .int .i64 pf, .int .i64 pt, .int .i64 pid, .int .i64 pl, .int .i64 pp, .int .i64 ps, .bool pfl, .slice pa pm pc]), (3, .pointer (some ⟨b1, 0, none⟩)), (4, .pointer (some ⟨b2, 0, none⟩)), (5, .int .i64 (0)), (6, .pointer (some ⟨b3, 0, none⟩)), (7, .bool true), (21, .bool false)] ⟨by kernel_rfl, by kernel_rfl, by kernel_rfl, by kernel_rfl, by kernel_rfl, by kernel_rfl, by kernel_rfl, by kernel_rfl, trivial⟩ ?_
  refine at_then_normal ?_
  refine at_seq (x := C18 [1, 1, 1, 0]) (y := C18 [1, 1, 1, 1]) (by kernel_rfl) ?_
  refine at_seq (x := C18 [1, 1, 1, 0, 0]) (y := C18 [1, 1, 1, 0, 1]) (by kernel_rfl) ?_
  refine at_region (id := 4) 2 (by kernel_rfl) (by kernel_rfl) ?_
  refine s_pure 30 (.bool true) (by kernel_rfl) (by kernel_rfl) (fun _ => by kernel_rfl) ?_
  refine s_pure 31 (.bool false) (by kernel_rfl) (by kernel_rfl) (fun _ => by kernel_rfl) ?_
  refine ops_end ?_
  refine At.env [(0, .pointer (some ⟨b, 0, none⟩)), (1, .agg #[.int .i64 (3), .int .i64 pf, .int .i64 pt, .int .i64 pid, .int .i64 pl, .int .i64 pp, .int .i64 ps, .bool pfl, .slice pa pm pc]), (3, .pointer (some ⟨b1, 0, none⟩)), (4, .pointer (some ⟨b2, 0, none⟩)), (5, .int .i64 (0)), (6, .pointer (some ⟨b3, 0, none⟩)), (7, .bool true), (21, .bool false), (31, .bool false)] ⟨by kernel_rfl, by kernel_rfl, by kernel_rfl, by kernel_rfl, by kernel_rfl, by kernel_rfl, by kernel_rfl, by kernel_rfl, by kernel_rfl, trivial⟩ ?_
  refine at_then_normal ?_
  refine at_false (t := false) (x := C18 [1, 1, 1, 0, 1, 0]) (y := C18 [1, 1, 1, 0, 1, 1]) (o := .tmp 31) (by kernel_rfl) (by kernel_rfl) (by kernel_rfl) rfl ?_
  refine at_skip (by kernel_rfl) ?_
  refine at_then_normal ?_
  refine at_seq (x := C18 [1, 1, 1, 1, 0]) (y := C18 [1, 1, 1, 1, 1]) (by kernel_rfl) ?_
  refine at_region_draw (id := 6) (by kernel_rfl) (by kernel_rfl) ?_
  refine d_pure 0 33 (.pointer (some ⟨b1, 0, none⟩)) (by kernel_rfl) (by kernel_rfl) (by kernel_rfl) (fun _ => by kernel_rfl) ?_
  refine d_load 1 34 (.int .i64 (3)) (by kernel_rfl) (by kernel_rfl) (by kernel_rfl) (load1 (off := 0) (fun _ => by kernel_rfl) (holds_own (.there (.there (.there (.there .here))))) (by kernel_rfl)) ?_
  refine d_quiet 2 35 (.int .i64 (9)) 52 #[.int .i64 (3)] (by kernel_rfl) (by kernel_rfl) (by kernel_rfl) (fun _ => by kernel_rfl) (fun _ => (Tr.as (Answer_tr (3)) (show Value.int .i64 (answerI (3)) = .int .i64 (9) from by rfl))) ?_
  refine d_pure 3 36 (.pointer (some ⟨b1, 2, none⟩)) (by kernel_rfl) (by kernel_rfl) (by kernel_rfl) (fun _ => by kernel_rfl) ?_
  refine d_load 4 37 (.int .i64 pt) (by kernel_rfl) (by kernel_rfl) (by kernel_rfl) (load1 (off := 2) (fun _ => by kernel_rfl) (holds_own (.there (.there (.there (.there .here))))) (by kernel_rfl)) ?_
  refine d_pure 5 38 (.pointer (some ⟨b1, 1, none⟩)) (by kernel_rfl) (by kernel_rfl) (by kernel_rfl) (fun _ => by kernel_rfl) ?_
  refine d_load 6 39 (.int .i64 pf) (by kernel_rfl) (by kernel_rfl) (by kernel_rfl) (load1 (off := 1) (fun _ => by kernel_rfl) (holds_own (.there (.there (.there (.there .here))))) (by kernel_rfl)) ?_
  refine d_pure 7 40 (.pointer (some ⟨b1, 3, none⟩)) (by kernel_rfl) (by kernel_rfl) (by kernel_rfl) (fun _ => by kernel_rfl) ?_
  refine d_load 8 41 (.int .i64 pid) (by kernel_rfl) (by kernel_rfl) (by kernel_rfl) (load1 (off := 3) (fun _ => by kernel_rfl) (holds_own (.there (.there (.there (.there .here))))) (by kernel_rfl)) ?_
  refine d_pure 9 42 (.pointer (some ⟨b1, 4, none⟩)) (by kernel_rfl) (by kernel_rfl) (by kernel_rfl) (fun _ => by kernel_rfl) ?_
  refine d_load 10 43 (.int .i64 pl) (by kernel_rfl) (by kernel_rfl) (by kernel_rfl) (load1 (off := 4) (fun _ => by kernel_rfl) (holds_own (.there (.there (.there (.there .here))))) (by kernel_rfl)) ?_
  refine d_pure 11 44 (.agg #[.int .i64 (9), .int .i64 pt, .int .i64 pf, .int .i64 pid, .int .i64 pl, .int .i64 (0), .int .i64 (0), .bool false, .slice none 0 0]) (by kernel_rfl) (by kernel_rfl) (by kernel_rfl) (fun _ => by kernel_rfl) ?_
  refine d_step 12 8 [] [11, 9, 7, 5, 3, 2, 0] [10, 8, 6, 4, 1] (by kernel_rfl) (by kernel_rfl) (by kernel_rfl) (st_new (T := 35) (cells := #[.int .i64 (0), .int .i64 (0), .int .i64 (0), .int .i64 (0), .int .i64 (0), .int .i64 (0), .int .i64 (0), .bool false, .slice none 0 0]) (fun a => .pointer (some a)) (fun _ => by kernel_rfl)) ?_
  rintro _ _ ⟨b4, rfl, rfl⟩
  refine ⟨(stable_cons 10 43 (.int .i64 pl) (by kernel_rfl) (by kernel_rfl) (by kernel_rfl) (load1 (off := 4) (fun _ => by kernel_rfl) (holds_own (.there (.there (.there (.there (.there .here)))))) (by kernel_rfl)) (stable_cons 8 41 (.int .i64 pid) (by kernel_rfl) (by kernel_rfl) (by kernel_rfl) (load1 (off := 3) (fun _ => by kernel_rfl) (holds_own (.there (.there (.there (.there (.there .here)))))) (by kernel_rfl)) (stable_cons 6 39 (.int .i64 pf) (by kernel_rfl) (by kernel_rfl) (by kernel_rfl) (load1 (off := 1) (fun _ => by kernel_rfl) (holds_own (.there (.there (.there (.there (.there .here)))))) (by kernel_rfl)) (stable_cons 4 37 (.int .i64 pt) (by kernel_rfl) (by kernel_rfl) (by kernel_rfl) (load1 (off := 2) (fun _ => by kernel_rfl) (holds_own (.there (.there (.there (.there (.there .here)))))) (by kernel_rfl)) (stable_cons 1 34 (.int .i64 (3)) (by kernel_rfl) (by kernel_rfl) (by kernel_rfl) (load1 (off := 0) (fun _ => by kernel_rfl) (holds_own (.there (.there (.there (.there (.there .here)))))) (by kernel_rfl)) stable_nil))))), ?_⟩
  refine d_do 13 [12, 11, 2, 0, 1, 3, 4, 5, 6, 7, 8, 9, 10] [] [] (by kernel_rfl) (by kernel_rfl) (by kernel_rfl) (st_store (off := 0) (vs := [.int .i64 (9), .int .i64 pt, .int .i64 pf, .int .i64 pid, .int .i64 pl, .int .i64 (0), .int .i64 (0), .bool false, .slice none 0 0]) (c' := #[.int .i64 (9), .int .i64 pt, .int .i64 pf, .int .i64 pid, .int .i64 pl, .int .i64 (0), .int .i64 (0), .bool false, .slice none 0 0]) (fun _ => by kernel_rfl) .here (by kernel_rfl) (by kernel_rfl) (by kernel_rfl)) ?_
  rintro _ _ ⟨rfl, rfl⟩
  refine ⟨stable_nil, ?_⟩
  refine draw_end (by kernel_rfl) ?_
  refine At.env [(0, .pointer (some ⟨b, 0, none⟩)), (1, .agg #[.int .i64 (3), .int .i64 pf, .int .i64 pt, .int .i64 pid, .int .i64 pl, .int .i64 pp, .int .i64 ps, .bool pfl, .slice pa pm pc]), (3, .pointer (some ⟨b1, 0, none⟩)), (4, .pointer (some ⟨b2, 0, none⟩)), (5, .int .i64 (0)), (6, .pointer (some ⟨b3, 0, none⟩)), (7, .bool true), (8, .pointer (some ⟨b4, 0, none⟩)), (21, .bool false), (31, .bool false)] ⟨by kernel_rfl, by kernel_rfl, by kernel_rfl, by kernel_rfl, by kernel_rfl, by kernel_rfl, by kernel_rfl, by kernel_rfl, by kernel_rfl, by kernel_rfl, trivial⟩ ?_
  refine at_then_normal ?_
  refine at_seq (x := C18 [1, 1, 1, 1, 1, 0]) (y := C18 [1, 1, 1, 1, 1, 1]) (by kernel_rfl) ?_
  refine at_seq (x := C18 [1, 1, 1, 1, 1, 0, 0]) (y := C18 [1, 1, 1, 1, 1, 0, 1]) (by kernel_rfl) ?_
  refine at_region (id := 7) 2 (by kernel_rfl) (by kernel_rfl) ?_
  refine s_pure 45 (.pointer (some ⟨b1, 0, none⟩)) (by kernel_rfl) (by kernel_rfl) (fun _ => by kernel_rfl) ?_
  refine s_load 46 (.int .i64 (3)) (by kernel_rfl) (by kernel_rfl) (load1 (off := 0) (fun _ => by kernel_rfl) (holds_own (.there (.there (.there (.there (.there .here)))))) (by kernel_rfl)) ?_
  refine ops_end ?_
  refine At.env [(0, .pointer (some ⟨b, 0, none⟩)), (1, .agg #[.int .i64 (3), .int .i64 pf, .int .i64 pt, .int .i64 pid, .int .i64 pl, .int .i64 pp, .int .i64 ps, .bool pfl, .slice pa pm pc]), (3, .pointer (some ⟨b1, 0, none⟩)), (4, .pointer (some ⟨b2, 0, none⟩)), (5, .int .i64 (0)), (6, .pointer (some ⟨b3, 0, none⟩)), (7, .bool true), (8, .pointer (some ⟨b4, 0, none⟩)), (21, .bool false), (31, .bool false), (46, .int .i64 (3))] ⟨by kernel_rfl, by kernel_rfl, by kernel_rfl, by kernel_rfl, by kernel_rfl, by kernel_rfl, by kernel_rfl, by kernel_rfl, by kernel_rfl, by kernel_rfl, by kernel_rfl, trivial⟩ ?_
  refine at_then_normal ?_
  refine at_block (i := 0) (x := C18 [1, 1, 1, 1, 1, 0, 1, 0]) (by kernel_rfl) ?_
  refine at_seq (x := C18 [1, 1, 1, 1, 1, 0, 1, 0, 0]) (y := C18 [1, 1, 1, 1, 1, 0, 1, 0, 1]) (by kernel_rfl) ?_
  refine at_region (id := 8) 2 (by kernel_rfl) (by kernel_rfl) ?_
  refine s_pure 48 (.bool true) (by kernel_rfl) (by kernel_rfl) (fun _ => by kernel_rfl) ?_
  refine s_pure 47 (.bool true) (by kernel_rfl) (by kernel_rfl) (fun _ => by kernel_rfl) ?_
  refine ops_end ?_
  refine At.env [(0, .pointer (some ⟨b, 0, none⟩)), (1, .agg #[.int .i64 (3), .int .i64 pf, .int .i64 pt, .int .i64 pid, .int .i64 pl, .int .i64 pp, .int .i64 ps, .bool pfl, .slice pa pm pc]), (3, .pointer (some ⟨b1, 0, none⟩)), (4, .pointer (some ⟨b2, 0, none⟩)), (5, .int .i64 (0)), (6, .pointer (some ⟨b3, 0, none⟩)), (7, .bool true), (8, .pointer (some ⟨b4, 0, none⟩)), (21, .bool false), (31, .bool false), (46, .int .i64 (3)), (47, .bool true)] ⟨by kernel_rfl, by kernel_rfl, by kernel_rfl, by kernel_rfl, by kernel_rfl, by kernel_rfl, by kernel_rfl, by kernel_rfl, by kernel_rfl, by kernel_rfl, by kernel_rfl, by kernel_rfl, trivial⟩ ?_
  refine at_then_normal ?_
  refine at_true (t := true) (x := C18 [1, 1, 1, 1, 1, 0, 1, 0, 1, 0]) (y := C18 [1, 1, 1, 1, 1, 0, 1, 0, 1, 1]) (o := .tmp 47) (by kernel_rfl) (by kernel_rfl) (by kernel_rfl) rfl ?_
  refine at_seq (x := C18 [1, 1, 1, 1, 1, 0, 1, 0, 1, 0, 0]) (y := C18 [1, 1, 1, 1, 1, 0, 1, 0, 1, 0, 1]) (by kernel_rfl) ?_
  refine at_region_draw (id := 9) (by kernel_rfl) (by kernel_rfl) ?_
  refine d_pure 0 49 (.pointer (some ⟨b3, 5, none⟩)) (by kernel_rfl) (by kernel_rfl) (by kernel_rfl) (fun _ => by kernel_rfl) ?_
  refine d_load 1 50 (.slice fa e.data.length fc) (by kernel_rfl) (by kernel_rfl) (by kernel_rfl) (load1 (off := 5) (fun _ => by kernel_rfl) (holds_own (.there .here)) (by kernel_rfl)) ?_
  refine d_pure 2 51 (.pointer (some ⟨b3, 4, none⟩)) (by kernel_rfl) (by kernel_rfl) (by kernel_rfl) (fun _ => by kernel_rfl) ?_
  refine d_load 3 52 (.bool e.dirty) (by kernel_rfl) (by kernel_rfl) (by kernel_rfl) (load1 (off := 4) (fun _ => by kernel_rfl) (holds_own (.there .here)) (by kernel_rfl)) ?_
  refine d_pure 4 53 (.pointer (some ⟨b4, 8, none⟩)) (by kernel_rfl) (by kernel_rfl) (by kernel_rfl) (fun _ => by kernel_rfl) ?_
  refine d_do 5 [4, 1, 0] [2] [3] (by kernel_rfl) (by kernel_rfl) (by kernel_rfl) (st_store (off := 8) (vs := [.slice fa e.data.length fc]) (c' := #[.int .i64 (9), .int .i64 pt, .int .i64 pf, .int .i64 pid, .int .i64 pl, .int .i64 (0), .int .i64 (0), .bool false, .slice fa e.data.length fc]) (fun _ => by kernel_rfl) .here (by kernel_rfl) (by kernel_rfl) (by kernel_rfl)) ?_
  rintro _ _ ⟨rfl, rfl⟩
  refine ⟨(stable_cons 3 52 (.bool e.dirty) (by kernel_rfl) (by kernel_rfl) (by kernel_rfl) (load1 (off := 4) (fun _ => by kernel_rfl) (holds_own (.there .here)) (by kernel_rfl)) stable_nil), ?_⟩
  refine d_pure 6 54 (.pointer (some ⟨b4, 7, none⟩)) (by kernel_rfl) (by kernel_rfl) (by kernel_rfl) (fun _ => by kernel_rfl) ?_
  refine d_do 7 [6, 3, 5, 0, 1, 2, 4] [] [] (by kernel_rfl) (by kernel_rfl) (by kernel_rfl) (st_store (off := 7) (vs := [.bool e.dirty]) (c' := #[.int .i64 (9), .int .i64 pt, .int .i64 pf, .int .i64 pid, .int .i64 pl, .int .i64 (0), .int .i64 (0), .bool e.dirty, .slice fa e.data.length fc]) (fun _ => by kernel_rfl) .here (by kernel_rfl) (by kernel_rfl) (by kernel_rfl)) ?_
  rintro _ _ ⟨rfl, rfl⟩
  refine ⟨stable_nil, ?_⟩
  refine draw_end (by kernel_rfl) ?_
  refine At.env [(0, .pointer (some ⟨b, 0, none⟩)), (1, .agg #[.int .i64 (3), .int .i64 pf, .int .i64 pt, .int .i64 pid, .int .i64 pl, .int .i64 pp, .int .i64 ps, .bool pfl, .slice pa pm pc]), (3, .pointer (some ⟨b1, 0, none⟩)), (4, .pointer (some ⟨b2, 0, none⟩)), (5, .int .i64 (0)), (6, .pointer (some ⟨b3, 0, none⟩)), (7, .bool true), (8, .pointer (some ⟨b4, 0, none⟩)), (21, .bool false), (31, .bool false), (46, .int .i64 (3)), (47, .bool true)] ⟨by kernel_rfl, by kernel_rfl, by kernel_rfl, by kernel_rfl, by kernel_rfl, by kernel_rfl, by kernel_rfl, by kernel_rfl, by kernel_rfl, by kernel_rfl, by kernel_rfl, by kernel_rfl, trivial⟩ ?_
  refine at_then_normal ?_
  refine at_seq (x := C18 [1, 1, 1, 1, 1, 0, 1, 0, 1, 0, 1, 0]) (y := C18 [1, 1, 1, 1, 1, 0, 1, 0, 1, 0, 1, 1]) (by kernel_rfl) ?_
  refine at_region (id := 10) 2 (by kernel_rfl) (by kernel_rfl) ?_
  refine s_pure 55 (.pointer (some ⟨b3, 4, none⟩)) (by kernel_rfl) (by kernel_rfl) (fun _ => by kernel_rfl) ?_
  refine s_do (by kernel_rfl) (by kernel_rfl) (st_store (off := 4) (vs := [.bool false]) (c' := #[.int .i64 e.fwd, .int .i64 e.back, .int .i64 e.line, .int .i64 e.used, .bool false, .slice fa e.data.length fc]) (fun _ => by kernel_rfl) (.there .here) (by kernel_rfl) (by kernel_rfl) (by kernel_rfl)) ?_
  rintro _ _ ⟨rfl, rfl⟩
  refine ops_end ?_
  refine At.env [(0, .pointer (some ⟨b, 0, none⟩)), (1, .agg #[.int .i64 (3), .int .i64 pf, .int .i64 pt, .int .i64 pid, .int .i64 pl, .int .i64 pp, .int .i64 ps, .bool pfl, .slice pa pm pc]), (3, .pointer (some ⟨b1, 0, none⟩)), (4, .pointer (some ⟨b2, 0, none⟩)), (5, .int .i64 (0)), (6, .pointer (some ⟨b3, 0, none⟩)), (7, .bool true), (8, .pointer (some ⟨b4, 0, none⟩)), (21, .bool false), (31, .bool false), (46, .int .i64 (3)), (47, .bool true)] ⟨by kernel_rfl, by kernel_rfl, by kernel_rfl, by kernel_rfl, by kernel_rfl, by kernel_rfl, by kernel_rfl, by kernel_rfl, by kernel_rfl, by kernel_rfl, by kernel_rfl, by kernel_rfl, trivial⟩ ?_
  refine at_then_normal ?_
  refine at_region (id := 11) 4 (by kernel_rfl) (by kernel_rfl) ?_
  refine s_pure 56 (.pointer (some ⟨b3, 0, none⟩)) (by kernel_rfl) (by kernel_rfl) (fun _ => by kernel_rfl) ?_
  refine s_pure 57 (.pointer (some ⟨b1, 5, none⟩)) (by kernel_rfl) (by kernel_rfl) (fun _ => by kernel_rfl) ?_
  refine s_load 58 (.int .i64 pp) (by kernel_rfl) (by kernel_rfl) (load1 (off := 5) (fun _ => by kernel_rfl) (holds_own (.there (.there (.there (.there (.there .here)))))) (by kernel_rfl)) ?_
  refine At.conv (fun w hw => hw.less (.take .here (.take .here (.take .here (.take .here (.take .here (.take .here .refl))))))) ?_
  refine s_call 59 53 #[.pointer (some ⟨b3, 0, none⟩), .int .i64 pp] (by kernel_rfl) (by kernel_rfl) (fun _ => by kernel_rfl) (SetBack_tr b3 31 e.fwd e.back e.line e.used false fa e.data.length fc pp) ?_
  rintro _ _ ⟨rfl, rfl⟩
  refine ops_end ?_
  refine At.env [(0, .pointer (some ⟨b, 0, none⟩)), (1, .agg #[.int .i64 (3), .int .i64 pf, .int .i64 pt, .int .i64 pid, .int .i64 pl, .int .i64 pp, .int .i64 ps, .bool pfl, .slice pa pm pc]), (3, .pointer (some ⟨b1, 0, none⟩)), (4, .pointer (some ⟨b2, 0, none⟩)), (5, .int .i64 (0)), (6, .pointer (some ⟨b3, 0, none⟩)), (7, .bool true), (8, .pointer (some ⟨b4, 0, none⟩)), (21, .bool false), (31, .bool false), (46, .int .i64 (3)), (47, .bool true)] ⟨by kernel_rfl, by kernel_rfl, by kernel_rfl, by kernel_rfl, by kernel_rfl, by kernel_rfl, by kernel_rfl, by kernel_rfl, by kernel_rfl, by kernel_rfl, by kernel_rfl, by kernel_rfl, trivial⟩ ?_
  refine at_in_normal ?_
  refine at_then_normal ?_
  refine at_seq (x := C18 [1, 1, 1, 1, 1, 1, 0]) (y := C18 [1, 1, 1, 1, 1, 1, 1]) (by kernel_rfl) ?_
  refine at_region_draw (id := 20) (by kernel_rfl) (by kernel_rfl) ?_
  refine d_load 0 89 (.agg #[.int .i64 (9), .int .i64 pt, .int .i64 pf, .int .i64 pid, .int .i64 pl, .int .i64 (0), .int .i64 (0), .bool e.dirty, .slice fa e.data.length fc]) (by kernel_rfl) (by kernel_rfl) (by kernel_rfl) (loadN (off := 0) (vs := [.int .i64 (9), .int .i64 pt, .int .i64 pf, .int .i64 pid, .int .i64 pl, .int .i64 (0), .int .i64 (0), .bool e.dirty, .slice fa e.data.length fc]) 9 (fun _ => by kernel_rfl) (holds_own (.there .here)) rfl (by exact ⟨rfl, rfl, rfl, rfl, rfl, rfl, rfl, rfl, rfl, trivial⟩)) ?_
  refine d_pure 1 90 (.pointer (some ⟨b, 0, none⟩)) (by kernel_rfl) (by kernel_rfl) (by kernel_rfl) (fun _ => by kernel_rfl) ?_
  refine d_load 2 91 (.agg #[.int .i64 e.fwd, .int .i64 pp, .int .i64 e.line, .int .i64 e.used, .bool false, .slice fa e.data.length fc]) (by kernel_rfl) (by kernel_rfl) (by kernel_rfl) (loadN (off := 0) (vs := [.int .i64 e.fwd, .int .i64 pp, .int .i64 e.line, .int .i64 e.used, .bool false, .slice fa e.data.length fc]) 6 (fun _ => by kernel_rfl) (holds_own .here) rfl (by exact ⟨rfl, rfl, rfl, rfl, rfl, rfl, trivial⟩)) ?_
  refine Draw.conv (fun w hw => hw.less (.take (.there (.there (.there .here))) (.take .here (.take .here (.take .here (.take .here (.take .here .refl))))))) (fun w hw => hw.less (.take (.there .here) (.take (.there .here) (.take (.there .here) (.take .here (.take .here (.take .here .refl))))))) ?_
  refine d_call 3 92 [1, 2] [] [0] 15 #[.pointer (some ⟨b, 0, none⟩), .agg #[.int .i64 e.fwd, .int .i64 pp, .int .i64 e.line, .int .i64 e.used, .bool false, .slice fa e.data.length fc]] (by kernel_rfl) (by kernel_rfl) (by kernel_rfl) (fun _ => by kernel_rfl) (Put_set b c e.fwd pp e.line e.used false fa e.data.length fc e.data (rfl) (RowsA.reads (k := 1) (.there (.there .here))) (hdat _ (List.mem_of_getElem? he)) hlen hs (by omega) i e (by rw [hel]; exact hidx) he) ?_
  rintro _ _ ⟨rfl, rfl⟩
  refine ⟨(stable_cons 0 89 (.agg #[.int .i64 (9), .int .i64 pt, .int .i64 pf, .int .i64 pid, .int .i64 pl, .int .i64 (0), .int .i64 (0), .bool e.dirty, .slice fa e.data.length fc]) (by kernel_rfl) (by kernel_rfl) (by kernel_rfl) (loadN (off := 0) (vs := [.int .i64 (9), .int .i64 pt, .int .i64 pf, .int .i64 pid, .int .i64 pl, .int .i64 (0), .int .i64 (0), .bool e.dirty, .slice fa e.data.length fc]) 9 (fun _ => by kernel_rfl) (holds_own (.there (.there .here))) rfl (by exact ⟨rfl, rfl, rfl, rfl, rfl, rfl, rfl, rfl, rfl, trivial⟩)) stable_nil), ?_⟩
  refine d_do 4 [0, 3, 1, 2] [] [] (by kernel_rfl) (by kernel_rfl) (by kernel_rfl) (st_store (off := 0) (vs := [.int .i64 (9), .int .i64 pt, .int .i64 pf, .int .i64 pid, .int .i64 pl, .int .i64 (0), .int .i64 (0), .bool e.dirty, .slice fa e.data.length fc]) (c' := #[.int .i64 (9), .int .i64 pt, .int .i64 pf, .int .i64 pid, .int .i64 pl, .int .i64 (0), .int .i64 (0), .bool e.dirty, .slice fa e.data.length fc]) (fun _ => by kernel_rfl) (.there (.there (.there (.there .here)))) (by kernel_rfl) (by kernel_rfl) (by kernel_rfl)) ?_
  rintro _ _ ⟨rfl, rfl⟩
  refine ⟨stable_nil, ?_⟩
  refine d_pure 5 5 (.int .i64 (0)) (by kernel_rfl) (by kernel_rfl) (by kernel_rfl) (fun _ => by kernel_rfl) ?_
  refine draw_end (by kernel_rfl) ?_
  refine At.env [(0, .pointer (some ⟨b, 0, none⟩)), (1, .agg #[.int .i64 (3), .int .i64 pf, .int .i64 pt, .int .i64 pid, .int .i64 pl, .int .i64 pp, .int .i64 ps, .bool pfl, .slice pa pm pc]), (3, .pointer (some ⟨b1, 0, none⟩)), (4, .pointer (some ⟨b2, 0, none⟩)), (5, .int .i64 (0)), (6, .pointer (some ⟨b3, 0, none⟩)), (7, .bool true), (8, .pointer (some ⟨b4, 0, none⟩)), (21, .bool false), (31, .bool false), (46, .int .i64 (3)), (47, .bool true)] ⟨by kernel_rfl, by kernel_rfl, by kernel_rfl, by kernel_rfl, by kernel_rfl, by kernel_rfl, by kernel_rfl, by kernel_rfl, by kernel_rfl, by kernel_rfl, by kernel_rfl, by kernel_rfl, trivial⟩ ?_
  refine at_then_normal ?_
  refine at_ret (by kernel_rfl) ?_
  refine at_backR [.agg #[.int .i64 (9), .int .i64 pt, .int .i64 pf, .int .i64 pid, .int .i64 pl, .int .i64 (0), .int .i64 (0), .bool e.dirty, .slice fa e.data.length fc], .int .i64 (0)] ((IntsA fa fc e.data) :: (CacheA b ({ c with l := c.l.set i ⟨e.fwd, pp, e.line, e.used, false, e.data⟩ })) :: Γ) (rs := [.cell 4 35, .tmp 5]) (by kernel_rfl) (.cons (.cell (by kernel_rfl) (retN (off := 0) (vs := [.int .i64 (9), .int .i64 pt, .int .i64 pf, .int .i64 pid, .int .i64 pl, .int .i64 (0), .int .i64 (0), .bool e.dirty, .slice fa e.data.length fc]) 9 (fun _ => by kernel_rfl) (holds_own .here) rfl (by exact ⟨rfl, rfl, rfl, rfl, rfl, rfl, rfl, rfl, rfl, trivial⟩))) (.cons (.tmp (by kernel_rfl)) .nil)) (fun w hw => hw.less (.take (.there (.there (.there (.there .here)))) (.take (.there .here) (.drop .here (.drop .here (.drop .here (.drop .here .refl))))))) ?_
  exact ⟨_, _, rfl, rfl⟩
set_option maxRecDepth 100000 in
theorem Handle_fwd {W0 : World} {Γ : List Asn} (b : Nat) (c : CacheS) (pf pt pid pl pp ps : Int) (pfl : Bool) (pa : Option Addr) (pm pc : Nat) (ok1 : 0 ≤ pf ∧ pf < 6) (ok2 : 0 ≤ pt ∧ pt < 6) (ok3 : 0 ≤ pid ∧ pid < 4096) (ok5 : 0 ≤ pl ∧ pl < 8) (ok6 : -1 ≤ pp ∧ pp < 6) (ok7 : 0 ≤ ps ∧ ps < 3) (ok8 : pm ≤ 4) (hlen : c.l.length ≤ 1099511627776) (hs : 1 ≤ c.sets) (hdat : ∀ x ∈ c.l, x.data.length ≤ 1099511627776) (i : Nat) (e : Ent) (hidx : idx c.l pl = some i) (he : c.l[i]? = some e) (hel : e.line = pl) : Tr Try.prog 18 #[.pointer (some ⟨b, 0, none⟩), .agg #[.int .i64 (4), .int .i64 pf, .int .i64 pt, .int .i64 pid, .int .i64 pl, .int .i64 pp, .int .i64 ps, .bool pfl, .slice pa pm pc]] W0 ((CacheA b c) :: Γ) (fun r Δ => r = .tuple #[.agg #[.int .i64 (8), .int .i64 pt, .int .i64 pf, .int .i64 pid, .int .i64 pl, .int .i64 (0), .int .i64 (0), .bool false, .slice none 0 0], .int .i64 0] ∧ Δ = CacheA b ({ c with l := c.l.set i ⟨pp, e.back, e.line, e.used, e.dirty, e.data⟩ }) :: Γ) := by
  refine Tr.enter (fn := Try.f18) (c := C18 []) (args := [.pointer (some ⟨b, 0, none⟩), .agg #[.int .i64 (4), .int .i64 pf, .int .i64 pt, .int .i64 pid, .int .i64 pl, .int .i64 pp, .int .i64 ps, .bool pfl, .slice pa pm pc]]) 93 Try.func18 (by kernel_rfl) (by kernel_rfl) ?_
  refine At.env [(0, .pointer (some ⟨b, 0, none⟩)), (1, .agg #[.int .i64 (4), .int .i64 pf, .int .i64 pt, .int .i64 pid, .int .i64 pl, .int .i64 pp, .int .i64 ps, .bool pfl, .slice pa pm pc])] ⟨by kernel_rfl, by kernel_rfl, trivial⟩ ?_
  refine at_seq (x := C18 [0]) (y := C18 [1]) (by kernel_rfl) ?_
  refine at_region (id := 0) 3 (by kernel_rfl) (by kernel_rfl) ?_
  refine s_step 3 (by kernel_rfl) (by kernel_rfl) (st_new (T := 35) (cells := #[.int .i64 (4), .int .i64 pf, .int .i64 pt, .int .i64 pid, .int .i64 pl, .int .i64 pp, .int .i64 ps, .bool pfl, .slice pa pm pc]) (fun a => .pointer (some a)) (fun _ => by kernel_rfl)) ?_
  rintro _ _ ⟨b1, rfl, rfl⟩
  refine s_step 4 (by kernel_rfl) (by kernel_rfl) (st_new (T := 35) (cells := #[.int .i64 (0), .int .i64 (0), .int .i64 (0), .int .i64 (0), .int .i64 (0), .int .i64 (0), .int .i64 (0), .bool false, .slice none 0 0]) (fun a => .pointer (some a)) (fun _ => by kernel_rfl)) ?_
  rintro _ _ ⟨b2, rfl, rfl⟩
  refine s_pure 5 (.int .i64 (0)) (by kernel_rfl) (by kernel_rfl) (fun _ => by kernel_rfl) ?_
  refine ops_end ?_
  refine At.env [(0, .pointer (some ⟨b, 0, none⟩)), (1, .agg #[.int .i64 (4), .int .i64 pf, .int .i64 pt, .int .i64 pid, .int .i64 pl, .int .i64 pp, .int .i64 ps, .bool pfl, .slice pa pm pc]), (3, .pointer (some ⟨b1, 0, none⟩)), (4, .pointer (some ⟨b2, 0, none⟩)), (5, .int .i64 (0))] ⟨by kernel_rfl, by kernel_rfl, by kernel_rfl, by kernel_rfl, by kernel_rfl, trivial⟩ ?_
  refine at_then_normal ?_
  refine at_seq (x := C18 [1, 0]) (y := C18 [1, 1]) (by kernel_rfl) ?_
  refine at_seq (x := C18 [1, 0, 0]) (y := C18 [1, 0, 1]) (by kernel_rfl) ?_
  refine at_region (id := 1) 13 (by kernel_rfl) (by kernel_rfl) ?_
  refine s_load 9 (.agg #[.int .i64 (4), .int .i64 pf, .int .i64 pt, .int .i64 pid, .int .i64 pl, .int .i64 pp, .int .i64 ps, .bool pfl, .slice pa pm pc]) (by kernel_rfl) (by kernel_rfl) (loadN (off := 0) (vs := [.int .i64 (4), .int .i64 pf, .int .i64 pt, .int .i64 pid, .int .i64 pl, .int .i64 pp, .int .i64 ps, .bool pfl, .slice pa pm pc]) 9 (fun _ => by kernel_rfl) (holds_own (.there .here)) rfl (by exact ⟨rfl, rfl, rfl, rfl, rfl, rfl, rfl, rfl, rfl, trivial⟩)) ?_
  refine s_quiet 10 (.int .i64 (0)) 51 #[.agg #[.int .i64 (4), .int .i64 pf, .int .i64 pt, .int .i64 pid, .int .i64 pl, .int .i64 pp, .int .i64 ps, .bool pfl, .slice pa pm pc]] (by kernel_rfl) (by kernel_rfl) (fun _ => by kernel_rfl) (Check_ok (4) pf pt pid pl pp ps pfl pa pm pc (by omega) (by omega) (by omega) (by omega) (by omega) (by omega) (by omega) (by omega)) ?_
  refine s_pure 11 (.bool false) (by kernel_rfl) (by kernel_rfl) (fun _ => by kernel_rfl) ?_
  refine s_pure 12 (.bool false) (by kernel_rfl) (by kernel_rfl) (fun _ => by kernel_rfl) ?_
  refine s_pure 13 (.pointer (some ⟨b1, 0, none⟩)) (by kernel_rfl) (by kernel_rfl) (fun _ => by kernel_rfl) ?_
  refine s_load 14 (.int .i64 (4)) (by kernel_rfl) (by kernel_rfl) (load1 (off := 0) (fun _ => by kernel_rfl) (holds_own (.there .here)) (by kernel_rfl)) ?_
  refine s_pure 15 (.bool false) (by kernel_rfl) (by kernel_rfl) (fun _ => by kernel_rfl) ?_
  refine s_pure 16 (.bool false) (by kernel_rfl) (by kernel_rfl) (fun _ => by kernel_rfl) ?_
  refine s_pure 17 (.bool false) (by kernel_rfl) (by kernel_rfl) (fun _ => by kernel_rfl) ?_
  refine s_pure 18 (.pointer (some ⟨b1, 0, none⟩)) (by kernel_rfl) (by kernel_rfl) (fun _ => by kernel_rfl) ?_
  refine s_load 19 (.int .i64 (4)) (by kernel_rfl) (by kernel_rfl) (load1 (off := 0) (fun _ => by kernel_rfl) (holds_own (.there .here)) (by kernel_rfl)) ?_
  refine s_pure 20 (.bool false) (by kernel_rfl) (by kernel_rfl) (fun _ => by kernel_rfl) ?_
  refine s_pure 21 (.bool false) (by kernel_rfl) (by kernel_rfl) (fun _ => by kernel_rfl) ?_
  refine ops_end ?_
  refine At.env [(0, .pointer (some ⟨b, 0, none⟩)), (1, .agg #[.int .i64 (4), .int .i64 pf, .int .i64 pt, .int .i64 pid, .int .i64 pl, .int .i64 pp, .int .i64 ps, .bool pfl, .slice pa pm pc]), (3, .pointer (some ⟨b1, 0, none⟩)), (4, .pointer (some ⟨b2, 0, none⟩)), (5, .int .i64 (0)), (21, .bool false)] ⟨by kernel_rfl, by kernel_rfl, by kernel_rfl, by kernel_rfl, by kernel_rfl, by kernel_rfl, trivial⟩ ?_
  refine at_then_normal ?_
  refine at_false (t := false) (x := C18 [1, 0, 1, 0]) (y := C18 [1, 0, 1, 1]) (o := .tmp 21) (by kernel_rfl) (by kernel_rfl) (by kernel_rfl) rfl ?_
  refine at_skip (by kernel_rfl) ?_
  refine at_then_normal ?_
  refine at_seq (x := C18 [1, 1, 0]) (y := C18 [1, 1, 1]) (by kernel_rfl) ?_
  refine at_region (id := 3) 10 (by kernel_rfl) (by kernel_rfl) ?_
  refine s_pure 24 (.pointer (some ⟨b, 0, none⟩)) (by kernel_rfl) (by kernel_rfl) (fun _ => by kernel_rfl) ?_
  refine s_pure 25 (.pointer (some ⟨b1, 4, none⟩)) (by kernel_rfl) (by kernel_rfl) (fun _ => by kernel_rfl) ?_
  refine s_load 26 (.int .i64 pl) (by kernel_rfl) (by kernel_rfl) (load1 (off := 4) (fun _ => by kernel_rfl) (holds_own (.there .here)) (by kernel_rfl)) ?_
  refine At.conv (fun w hw => hw.less (.take (.there (.there .here)) (.take .here (.take .here .refl)))) ?_
  refine s_call 27 20 #[.pointer (some ⟨b, 0, none⟩), .int .i64 pl] (by kernel_rfl) (by kernel_rfl) (fun _ => by kernel_rfl) (Find_some b c pl hlen hdat i e hidx he) ?_
  rintro _ _ ⟨fa, fc, rfl, rfl⟩
  refine s_pure 23 (.tuple #[.agg #[.int .i64 e.fwd, .int .i64 e.back, .int .i64 e.line, .int .i64 e.used, .bool e.dirty, .slice fa e.data.length fc], .bool true]) (by kernel_rfl) (by kernel_rfl) (fun _ => by kernel_rfl) ?_
  refine s_pure 28 (.agg #[.int .i64 e.fwd, .int .i64 e.back, .int .i64 e.line, .int .i64 e.used, .bool e.dirty, .slice fa e.data.length fc]) (by kernel_rfl) (by kernel_rfl) (fun _ => by kernel_rfl) ?_
  refine s_pure 29 (.bool true) (by kernel_rfl) (by kernel_rfl) (fun _ => by kernel_rfl) ?_
  refine s_step 6 (by kernel_rfl) (by kernel_rfl) (st_new (T := 31) (cells := #[.int .i64 (0), .int .i64 (0), .int .i64 (0), .int .i64 (0), .bool false, .slice none 0 0]) (fun a => .pointer (some a)) (fun _ => by kernel_rfl)) ?_
  rintro _ _ ⟨b3, rfl, rfl⟩
  refine s_do (by kernel_rfl) (by kernel_rfl) (st_store (off := 0) (vs := [.int .i64 e.fwd, .int .i64 e.back, .int .i64 e.line, .int .i64 e.used, .bool e.dirty, .slice fa e.data.length fc]) (c' := #[.int .i64 e.fwd, .int .i64 e.back, .int .i64 e.line, .int .i64 e.used, .bool e.dirty, .slice fa e.data.length fc]) (fun _ => by kernel_rfl) .here (by kernel_rfl) (by kernel_rfl) (by kernel_rfl)) ?_
  rintro _ _ ⟨rfl, rfl⟩
  refine s_pure 7 (.bool true) (by kernel_rfl) (by kernel_rfl) (fun _ => by kernel_rfl) ?_
  refine ops_end ?_
  refine At.env [(0, .pointer (some ⟨b, 0, none⟩)), (1, .agg #[.int .i64 (4), .int .i64 pf, .int .i64 pt, .int .i64 pid, .int .i64 pl, .int .i64 pp, .int .i64 ps, .bool pfl, .slice pa pm pc]), (3, .pointer (some ⟨b1, 0, none⟩)), (4, .pointer (some ⟨b2, 0, none⟩)), (5, .int .i64 (0)), (6, .pointer (some ⟨b3, 0, none⟩)), (7, .bool true), (21, .bool false)] ⟨by kernel_rfl, by kernel_rfl, by kernel_rfl, by kernel_rfl, by kernel_rfl, by kernel_rfl, by kernel_rfl, by kernel_rfl, trivial⟩ ?_
  refine at_then_normal ?_
  refine at_seq (x := C18 [1, 1, 1, 0]) (y := C18 [1, 1, 1, 1]) (by kernel_rfl) ?_
  refine at_seq (x := C18 [1, 1, 1, 0, 0]) (y := C18 [1, 1, 1, 0, 1]) (by kernel_rfl) ?_
  refine at_region (id := 4) 2 (by kernel_rfl) (by kernel_rfl) ?_
  refine s_pure 30 (.bool true) (by kernel_rfl) (by kernel_rfl) (fun _ => by kernel_rfl) ?_
  refine s_pure 31 (.bool false) (by kernel_rfl) (by kernel_rfl) (fun _ => by kernel_rfl) ?_
  refine ops_end ?_
  refine At.env [(0, .pointer (some ⟨b, 0, none⟩)), (1, .agg #[.int .i64 (4), .int .i64 pf, .int .i64 pt, .int .i64 pid, .int .i64 pl, .int .i64 pp, .int .i64 ps, .bool pfl, .slice pa pm pc]), (3, .pointer (some ⟨b1, 0, none⟩)), (4, .pointer (some ⟨b2, 0, none⟩)), (5, .int .i64 (0)), (6, .pointer (some ⟨b3, 0, none⟩)), (7, .bool true), (21, .bool false), (31, .bool false)] ⟨by kernel_rfl, by kernel_rfl, by kernel_rfl, by kernel_rfl, by kernel_rfl, by kernel_rfl, by kernel_rfl, by kernel_rfl, by kernel_rfl, trivial⟩ ?_
  refine at_then_normal ?_
  refine at_false (t := false) (x := C18 [1, 1, 1, 0, 1, 0]) (y := C18 [1, 1, 1, 0, 1, 1]) (o := .tmp 31) (by kernel_rfl) (by kernel_rfl) (by kernel_rfl) rfl ?_
  refine at_skip (by kernel_rfl) ?_
  refine at_then_normal ?_
  refine at_seq (x := C18 [1, 1, 1, 1, 0]) (y := C18 [1, 1, 1, 1, 1]) (by kernel_rfl) ?_
  refine at_region_draw (id := 6) (by kernel_rfl) (by kernel_rfl) ?_
  refine d_pure 0 33 (.pointer (some ⟨b1, 0, none⟩)) (by kernel_rfl) (by kernel_rfl) (by kernel_rfl) (fun _ => by kernel_rfl) ?_
  refine d_load 1 34 (.int .i64 (4)) (by kernel_rfl) (by kernel_rfl) (by kernel_rfl) (load1 (off := 0) (fun _ => by kernel_rfl) (holds_own (.there (.there (.there (.there .here))))) (by kernel_rfl)) ?_
  refine d_quiet 2 35 (.int .i64 (8)) 52 #[.int .i64 (4)] (by kernel_rfl) (by kernel_rfl) (by kernel_rfl) (fun _ => by kernel_rfl) (fun _ => (Tr.as (Answer_tr (4)) (show Value.int .i64 (answerI (4)) = .int .i64 (8) from by rfl))) ?_
  refine d_pure 3 36 (.pointer (some ⟨b1, 2, none⟩)) (by kernel_rfl) (by kernel_rfl) (by kernel_rfl) (fun _ => by kernel_rfl) ?_
  refine d_load 4 37 (.int .i64 pt) (by kernel_rfl) (by kernel_rfl) (by kernel_rfl) (load1 (off := 2) (fun _ => by kernel_rfl) (holds_own (.there (.there (.there (.there .here))))) (by kernel_rfl)) ?_
  refine d_pure 5 38 (.pointer (some ⟨b1, 1, none⟩)) (by kernel_rfl) (by kernel_rfl) (by kernel_rfl) (fun _ => by kernel_rfl) ?_
  refine d_load 6 39 (.int .i64 pf) (by kernel_rfl) (by kernel_rfl) (by kernel_rfl) (load1 (off := 1) (fun _ => by kernel_rfl) (holds_own (.there (.there (.there (.there .here))))) (by kernel_rfl)) ?_
  refine d_pure 7 40 (.pointer (some ⟨b1, 3, none⟩)) (by kernel_rfl) (by kernel_rfl) (by kernel_rfl) (fun _ => by kernel_rfl) ?_
  refine d_load 8 41 (.int .i64 pid) (by kernel_rfl) (by kernel_rfl) (by kernel_rfl) (load1 (off := 3) (fun _ => by kernel_rfl) (holds_own (.there (.there (.there (.there .here))))) (by kernel_rfl)) ?_
  refine d_pure 9 42 (.pointer (some ⟨b1, 4, none⟩)) (by kernel_rfl) (by kernel_rfl) (by kernel_rfl) (fun _ => by kernel_rfl) ?_
  refine d_load 10 43 (.int .i64 pl) (by kernel_rfl) (by kernel_rfl) (by kernel_rfl) (load1 (off := 4) (fun _ => by kernel_rfl) (holds_own (.there (.there (.there (.there .here))))) (by kernel_rfl)) ?_
  refine d_pure 11 44 (.agg #[.int .i64 (8), .int .i64 pt, .int .i64 pf, .int .i64 pid, .int .i64 pl, .int .i64 (0), .int .i64 (0), .bool false, .slice none 0 0]) (by kernel_rfl) (by kernel_rfl) (by kernel_rfl) (fun _ => by kernel_rfl) ?_
  refine d_step 12 8 [] [11, 9, 7, 5, 3, 2, 0] [10, 8, 6, 4, 1] (by kernel_rfl) (by kernel_rfl) (by kernel_rfl) (st_new (T := 35) (cells := #[.int .i64 (0), .int .i64 (0), .int .i64 (0), .int .i64 (0), .int .i64 (0), .int .i64 (0), .int .i64 (0), .bool false, .slice none 0 0]) (fun a => .pointer (some a)) (fun _ => by kernel_rfl)) ?_
  rintro _ _ ⟨b4, rfl, rfl⟩
  refine ⟨(stable_cons 10 43 (.int .i64 pl) (by kernel_rfl) (by kernel_rfl) (by kernel_rfl) (load1 (off := 4) (fun _ => by kernel_rfl) (holds_own (.there (.there (.there (.there (.there .here)))))) (by kernel_rfl)) (stable_cons 8 41 (.int .i64 pid) (by kernel_rfl) (by kernel_rfl) (by kernel_rfl) (load1 (off := 3) (fun _ => by kernel_rfl) (holds_own (.there (.there (.there (.there (.there .here)))))) (by kernel_rfl)) (stable_cons 6 39 (.int .i64 pf) (by kernel_rfl) (by kernel_rfl) (by kernel_rfl) (load1 (off := 1) (fun _ => by kernel_rfl) (holds_own (.there (.there (.there (.there (.there .here)))))) (by kernel_rfl)) (stable_cons 4 37 (.int .i64 pt) (by kernel_rfl) (by kernel_rfl) (by kernel_rfl) (load1 (off := 2) (fun _ => by kernel_rfl) (holds_own (.there (.there (.there (.there (.there .here)))))) (by kernel_rfl)) (stable_cons 1 34 (.int .i64 (4)) (by kernel_rfl) (by kernel_rfl) (by kernel_rfl) (load1 (off := 0) (fun _ => by kernel_rfl) (holds_own (.there (.there (.there (.there (.there .here)))))) (by kernel_rfl)) stable_nil))))), ?_⟩
  refine d_do 13 [12, 11, 2, 0, 1, 3, 4, 5, 6, 7, 8, 9, 10] [] [] (by kernel_rfl) (by kernel_rfl) (by kernel_rfl) (st_store (off := 0) (vs := [.int .i64 (8), .int .i64 pt, .int .i64 pf, .int .i64 pid, .int .i64 pl, .int .i64 (0), .int .i64 (0), .bool false, .slice none 0 0]) (c' := #[.int .i64 (8), .int .i64 pt, .int .i64 pf, .int .i64 pid, .int .i64 pl, .int .i64 (0), .int .i64 (0), .bool false, .slice none 0 0]) (fun _ => by kernel_rfl) .here (by kernel_rfl) (by kernel_rfl) (by kernel_rfl)) ?_
  rintro _ _ ⟨rfl, rfl⟩
  refine ⟨stable_nil, ?_⟩
  refine draw_end (by kernel_rfl) ?_
  refine At.env [(0, .pointer (some ⟨b, 0, none⟩)), (1, .agg #[.int .i64 (4), .int .i64 pf, .int .i64 pt, .int .i64 pid, .int .i64 pl, .int .i64 pp, .int .i64 ps, .bool pfl, .slice pa pm pc]), (3, .pointer (some ⟨b1, 0, none⟩)), (4, .pointer (some ⟨b2, 0, none⟩)), (5, .int .i64 (0)), (6, .pointer (some ⟨b3, 0, none⟩)), (7, .bool true), (8, .pointer (some ⟨b4, 0, none⟩)), (21, .bool false), (31, .bool false)] ⟨by kernel_rfl, by kernel_rfl, by kernel_rfl, by kernel_rfl, by kernel_rfl, by kernel_rfl, by kernel_rfl, by kernel_rfl, by kernel_rfl, by kernel_rfl, trivial⟩ ?_
  refine at_then_normal ?_
  refine at_seq (x := C18 [1, 1, 1, 1, 1, 0]) (y := C18 [1, 1, 1, 1, 1, 1]) (by kernel_rfl) ?_
  refine at_seq (x := C18 [1, 1, 1, 1, 1, 0, 0]) (y := C18 [1, 1, 1, 1, 1, 0, 1]) (by kernel_rfl) ?_
  refine at_region (id := 7) 2 (by kernel_rfl) (by kernel_rfl) ?_
  refine s_pure 45 (.pointer (some ⟨b1, 0, none⟩)) (by kernel_rfl) (by kernel_rfl) (fun _ => by kernel_rfl) ?_
  refine s_load 46 (.int .i64 (4)) (by kernel_rfl) (by kernel_rfl) (load1 (off := 0) (fun _ => by kernel_rfl) (holds_own (.there (.there (.there (.there (.there .here)))))) (by kernel_rfl)) ?_
  refine ops_end ?_
  refine At.env [(0, .pointer (some ⟨b, 0, none⟩)), (1, .agg #[.int .i64 (4), .int .i64 pf, .int .i64 pt, .int .i64 pid, .int .i64 pl, .int .i64 pp, .int .i64 ps, .bool pfl, .slice pa pm pc]), (3, .pointer (some ⟨b1, 0, none⟩)), (4, .pointer (some ⟨b2, 0, none⟩)), (5, .int .i64 (0)), (6, .pointer (some ⟨b3, 0, none⟩)), (7, .bool true), (8, .pointer (some ⟨b4, 0, none⟩)), (21, .bool false), (31, .bool false), (46, .int .i64 (4))] ⟨by kernel_rfl, by kernel_rfl, by kernel_rfl, by kernel_rfl, by kernel_rfl, by kernel_rfl, by kernel_rfl, by kernel_rfl, by kernel_rfl, by kernel_rfl, by kernel_rfl, trivial⟩ ?_
  refine at_then_normal ?_
  refine at_block (i := 0) (x := C18 [1, 1, 1, 1, 1, 0, 1, 0]) (by kernel_rfl) ?_
  refine at_seq (x := C18 [1, 1, 1, 1, 1, 0, 1, 0, 0]) (y := C18 [1, 1, 1, 1, 1, 0, 1, 0, 1]) (by kernel_rfl) ?_
  refine at_region (id := 8) 2 (by kernel_rfl) (by kernel_rfl) ?_
  refine s_pure 48 (.bool false) (by kernel_rfl) (by kernel_rfl) (fun _ => by kernel_rfl) ?_
  refine s_pure 47 (.bool false) (by kernel_rfl) (by kernel_rfl) (fun _ => by kernel_rfl) ?_
  refine ops_end ?_
  refine At.env [(0, .pointer (some ⟨b, 0, none⟩)), (1, .agg #[.int .i64 (4), .int .i64 pf, .int .i64 pt, .int .i64 pid, .int .i64 pl, .int .i64 pp, .int .i64 ps, .bool pfl, .slice pa pm pc]), (3, .pointer (some ⟨b1, 0, none⟩)), (4, .pointer (some ⟨b2, 0, none⟩)), (5, .int .i64 (0)), (6, .pointer (some ⟨b3, 0, none⟩)), (7, .bool true), (8, .pointer (some ⟨b4, 0, none⟩)), (21, .bool false), (31, .bool false), (46, .int .i64 (4)), (47, .bool false)] ⟨by kernel_rfl, by kernel_rfl, by kernel_rfl, by kernel_rfl, by kernel_rfl, by kernel_rfl, by kernel_rfl, by kernel_rfl, by kernel_rfl, by kernel_rfl, by kernel_rfl, by kernel_rfl, trivial⟩ ?_
  refine at_then_normal ?_
  refine at_false (t := false) (x := C18 [1, 1, 1, 1, 1, 0, 1, 0, 1, 0]) (y := C18 [1, 1, 1, 1, 1, 0, 1, 0, 1, 1]) (o := .tmp 47) (by kernel_rfl) (by kernel_rfl) (by kernel_rfl) rfl ?_
  refine at_seq (x := C18 [1, 1, 1, 1, 1, 0, 1, 0, 1, 1, 0]) (y := C18 [1, 1, 1, 1, 1, 0, 1, 0, 1, 1, 1]) (by kernel_rfl) ?_
  refine at_region (id := 12) 2 (by kernel_rfl) (by kernel_rfl) ?_
  refine s_pure 61 (.bool true) (by kernel_rfl) (by kernel_rfl) (fun _ => by kernel_rfl) ?_
  refine s_pure 60 (.bool true) (by kernel_rfl) (by kernel_rfl) (fun _ => by kernel_rfl) ?_
  refine ops_end ?_
  refine At.env [(0, .pointer (some ⟨b, 0, none⟩)), (1, .agg #[.int .i64 (4), .int .i64 pf, .int .i64 pt, .int .i64 pid, .int .i64 pl, .int .i64 pp, .int .i64 ps, .bool pfl, .slice pa pm pc]), (3, .pointer (some ⟨b1, 0, none⟩)), (4, .pointer (some ⟨b2, 0, none⟩)), (5, .int .i64 (0)), (6, .pointer (some ⟨b3, 0, none⟩)), (7, .bool true), (8, .pointer (some ⟨b4, 0, none⟩)), (21, .bool false), (31, .bool false), (46, .int .i64 (4)), (47, .bool false), (60, .bool true)] ⟨by kernel_rfl, by kernel_rfl, by kernel_rfl, by kernel_rfl, by kernel_rfl, by kernel_rfl, by kernel_rfl, by kernel_rfl, by kernel_rfl, by kernel_rfl, by kernel_rfl, by kernel_rfl, by kernel_rfl, trivial⟩ ?_
  refine at_then_normal ?_
  refine at_true (t := true) (x := C18 [1, 1, 1, 1, 1, 0, 1, 0, 1, 1, 1, 0]) (y := C18 [1, 1, 1, 1, 1, 0, 1, 0, 1, 1, 1, 1]) (o := .tmp 60) (by kernel_rfl) (by kernel_rfl) (by kernel_rfl) rfl ?_
  refine at_region (id := 13) 4 (by kernel_rfl) (by kernel_rfl) ?_
  refine s_pure 62 (.pointer (some ⟨b3, 0, none⟩)) (by kernel_rfl) (by kernel_rfl) (fun _ => by kernel_rfl) ?_
  refine s_pure 63 (.pointer (some ⟨b1, 5, none⟩)) (by kernel_rfl) (by kernel_rfl) (fun _ => by kernel_rfl) ?_
  refine s_load 64 (.int .i64 pp) (by kernel_rfl) (by kernel_rfl) (load1 (off := 5) (fun _ => by kernel_rfl) (holds_own (.there (.there (.there (.there (.there .here)))))) (by kernel_rfl)) ?_
  refine At.conv (fun w hw => hw.less (.take (.there .here) (.take .here (.take .here (.take .here (.take .here (.take .here .refl))))))) ?_
  refine s_call 65 54 #[.pointer (some ⟨b3, 0, none⟩), .int .i64 pp] (by kernel_rfl) (by kernel_rfl) (fun _ => by kernel_rfl) (SetFwd_tr b3 31 e.fwd e.back e.line e.used e.dirty fa e.data.length fc pp) ?_
  rintro _ _ ⟨rfl, rfl⟩
  refine ops_end ?_
  refine At.env [(0, .pointer (some ⟨b, 0, none⟩)), (1, .agg #[.int .i64 (4), .int .i64 pf, .int .i64 pt, .int .i64 pid, .int .i64 pl, .int .i64 pp, .int .i64 ps, .bool pfl, .slice pa pm pc]), (3, .pointer (some ⟨b1, 0, none⟩)), (4, .pointer (some ⟨b2, 0, none⟩)), (5, .int .i64 (0)), (6, .pointer (some ⟨b3, 0, none⟩)), (7, .bool true), (8, .pointer (some ⟨b4, 0, none⟩)), (21, .bool false), (31, .bool false), (46, .int .i64 (4)), (47, .bool false), (60, .bool true)] ⟨by kernel_rfl, by kernel_rfl, by kernel_rfl, by kernel_rfl, by kernel_rfl, by kernel_rfl, by kernel_rfl, by kernel_rfl, by kernel_rfl, by kernel_rfl, by kernel_rfl, by kernel_rfl, by kernel_rfl, trivial⟩ ?_
  refine at_in_normal ?_
  refine at_then_normal ?_
  refine at_seq (x := C18 [1, 1, 1, 1, 1, 1, 0]) (y := C18 [1, 1, 1, 1, 1, 1, 1]) (by kernel_rfl) ?_
  refine at_region_draw (id := 20) (by kernel_rfl) (by kernel_rfl) ?_
  refine d_load 0 89 (.agg #[.int .i64 (8), .int .i64 pt, .int .i64 pf, .int .i64 pid, .int .i64 pl, .int .i64 (0), .int .i64 (0), .bool false, .slice none 0 0]) (by kernel_rfl) (by kernel_rfl) (by kernel_rfl) (loadN (off := 0) (vs := [.int .i64 (8), .int .i64 pt, .int .i64 pf, .int .i64 pid, .int .i64 pl, .int .i64 (0), .int .i64 (0), .bool false, .slice none 0 0]) 9 (fun _ => by kernel_rfl) (holds_own (.there .here)) rfl (by exact ⟨rfl, rfl, rfl, rfl, rfl, rfl, rfl, rfl, rfl, trivial⟩)) ?_
  refine d_pure 1 90 (.pointer (some ⟨b, 0, none⟩)) (by kernel_rfl) (by kernel_rfl) (by kernel_rfl) (fun _ => by kernel_rfl) ?_
  refine d_load 2 91 (.agg #[.int .i64 pp, .int .i64 e.back, .int .i64 e.line, .int .i64 e.used, .bool e.dirty, .slice fa e.data.length fc]) (by kernel_rfl) (by kernel_rfl) (by kernel_rfl) (loadN (off := 0) (vs := [.int .i64 pp, .int .i64 e.back, .int .i64 e.line, .int .i64 e.used, .bool e.dirty, .slice fa e.data.length fc]) 6 (fun _ => by kernel_rfl) (holds_own .here) rfl (by exact ⟨rfl, rfl, rfl, rfl, rfl, rfl, trivial⟩)) ?_
  refine Draw.conv (fun w hw => hw.less (.take (.there (.there (.there .here))) (.take .here (.take .here (.take .here (.take .here (.take .here .refl))))))) (fun w hw => hw.less (.take (.there .here) (.take (.there .here) (.take (.there .here) (.take .here (.take .here (.take .here .refl))))))) ?_
  refine d_call 3 92 [1, 2] [] [0] 15 #[.pointer (some ⟨b, 0, none⟩), .agg #[.int .i64 pp, .int .i64 e.back, .int .i64 e.line, .int .i64 e.used, .bool e.dirty, .slice fa e.data.length fc]] (by kernel_rfl) (by kernel_rfl) (by kernel_rfl) (fun _ => by kernel_rfl) (Put_set b c pp e.back e.line e.used e.dirty fa e.data.length fc e.data (rfl) (RowsA.reads (k := 1) (.there (.there .here))) (hdat _ (List.mem_of_getElem? he)) hlen hs (by omega) i e (by rw [hel]; exact hidx) he) ?_
  rintro _ _ ⟨rfl, rfl⟩
  refine ⟨(stable_cons 0 89 (.agg #[.int .i64 (8), .int .i64 pt, .int .i64 pf, .int .i64 pid, .int .i64 pl, .int .i64 (0), .int .i64 (0), .bool false, .slice none 0 0]) (by kernel_rfl) (by kernel_rfl) (by kernel_rfl) (loadN (off := 0) (vs := [.int .i64 (8), .int .i64 pt, .int .i64 pf, .int .i64 pid, .int .i64 pl, .int .i64 (0), .int .i64 (0), .bool false, .slice none 0 0]) 9 (fun _ => by kernel_rfl) (holds_own (.there (.there .here))) rfl (by exact ⟨rfl, rfl, rfl, rfl, rfl, rfl, rfl, rfl, rfl, trivial⟩)) stable_nil), ?_⟩
  refine d_do 4 [0, 3, 1, 2] [] [] (by kernel_rfl) (by kernel_rfl) (by kernel_rfl) (st_store (off := 0) (vs := [.int .i64 (8), .int .i64 pt, .int .i64 pf, .int .i64 pid, .int .i64 pl, .int .i64 (0), .int .i64 (0), .bool false, .slice none 0 0]) (c' := #[.int .i64 (8), .int .i64 pt, .int .i64 pf, .int .i64 pid, .int .i64 pl, .int .i64 (0), .int .i64 (0), .bool false, .slice none 0 0]) (fun _ => by kernel_rfl) (.there (.there (.there (.there .here)))) (by kernel_rfl) (by kernel_rfl) (by kernel_rfl)) ?_
  rintro _ _ ⟨rfl, rfl⟩
  refine ⟨stable_nil, ?_⟩
  refine d_pure 5 5 (.int .i64 (0)) (by kernel_rfl) (by kernel_rfl) (by kernel_rfl) (fun _ => by kernel_rfl) ?_
  refine draw_end (by kernel_rfl) ?_
  refine At.env [(0, .pointer (some ⟨b, 0, none⟩)), (1, .agg #[.int .i64 (4), .int .i64 pf, .int .i64 pt, .int .i64 pid, .int .i64 pl, .int .i64 pp, .int .i64 ps, .bool pfl, .slice pa pm pc]), (3, .pointer (some ⟨b1, 0, none⟩)), (4, .pointer (some ⟨b2, 0, none⟩)), (5, .int .i64 (0)), (6, .pointer (some ⟨b3, 0, none⟩)), (7, .bool true), (8, .pointer (some ⟨b4, 0, none⟩)), (21, .bool false), (31, .bool false), (46, .int .i64 (4)), (47, .bool false), (60, .bool true)] ⟨by kernel_rfl, by kernel_rfl, by kernel_rfl, by kernel_rfl, by kernel_rfl, by kernel_rfl, by kernel_rfl, by kernel_rfl, by kernel_rfl, by kernel_rfl, by kernel_rfl, by kernel_rfl, by kernel_rfl, trivial⟩ ?_
  refine at_then_normal ?_
  refine at_ret (by kernel_rfl) ?_
  refine at_backR [.agg #[.int .i64 (8), .int .i64 pt, .int .i64 pf, .int .i64 pid, .int .i64 pl, .int .i64 (0), .int .i64 (0), .bool false, .slice none 0 0], .int .i64 (0)] ((CacheA b ({ c with l := c.l.set i ⟨pp, e.back, e.line, e.used, e.dirty, e.data⟩ })) :: Γ) (rs := [.cell 4 35, .tmp 5]) (by kernel_rfl) (.cons (.cell (by kernel_rfl) (retN (off := 0) (vs := [.int .i64 (8), .int .i64 pt, .int .i64 pf, .int .i64 pid, .int .i64 pl, .int .i64 (0), .int .i64 (0), .bool false, .slice none 0 0]) 9 (fun _ => by kernel_rfl) (holds_own .here) rfl (by exact ⟨rfl, rfl, rfl, rfl, rfl, rfl, rfl, rfl, rfl, trivial⟩))) (.cons (.tmp (by kernel_rfl)) .nil)) (fun w hw => hw.less (.take (.there .here) (.drop .here (.drop .here (.drop .here (.drop .here (.drop .here .refl))))))) ?_
  exact ⟨rfl, rfl⟩
set_option maxRecDepth 100000 in
theorem Handle_back {W0 : World} {Γ : List Asn} (b : Nat) (c : CacheS) (pf pt pid pl pp ps : Int) (pfl : Bool) (pa : Option Addr) (pm pc : Nat) (ok1 : 0 ≤ pf ∧ pf < 6) (ok2 : 0 ≤ pt ∧ pt < 6) (ok3 : 0 ≤ pid ∧ pid < 4096) (ok5 : 0 ≤ pl ∧ pl < 8) (ok6 : -1 ≤ pp ∧ pp < 6) (ok7 : 0 ≤ ps ∧ ps < 3) (ok8 : pm ≤ 4) (hlen : c.l.length ≤ 1099511627776) (hs : 1 ≤ c.sets) (hdat : ∀ x ∈ c.l, x.data.length ≤ 1099511627776) (i : Nat) (e : Ent) (hidx : idx c.l pl = some i) (he : c.l[i]? = some e) (hel : e.line = pl) : Tr Try.prog 18 #[.pointer (some ⟨b, 0, none⟩), .agg #[.int .i64 (5), .int .i64 pf, .int .i64 pt, .int .i64 pid, .int .i64 pl, .int .i64 pp, .int .i64 ps, .bool pfl, .slice pa pm pc]] W0 ((CacheA b c) :: Γ) (fun r Δ => r = .tuple #[.agg #[.int .i64 (8), .int .i64 pt, .int .i64 pf, .int .i64 pid, .int .i64 pl, .int .i64 (0), .int .i64 (0), .bool false, .slice none 0 0], .int .i64 0] ∧ Δ = CacheA b ({ c with l := c.l.set i ⟨e.fwd, pp, e.line, e.used, e.dirty, e.data⟩ }) :: Γ) := by
  refine Tr.enter (fn := Try.f18) (c := C18 []) (args := [.pointer (some ⟨b, 0, none⟩), .agg #[.int .i64 (5), .int .i64 pf, .int .i64 pt, .int .i64 pid, .int .i64 pl, .int .i64 pp, .int .i64 ps, .bool pfl, .slice pa pm pc]]) 93 Try.func18 (by kernel_rfl) (by kernel_rfl) ?_
  refine At.env [(0, .pointer (some ⟨b, 0, none⟩)), (1, .agg #[.int .i64 (5), .int .i64 pf, .int .i64 pt, .int .i64 pid, .int .i64 pl, .int .i64 pp, .int .i64 ps, .bool pfl, .slice pa pm pc])] ⟨by kernel_rfl, by kernel_rfl, trivial⟩ ?_
  refine at_seq (x := C18 [0]) (y := C18 [1]) (by kernel_rfl) ?_
  refine at_region (id := 0) 3 (by kernel_rfl) (by kernel_rfl) ?_
  refine s_step 3 (by kernel_rfl) (by kernel_rfl) (st_new (T := 35) (cells := #[.int .i64 (5), .int .i64 pf, .int .i64 pt, .int .i64 pid, .int .i64 pl, .int .i64 pp, .int .i64 ps, .bool pfl, .slice pa pm pc]) (fun a => .pointer (some a)) (fun _ => by kernel_rfl)) ?_
  rintro _ _ ⟨b1, rfl, rfl⟩
  refine s_step 4 (by kernel_rfl) (by kernel_rfl) (st_new (T := 35) (cells := #[.int .i64 (0), .int .i64 (0), .int .i64 (0), .int .i64 (0), .int .i64 (0), .int .i64 (0), .int .i64 (0), .bool false, .slice none 0 0]) (fun a => .pointer (some a)) (fun _ => by kernel_rfl)) ?_
  rintro _ _ ⟨b2, rfl, rfl⟩
  refine s_pure 5 (.int .i64 (0)) (by kernel_rfl) (by kernel_rfl) (fun _ => by kernel_rfl) ?_
  refine ops_end ?_
  refine At.env [(0, .pointer (some ⟨b, 0, none⟩)), (1, .agg #[.int .i64 (5), .int .i64 pf, .int .i64 pt, .int .i64 pid, .int .i64 pl, .int .i64 pp, .int .i64 ps, .bool pfl, .slice pa pm pc]), (3, .pointer (some ⟨b1, 0, none⟩)), (4, .pointer (some ⟨b2, 0, none⟩)), (5, .int .i64 (0))] ⟨by kernel_rfl, by kernel_rfl, by kernel_rfl, by kernel_rfl, by kernel_rfl, trivial⟩ ?_
  refine at_then_normal ?_
  refine at_seq (x := C18 [1, 0]) (y := C18 [1, 1]) (by kernel_rfl) ?_
  refine at_seq (x := C18 [1, 0, 0]) (y := C18 [1, 0, 1]) (by kernel_rfl) ?_
  refine at_region (id := 1) 13 (by kernel_rfl) (by kernel_rfl) ?_
  refine s_load 9 (.agg #[.int .i64 (5), .int .i64 pf, .int .i64 pt, .int .i64 pid, .int .i64 pl, .int .i64 pp, .int .i64 ps, .bool pfl, .slice pa pm pc]) (by kernel_rfl) (by kernel_rfl) (loadN (off := 0) (vs := [.int .i64 (5), .int .i64 pf, .int .i64 pt, .int .i64 pid, .int .i64 pl, .int .i64 pp, .int .i64 ps, .bool pfl, .slice pa pm pc]) 9 (fun _ => by kernel_rfl) (holds_own (.there .here)) rfl (by exact ⟨rfl, rfl, rfl, rfl, rfl, rfl, rfl, rfl, rfl, trivial⟩)) ?_
  refine s_quiet 10 (.int .i64 (0)) 51 #[.agg #[.int .i64 (5), .int .i64 pf, .int .i64 pt, .int .i64 pid, .int .i64 pl, .int .i64 pp, .int .i64 ps, .bool pfl, .slice pa pm pc]] (by kernel_rfl) (by kernel_rfl) (fun _ => by kernel_rfl) (Check_ok (5) pf pt pid pl pp ps pfl pa pm pc (by omega) (by omega) (by omega) (by omega) (by omega) (by omega) (by omega) (by omega)) ?_
  refine s_pure 11 (.bool false) (by kernel_rfl) (by kernel_rfl) (fun _ => by kernel_rfl) ?_
  refine s_pure 12 (.bool false) (by kernel_rfl) (by kernel_rfl) (fun _ => by kernel_rfl) ?_
  refine s_pure 13 (.pointer (some ⟨b1, 0, none⟩)) (by kernel_rfl) (by kernel_rfl) (fun _ => by kernel_rfl) ?_
  refine s_load 14 (.int .i64 (5)) (by kernel_rfl) (by kernel_rfl) (load1 (off := 0) (fun _ => by kernel_rfl) (holds_own (.there .here)) (by kernel_rfl)) ?_
  refine s_pure 15 (.bool false) (by kernel_rfl) (by kernel_rfl) (fun _ => by kernel_rfl) ?_
  refine s_pure 16 (.bool false) (by kernel_rfl) (by kernel_rfl) (fun _ => by kernel_rfl) ?_
  refine s_pure 17 (.bool false) (by kernel_rfl) (by kernel_rfl) (fun _ => by kernel_rfl) ?_
  refine s_pure 18 (.pointer (some ⟨b1, 0, none⟩)) (by kernel_rfl) (by kernel_rfl) (fun _ => by kernel_rfl) ?_
  refine s_load 19 (.int .i64 (5)) (by kernel_rfl) (by kernel_rfl) (load1 (off := 0) (fun _ => by kernel_rfl) (holds_own (.there .here)) (by kernel_rfl)) ?_
  refine s_pure 20 (.bool false) (by kernel_rfl) (by kernel_rfl) (fun _ => by kernel_rfl) ?_
  refine s_pure 21 (.bool false) (by kernel_rfl) (by kernel_rfl) (fun _ => by kernel_rfl) ?_
  refine ops_end ?_
  refine At.env [(0, .pointer (some ⟨b, 0, none⟩)), (1, .agg #[.int .i64 (5), .int .i64 pf, .int .i64 pt, .int .i64 pid, .int .i64 pl, .int .i64 pp, .int .i64 ps, .bool pfl, .slice pa pm pc]), (3, .pointer (some ⟨b1, 0, none⟩)), (4, .pointer (some ⟨b2, 0, none⟩)), (5, .int .i64 (0)), (21, .bool false)] ⟨by kernel_rfl, by kernel_rfl, by kernel_rfl, by kernel_rfl, by kernel_rfl, by kernel_rfl, trivial⟩ ?_
  refine at_then_normal ?_
  refine at_false (t := false) (x := C18 [1, 0, 1, 0]) (y := C18 [1, 0, 1, 1]) (o := .tmp 21) (by kernel_rfl) (by kernel_rfl) (by kernel_rfl) rfl ?_
  refine at_skip (by kernel_rfl) ?_
  refine at_then_normal ?_
  refine at_seq (x := C18 [1, 1, 0]) (y := C18 [1, 1, 1]) (by kernel_rfl) ?_
  refine at_region (id := 3) 10 (by kernel_rfl) (by kernel_rfl) ?_
  refine s_pure 24 (.pointer (some ⟨b, 0, none⟩)) (by kernel_rfl) (by kernel_rfl) (fun _ => by kernel_rfl) ?_
  refine s_pure 25 (.pointer (some ⟨b1, 4, none⟩)) (by kernel_rfl) (by kernel_rfl) (fun _ => by kernel_rfl) ?_
  refine s_load 26 (.int .i64 pl) (by kernel_rfl) (by kernel_rfl) (load1 (off := 4) (fun _ => by kernel_rfl) (holds_own (.there .here)) (by kernel_rfl)) ?_
  refine At.conv (fun w hw => hw.less (.take (.there (.there .here)) (.take .here (.take .here .refl)))) ?_
  refine s_call 27 20 #[.pointer (some ⟨b, 0, none⟩), .int .i64 pl] (by kernel_rfl) (by kernel_rfl) (fun _ => by kernel_rfl) (Find_some b c pl hlen hdat i e hidx he) ?_
  rintro _ _ ⟨fa, fc, rfl, rfl⟩
  refine s_pure 23 (.tuple #[.agg #[.int .i64 e.fwd, .int .i64 e.back, .int .i64 e.line, .int .i64 e.used, .bool e.dirty, .slice fa e.data.length fc], .bool true]) (by kernel_rfl) (by kernel_rfl) (fun _ => by kernel_rfl) ?_
  refine s_pure 28 (.agg #[.int .i64 e.fwd, .int .i64 e.back, .int .i64 e.line, .int .i64 e.used, .bool e.dirty, .slice fa e.data.length fc]) (by kernel_rfl) (by kernel_rfl) (fun _ => by kernel_rfl) ?_
  refine s_pure 29 (.bool true) (by kernel_rfl) (by kernel_rfl) (fun _ => by kernel_rfl) ?_
  refine s_step 6 (by kernel_rfl) (by kernel_rfl) (st_new (T := 31) (cells := #[.int .i64 (0), .int .i64 (0), .int .i64 (0), .int .i64 (0), .bool false, .slice none 0 0]) (fun a => .pointer (some a)) (fun _ => by kernel_rfl)) ?_
  rintro _ _ ⟨b3, rfl, rfl⟩
  refine s_do (by kernel_rfl) (by kernel_rfl) (st_store (off := 0) (vs := [.int .i64 e.fwd, .int .i64 e.back, .int .i64 e.line, .int .i64 e.used, .bool e.dirty, .slice fa e.data.length fc]) (c' := #[.int .i64 e.fwd, .int .i64 e.back, .int .i64 e.line, .int .i64 e.used, .bool e.dirty, .slice fa e.data.length fc]) (fun _ => by kernel_rfl) .here (by kernel_rfl) (by kernel_rfl) (by kernel_rfl)) ?_
  rintro _ _ ⟨rfl, rfl⟩
  refine s_pure 7 (.bool true) (by kernel_rfl) (by kernel_rfl) (fun _ => by kernel_rfl) ?_
  refine ops_end ?_
  refine At.env [(0, .pointer (some ⟨b, 0, none⟩)), (1, .agg #[.int .i64 (5), .int .i64 pf, .int .i64 pt, .int .i64 pid, .int .i64 pl, .int .i64 pp, .int .i64 ps, .bool pfl, .slice pa pm pc]), (3, .pointer (some ⟨b1, 0, none⟩)), (4, .pointer (some ⟨b2, 0, none⟩)), (5, .int .i64 (0)), (6, .pointer (some ⟨b3, 0, none⟩)), (7, .bool true), (21, .bool false)] ⟨by kernel_rfl, by kernel_rfl, by kernel_rfl, by kernel_rfl, by kernel_rfl, by kernel_rfl, by kernel_rfl, by kernel_rfl, trivial⟩ ?_
  refine at_then_normal ?_
  refine at_seq (x := C18 [1, 1, 1, 0]) (y := C18 [1, 1, 1, 1]) (by kernel_rfl) ?_
  refine at_seq (x := C18 [1, 1, 1, 0, 0]) (y := C18 [1, 1, 1, 0, 1]) (by kernel_rfl) ?_
  refine at_region (id := 4) 2 (by kernel_rfl) (by kernel_rfl) ?_
  refine s_pure 30 (.bool true) (by kernel_rfl) (by kernel_rfl) (fun _ => by kernel_rfl) ?_
  refine s_pure 31 (.bool false) (by kernel_rfl) (by kernel_rfl) (fun _ => by kernel_rfl) ?_
  refine ops_end ?_
  refine At.env [(0, .pointer (some ⟨b, 0, none⟩)), (1, .agg #[.int .i64 (5), .int .i64 pf, .int .i64 pt, .int .i64 pid, .int .i64 pl, .int .i64 pp, .int .i64 ps, .bool pfl, .slice pa pm pc]), (3, .pointer (some ⟨b1, 0, none⟩)), (4, .pointer (some ⟨b2, 0, none⟩)), (5, .int .i64 (0)), (6, .pointer (some ⟨b3, 0, none⟩)), (7, .bool true), (21, .bool false), (31, .bool false)] ⟨by kernel_rfl, by kernel_rfl, by kernel_rfl, by kernel_rfl, by kernel_rfl, by kernel_rfl, by kernel_rfl, by kernel_rfl, by kernel_rfl, trivial⟩ ?_
  refine at_then_normal ?_
  refine at_false (t := false) (x := C18 [1, 1, 1, 0, 1, 0]) (y := C18 [1, 1, 1, 0, 1, 1]) (o := .tmp 31) (by kernel_rfl) (by kernel_rfl) (by kernel_rfl) rfl ?_
  refine at_skip (by kernel_rfl) ?_
  refine at_then_normal ?_
  refine at_seq (x := C18 [1, 1, 1, 1, 0]) (y := C18 [1, 1, 1, 1, 1]) (by kernel_rfl) ?_
  refine at_region_draw (id := 6) (by kernel_rfl) (by kernel_rfl) ?_
  refine d_pure 0 33 (.pointer (some ⟨b1, 0, none⟩)) (by kernel_rfl) (by kernel_rfl) (by kernel_rfl) (fun _ => by kernel_rfl) ?_
  refine d_load 1 34 (.int .i64 (5)) (by kernel_rfl) (by kernel_rfl) (by kernel_rfl) (load1 (off := 0) (fun _ => by kernel_rfl) (holds_own (.there (.there (.there (.there .here))))) (by kernel_rfl)) ?_
  refine d_quiet 2 35 (.int .i64 (8)) 52 #[.int .i64 (5)] (by kernel_rfl) (by kernel_rfl) (by kernel_rfl) (fun _ => by kernel_rfl) (fun _ => (Tr.as (Answer_tr (5)) (show Value.int .i64 (answerI (5)) = .int .i64 (8) from by rfl))) ?_
  refine d_pure 3 36 (.pointer (some ⟨b1, 2, none⟩)) (by kernel_rfl) (by kernel_rfl) (by kernel_rfl) (fun _ => by kernel_rfl) ?_
  refine d_load 4 37 (.int .i64 pt) (by kernel_rfl) (by kernel_rfl) (by kernel_rfl) (load1 (off := 2) (fun _ => by kernel_rfl) (holds_own (.there (.there (.there (.there .here))))) (by kernel_rfl)) ?_
  refine d_pure 5 38 (.pointer (some ⟨b1, 1, none⟩)) (by kernel_rfl) (by kernel_rfl) (by kernel_rfl) (fun _ => by kernel_rfl) ?_
  refine d_load 6 39 (.int .i64 pf) (by kernel_rfl) (by kernel_rfl) (by kernel_rfl) (load1 (off := 1) (fun _ => by kernel_rfl) (holds_own (.there (.there (.there (.there .here))))) (by kernel_rfl)) ?_
  refine d_pure 7 40 (.pointer (some ⟨b1, 3, none⟩)) (by kernel_rfl) (by kernel_rfl) (by kernel_rfl) (fun _ => by kernel_rfl) ?_
  refine d_load 8 41 (.int .i64 pid) (by kernel_rfl) (by kernel_rfl) (by kernel_rfl) (load1 (off := 3) (fun _ => by kernel_rfl) (holds_own (.there (.there (.there (.there .here))))) (by kernel_rfl)) ?_
  refine d_pure 9 42 (.pointer (some ⟨b1, 4, none⟩)) (by kernel_rfl) (by kernel_rfl) (by kernel_rfl) (fun _ => by kernel_rfl) ?_
  refine d_load 10 43 (.int .i64 pl) (by kernel_rfl) (by kernel_rfl) (by kernel_rfl) (load1 (off := 4) (fun _ => by kernel_rfl) (holds_own (.there (.there (.there (.there .here))))) (by kernel_rfl)) ?_
  refine d_pure 11 44 (.agg #[.int .i64 (8), .int .i64 pt, .int .i64 pf, .int .i64 pid, .int .i64 pl, .int .i64 (0), .int .i64 (0), .bool false, .slice none 0 0]) (by kernel_rfl) (by kernel_rfl) (by kernel_rfl) (fun _ => by kernel_rfl) ?_
  refine d_step 12 8 [] [11, 9, 7, 5, 3, 2, 0] [10, 8, 6, 4, 1] (by kernel_rfl) (by kernel_rfl) (by kernel_rfl) (st_new (T := 35) (cells := #[.int .i64 (0), .int .i64 (0), .int .i64 (0), .int .i64 (0), .int .i64 (0), .int .i64 (0), .int .i64 (0), .bool false, .slice none 0 0]) (fun a => .pointer (some a)) (fun _ => by kernel_rfl)) ?_
  rintro _ _ ⟨b4, rfl, rfl⟩
  refine ⟨(stable_cons 10 43 (.int .i64 pl) (by kernel_rfl) (by kernel_rfl) (by kernel_rfl) (load1 (off := 4) (fun _ => by kernel_rfl) (holds_own (.there (.there (.there (.there (.there .here)))))) (by kernel_rfl)) (stable_cons 8 41 (.int .i64 pid) (by kernel_rfl) (by kernel_rfl) (by kernel_rfl) (load1 (off := 3) (fun _ => by kernel_rfl) (holds_own (.there (.there (.there (.there (.there .here)))))) (by kernel_rfl)) (stable_cons 6 39 (.int .i64 pf) (by kernel_rfl) (by kernel_rfl) (by kernel_rfl) (load1 (off := 1) (fun _ => by kernel_rfl) (holds_own (.there (.there (.there (.there (.there .here)))))) (by kernel_rfl)) (stable_cons 4 37 (.int .i64 pt) (by kernel_rfl) (by kernel_rfl) (by kernel_rfl) (load1 (off := 2) (fun _ => by kernel_rfl) (holds_own (.there (.there (.there (.there (.there .here)))))) (by kernel_rfl)) (stable_cons 1 34 (.int .i64 (5)) (by kernel_rfl) (by kernel_rfl) (by kernel_rfl) (load1 (off := 0) (fun _ => by kernel_rfl) (holds_own (.there (.there (.there (.there (.there .here)))))) (by kernel_rfl)) stable_nil))))), ?_⟩
  refine d_do 13 [12, 11, 2, 0, 1, 3, 4, 5, 6, 7, 8, 9, 10] [] [] (by kernel_rfl) (by kernel_rfl) (by kernel_rfl) (st_store (off := 0) (vs := [.int .i64 (8), .int .i64 pt, .int .i64 pf, .int .i64 pid, .int .i64 pl, .int .i64 (0), .int .i64 (0), .bool false, .slice none 0 0]) (c' := #[.int .i64 (8), .int .i64 pt, .int .i64 pf, .int .i64 pid, .int .i64 pl, .int .i64 (0), .int .i64 (0), .bool false, .slice none 0 0]) (fun _ => by kernel_rfl) .here (by kernel_rfl) (by kernel_rfl) (by kernel_rfl)) ?_
  rintro _ _ ⟨rfl, rfl⟩
  refine ⟨stable_nil, ?_⟩
  refine draw_end (by kernel_rfl) ?_
  refine At.env [(0, .pointer (some ⟨b, 0, none⟩)), (1, .agg #[.int .i64 (5), .int .i64 pf, .int .i64 pt, .int .i64 pid, .int .i64 pl, .int .i64 pp, .int .i64 ps, .bool pfl, .slice pa pm pc]), (3, .pointer (some ⟨b1, 0, none⟩)), (4, .pointer (some ⟨b2, 0, none⟩)), (5, .int .i64 (0)), (6, .pointer (some ⟨b3, 0, none⟩)), (7, .bool true), (8, .pointer (some ⟨b4, 0, none⟩)), (21, .bool false), (31, .bool false)] ⟨by kernel_rfl, by kernel_rfl, by kernel_rfl, by kernel_rfl, by kernel_rfl, by kernel_rfl, by kernel_rfl, by kernel_rfl, by kernel_rfl, by kernel_rfl, trivial⟩ ?_
  refine at_then_normal ?_
  refine at_seq (x := C18 [1, 1, 1, 1, 1, 0]) (y := C18 [1, 1, 1, 1, 1, 1]) (by kernel_rfl) ?_
  refine at_seq (x := C18 [1, 1, 1, 1, 1, 0, 0]) (y := C18 [1, 1, 1, 1, 1, 0, 1]) (by kernel_rfl) ?_
  refine at_region (id := 7) 2 (by kernel_rfl) (by kernel_rfl) ?_
  refine s_pure 45 (.pointer (some ⟨b1, 0, none⟩)) (by kernel_rfl) (by kernel_rfl) (fun _ => by kernel_rfl) ?_
  refine s_load 46 (.int .i64 (5)) (by kernel_rfl) (by kernel_rfl) (load1 (off := 0) (fun _ => by kernel_rfl) (holds_own (.there (.there (.there (.there (.there .here)))))) (by kernel_rfl)) ?_
  refine ops_end ?_
  refine At.env [(0, .pointer (some ⟨b, 0, none⟩)), (1, .agg #[.int .i64 (5), .int .i64 pf, .int .i64 pt, .int .i64 pid, .int .i64 pl, .int .i64 pp, .int .i64 ps, .bool pfl, .slice pa pm pc]), (3, .pointer (some ⟨b1, 0, none⟩)), (4, .pointer (some ⟨b2, 0, none⟩)), (5, .int .i64 (0)), (6, .pointer (some ⟨b3, 0, none⟩)), (7, .bool true), (8, .pointer (some ⟨b4, 0, none⟩)), (21, .bool false), (31, .bool false), (46, .int .i64 (5))] ⟨by kernel_rfl, by kernel_rfl, by kernel_rfl, by kernel_rfl, by kernel_rfl, by kernel_rfl, by kernel_rfl, by kernel_rfl, by kernel_rfl, by kernel_rfl, by kernel_rfl, trivial⟩ ?_
  refine at_then_normal ?_
  refine at_block (i := 0) (x := C18 [1, 1, 1, 1, 1, 0, 1, 0]) (by kernel_rfl) ?_
  refine at_seq (x := C18 [1, 1, 1, 1, 1, 0, 1, 0, 0]) (y := C18 [1, 1, 1, 1, 1, 0, 1, 0, 1]) (by kernel_rfl) ?_
  refine at_region (id := 8) 2 (by kernel_rfl) (by kernel_rfl) ?_
  refine s_pure 48 (.bool false) (by kernel_rfl) (by kernel_rfl) (fun _ => by kernel_rfl) ?_
  refine s_pure 47 (.bool false) (by kernel_rfl) (by kernel_rfl) (fun _ => by kernel_rfl) ?_
  refine ops_end ?_
  refine At.env [(0, .pointer (some ⟨b, 0, none⟩)), (1, .agg #[.int .i64 (5), .int .i64 pf, .int .i64 pt, .int .i64 pid, .int .i64 pl, .int .i64 pp, .int .i64 ps, .bool pfl, .slice pa pm pc]), (3, .pointer (some ⟨b1, 0, none⟩)), (4, .pointer (some ⟨b2, 0, none⟩)), (5, .int .i64 (0)), (6, .pointer (some ⟨b3, 0, none⟩)), (7, .bool true), (8, .pointer (some ⟨b4, 0, none⟩)), (21, .bool false), (31, .bool false), (46, .int .i64 (5)), (47, .bool false)] ⟨by kernel_rfl, by kernel_rfl, by kernel_rfl, by kernel_rfl, by kernel_rfl, by kernel_rfl, by kernel_rfl, by kernel_rfl, by kernel_rfl, by kernel_rfl, by kernel_rfl, by kernel_rfl, trivial⟩ ?_
  refine at_then_normal ?_
  refine at_false (t := false) (x := C18 [1, 1, 1, 1, 1, 0, 1, 0, 1, 0]) (y := C18 [1, 1, 1, 1, 1, 0, 1, 0, 1, 1]) (o := .tmp 47) (by kernel_rfl) (by kernel_rfl) (by kernel_rfl) rfl ?_
  refine at_seq (x := C18 [1, 1, 1, 1, 1, 0, 1, 0, 1, 1, 0]) (y := C18 [1, 1, 1, 1, 1, 0, 1, 0, 1, 1, 1]) (by kernel_rfl) ?_
  refine at_region (id := 12) 2 (by kernel_rfl) (by kernel_rfl) ?_
  refine s_pure 61 (.bool false) (by kernel_rfl) (by kernel_rfl) (fun _ => by kernel_rfl) ?_
  refine s_pure 60 (.bool false) (by kernel_rfl) (by kernel_rfl) (fun _ => by kernel_rfl) ?_
  refine ops_end ?_
  refine At.env [(0, .pointer (some ⟨b, 0, none⟩)), (1, .agg #[.int .i64 (5), .int .i64 pf, .int .i64 pt, .int .i64 pid, .int .i64 pl, .int .i64 pp, .int .i64 ps, .bool pfl, .slice pa pm pc]), (3, .pointer (some ⟨b1, 0, none⟩)), (4, .pointer (some ⟨b2, 0, none⟩)), (5, .int .i64 (0)), (6, .pointer (some ⟨b3, 0, none⟩)), (7, .bool true), (8, .pointer (some ⟨b4, 0, none⟩)), (21, .bool false), (31, .bool false), (46, .int .i64 (5)), (47, .bool false), (60, .bool false)] ⟨by kernel_rfl, by kernel_rfl, by kernel_rfl, by kernel_rfl, by kernel_rfl, by kernel_rfl, by kernel_rfl, by kernel_rfl, by kernel_rfl, by kernel_rfl, by kernel_rfl, by kernel_rfl, by kernel_rfl, trivial⟩ ?_
  refine at_then_normal ?_
  refine at_false (t := false) (x := C18 [1, 1, 1, 1, 1, 0, 1, 0, 1, 1, 1, 0]) (y := C18 [1, 1, 1, 1, 1, 0, 1, 0, 1, 1, 1, 1]) (o := .tmp 60) (by kernel_rfl) (by kernel_rfl) (by kernel_rfl) rfl ?_
  refine at_seq (x := C18 [1, 1, 1, 1, 1, 0, 1, 0, 1, 1, 1, 1, 0]) (y := C18 [1, 1, 1, 1, 1, 0, 1, 0, 1, 1, 1, 1, 1]) (by kernel_rfl) ?_
  refine at_region (id := 14) 2 (by kernel_rfl) (by kernel_rfl) ?_
  refine s_pure 67 (.bool true) (by kernel_rfl) (by kernel_rfl) (fun _ => by kernel_rfl) ?_
  refine s_pure 66 (.bool true) (by kernel_rfl) (by kernel_rfl) (fun _ => by kernel_rfl) ?_
  refine ops_end ?_
  refine At.env [(0, .pointer (some ⟨b, 0, none⟩)), (1, .agg #[.int .i64 (5), .int .i64 pf, .int .i64 pt, .int .i64 pid, .int .i64 pl, .int .i64 pp, .int .i64 ps, .bool pfl, .slice pa pm pc]), (3, .pointer (some ⟨b1, 0, none⟩)), (4, .pointer (some ⟨b2, 0, none⟩)), (5, .int .i64 (0)), (6, .pointer (some ⟨b3, 0, none⟩)), (7, .bool true), (8, .pointer (some ⟨b4, 0, none⟩)), (21, .bool false), (31, .bool false), (46, .int .i64 (5)), (47, .bool false), (60, .bool false), (66, .bool true)] ⟨by kernel_rfl, by kernel_rfl, by kernel_rfl, by kernel_rfl, by kernel_rfl, by kernel_rfl, by kernel_rfl, by kernel_rfl, by kernel_rfl, by kernel_rfl, by kernel_rfl, by kernel_rfl, by kernel_rfl, by kernel_rfl, trivial⟩ ?_
  refine at_then_normal ?_
  refine at_true (t := true) (x := C18 [1, 1, 1, 1, 1, 0, 1, 0, 1, 1, 1, 1, 1, 0]) (y := C18 [1, 1, 1, 1, 1, 0, 1, 0, 1, 1, 1, 1, 1, 1]) (o := .tmp 66) (by kernel_rfl) (by kernel_rfl) (by kernel_rfl) rfl ?_
  refine at_region (id := 15) 4 (by kernel_rfl) (by kernel_rfl) ?_
  refine s_pure 68 (.pointer (some ⟨b3, 0, none⟩)) (by kernel_rfl) (by kernel_rfl) (fun _ => by kernel_rfl) ?_
  refine s_pure 69 (.pointer (some ⟨b1, 5, none⟩)) (by kernel_rfl) (by kernel_rfl) (fun _ => by kernel_rfl) ?_
  refine s_load 70 (.int .i64 pp) (by kernel_rfl) (by kernel_rfl) (load1 (off := 5) (fun _ => by kernel_rfl) (holds_own (.there (.there (.there (.there (.there .here)))))) (by kernel_rfl)) ?_
  refine At.conv (fun w hw => hw.less (.take (.there .here) (.take .here (.take .here (.take .here (.take .here (.take .here .refl))))))) ?_
  refine s_call 71 53 #[.pointer (some ⟨b3, 0, none⟩), .int .i64 pp] (by kernel_rfl) (by kernel_rfl) (fun _ => by kernel_rfl) (SetBack_tr b3 31 e.fwd e.back e.line e.used e.dirty fa e.data.length fc pp) ?_
  rintro _ _ ⟨rfl, rfl⟩
  refine ops_end ?_
  refine At.env [(0, .pointer (some ⟨b, 0, none⟩)), (1, .agg #[.int .i64 (5), .int .i64 pf, .int .i64 pt, .int .i64 pid, .int .i64 pl, .int .i64 pp, .int .i64 ps, .bool pfl, .slice pa pm pc]), (3, .pointer (some ⟨b1, 0, none⟩)), (4, .pointer (some ⟨b2, 0, none⟩)), (5, .int .i64 (0)), (6, .pointer (some ⟨b3, 0, none⟩)), (7, .bool true), (8, .pointer (some ⟨b4, 0, none⟩)), (21, .bool false), (31, .bool false), (46, .int .i64 (5)), (47, .bool false), (60, .bool false), (66, .bool true)] ⟨by kernel_rfl, by kernel_rfl, by kernel_rfl, by kernel_rfl, by kernel_rfl, by kernel_rfl, by kernel_rfl, by kernel_rfl, by kernel_rfl, by kernel_rfl, by kernel_rfl, by kernel_rfl, by kernel_rfl, by kernel_rfl, trivial⟩ ?_
  refine at_in_normal ?_
  refine at_then_normal ?_
  refine at_seq (x := C18 [1, 1, 1, 1, 1, 1, 0]) (y := C18 [1, 1, 1, 1, 1, 1, 1]) (by kernel_rfl) ?_
  refine at_region_draw (id := 20) (by kernel_rfl) (by kernel_rfl) ?_
  refine d_load 0 89 (.agg #[.int .i64 (8), .int .i64 pt, .int .i64 pf, .int .i64 pid, .int .i64 pl, .int .i64 (0), .int .i64 (0), .bool false, .slice none 0 0]) (by kernel_rfl) (by kernel_rfl) (by kernel_rfl) (loadN (off := 0) (vs := [.int .i64 (8), .int .i64 pt, .int .i64 pf, .int .i64 pid, .int .i64 pl, .int .i64 (0), .int .i64 (0), .bool false, .slice none 0 0]) 9 (fun _ => by kernel_rfl) (holds_own (.there .here)) rfl (by exact ⟨rfl, rfl, rfl, rfl, rfl, rfl, rfl, rfl, rfl, trivial⟩)) ?_
  refine d_pure 1 90 (.pointer (some ⟨b, 0, none⟩)) (by kernel_rfl) (by kernel_rfl) (by kernel_rfl) (fun _ => by kernel_rfl) ?_
  refine d_load 2 91 (.agg #[.int .i64 e.fwd, .int .i64 pp, .int .i64 e.line, .int .i64 e.used, .bool e.dirty, .slice fa e.data.length fc]) (by kernel_rfl) (by kernel_rfl) (by kernel_rfl) (loadN (off := 0) (vs := [.int .i64 e.fwd, .int .i64 pp, .int .i64 e.line, .int .i64 e.used, .bool e.dirty, .slice fa e.data.length fc]) 6 (fun _ => by kernel_rfl) (holds_own .here) rfl (by exact ⟨rfl, rfl, rfl, rfl, rfl, rfl, trivial⟩)) ?_
  refine Draw.conv (fun w hw => hw.less (.take (.there (.there (.there .here))) (.take .here (.take .here (.take .here (.take .here (.take .here .refl))))))) (fun w hw => hw.less (.take (.there .here) (.take (.there .here) (.take (.there .here) (.take .here (.take .here (.take .here .refl))))))) ?_
  refine d_call 3 92 [1, 2] [] [0] 15 #[.pointer (some ⟨b, 0, none⟩), .agg #[.int .i64 e.fwd, .int .i64 pp, .int .i64 e.line, .int .i64 e.used, .bool e.dirty, .slice fa e.data.length fc]] (by kernel_rfl) (by kernel_rfl) (by kernel_rfl) (fun _ => by kernel_rfl) (Put_set b c e.fwd pp e.line e.used e.dirty fa e.data.length fc e.data (rfl) (RowsA.reads (k := 1) (.there (.there .here))) (hdat _ (List.mem_of_getElem? he)) hlen hs (by omega) i e (by rw [hel]; exact hidx) he) ?_
  rintro _ _ ⟨rfl, rfl⟩
  refine ⟨(stable_cons 0 89 (.agg #[.int .i64 (8), .int .i64 pt, .int .i64 pf, .int .i64 pid, .int .i64 pl, .int .i64 (0), .int .i64 (0), .bool false, .slice none 0 0]) (by kernel_rfl) (by kernel_rfl) (by kernel_rfl) (loadN (off := 0) (vs := [.int .i64 (8), .int .i64 pt, .int .i64 pf, .int .i64 pid, .int .i64 pl, .int .i64 (0), .int .i64 (0), .bool false, .slice none 0 0]) 9 (fun _ => by kernel_rfl) (holds_own (.there (.there .here))) rfl (by exact ⟨rfl, rfl, rfl, rfl, rfl, rfl, rfl, rfl, rfl, trivial⟩)) stable_nil), ?_⟩
  refine d_do 4 [0, 3, 1, 2] [] [] (by kernel_rfl) (by kernel_rfl) (by kernel_rfl) (st_store (off := 0) (vs := [.int .i64 (8), .int .i64 pt, .int .i64 pf, .int .i64 pid, .int .i64 pl, .int .i64 (0), .int .i64 (0), .bool false, .slice none 0 0]) (c' := #[.int .i64 (8), .int .i64 pt, .int .i64 pf, .int .i64 pid, .int .i64 pl, .int .i64 (0), .int .i64 (0), .bool false, .slice none 0 0]) (fun _ => by kernel_rfl) (.there (.there (.there (.there .here)))) (by kernel_rfl) (by kernel_rfl) (by kernel_rfl)) ?_
  rintro _ _ ⟨rfl, rfl⟩
  refine ⟨stable_nil, ?_⟩
  refine d_pure 5 5 (.int .i64 (0)) (by kernel_rfl) (by kernel_rfl) (by kernel_rfl) (fun _ => by kernel_rfl) ?_
  refine draw_end (by kernel_rfl) ?_
  refine At.env [(0, .pointer (some ⟨b, 0, none⟩)), (1, .agg #[.int .i64 (5), .int .i64 pf, .int .i64 pt, .int .i64 pid, .int .i64 pl, .int .i64 pp, .int .i64 ps, .bool pfl, .slice pa pm pc]), (3, .pointer (some ⟨b1, 0, none⟩)), (4, .pointer (some ⟨b2, 0, none⟩)), (5, .int .i64 (0)), (6, .pointer (some ⟨b3, 0, none⟩)), (7, .bool true), (8, .pointer (some ⟨b4, 0, none⟩)), (21, .bool false), (31, .bool false), (46, .int .i64 (5)), (47, .bool false), (60, .bool false), (66, .bool true)] ⟨by kernel_rfl, by kernel_rfl, by kernel_rfl, by kernel_rfl, by kernel_rfl, by kernel_rfl, by kernel_rfl, by kernel_rfl, by kernel_rfl, by kernel_rfl, by kernel_rfl, by kernel_rfl, by kernel_rfl, by kernel_rfl, trivial⟩ ?_
  refine at_then_normal ?_
  refine at_ret (by kernel_rfl) ?_
  refine at_backR [.agg #[.int .i64 (8), .int .i64 pt, .int .i64 pf, .int .i64 pid, .int .i64 pl, .int .i64 (0), .int .i64 (0), .bool false, .slice none 0 0], .int .i64 (0)] ((CacheA b ({ c with l := c.l.set i ⟨e.fwd, pp, e.line, e.used, e.dirty, e.data⟩ })) :: Γ) (rs := [.cell 4 35, .tmp 5]) (by kernel_rfl) (.cons (.cell (by kernel_rfl) (retN (off := 0) (vs := [.int .i64 (8), .int .i64 pt, .int .i64 pf, .int .i64 pid, .int .i64 pl, .int .i64 (0), .int .i64 (0), .bool false, .slice none 0 0]) 9 (fun _ => by kernel_rfl) (holds_own .here) rfl (by exact ⟨rfl, rfl, rfl, rfl, rfl, rfl, rfl, rfl, rfl, trivial⟩))) (.cons (.tmp (by kernel_rfl)) .nil)) (fun w hw => hw.less (.take (.there .here) (.drop .here (.drop .here (.drop .here (.drop .here (.drop .here .refl))))))) ?_
  exact ⟨rfl, rfl⟩
set_option maxRecDepth 100000 in
theorem Handle_purge {W0 : World} {Γ : List Asn} (b : Nat) (c : CacheS) (pf pt pid pl pp ps : Int) (pfl : Bool) (pa : Option Addr) (pm pc : Nat) (ok1 : 0 ≤ pf ∧ pf < 6) (ok2 : 0 ≤ pt ∧ pt < 6) (ok3 : 0 ≤ pid ∧ pid < 4096) (ok5 : 0 ≤ pl ∧ pl < 8) (ok6 : -1 ≤ pp ∧ pp < 6) (ok7 : 0 ≤ ps ∧ ps < 3) (ok8 : pm ≤ 4) (hlen : c.l.length ≤ 1099511627776) (hs : 1 ≤ c.sets) (hdat : ∀ x ∈ c.l, x.data.length ≤ 1099511627776) (i : Nat) (e : Ent) (hidx : idx c.l pl = some i) (he : c.l[i]? = some e) (hel : e.line = pl) : Tr Try.prog 18 #[.pointer (some ⟨b, 0, none⟩), .agg #[.int .i64 (6), .int .i64 pf, .int .i64 pt, .int .i64 pid, .int .i64 pl, .int .i64 pp, .int .i64 ps, .bool pfl, .slice pa pm pc]] W0 ((CacheA b c) :: Γ) (fun r Δ => ∃ a' cap', r = .tuple #[.agg #[.int .i64 (9), .int .i64 pt, .int .i64 pf, .int .i64 pid, .int .i64 pl, .int .i64 (e.fwd), .int .i64 (0), .bool e.dirty, .slice a' e.data.length cap'], .int .i64 0] ∧ Δ = IntsA a' cap' e.data :: CacheA b ({ c with l := c.l.eraseIdx i }) :: Γ) := by
  refine Tr.enter (fn := Try.f18) (c := C18 []) (args := [.pointer (some ⟨b, 0, none⟩), .agg #[.int .i64 (6), .int .i64 pf, .int .i64 pt, .int .i64 pid, .int .i64 pl, .int .i64 pp, .int .i64 ps, .bool pfl, .slice pa pm pc]]) 93 Try.func18 (by kernel_rfl) (by kernel_rfl) ?_
  refine At.env [(0, .pointer (some ⟨b, 0, none⟩)), (1, .agg #[.int .i64 (6), .int .i64 pf, .int .i64 pt, .int .i64 pid, .int .i64 pl, .int .i64 pp, .int .i64 ps, .bool pfl, .slice pa pm pc])] ⟨by kernel_rfl, by kernel_rfl, trivial⟩ ?_
  refine at_seq (x := C18 [0]) (y := C18 [1]) (by kernel_rfl) ?_
  refine at_region (id := 0) 3 (by kernel_rfl) (by kernel_rfl) ?_
  refine s_step 3 (by kernel_rfl) (by kernel_rfl) (st_new (T := 35) (cells := #[.int .i64 (6), .int .i64 pf, .int .i64 pt, .int .i64 pid, .int .i64 pl, .int .i64 pp, .int .i64 ps, .bool pfl, .slice pa pm pc]) (fun a => .pointer (some a)) (fun _ => by kernel_rfl)) ?_
  rintro _ _ ⟨b1, rfl, rfl⟩
  refine s_step 4 (by kernel_rfl) (by kernel_rfl) (st_new (T := 35) (cells := #[.int .i64 (0), .int .i64 (0), .int .i64 (0), .int .i64 (0), .int .i64 (0), .int .i64 (0), .int .i64 (0), .bool false, .slice none 0 0]) (fun a => .pointer (some a)) (fun _ => by kernel_rfl)) ?_
  rintro _ _ ⟨b2, rfl, rfl⟩
  refine s_pure 5 (.int .i64 (0)) (by kernel_rfl) (by kernel_rfl) (fun _ => by kernel_rfl) ?_
  refine ops_end ?_
  refine At.env [(0, .pointer (some ⟨b, 0, none⟩)), (1, .agg #[.int .i64 (6), .int .i64 pf, .int .i64 pt, .int .i64 pid, .int .i64 pl, .int .i64 pp, .int .i64 ps, .bool pfl, .slice pa pm pc]), (3, .pointer (some ⟨b1, 0, none⟩)), (4, .pointer (some ⟨b2, 0, none⟩)), (5, .int .i64 (0))] ⟨by kernel_rfl, by kernel_rfl, by kernel_rfl, by kernel_rfl, by kernel_rfl, trivial⟩ ?_
  refine at_then_normal ?_
  refine at_seq (x := C18 [1, 0]) (y := C18 [1, 1]) (by kernel_rfl) ?_
  refine at_seq (x := C18 [1, 0, 0]) (y := C18 [1, 0, 1]) (by kernel_rfl) ?_
  refine at_region (id := 1) 13 (by kernel_rfl) (by kernel_rfl) ?_
  refine s_load 9 (.agg #[.int .i64 (6), .int .i64 pf, .int .i64 pt, .int .i64 pid, .int .i64 pl, .int .i64 pp, .int .i64 ps, .bool pfl, .slice pa pm pc]) (by kernel_rfl) (by kernel_rfl) (loadN (off := 0) (vs := [.int .i64 (6), .int .i64 pf, .int .i64 pt, .int .i64 pid, .int .i64 pl, .int .i64 pp, .int .i64 ps, .bool pfl, .slice pa pm pc]) 9 (fun _ => by kernel_rfl) (holds_own (.there .here)) rfl (by exact ⟨rfl, rfl, rfl, rfl, rfl, rfl, rfl, rfl, rfl, trivial⟩)) ?_
  refine s_quiet 10 (.int .i64 (0)) 51 #[.agg #[.int .i64 (6), .int .i64 pf, .int .i64 pt, .int .i64 pid, .int .i64 pl, .int .i64 pp, .int .i64 ps, .bool pfl, .slice pa pm pc]] (by kernel_rfl) (by kernel_rfl) (fun _ => by kernel_rfl) (Check_ok (6) pf pt pid pl pp ps pfl pa pm pc (by omega) (by omega) (by omega) (by omega) (by omega) (by omega) (by omega) (by omega)) ?_
  refine s_pure 11 (.bool false) (by kernel_rfl) (by kernel_rfl) (fun _ => by kernel_rfl) ?_
  refine s_pure 12 (.bool false) (by kernel_rfl) (by kernel_rfl) (fun _ => by kernel_rfl) ?_
  refine s_pure 13 (.pointer (some ⟨b1, 0, none⟩)) (by kernel_rfl) (by kernel_rfl) (fun _ => by kernel_rfl) ?_
  refine s_load 14 (.int .i64 (6)) (by kernel_rfl) (by kernel_rfl) (load1 (off := 0) (fun _ => by kernel_rfl) (holds_own (.there .here)) (by kernel_rfl)) ?_
  refine s_pure 15 (.bool false) (by kernel_rfl) (by kernel_rfl) (fun _ => by kernel_rfl) ?_
  refine s_pure 16 (.bool false) (by kernel_rfl) (by kernel_rfl) (fun _ => by kernel_rfl) ?_
  refine s_pure 17 (.bool false) (by kernel_rfl) (by kernel_rfl) (fun _ => by kernel_rfl) ?_
  refine s_pure 18 (.pointer (some ⟨b1, 0, none⟩)) (by kernel_rfl) (by kernel_rfl) (fun _ => by kernel_rfl) ?_
  refine s_load 19 (.int .i64 (6)) (by kernel_rfl) (by kernel_rfl) (load1 (off := 0) (fun _ => by kernel_rfl) (holds_own (.there .here)) (by kernel_rfl)) ?_
  refine s_pure 20 (.bool false) (by kernel_rfl) (by kernel_rfl) (fun _ => by kernel_rfl) ?_
  refine s_pure 21 (.bool false) (by kernel_rfl) (by kernel_rfl) (fun _ => by kernel_rfl) ?_
  refine ops_end ?_
  refine At.env [(0, .pointer (some ⟨b, 0, none⟩)), (1, .agg #[.int .i64 (6), .int .i64 pf, .int .i64 pt, .int .i64 pid, .int .i64 pl, .int .i64 pp, .int .i64 ps, .bool pfl, .slice pa pm pc]), (3, .pointer (some ⟨b1, 0, none⟩)), (4, .pointer (some ⟨b2, 0, none⟩)), (5, .int .i64 (0)), (21, .bool false)] ⟨by kernel_rfl, by kernel_rfl, by kernel_rfl, by kernel_rfl, by kernel_rfl, by kernel_rfl, trivial⟩ ?_
  refine at_then_normal ?_
  refine at_false (t := false) (x := C18 [1, 0, 1, 0]) (y := C18 [1, 0, 1, 1]) (o := .tmp 21) (by kernel_rfl) (by kernel_rfl) (by kernel_rfl) rfl ?_
  refine at_skip (by kernel_rfl) ?_
  refine at_then_normal ?_
  refine at_seq (x := C18 [1, 1, 0]) (y := C18 [1, 1, 1]) (by kernel_rfl) ?_
  refine at_region (id := 3) 10 (by kernel_rfl) (by kernel_rfl) ?_
  refine s_pure 24 (.pointer (some ⟨b, 0, none⟩)) (by kernel_rfl) (by kernel_rfl) (fun _ => by kernel_rfl) ?_
  refine s_pure 25 (.pointer (some ⟨b1, 4, none⟩)) (by kernel_rfl) (by kernel_rfl) (fun _ => by kernel_rfl) ?_
  refine s_load 26 (.int .i64 pl) (by kernel_rfl) (by kernel_rfl) (load1 (off := 4) (fun _ => by kernel_rfl) (holds_own (.there .here)) (by kernel_rfl)) ?_
  refine At.conv (fun w hw => hw.less (.take (.there (.there .here)) (.take .here (.take .here .refl)))) ?_
  refine s_call 27 20 #[.pointer (some ⟨b, 0, none⟩), .int .i64 pl] (by kernel_rfl) (by kernel_rfl) (fun _ => by kernel_rfl) (Find_some b c pl hlen hdat i e hidx he) ?_
  rintro _ _ ⟨fa, fc, rfl, rfl⟩
  refine s_pure 23 (.tuple #[.agg #[.int .i64 e.fwd, .int .i64 e.back, .int .i64 e.line, .int .i64 e.used, .bool e.dirty, .slice fa e.data.length fc], .bool true]) (by kernel_rfl) (by kernel_rfl) (fun _ => by kernel_rfl) ?_
  refine s_pure 28 (.agg #[.int .i64 e.fwd, .int .i64 e.back, .int .i64 e.line, .int .i64 e.used, .bool e.dirty, .slice fa e.data.length fc]) (by kernel_rfl) (by kernel_rfl) (fun _ => by kernel_rfl) ?_
  refine s_pure 29 (.bool true) (by kernel_rfl) (by kernel_rfl) (fun _ => by kernel_rfl) ?_
  refine s_step 6 (by kernel_rfl) (by kernel_rfl) (st_new (T := 31) (cells := #[.int .i64 (0), .int .i64 (0), .int .i64 (0), .int .i64 (0), .bool false, .slice none 0 0]) (fun a => .pointer (some a)) (fun _ => by kernel_rfl)) ?_
  rintro _ _ ⟨b3, rfl, rfl⟩
  refine s_do (by kernel_rfl) (by kernel_rfl) (st_store (off := 0) (vs := [.int .i64 e.fwd, .int .i64 e.back, .int .i64 e.line, .int .i64 e.used, .bool e.dirty, .slice fa e.data.length fc]) (c' := #[.int .i64 e.fwd, .int .i64 e.back, .int .i64 e.line, .int .i64 e.used, .bool e.dirty, .slice fa e.data.length fc]) (fun _ => by kernel_rfl) .here (by kernel_rfl) (by kernel_rfl) (by kernel_rfl)) ?_
  rintro _ _ ⟨rfl, rfl⟩
  refine s_pure 7 (.bool true) (by kernel_rfl) (by kernel_rfl) (fun _ => by kernel_rfl) ?_
  refine ops_end ?_
  refine At.env [(0, .pointer (some ⟨b, 0, none⟩)), (1, .agg #[.int .i64 (6), .int .i64 pf, .int .i64 pt, .int .i64 pid, .int .i64 pl, .int .i64 pp, .int .i64 ps, .bool pfl, .slice pa pm pc]), (3, .pointer (some ⟨b1, 0, none⟩)), (4, .pointer (some ⟨b2, 0, none⟩)), (5, .int .i64 (0)), (6, .pointer (some ⟨b3, 0, none⟩)), (7, .bool true), (21, .bool false)] ⟨by kernel_rfl, by kernel_rfl, by kernel_rfl, by kernel_rfl, by kernel_rfl, by kernel_rfl, by kernel_rfl, by kernel_rfl, trivial⟩ ?_
  refine at_then_normal ?_
  refine at_seq (x := C18 [1, 1, 1, 0]) (y := C18 [1, 1, 1, 1]) (by kernel_rfl) ?_
  refine at_seq (x := C18 [1, 1, 1, 0, 0]) (y := C18 [1, 1, 1, 0, 1]) (by kernel_rfl) ?_
  refine at_region (id := 4) 2 (by kernel_rfl) (by kernel_rfl) ?_
  refine s_pure 30 (.bool true) (by kernel_rfl) (by kernel_rfl) (fun _ => by kernel_rfl) ?_
  refine s_pure 31 (.bool false) (by kernel_rfl) (by kernel_rfl) (fun _ => by kernel_rfl) ?_
  refine ops_end ?_
  refine At.env [(0, .pointer (some ⟨b, 0, none⟩)), (1, .agg #[.int .i64 (6), .int .i64 pf, .int .i64 pt, .int .i64 pid, .int .i64 pl, .int .i64 pp, .int .i64 ps, .bool pfl, .slice pa pm pc]), (3, .pointer (some ⟨b1, 0, none⟩)), (4, .pointer (some ⟨b2, 0, none⟩)), (5, .int .i64 (0)), (6, .pointer (some ⟨b3, 0, none⟩)), (7, .bool true), (21, .bool false), (31, .bool false)] ⟨by kernel_rfl, by kernel_rfl, by kernel_rfl, by kernel_rfl, by kernel_rfl, by kernel_rfl, by kernel_rfl, by kernel_rfl, by kernel_rfl, trivial⟩ ?_
  refine at_then_normal ?_
  refine at_false (t := false) (x := C18 [1, 1, 1, 0, 1, 0]) (y := C18 [1, 1, 1, 0, 1, 1]) (o := .tmp 31) (by kernel_rfl) (by kernel_rfl) (by kernel_rfl) rfl ?_
  refine at_skip (by kernel_rfl) ?_
  refine at_then_normal ?_
  refine at_seq (x := C18 [1, 1, 1, 1, 0]) (y := C18 [1, 1, 1, 1, 1]) (by kernel_rfl) ?_
  refine at_region_draw (id := 6) (by kernel_rfl) (by kernel_rfl) ?_
  refine d_pure 0 33 (.pointer (some ⟨b1, 0, none⟩)) (by kernel_rfl) (by kernel_rfl) (by kernel_rfl) (fun _ => by kernel_rfl) ?_
  refine d_load 1 34 (.int .i64 (6)) (by kernel_rfl) (by kernel_rfl) (by kernel_rfl) (load1 (off := 0) (fun _ => by kernel_rfl) (holds_own (.there (.there (.there (.there .here))))) (by kernel_rfl)) ?_
  refine d_quiet 2 35 (.int .i64 (9)) 52 #[.int .i64 (6)] (by kernel_rfl) (by kernel_rfl) (by kernel_rfl) (fun _ => by kernel_rfl) (fun _ => (Tr.as (Answer_tr (6)) (show Value.int .i64 (answerI (6)) = .int .i64 (9) from by rfl))) ?_
  refine d_pure 3 36 (.pointer (some ⟨b1, 2, none⟩)) (by kernel_rfl) (by kernel_rfl) (by kernel_rfl) (fun _ => by kernel_rfl) ?_
  refine d_load 4 37 (.int .i64 pt) (by kernel_rfl) (by kernel_rfl) (by kernel_rfl) (load1 (off := 2) (fun _ => by kernel_rfl) (holds_own (.there (.there (.there (.there .here))))) (by kernel_rfl)) ?_
  refine d_pure 5 38 (.pointer (some ⟨b1, 1, none⟩)) (by kernel_rfl) (by kernel_rfl) (by kernel_rfl) (fun _ => by kernel_rfl) ?_
  refine d_load 6 39 (.int .i64 pf) (by kernel_rfl) (by kernel_rfl) (by kernel_rfl) (load1 (off := 1) (fun _ => by kernel_rfl) (holds_own (.there (.there (.there (.there .here))))) (by kernel_rfl)) ?_
  refine d_pure 7 40 (.pointer (some ⟨b1, 3, none⟩)) (by kernel_rfl) (by kernel_rfl) (by kernel_rfl) (fun _ => by kernel_rfl) ?_
  refine d_load 8 41 (.int .i64 pid) (by kernel_rfl) (by kernel_rfl) (by kernel_rfl) (load1 (off := 3) (fun _ => by kernel_rfl) (holds_own (.there (.there (.there (.there .here))))) (by kernel_rfl)) ?_
  refine d_pure 9 42 (.pointer (some ⟨b1, 4, none⟩)) (by kernel_rfl) (by kernel_rfl) (by kernel_rfl) (fun _ => by kernel_rfl) ?_
  refine d_load 10 43 (.int .i64 pl) (by kernel_rfl) (by kernel_rfl) (by kernel_rfl) (load1 (off := 4) (fun _ => by kernel_rfl) (holds_own (.there (.there (.there (.there .here))))) (by kernel_rfl)) ?_
  refine d_pure 11 44 (.agg #[.int .i64 (9), .int .i64 pt, .int .i64 pf, .int .i64 pid, .int .i64 pl, .int .i64 (0), .int .i64 (0), .bool false, .slice none 0 0]) (by kernel_rfl) (by kernel_rfl) (by kernel_rfl) (fun _ => by kernel_rfl) ?_
  refine d_step 12 8 [] [11, 9, 7, 5, 3, 2, 0] [10, 8, 6, 4, 1] (by kernel_rfl) (by kernel_rfl) (by kernel_rfl) (st_new (T := 35) (cells := #[.int .i64 (0), .int .i64 (0), .int .i64 (0), .int .i64 (0), .int .i64 (0), .int .i64 (0), .int .i64 (0), .bool false, .slice none 0 0]) (fun a => .pointer (some a)) (fun _ => by kernel_rfl)) ?_
  rintro _ _ ⟨b4, rfl, rfl⟩
  refine ⟨(stable_cons 10 43 (.int .i64 pl) (by kernel_rfl) (by kernel_rfl) (by kernel_rfl) (load1 (off := 4) (fun _ => by kernel_rfl) (holds_own (.there (.there (.there (.there (.there .here)))))) (by kernel_rfl)) (stable_cons 8 41 (.int .i64 pid) (by kernel_rfl) (by kernel_rfl) (by kernel_rfl) (load1 (off := 3) (fun _ => by kernel_rfl) (holds_own (.there (.there (.there (.there (.there .here)))))) (by kernel_rfl)) (stable_cons 6 39 (.int .i64 pf) (by kernel_rfl) (by kernel_rfl) (by kernel_rfl) (load1 (off := 1) (fun _ => by kernel_rfl) (holds_own (.there (.there (.there (.there (.there .here)))))) (by kernel_rfl)) (stable_cons 4 37 (.int .i64 pt) (by kernel_rfl) (by kernel_rfl) (by kernel_rfl) (load1 (off := 2) (fun _ => by kernel_rfl) (holds_own (.there (.there (.there (.there (.there .here)))))) (by kernel_rfl)) (stable_cons 1 34 (.int .i64 (6)) (by kernel_rfl) (by kernel_rfl) (by kernel_rfl) (load1 (off := 0) (fun _ => by kernel_rfl) (holds_own (.there (.there (.there (.there (.there .here)))))) (by kernel_rfl)) stable_nil))))), ?_⟩
  refine d_do 13 [12, 11, 2, 0, 1, 3, 4, 5, 6, 7, 8, 9, 10] [] [] (by kernel_rfl) (by kernel_rfl) (by kernel_rfl) (st_store (off := 0) (vs := [.int .i64 (9), .int .i64 pt, .int .i64 pf, .int .i64 pid, .int .i64 pl, .int .i64 (0), .int .i64 (0), .bool false, .slice none 0 0]) (c' := #[.int .i64 (9), .int .i64 pt, .int .i64 pf, .int .i64 pid, .int .i64 pl, .int .i64 (0), .int .i64 (0), .bool false, .slice none 0 0]) (fun _ => by kernel_rfl) .here (by kernel_rfl) (by kernel_rfl) (by kernel_rfl)) ?_
  rintro _ _ ⟨rfl, rfl⟩
  refine ⟨stable_nil, ?_⟩
  refine draw_end (by kernel_rfl) ?_
  refine At.env [(0, .pointer (some ⟨b, 0, none⟩)), (1, .agg #[.int .i64 (6), .int .i64 pf, .int .i64 pt, .int .i64 pid, .int .i64 pl, .int .i64 pp, .int .i64 ps, .bool pfl, .slice pa pm pc]), (3, .pointer (some ⟨b1, 0, none⟩)), (4, .pointer (some ⟨b2, 0, none⟩)), (5, .int .i64 (0)), (6, .pointer (some ⟨b3, 0, none⟩)), (7, .bool true), (8, .pointer (some ⟨b4, 0, none⟩)), (21, .bool false), (31, .bool false)] ⟨by kernel_rfl, by kernel_rfl, by kernel_rfl, by kernel_rfl, by kernel_rfl, by kernel_rfl, by kernel_rfl, by kernel_rfl, by kernel_rfl, by kernel_rfl, trivial⟩ ?_
  refine at_then_normal ?_
  refine at_seq (x := C18 [1, 1, 1, 1, 1, 0]) (y := C18 [1, 1, 1, 1, 1, 1]) (by kernel_rfl) ?_
  refine at_seq (x := C18 [1, 1, 1, 1, 1, 0, 0]) (y := C18 [1, 1, 1, 1, 1, 0, 1]) (by kernel_rfl) ?_
  refine at_region (id := 7) 2 (by kernel_rfl) (by kernel_rfl) ?_
  refine s_pure 45 (.pointer (some ⟨b1, 0, none⟩)) (by kernel_rfl) (by kernel_rfl) (fun _ => by kernel_rfl) ?_
  refine s_load 46 (.int .i64 (6)) (by kernel_rfl) (by kernel_rfl) (load1 (off := 0) (fun _ => by kernel_rfl) (holds_own (.there (.there (.there (.there (.there .here)))))) (by kernel_rfl)) ?_
  refine ops_end ?_
  refine At.env [(0, .pointer (some ⟨b, 0, none⟩)), (1, .agg #[.int .i64 (6), .int .i64 pf, .int .i64 pt, .int .i64 pid, .int .i64 pl, .int .i64 pp, .int .i64 ps, .bool pfl, .slice pa pm pc]), (3, .pointer (some ⟨b1, 0, none⟩)), (4, .pointer (some ⟨b2, 0, none⟩)), (5, .int .i64 (0)), (6, .pointer (some ⟨b3, 0, none⟩)), (7, .bool true), (8, .pointer (some ⟨b4, 0, none⟩)), (21, .bool false), (31, .bool false), (46, .int .i64 (6))] ⟨by kernel_rfl, by kernel_rfl, by kernel_rfl, by kernel_rfl, by kernel_rfl, by kernel_rfl, by kernel_rfl, by kernel_rfl, by kernel_rfl, by kernel_rfl, by kernel_rfl, trivial⟩ ?_
  refine at_then_normal ?_
  refine at_block (i := 0) (x := C18 [1, 1, 1, 1, 1, 0, 1, 0]) (by kernel_rfl) ?_
  refine at_seq (x := C18 [1, 1, 1, 1, 1, 0, 1, 0, 0]) (y := C18 [1, 1, 1, 1, 1, 0, 1, 0, 1]) (by kernel_rfl) ?_
  refine at_region (id := 8) 2 (by kernel_rfl) (by kernel_rfl) ?_
  refine s_pure 48 (.bool false) (by kernel_rfl) (by kernel_rfl) (fun _ => by kernel_rfl) ?_
  refine s_pure 47 (.bool false) (by kernel_rfl) (by kernel_rfl) (fun _ => by kernel_rfl) ?_
  refine ops_end ?_
  refine At.env [(0, .pointer (some ⟨b, 0, none⟩)), (1, .agg #[.int .i64 (6), .int .i64 pf, .int .i64 pt, .int .i64 pid, .int .i64 pl, .int .i64 pp, .int .i64 ps, .bool pfl, .slice pa pm pc]), (3, .pointer (some ⟨b1, 0, none⟩)), (4, .pointer (some ⟨b2, 0, none⟩)), (5, .int .i64 (0)), (6, .pointer (some ⟨b3, 0, none⟩)), (7, .bool true), (8, .pointer (some ⟨b4, 0, none⟩)), (21, .bool false), (31, .bool false), (46, .int .i64 (6)), (47, .bool false)] ⟨by kernel_rfl, by kernel_rfl, by kernel_rfl, by kernel_rfl, by kernel_rfl, by kernel_rfl, by kernel_rfl, by kernel_rfl, by kernel_rfl, by kernel_rfl, by kernel_rfl, by kernel_rfl, trivial⟩ ?_
  refine at_then_normal ?_
  refine at_false (t := false) (x := C18 [1, 1, 1, 1, 1, 0, 1, 0, 1, 0]) (y := C18 [1, 1, 1, 1, 1, 0, 1, 0, 1, 1]) (o := .tmp 47) (by kernel_rfl) (by kernel_rfl) (by kernel_rfl) rfl ?_
  refine at_seq (x := C18 [1, 1, 1, 1, 1, 0, 1, 0, 1, 1, 0]) (y := C18 [1, 1, 1, 1, 1, 0, 1, 0, 1, 1, 1]) (by kernel_rfl) ?_
  refine at_region (id := 12) 2 (by kernel_rfl) (by kernel_rfl) ?_
  refine s_pure 61 (.bool false) (by kernel_rfl) (by kernel_rfl) (fun _ => by kernel_rfl) ?_
  refine s_pure 60 (.bool false) (by kernel_rfl) (by kernel_rfl) (fun _ => by kernel_rfl) ?_
  refine ops_end ?_
  refine At.env [(0, .pointer (some ⟨b, 0, none⟩)), (1, .agg #[.int .i64 (6), .int .i64 pf, .int .i64 pt, .int .i64 pid, .int .i64 pl, .int .i64 pp, .int .i64 ps, .bool pfl, .slice pa pm pc]), (3, .pointer (some ⟨b1, 0, none⟩)), (4, .pointer (some ⟨b2, 0, none⟩)), (5, .int .i64 (0)), (6, .pointer (some ⟨b3, 0, none⟩)), (7, .bool true), (8, .pointer (some ⟨b4, 0, none⟩)), (21, .bool false), (31, .bool false), (46, .int .i64 (6)), (47, .bool false), (60, .bool false)] ⟨by kernel_rfl, by kernel_rfl, by kernel_rfl, by kernel_rfl, by kernel_rfl, by kernel_rfl, by kernel_rfl, by kernel_rfl, by kernel_rfl, by kernel_rfl, by kernel_rfl, by kernel_rfl, by kernel_rfl, trivial⟩ ?_
  refine at_then_normal ?_
  refine at_false (t := false) (x := C18 [1, 1, 1, 1, 1, 0, 1, 0, 1, 1, 1, 0]) (y := C18 [1, 1, 1, 1, 1, 0, 1, 0, 1, 1, 1, 1]) (o := .tmp 60) (by kernel_rfl) (by kernel_rfl) (by kernel_rfl) rfl ?_
  refine at_seq (x := C18 [1, 1, 1, 1, 1, 0, 1, 0, 1, 1, 1, 1, 0]) (y := C18 [1, 1, 1, 1, 1, 0, 1, 0, 1, 1, 1, 1, 1]) (by kernel_rfl) ?_
  refine at_region (id := 14) 2 (by kernel_rfl) (by kernel_rfl) ?_
  refine s_pure 67 (.bool false) (by kernel_rfl) (by kernel_rfl) (fun _ => by kernel_rfl) ?_
  refine s_pure 66 (.bool false) (by kernel_rfl) (by kernel_rfl) (fun _ => by kernel_rfl) ?_
  refine ops_end ?_
  refine At.env [(0, .pointer (some ⟨b, 0, none⟩)), (1, .agg #[.int .i64 (6), .int .i64 pf, .int .i64 pt, .int .i64 pid, .int .i64 pl, .int .i64 pp, .int .i64 ps, .bool pfl, .slice pa pm pc]), (3, .pointer (some ⟨b1, 0, none⟩)), (4, .pointer (some ⟨b2, 0, none⟩)), (5, .int .i64 (0)), (6, .pointer (some ⟨b3, 0, none⟩)), (7, .bool true), (8, .pointer (some ⟨b4, 0, none⟩)), (21, .bool false), (31, .bool false), (46, .int .i64 (6)), (47, .bool false), (60, .bool false), (66, .bool false)] ⟨by kernel_rfl, by kernel_rfl, by kernel_rfl, by kernel_rfl, by kernel_rfl, by kernel_rfl, by kernel_rfl, by kernel_rfl, by kernel_rfl, by kernel_rfl, by kernel_rfl, by kernel_rfl, by kernel_rfl, by kernel_rfl, trivial⟩ ?_
  refine at_then_normal ?_
  refine at_false (t := false) (x := C18 [1, 1, 1, 1, 1, 0, 1, 0, 1, 1, 1, 1, 1, 0]) (y := C18 [1, 1, 1, 1, 1, 0, 1, 0, 1, 1, 1, 1, 1, 1]) (o := .tmp 66) (by kernel_rfl) (by kernel_rfl) (by kernel_rfl) rfl ?_
  refine at_seq (x := C18 [1, 1, 1, 1, 1, 0, 1, 0, 1, 1, 1, 1, 1, 1, 0]) (y := C18 [1, 1, 1, 1, 1, 0, 1, 0, 1, 1, 1, 1, 1, 1, 1]) (by kernel_rfl) ?_
  refine at_region (id := 16) 2 (by kernel_rfl) (by kernel_rfl) ?_
  refine s_pure 73 (.bool true) (by kernel_rfl) (by kernel_rfl) (fun _ => by kernel_rfl) ?_
  refine s_pure 72 (.bool true) (by kernel_rfl) (by kernel_rfl) (fun _ => by kernel_rfl) ?_
  refine ops_end ?_
  refine At.env [(0, .pointer (some ⟨b, 0, none⟩)), (1, .agg #[.int .i64 (6), .int .i64 pf, .int .i64 pt, .int .i64 pid, .int .i64 pl, .int .i64 pp, .int .i64 ps, .bool pfl, .slice pa pm pc]), (3, .pointer (some ⟨b1, 0, none⟩)), (4, .pointer (some ⟨b2, 0, none⟩)), (5, .int .i64 (0)), (6, .pointer (some ⟨b3, 0, none⟩)), (7, .bool true), (8, .pointer (some ⟨b4, 0, none⟩)), (21, .bool false), (31, .bool false), (46, .int .i64 (6)), (47, .bool false), (60, .bool false), (66, .bool false), (72, .bool true)] ⟨by kernel_rfl, by kernel_rfl, by kernel_rfl, by kernel_rfl, by kernel_rfl, by kernel_rfl, by kernel_rfl, by kernel_rfl, by kernel_rfl, by kernel_rfl, by kernel_rfl, by kernel_rfl, by kernel_rfl, by kernel_rfl, by kernel_rfl, trivial⟩ ?_
  refine at_then_normal ?_
  refine at_true (t := true) (x := C18 [1, 1, 1, 1, 1, 0, 1, 0, 1, 1, 1, 1, 1, 1, 1, 0]) (y := C18 [1, 1, 1, 1, 1, 0, 1, 0, 1, 1, 1, 1, 1, 1, 1, 1]) (o := .tmp 72) (by kernel_rfl) (by kernel_rfl) (by kernel_rfl) rfl ?_
  refine at_seq (x := C18 [1, 1, 1, 1, 1, 0, 1, 0, 1, 1, 1, 1, 1, 1, 1, 0, 0]) (y := C18 [1, 1, 1, 1, 1, 0, 1, 0, 1, 1, 1, 1, 1, 1, 1, 0, 1]) (by kernel_rfl) ?_
  refine at_region_draw (id := 17) (by kernel_rfl) (by kernel_rfl) ?_
  refine d_pure 0 74 (.pointer (some ⟨b3, 5, none⟩)) (by kernel_rfl) (by kernel_rfl) (by kernel_rfl) (fun _ => by kernel_rfl) ?_
  refine d_load 1 75 (.slice fa e.data.length fc) (by kernel_rfl) (by kernel_rfl) (by kernel_rfl) (load1 (off := 5) (fun _ => by kernel_rfl) (holds_own (.there .here)) (by kernel_rfl)) ?_
  refine d_pure 2 76 (.pointer (some ⟨b3, 4, none⟩)) (by kernel_rfl) (by kernel_rfl) (by kernel_rfl) (fun _ => by kernel_rfl) ?_
  refine d_load 3 77 (.bool e.dirty) (by kernel_rfl) (by kernel_rfl) (by kernel_rfl) (load1 (off := 4) (fun _ => by kernel_rfl) (holds_own (.there .here)) (by kernel_rfl)) ?_
  refine d_pure 4 78 (.pointer (some ⟨b3, 0, none⟩)) (by kernel_rfl) (by kernel_rfl) (by kernel_rfl) (fun _ => by kernel_rfl) ?_
  refine d_pure 5 79 (.pointer (some ⟨b3, 0, none⟩)) (by kernel_rfl) (by kernel_rfl) (by kernel_rfl) (fun _ => by kernel_rfl) ?_
  refine d_load 6 80 (.int .i64 e.fwd) (by kernel_rfl) (by kernel_rfl) (by kernel_rfl) (load1 (off := 0) (fun _ => by kernel_rfl) (holds_own (.there .here)) (by kernel_rfl)) ?_
  refine d_pure 7 81 (.pointer (some ⟨b4, 8, none⟩)) (by kernel_rfl) (by kernel_rfl) (by kernel_rfl) (fun _ => by kernel_rfl) ?_
  refine d_do 8 [7, 1, 0] [5, 4, 2] [6, 3] (by kernel_rfl) (by kernel_rfl) (by kernel_rfl) (st_store (off := 8) (vs := [.slice fa e.data.length fc]) (c' := #[.int .i64 (9), .int .i64 pt, .int .i64 pf, .int .i64 pid, .int .i64 pl, .int .i64 (0), .int .i64 (0), .bool false, .slice fa e.data.length fc]) (fun _ => by kernel_rfl) .here (by kernel_rfl) (by kernel_rfl) (by kernel_rfl)) ?_
  rintro _ _ ⟨rfl, rfl⟩
  refine ⟨(stable_cons 6 80 (.int .i64 e.fwd) (by kernel_rfl) (by kernel_rfl) (by kernel_rfl) (load1 (off := 0) (fun _ => by kernel_rfl) (holds_own (.there .here)) (by kernel_rfl)) (stable_cons 3 77 (.bool e.dirty) (by kernel_rfl) (by kernel_rfl) (by kernel_rfl) (load1 (off := 4) (fun _ => by kernel_rfl) (holds_own (.there .here)) (by kernel_rfl)) stable_nil)), ?_⟩
  refine d_pure 9 82 (.pointer (some ⟨b4, 7, none⟩)) (by kernel_rfl) (by kernel_rfl) (by kernel_rfl) (fun _ => by kernel_rfl) ?_
  refine d_do 10 [9, 3, 8, 0, 1, 2, 7] [5, 4] [6] (by kernel_rfl) (by kernel_rfl) (by kernel_rfl) (st_store (off := 7) (vs := [.bool e.dirty]) (c' := #[.int .i64 (9), .int .i64 pt, .int .i64 pf, .int .i64 pid, .int .i64 pl, .int .i64 (0), .int .i64 (0), .bool e.dirty, .slice fa e.data.length fc]) (fun _ => by kernel_rfl) .here (by kernel_rfl) (by kernel_rfl) (by kernel_rfl)) ?_
  rintro _ _ ⟨rfl, rfl⟩
  refine ⟨(stable_cons 6 80 (.int .i64 e.fwd) (by kernel_rfl) (by kernel_rfl) (by kernel_rfl) (load1 (off := 0) (fun _ => by kernel_rfl) (holds_own (.there .here)) (by kernel_rfl)) stable_nil), ?_⟩
  refine d_pure 11 83 (.pointer (some ⟨b4, 5, none⟩)) (by kernel_rfl) (by kernel_rfl) (by kernel_rfl) (fun _ => by kernel_rfl) ?_
  refine d_do 12 [11, 6, 10, 0, 1, 2, 3, 4, 5, 7, 8, 9] [] [] (by kernel_rfl) (by kernel_rfl) (by kernel_rfl) (st_store (off := 5) (vs := [.int .i64 e.fwd]) (c' := #[.int .i64 (9), .int .i64 pt, .int .i64 pf, .int .i64 pid, .int .i64 pl, .int .i64 e.fwd, .int .i64 (0), .bool e.dirty, .slice fa e.data.length fc]) (fun _ => by kernel_rfl) .here (by kernel_rfl) (by kernel_rfl) (by kernel_rfl)) ?_
  rintro _ _ ⟨rfl, rfl⟩
  refine ⟨stable_nil, ?_⟩
  refine draw_end (by kernel_rfl) ?_
  refine At.env [(0, .pointer (some ⟨b, 0, none⟩)), (1, .agg #[.int .i64 (6), .int .i64 pf, .int .i64 pt, .int .i64 pid, .int .i64 pl, .int .i64 pp, .int .i64 ps, .bool pfl, .slice pa pm pc]), (3, .pointer (some ⟨b1, 0, none⟩)), (4, .pointer (some ⟨b2, 0, none⟩)), (5, .int .i64 (0)), (6, .pointer (some ⟨b3, 0, none⟩)), (7, .bool true), (8, .pointer (some ⟨b4, 0, none⟩)), (21, .bool false), (31, .bool false), (46, .int .i64 (6)), (47, .bool false), (60, .bool false), (66, .bool false), (72, .bool true)] ⟨by kernel_rfl, by kernel_rfl, by kernel_rfl, by kernel_rfl, by kernel_rfl, by kernel_rfl, by kernel_rfl, by kernel_rfl, by kernel_rfl, by kernel_rfl, by kernel_rfl, by kernel_rfl, by kernel_rfl, by kernel_rfl, by kernel_rfl, trivial⟩ ?_
  refine at_then_normal ?_
  refine at_seq (x := C18 [1, 1, 1, 1, 1, 0, 1, 0, 1, 1, 1, 1, 1, 1, 1, 0, 1, 0]) (y := C18 [1, 1, 1, 1, 1, 0, 1, 0, 1, 1, 1, 1, 1, 1, 1, 0, 1, 1]) (by kernel_rfl) ?_
  refine at_region (id := 18) 4 (by kernel_rfl) (by kernel_rfl) ?_
  refine s_pure 84 (.pointer (some ⟨b, 0, none⟩)) (by kernel_rfl) (by kernel_rfl) (fun _ => by kernel_rfl) ?_
  refine s_pure 85 (.pointer (some ⟨b1, 4, none⟩)) (by kernel_rfl) (by kernel_rfl) (fun _ => by kernel_rfl) ?_
  refine s_load 86 (.int .i64 pl) (by kernel_rfl) (by kernel_rfl) (load1 (off := 4) (fun _ => by kernel_rfl) (holds_own (.there (.there (.there (.there (.there .here)))))) (by kernel_rfl)) ?_
  refine At.conv (fun w hw => hw.less (.take (.there (.there (.there .here))) (.take .here (.take .here (.take .here (.take .here (.take .here .refl))))))) ?_
  refine s_call 87 24 #[.pointer (some ⟨b, 0, none⟩), .int .i64 pl] (by kernel_rfl) (by kernel_rfl) (fun _ => by kernel_rfl) (Drop_some b c pl hlen hdat i e hidx he) ?_
  rintro _ _ ⟨da, dc, rfl, rfl⟩
  refine ops_end ?_
  refine At.env [(0, .pointer (some ⟨b, 0, none⟩)), (1, .agg #[.int .i64 (6), .int .i64 pf, .int .i64 pt, .int .i64 pid, .int .i64 pl, .int .i64 pp, .int .i64 ps, .bool pfl, .slice pa pm pc]), (3, .pointer (some ⟨b1, 0, none⟩)), (4, .pointer (some ⟨b2, 0, none⟩)), (5, .int .i64 (0)), (6, .pointer (some ⟨b3, 0, none⟩)), (7, .bool true), (8, .pointer (some ⟨b4, 0, none⟩)), (21, .bool false), (31, .bool false), (46, .int .i64 (6)), (47, .bool false), (60, .bool false), (66, .bool false), (72, .bool true)] ⟨by kernel_rfl, by kernel_rfl, by kernel_rfl, by kernel_rfl, by kernel_rfl, by kernel_rfl, by kernel_rfl, by kernel_rfl, by kernel_rfl, by kernel_rfl, by kernel_rfl, by kernel_rfl, by kernel_rfl, by kernel_rfl, by kernel_rfl, trivial⟩ ?_
  refine at_then_normal ?_
  refine at_seq (x := C18 [1, 1, 1, 1, 1, 0, 1, 0, 1, 1, 1, 1, 1, 1, 1, 0, 1, 1, 0]) (y := C18 [1, 1, 1, 1, 1, 0, 1, 0, 1, 1, 1, 1, 1, 1, 1, 0, 1, 1, 1]) (by kernel_rfl) ?_
  refine at_region (id := 19) 3 (by kernel_rfl) (by kernel_rfl) ?_
  refine s_load 88 (.agg #[.int .i64 (9), .int .i64 pt, .int .i64 pf, .int .i64 pid, .int .i64 pl, .int .i64 e.fwd, .int .i64 (0), .bool e.dirty, .slice fa e.data.length fc]) (by kernel_rfl) (by kernel_rfl) (loadN (off := 0) (vs := [.int .i64 (9), .int .i64 pt, .int .i64 pf, .int .i64 pid, .int .i64 pl, .int .i64 e.fwd, .int .i64 (0), .bool e.dirty, .slice fa e.data.length fc]) 9 (fun _ => by kernel_rfl) (holds_own (.there (.there .here))) rfl (by exact ⟨rfl, rfl, rfl, rfl, rfl, rfl, rfl, rfl, rfl, trivial⟩)) ?_
  refine s_do (by kernel_rfl) (by kernel_rfl) (st_store (off := 0) (vs := [.int .i64 (9), .int .i64 pt, .int .i64 pf, .int .i64 pid, .int .i64 pl, .int .i64 e.fwd, .int .i64 (0), .bool e.dirty, .slice fa e.data.length fc]) (c' := #[.int .i64 (9), .int .i64 pt, .int .i64 pf, .int .i64 pid, .int .i64 pl, .int .i64 e.fwd, .int .i64 (0), .bool e.dirty, .slice fa e.data.length fc]) (fun _ => by kernel_rfl) (.there (.there (.there (.there (.there .here))))) (by kernel_rfl) (by kernel_rfl) (by kernel_rfl)) ?_
  rintro _ _ ⟨rfl, rfl⟩
  refine s_pure 5 (.int .i64 (0)) (by kernel_rfl) (by kernel_rfl) (fun _ => by kernel_rfl) ?_
  refine ops_end ?_
  refine At.env [(0, .pointer (some ⟨b, 0, none⟩)), (1, .agg #[.int .i64 (6), .int .i64 pf, .int .i64 pt, .int .i64 pid, .int .i64 pl, .int .i64 pp, .int .i64 ps, .bool pfl, .slice pa pm pc]), (3, .pointer (some ⟨b1, 0, none⟩)), (4, .pointer (some ⟨b2, 0, none⟩)), (5, .int .i64 (0)), (6, .pointer (some ⟨b3, 0, none⟩)), (7, .bool true), (8, .pointer (some ⟨b4, 0, none⟩)), (21, .bool false), (31, .bool false), (46, .int .i64 (6)), (47, .bool false), (60, .bool false), (66, .bool false), (72, .bool true)] ⟨by kernel_rfl, by kernel_rfl, by kernel_rfl, by kernel_rfl, by kernel_rfl, by kernel_rfl, by kernel_rfl, by kernel_rfl, by kernel_rfl, by kernel_rfl, by kernel_rfl, by kernel_rfl, by kernel_rfl, by kernel_rfl, by kernel_rfl, trivial⟩ ?_
  refine at_then_normal ?_
  refine at_ret (by kernel_rfl) ?_
  refine at_in_ret ?_
  refine at_then_ret ?_
  refine at_backR [.agg #[.int .i64 (9), .int .i64 pt, .int .i64 pf, .int .i64 pid, .int .i64 pl, .int .i64 e.fwd, .int .i64 (0), .bool e.dirty, .slice fa e.data.length fc], .int .i64 (0)] ((IntsA fa fc e.data) :: (CacheA b ({ c with l := c.l.eraseIdx i })) :: Γ) (rs := [.cell 4 35, .tmp 5]) (by kernel_rfl) (.cons (.cell (by kernel_rfl) (retN (off := 0) (vs := [.int .i64 (9), .int .i64 pt, .int .i64 pf, .int .i64 pid, .int .i64 pl, .int .i64 e.fwd, .int .i64 (0), .bool e.dirty, .slice fa e.data.length fc]) 9 (fun _ => by kernel_rfl) (holds_own .here) rfl (by exact ⟨rfl, rfl, rfl, rfl, rfl, rfl, rfl, rfl, rfl, trivial⟩))) (.cons (.tmp (by kernel_rfl)) .nil)) (fun w hw => hw.less (.take (.there (.there (.there (.there (.there .here))))) (.take (.there (.there .here)) (.drop .here (.drop .here (.drop .here (.drop .here (.drop .here .refl)))))))) ?_
  exact ⟨_, _, rfl, rfl⟩
end Go.Proofs.Ytfpiolnbnfngkaa
