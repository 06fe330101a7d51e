/- The same numbers at two places are found the same. -/
import Derived.Test.YtfpiolnbnfngkaaServeB
namespace Go.Proofs.Ytfpiolnbnfngkaa
open Go Go.RowKit
set_option linter.unusedVariables false
set_option linter.unusedSimpArgs false
noncomputable def C19 (p : List Nat) : Code := codeAt (bodyOf Try.f19) p
set_option maxRecDepth 100000 in
theorem KSame_tr0 {W0 : World} {Γ : List Asn} (a : Option Addr) (cap : Nat) (b : Option Addr) (cap2 : Nat) (xs : List Int) (hr : Reads W0 Γ a (ints xs)) (hr2 : Reads W0 Γ b (ints xs)) (hlx : xs.length ≤ 1099511627776) : Tr Try.prog 19 #[.slice a xs.length cap, .slice b xs.length cap2] W0 (Γ) (fun r Δ => r = .bool true ∧ Δ = Γ) := by
  refine Tr.enter (fn := Try.f19) (c := C19 []) (args := [.slice a xs.length cap, .slice b xs.length cap2]) 26 Try.func19 (by kernel_rfl) (by kernel_rfl) ?_
  refine At.env [(0, .slice a xs.length cap), (1, .slice b xs.length cap2)] ⟨by kernel_rfl, by kernel_rfl, trivial⟩ ?_
  refine at_seq (x := C19 [0]) (y := C19 [1]) (by kernel_rfl) ?_
  refine at_region (id := 0) 1 (by kernel_rfl) (by kernel_rfl) ?_
  refine s_pure 4 (.bool false) (by kernel_rfl) (by kernel_rfl) (fun _ => by kernel_rfl) ?_
  refine ops_end ?_
  refine At.env [(0, .slice a xs.length cap), (1, .slice b xs.length cap2), (4, .bool false)] ⟨by kernel_rfl, by kernel_rfl, by kernel_rfl, trivial⟩ ?_
  refine at_then_normal ?_
  refine at_seq (x := C19 [1, 0]) (y := C19 [1, 1]) (by kernel_rfl) ?_
  refine at_seq (x := C19 [1, 0, 0]) (y := C19 [1, 0, 1]) (by kernel_rfl) ?_
  refine at_region (id := 1) 5 (by kernel_rfl) (by kernel_rfl) ?_
  refine s_pure 6 (.slice a xs.length cap) (by kernel_rfl) (by kernel_rfl) (fun _ => by kernel_rfl) ?_
  refine s_pure 7 (.int .i64 ((xs.length : Nat) : Int)) (by kernel_rfl) (by kernel_rfl) (fun _ => by kernel_rfl) ?_
  refine s_pure 8 (.slice b xs.length cap2) (by kernel_rfl) (by kernel_rfl) (fun _ => by kernel_rfl) ?_
  refine s_pure 9 (.int .i64 ((xs.length : Nat) : Int)) (by kernel_rfl) (by kernel_rfl) (fun _ => by kernel_rfl) ?_
  refine s_pure 10 (.bool false) (by kernel_rfl) (by kernel_rfl) (run_eq (v := .bool (!(decide (((xs.length : Nat) : Int) = ((xs.length : Nat) : Int))))) (fun _ => by kernel_rfl) (congrArg Value.bool (by rw [decide_eq_true rfl]; rfl))) ?_
  refine ops_end ?_
  refine At.env [(0, .slice a xs.length cap), (1, .slice b xs.length cap2), (4, .bool false), (10, .bool false)] ⟨by kernel_rfl, by kernel_rfl, by kernel_rfl, by kernel_rfl, trivial⟩ ?_
  refine at_then_normal ?_
  refine at_false (t := false) (x := C19 [1, 0, 1, 0]) (y := C19 [1, 0, 1, 1]) (o := .tmp 10) (by kernel_rfl) (by kernel_rfl) (by kernel_rfl) rfl ?_
  refine at_skip (by kernel_rfl) ?_
  refine at_then_normal ?_
  refine at_seq (x := C19 [1, 1, 0]) (y := C19 [1, 1, 1]) (by kernel_rfl) ?_
  refine at_seq (x := C19 [1, 1, 0, 0]) (y := C19 [1, 1, 0, 1]) (by kernel_rfl) ?_
  refine at_region (id := 3) 1 (by kernel_rfl) (by kernel_rfl) ?_
  refine s_pure 5 (.int .i64 (0)) (by kernel_rfl) (by kernel_rfl) (fun _ => by kernel_rfl) ?_
  refine ops_end ?_
  refine At.env [(0, .slice a xs.length cap), (1, .slice b xs.length cap2), (4, .bool false), (5, .int .i64 (0)), (10, .bool false)] ⟨by kernel_rfl, by kernel_rfl, by kernel_rfl, by kernel_rfl, by kernel_rfl, trivial⟩ ?_
  refine at_then_normal ?_
  refine at_block (i := 0) (x := C19 [1, 1, 0, 1, 0]) (by kernel_rfl) ?_
  refine at_loopR (x := C19 [1, 1, 0, 1, 0, 0]) (fun mm ff ΔΔ => ∃ k : Nat, (k ≤ xs.length) ∧ mm = xs.length - k ∧ ff = [(0, .slice a xs.length cap), (1, .slice b xs.length cap2), (4, .bool false), (5, .int .i64 ((k : Nat) : Int)), (10, .bool false)] ∧ Γ = ΔΔ) (xs.length - 0) (by kernel_rfl) [(0, .slice a xs.length cap), (1, .slice b xs.length cap2), (4, .bool false), (5, .int .i64 ((0 : Nat) : Int)), (10, .bool false)] ⟨by kernel_rfl, by kernel_rfl, by kernel_rfl, by kernel_rfl, by kernel_rfl, trivial⟩ ⟨0, Nat.zero_le _, rfl, rfl, rfl⟩ ?_
  rintro _ _ _ ⟨k, hl1, rfl, rfl, rfl⟩
  refine at_seq (x := C19 [1, 1, 0, 1, 0, 0, 0]) (y := C19 [1, 1, 0, 1, 0, 0, 1]) (by kernel_rfl) ?_
  refine at_seq (x := C19 [1, 1, 0, 1, 0, 0, 0, 0]) (y := C19 [1, 1, 0, 1, 0, 0, 0, 1]) (by kernel_rfl) ?_
  refine at_region (id := 4) 4 (by kernel_rfl) (by kernel_rfl) ?_
  refine s_pure 11 (.int .i64 ((k : Nat) : Int)) (by kernel_rfl) (by kernel_rfl) (fun _ => by kernel_rfl) ?_
  refine s_pure 12 (.slice a xs.length cap) (by kernel_rfl) (by kernel_rfl) (fun _ => by kernel_rfl) ?_
  refine s_pure 13 (.int .i64 ((xs.length : Nat) : Int)) (by kernel_rfl) (by kernel_rfl) (fun _ => by kernel_rfl) ?_
  rcases Decidable.em (((k : Nat) : Int) < ((xs.length : Nat) : Int)) with h1 | h1
  · refine s_pure 14 (.bool true) (by kernel_rfl) (by kernel_rfl) (run_eq (v := .bool (decide (((k : Nat) : Int) < ((xs.length : Nat) : Int)))) (fun _ => by kernel_rfl) (congrArg Value.bool (by rw [decide_eq_true h1]))) ?_
    refine ops_end ?_
    refine At.env [(0, .slice a xs.length cap), (1, .slice b xs.length cap2), (4, .bool false), (5, .int .i64 ((k : Nat) : Int)), (10, .bool false), (14, .bool true)] ⟨by kernel_rfl, by kernel_rfl, by kernel_rfl, by kernel_rfl, by kernel_rfl, by kernel_rfl, trivial⟩ ?_
    refine at_then_normal ?_
    refine at_true (t := true) (x := C19 [1, 1, 0, 1, 0, 0, 0, 1, 0]) (y := C19 [1, 1, 0, 1, 0, 0, 0, 1, 1]) (o := .tmp 14) (by kernel_rfl) (by kernel_rfl) (by kernel_rfl) rfl ?_
    refine at_skip (by kernel_rfl) ?_
    refine at_then_normal ?_
    refine at_seq (x := C19 [1, 1, 0, 1, 0, 0, 1, 0]) (y := C19 [1, 1, 0, 1, 0, 0, 1, 1]) (by kernel_rfl) ?_
    refine at_block (i := 1) (x := C19 [1, 1, 0, 1, 0, 0, 1, 0, 0]) (by kernel_rfl) ?_
    refine at_seq (x := C19 [1, 1, 0, 1, 0, 0, 1, 0, 0, 0]) (y := C19 [1, 1, 0, 1, 0, 0, 1, 0, 0, 1]) (by kernel_rfl) ?_
    refine at_region_draw (id := 6) (by kernel_rfl) (by kernel_rfl) ?_
    refine d_pure 0 17 (.slice a xs.length cap) (by kernel_rfl) (by kernel_rfl) (by kernel_rfl) (fun _ => by kernel_rfl) ?_
    refine d_pure 1 18 (.int .i64 ((k : Nat) : Int)) (by kernel_rfl) (by kernel_rfl) (by kernel_rfl) (fun _ => by kernel_rfl) ?_
    refine reads_at_draw (Reads.conv (fun w hw => hw.less .refl) hr) (by omega) ?_
    intro b1 o1 ha1
    obtain ⟨x1, hx1⟩ := getAt xs (k) (by omega)
    refine d_pure 2 19 (.pointer (some ⟨b1, o1 + (k * 1 + 0), none⟩)) (by kernel_rfl) (by kernel_rfl) (by kernel_rfl) (index_at (t := 22) (sz := 1) (E := 3) (a := a) (m := xs.length) (c := cap) (b := b1) (off := o1) (i := k) (tinfo 3) (fun _ => by kernel_rfl) (by kernel_rfl) (by kernel_rfl) (by kernel_rfl) ha1 (by first | rfl | simp | omega) (by omega) rfl) ?_
    refine d_load 3 20 (.int .i64 x1) (by kernel_rfl) (by kernel_rfl) (by kernel_rfl) (load1_at (off := o1 + (k * 1 + 0)) (v := .int .i64 x1) (fun _ => by kernel_rfl) rfl (reads_cell (k := 1) (Reads.conv (fun w hw => hw.less .refl) hr) (ints_rows _) ha1 (ints_get hx1) (show [(.int .i64 x1 : Value)][0]? = some (.int .i64 x1) from rfl))) ?_
    refine d_pure 4 21 (.slice b xs.length cap2) (by kernel_rfl) (by kernel_rfl) (by kernel_rfl) (fun _ => by kernel_rfl) ?_
    refine d_pure 5 22 (.int .i64 ((k : Nat) : Int)) (by kernel_rfl) (by kernel_rfl) (by kernel_rfl) (fun _ => by kernel_rfl) ?_
    refine reads_at_draw (Reads.conv (fun w hw => hw.less .refl) hr2) (by omega) ?_
    intro b2 o2 ha2
    refine d_pure 6 23 (.pointer (some ⟨b2, o2 + (k * 1 + 0), none⟩)) (by kernel_rfl) (by kernel_rfl) (by kernel_rfl) (index_at (t := 22) (sz := 1) (E := 3) (a := b) (m := xs.length) (c := cap2) (b := b2) (off := o2) (i := k) (tinfo 3) (fun _ => by kernel_rfl) (by kernel_rfl) (by kernel_rfl) (by kernel_rfl) ha2 (by first | rfl | simp | omega) (by omega) rfl) ?_
    refine d_load 7 24 (.int .i64 x1) (by kernel_rfl) (by kernel_rfl) (by kernel_rfl) (load1_at (off := o2 + (k * 1 + 0)) (v := .int .i64 x1) (fun _ => by kernel_rfl) rfl (reads_cell (k := 1) (Reads.conv (fun w hw => hw.less .refl) hr2) (ints_rows _) ha2 (ints_get hx1) (show [(.int .i64 x1 : Value)][0]? = some (.int .i64 x1) from rfl))) ?_
    refine d_pure 8 25 (.bool false) (by kernel_rfl) (by kernel_rfl) (by kernel_rfl) (run_eq (v := .bool (!(decide (x1 = x1)))) (fun _ => by kernel_rfl) (congrArg Value.bool (by rw [decide_eq_true rfl]; rfl))) ?_
    refine draw_end (by kernel_rfl) ?_
    refine At.env [(0, .slice a xs.length cap), (1, .slice b xs.length cap2), (4, .bool false), (5, .int .i64 ((k : Nat) : Int)), (10, .bool false), (14, .bool true), (25, .bool false)] ⟨by kernel_rfl, by kernel_rfl, by kernel_rfl, by kernel_rfl, by kernel_rfl, by kernel_rfl, by kernel_rfl, trivial⟩ ?_
    refine at_then_normal ?_
    refine at_false (t := false) (x := C19 [1, 1, 0, 1, 0, 0, 1, 0, 0, 1, 0]) (y := C19 [1, 1, 0, 1, 0, 0, 1, 0, 0, 1, 1]) (o := .tmp 25) (by kernel_rfl) (by kernel_rfl) (by kernel_rfl) rfl ?_
    refine at_skip (by kernel_rfl) ?_
    refine at_in_normal ?_
    refine at_then_normal ?_
    refine at_region (id := 5) 3 (by kernel_rfl) (by kernel_rfl) ?_
    refine s_pure 15 (.int .i64 ((k : Nat) : Int)) (by kernel_rfl) (by kernel_rfl) (fun _ => by kernel_rfl) ?_
    refine s_pure 16 (.int .i64 (((k : Nat) : Int) + 1)) (by kernel_rfl) (by kernel_rfl) (run_eq (v := .int .i64 (IntKind.i64.wrap (((k : Nat) : Int) + 1))) (fun _ => by kernel_rfl) (by rw [wrap_in (by omega) (by omega)])) ?_
    refine s_pure 5 (.int .i64 (((k : Nat) : Int) + 1)) (by kernel_rfl) (by kernel_rfl) (fun _ => by kernel_rfl) ?_
    refine ops_end ?_
    refine At.env [(0, .slice a xs.length cap), (1, .slice b xs.length cap2), (4, .bool false), (5, .int .i64 (((k : Nat) : Int) + 1)), (10, .bool false), (14, .bool true), (25, .bool false)] ⟨by kernel_rfl, by kernel_rfl, by kernel_rfl, by kernel_rfl, by kernel_rfl, by kernel_rfl, by kernel_rfl, trivial⟩ ?_
    refine at_round_normal ?_
    exact at_roundR (xs.length - (k + 1)) [(0, .slice a xs.length cap), (1, .slice b xs.length cap2), (4, .bool false), (5, .int .i64 (((k + 1) : Nat) : Int)), (10, .bool false)] (Γ) (by omega) ⟨by kernel_rfl, by kernel_rfl, by kernel_rfl, by kernel_rfl, by kernel_rfl, trivial⟩ (fun w hw => hw.less .refl) ⟨(k + 1), (by omega), rfl, rfl, rfl⟩
  · refine s_pure 14 (.bool false) (by kernel_rfl) (by kernel_rfl) (run_eq (v := .bool (decide (((k : Nat) : Int) < ((xs.length : Nat) : Int)))) (fun _ => by kernel_rfl) (congrArg Value.bool (by rw [decide_eq_false h1]))) ?_
    refine ops_end ?_
    refine At.env [(0, .slice a xs.length cap), (1, .slice b xs.length cap2), (4, .bool false), (5, .int .i64 ((k : Nat) : Int)), (10, .bool false), (14, .bool false)] ⟨by kernel_rfl, by kernel_rfl, by kernel_rfl, by kernel_rfl, by kernel_rfl, by kernel_rfl, trivial⟩ ?_
    refine at_then_normal ?_
    refine at_false (t := false) (x := C19 [1, 1, 0, 1, 0, 0, 0, 1, 0]) (y := C19 [1, 1, 0, 1, 0, 0, 0, 1, 1]) (o := .tmp 14) (by kernel_rfl) (by kernel_rfl) (by kernel_rfl) rfl ?_
    refine at_exit (i := 0) (by kernel_rfl) ?_
    refine at_then_exit ?_
    refine at_then_exit ?_
    refine at_in_here ?_
    refine at_then_normal ?_
    refine at_seq (x := C19 [1, 1, 1, 0]) (y := C19 [1, 1, 1, 1]) (by kernel_rfl) ?_
    refine at_region (id := 8) 1 (by kernel_rfl) (by kernel_rfl) ?_
    refine s_pure 4 (.bool true) (by kernel_rfl) (by kernel_rfl) (fun _ => by kernel_rfl) ?_
    refine ops_end ?_
    refine At.env [(0, .slice a xs.length cap), (1, .slice b xs.length cap2), (4, .bool true), (5, .int .i64 ((k : Nat) : Int)), (10, .bool false), (14, .bool false)] ⟨by kernel_rfl, by kernel_rfl, by kernel_rfl, by kernel_rfl, by kernel_rfl, by kernel_rfl, trivial⟩ ?_
    refine at_then_normal ?_
    refine at_ret (by kernel_rfl) ?_
    refine at_backR [.bool true] (Γ) (rs := [.tmp 4]) (by kernel_rfl) (.cons (.tmp (by kernel_rfl)) .nil) (fun w hw => hw.less .refl) ?_
    exact ⟨rfl, rfl⟩
theorem KSame_tr {W0 : World} {Γ : List Asn} (a : Option Addr) (m cap : Nat) (b : Option Addr) (m2 cap2 : Nat) (xs : List Int) (hm : m = xs.length) (hm2 : m2 = xs.length) (hr : Reads W0 Γ a (ints xs)) (hr2 : Reads W0 Γ b (ints xs)) (hlx : xs.length ≤ 1099511627776) : Tr Try.prog 19 #[.slice a m cap, .slice b m2 cap2] W0 Γ (fun r Δ => r = .bool true ∧ Δ = Γ) := by
  subst hm; subst hm2; exact KSame_tr0 a cap b cap2 xs hr hr2 hlx
end Go.Proofs.Ytfpiolnbnfngkaa
