/- Whether both caches are the same. -/
import Derived.Test.YtlnjnkbnppnbkaaRcA
import Derived.Test.YtlnjnkbnppnbkaaKsA
namespace Go.Proofs.Ytlnjnkbnppnbkaa
open Go Go.RowKit
set_option linter.unusedVariables false
set_option linter.unusedSimpArgs false
noncomputable def C37 (p : List Nat) : Code := codeAt (bodyOf Try.f37) p
set_option maxRecDepth 100000 in
theorem Ref_tr {W0 : World} {Γ : List Asn} (f b l u : Int) (d : Bool) (a : Option Addr) (n c : Nat) : Tr Try.prog 37 #[.agg #[.int .i64 f, .int .i64 b, .int .i64 l, .int .i64 u, .bool d, .slice a n c]] W0 (Γ) (fun r Δ => r = .agg #[.int .i64 f, .int .i64 b, .int .i64 l, .int .i64 u, .bool d, .slice a n c] ∧ Δ = Γ) := by
 refine Tr.enter (fn := Try.f37) (c := C37 []) (args := [.agg #[.int .i64 f, .int .i64 b, .int .i64 l, .int .i64 u, .bool d, .slice a n c]]) 18 Try.func37 (by kernel_rfl) (by kernel_rfl) ?_
 refine ae [(0, .agg #[.int .i64 f, .int .i64 b, .int .i64 l, .int .i64 u, .bool d, .slice a n c])] ?_
 refine aq (x := C37 [0]) (y := C37 [1]) ?_
 refine ar (id := 0) 2 ?_
 refine s_step 1 (by kernel_rfl) (by kernel_rfl) (st_new (T := 32) (cells := #[.int .i64 f, .int .i64 b, .int .i64 l, .int .i64 u, .bool d, .slice a n c]) (fun a => .pointer (some a)) (fun _ => by kernel_rfl)) ?_
 rintro _ _ ⟨b0_0, rfl, rfl⟩
 refine s_step 2 (by kernel_rfl) (by kernel_rfl) (st_new (T := 67) (cells := #[.int .i64 (0), .int .i64 (0), .int .i64 (0), .int .i64 (0), .bool false, .slice none 0 0]) (fun a => .pointer (some a)) (fun _ => by kernel_rfl)) ?_
 rintro _ _ ⟨b0_1, rfl, rfl⟩
 refine ops_end ?_
 refine ae [(1, .pointer (some ⟨b0_0, 0, none⟩)), (2, .pointer (some ⟨b0_1, 0, none⟩))] ?_
 refine at_then_normal ?_
 refine aq (x := C37 [1,0]) (y := C37 [1,1]) ?_
 refine ar (id := 1) 16 ?_
 refine sp 3 (.pointer (some ⟨b0_0, 0, none⟩)) ?_
 refine sp 4 (.pointer (some ⟨b0_0, 0, none⟩)) ?_
 refine sl 5 (.int .i64 f) (load1 (off := 0) (fun _ => by kernel_rfl) (holds_own (.there .here)) (by kernel_rfl)) ?_
 refine sp 6 (.pointer (some ⟨b0_0, 0, none⟩)) ?_
 refine sp 7 (.pointer (some ⟨b0_0, 1, none⟩)) ?_
 refine sl 8 (.int .i64 b) (load1 (off := 1) (fun _ => by kernel_rfl) (holds_own (.there .here)) (by kernel_rfl)) ?_
 refine sp 9 (.pointer (some ⟨b0_0, 2, none⟩)) ?_
 refine sl 10 (.int .i64 l) (load1 (off := 2) (fun _ => by kernel_rfl) (holds_own (.there .here)) (by kernel_rfl)) ?_
 refine sp 11 (.pointer (some ⟨b0_0, 3, none⟩)) ?_
 refine sl 12 (.int .i64 u) (load1 (off := 3) (fun _ => by kernel_rfl) (holds_own (.there .here)) (by kernel_rfl)) ?_
 refine sp 13 (.pointer (some ⟨b0_0, 4, none⟩)) ?_
 refine sl 14 (.bool d) (load1 (off := 4) (fun _ => by kernel_rfl) (holds_own (.there .here)) (by kernel_rfl)) ?_
 refine sp 15 (.pointer (some ⟨b0_0, 5, none⟩)) ?_
 refine sl 16 (.slice a n c) (load1 (off := 5) (fun _ => by kernel_rfl) (holds_own (.there .here)) (by kernel_rfl)) ?_
 refine sp 17 (.agg #[.int .i64 f, .int .i64 b, .int .i64 l, .int .i64 u, .bool d, .slice a n c]) ?_
 refine s_do (by kernel_rfl) (by kernel_rfl) (st_store (off := 0) (vs := [.int .i64 f, .int .i64 b, .int .i64 l, .int .i64 u, .bool d, .slice a n c]) (c' := #[.int .i64 f, .int .i64 b, .int .i64 l, .int .i64 u, .bool d, .slice a n c]) (fun _ => by kernel_rfl) .here (by kernel_rfl) (by kernel_rfl) (by kernel_rfl)) ?_
 rintro _ _ ⟨rfl, rfl⟩
 refine ops_end ?_
 refine ae [(2, .pointer (some ⟨b0_1, 0, none⟩))] ?_
 refine at_then_normal ?_
 refine at_ret (by kernel_rfl) ?_
 refine at_backR [.agg #[.int .i64 f, .int .i64 b, .int .i64 l, .int .i64 u, .bool d, .slice a n c]] (Γ) (rs := [.cell 2 67]) (by kernel_rfl) (.cons (.cell (by kernel_rfl) (retN (off := 0) (vs := [.int .i64 f, .int .i64 b, .int .i64 l, .int .i64 u, .bool d, .slice a n c]) 6 (fun _ => by kernel_rfl) (holds_own .here) rfl (by exact ⟨rfl, rfl, rfl, rfl, rfl, rfl, trivial⟩))) .nil) (fun w hw => (Sat.less (.drop .here (.drop .here .refl)) hw)) ?_
 exact ⟨rfl, rfl⟩
end Go.Proofs.Ytlnjnkbnppnbkaa
