/- Deals in the second writing: each function answers what its plain function says. -/
import Derived.Test.YtfndeehlbcbkpaaRcA
import Derived.Test.YtfndeehlbcbkpaaSvB
import Derived.Test.YtfndeehlbcbkpaaKsA
namespace Go.Proofs.Ytfndeehlbcbkpaa
open Go Go.RowKit
set_option linter.unusedVariables false
set_option linter.unusedSimpArgs false
def rask7S (d : DealS) (node : Int) (home : Int) : Option (PktS) :=
 (bif decide (d.step = (1 : Int)) then some (⟨1, node, home, d.id, d.line, 0, 0, false, ([] : List Int)⟩ : PktS) else (bif decide (d.step = (6 : Int)) then (bif decide ((0 : Int) < (((List.length d.data) : Nat) : Int)) then chk ((d.data).length ≤ 1099511627776) (letP (d.data) fun l9_2 => some (⟨2, node, home, d.id, d.line, d.head, d.state, true, l9_2⟩ : PktS)) else some (⟨2, node, home, d.id, d.line, d.head, d.state, false, ([] : List Int)⟩ : PktS)) else (bif decide (d.step = (2 : Int)) then some (⟨3, node, d.head, d.id, d.line, node, 0, false, ([] : List Int)⟩ : PktS) else (bif decide (d.step = (3 : Int)) then some (⟨6, node, d.next, d.id, d.line, 0, 0, false, ([] : List Int)⟩ : PktS) else (bif decide (d.step = (4 : Int)) then some (⟨4, node, d.head, d.id, d.line, d.next, 0, false, ([] : List Int)⟩ : PktS) else (bif decide (d.step = (5 : Int)) then some (⟨5, node, d.next, d.id, d.line, d.head, 0, false, ([] : List Int)⟩ : PktS) else some (⟨0, 0, 0, 0, 0, 0, 0, false, ([] : List Int)⟩ : PktS)))))))
noncomputable def C68 (p : List Nat) : Code := codeAt (bodyOf Try.f68) p
set_option maxRecDepth 100000 in
set_option maxHeartbeats 8000000 in
theorem RAsk7F_tr {W0 : World} {Γ : List Asn} (da : Option Addr) (dcap : Nat) (d : DealS) (node : Int) (home : Int) (hrda : Reads W0 Γ da (ints d.data)) (y : PktS) (H : rask7S d node home = some y) : Tr Try.prog 68 #[.agg #[.int .i64 d.kind, .int .i64 d.line, .int .i64 d.id, .int .i64 d.step, .int .i64 d.state, .int .i64 d.head, .slice da (List.length d.data) dcap, .int .i64 d.next, .int .i64 d.told], .int .i64 node, .int .i64 home] W0 (Γ) (fun r Δ => ∃ (a0_0 : Option Addr) (c0_0 : Nat), r = .agg #[.int .i64 y.kind, .int .i64 y.src, .int .i64 y.dst, .int .i64 y.id, .int .i64 y.line, .int .i64 y.ptr, .int .i64 y.state, .bool y.flag, .slice a0_0 (List.length y.data) c0_0] ∧ Δ = (IntsA a0_0 c0_0 y.data) :: Γ) := by
 unfold rask7S at H
 refine Tr.enter (fn := Try.f68) (c := C68 []) (args := [.agg #[.int .i64 d.kind, .int .i64 d.line, .int .i64 d.id, .int .i64 d.step, .int .i64 d.state, .int .i64 d.head, .slice da (List.length d.data) dcap, .int .i64 d.next, .int .i64 d.told], .int .i64 node, .int .i64 home]) 75 Try.func68 (by kernel_rfl) (by kernel_rfl) ?_
 refine ae [(0, .agg #[.int .i64 d.kind, .int .i64 d.line, .int .i64 d.id, .int .i64 d.step, .int .i64 d.state, .int .i64 d.head, .slice da (List.length d.data) dcap, .int .i64 d.next, .int .i64 d.told]), (1, .int .i64 node), (2, .int .i64 home)] ?_
 refine aq (x := C68 [0]) (y := C68 [1]) ?_
 refine ar (id := 0) 2 ?_
 refine s_step 3 (by kernel_rfl) (by kernel_rfl) (st_new (T := 60) (cells := #[.int .i64 d.kind, .int .i64 d.line, .int .i64 d.id, .int .i64 d.step, .int .i64 d.state, .int .i64 d.head, .slice da (List.length d.data) dcap, .int .i64 d.next, .int .i64 d.told]) (fun a => .pointer (some a)) (fun _ => by kernel_rfl)) ?_
 rintro _ _ ⟨b0_0, rfl, rfl⟩
 refine s_step 6 (by kernel_rfl) (by kernel_rfl) (st_new (T := 33) (cells := #[.int .i64 (0), .int .i64 (0), .int .i64 (0), .int .i64 (0), .int .i64 (0), .int .i64 (0), .int .i64 (0), .bool false, .slice none 0 0]) (fun a => .pointer (some a)) (fun _ => by kernel_rfl)) ?_
 rintro _ _ ⟨b0_1, rfl, rfl⟩
 refine ops_end ?_
 refine ae [(1, .int .i64 node), (2, .int .i64 home), (3, .pointer (some ⟨b0_0, 0, none⟩)), (6, .pointer (some ⟨b0_1, 0, none⟩))] ?_
 refine at_then_normal ?_
 refine aq (x := C68 [1,0]) (y := C68 [1,1]) ?_
 refine ar (id := 1) 8 ?_
 refine sp 8 (.int .i64 node) ?_
 refine sp 9 (.pointer (some ⟨b0_0, 2, none⟩)) ?_
 refine sl 10 (.int .i64 d.id) (load1 (off := 2) (fun _ => by kernel_rfl) (holds_own (.there .here)) (by kernel_rfl)) ?_
 refine sp 11 (.pointer (some ⟨b0_0, 1, none⟩)) ?_
 refine sl 12 (.int .i64 d.line) (load1 (off := 1) (fun _ => by kernel_rfl) (holds_own (.there .here)) (by kernel_rfl)) ?_
 refine sp 13 (.agg #[.int .i64 (0), .int .i64 node, .int .i64 (0), .int .i64 d.id, .int .i64 d.line, .int .i64 (0), .int .i64 (0), .bool false, .slice none 0 0]) ?_
 refine s_step 7 (by kernel_rfl) (by kernel_rfl) (st_new (T := 33) (cells := #[.int .i64 (0), .int .i64 (0), .int .i64 (0), .int .i64 (0), .int .i64 (0), .int .i64 (0), .int .i64 (0), .bool false, .slice none 0 0]) (fun a => .pointer (some a)) (fun _ => by kernel_rfl)) ?_
 rintro _ _ ⟨b1_6, rfl, rfl⟩
 refine s_do (by kernel_rfl) (by kernel_rfl) (st_store (off := 0) (vs := [.int .i64 (0), .int .i64 node, .int .i64 (0), .int .i64 d.id, .int .i64 d.line, .int .i64 (0), .int .i64 (0), .bool false, .slice none 0 0]) (c' := #[.int .i64 (0), .int .i64 node, .int .i64 (0), .int .i64 d.id, .int .i64 d.line, .int .i64 (0), .int .i64 (0), .bool false, .slice none 0 0]) (fun _ => by kernel_rfl) .here (by kernel_rfl) (by kernel_rfl) (by kernel_rfl)) ?_
 rintro _ _ ⟨rfl, rfl⟩
 refine ops_end ?_
 refine ae [(1, .int .i64 node), (2, .int .i64 home), (3, .pointer (some ⟨b0_0, 0, none⟩)), (6, .pointer (some ⟨b0_1, 0, none⟩)), (7, .pointer (some ⟨b1_6, 0, none⟩))] ?_
 refine at_then_normal ?_
 refine aq (x := C68 [1,1,0]) (y := C68 [1,1,1]) ?_
 refine aq (x := C68 [1,1,0,0]) (y := C68 [1,1,0,1]) ?_
 refine ar (id := 2) 2 ?_
 refine sp 14 (.pointer (some ⟨b0_0, 3, none⟩)) ?_
 refine sl 15 (.int .i64 d.step) (load1 (off := 3) (fun _ => by kernel_rfl) (holds_own (.there (.there .here))) (by kernel_rfl)) ?_
 refine ops_end ?_
 refine ae [(1, .int .i64 node), (2, .int .i64 home), (3, .pointer (some ⟨b0_0, 0, none⟩)), (6, .pointer (some ⟨b0_1, 0, none⟩)), (7, .pointer (some ⟨b1_6, 0, none⟩)), (15, .int .i64 d.step)] ?_
 refine at_then_normal ?_
 refine at_block (i := 0) (x := C68 [1,1,0,1,0]) (by kernel_rfl) ?_
 refine aq (x := C68 [1,1,0,1,0,0]) (y := C68 [1,1,0,1,0,1]) ?_
 refine ar (id := 4) 2 ?_
 refine sp 18 (.bool (decide (d.step = (1 : Int)))) ?_
 refine sp 17 (.bool (decide (d.step = (1 : Int)))) ?_
 refine ops_end ?_
 refine ae [(1, .int .i64 node), (2, .int .i64 home), (3, .pointer (some ⟨b0_0, 0, none⟩)), (6, .pointer (some ⟨b0_1, 0, none⟩)), (7, .pointer (some ⟨b1_6, 0, none⟩)), (15, .int .i64 d.step), (17, .bool (decide (d.step = (1 : Int))))] ?_
 refine at_then_normal ?_
 rcases Bool.eq_false_or_eq_true (decide (d.step = (1 : Int))) with h1 | h1
 ·replace H := bifT H h1
  refine at_true (t := decide (d.step = (1 : Int))) (x := C68 [1,1,0,1,0,1,0]) (y := C68 [1,1,0,1,0,1,1]) (o := .tmp 17) (by kernel_rfl) (by kernel_rfl) (by kernel_rfl) h1 ?_
  refine ar (id := 5) 5 ?_
  refine sp 19 (.int .i64 home) ?_
  refine sp 20 (.pointer (some ⟨b1_6, 0, none⟩)) ?_
  refine s_do (by kernel_rfl) (by kernel_rfl) (st_store (off := 0) (vs := [.int .i64 (1)]) (c' := #[.int .i64 (1), .int .i64 node, .int .i64 (0), .int .i64 d.id, .int .i64 d.line, .int .i64 (0), .int .i64 (0), .bool false, .slice none 0 0]) (fun _ => by kernel_rfl) .here (by kernel_rfl) (by kernel_rfl) (by kernel_rfl)) ?_
  rintro _ _ ⟨rfl, rfl⟩
  refine sp 21 (.pointer (some ⟨b1_6, 2, none⟩)) ?_
  refine s_do (by kernel_rfl) (by kernel_rfl) (st_store (off := 2) (vs := [.int .i64 home]) (c' := #[.int .i64 (1), .int .i64 node, .int .i64 home, .int .i64 d.id, .int .i64 d.line, .int .i64 (0), .int .i64 (0), .bool false, .slice none 0 0]) (fun _ => by kernel_rfl) .here (by kernel_rfl) (by kernel_rfl) (by kernel_rfl)) ?_
  rintro _ _ ⟨rfl, rfl⟩
  refine ops_end ?_
  refine ae [(6, .pointer (some ⟨b0_1, 0, none⟩)), (7, .pointer (some ⟨b1_6, 0, none⟩))] ?_
  refine at_in_normal ?_
  refine at_then_normal ?_
  refine aq (x := C68 [1,1,1,0]) (y := C68 [1,1,1,1]) ?_
  refine ar (id := 18) 2 ?_
  refine sl 74 (.agg #[.int .i64 (1), .int .i64 node, .int .i64 home, .int .i64 d.id, .int .i64 d.line, .int .i64 (0), .int .i64 (0), .bool false, .slice none 0 0]) (loadN (off := 0) (vs := [.int .i64 (1), .int .i64 node, .int .i64 home, .int .i64 d.id, .int .i64 d.line, .int .i64 (0), .int .i64 (0), .bool false, .slice none 0 0]) 9 (fun _ => by kernel_rfl) (holds_own .here) rfl (by exact ⟨rfl, rfl, rfl, rfl, rfl, rfl, rfl, rfl, rfl, trivial⟩)) ?_
  refine s_do (by kernel_rfl) (by kernel_rfl) (st_store (off := 0) (vs := [.int .i64 (1), .int .i64 node, .int .i64 home, .int .i64 d.id, .int .i64 d.line, .int .i64 (0), .int .i64 (0), .bool false, .slice none 0 0]) (c' := #[.int .i64 (1), .int .i64 node, .int .i64 home, .int .i64 d.id, .int .i64 d.line, .int .i64 (0), .int .i64 (0), .bool false, .slice none 0 0]) (fun _ => by kernel_rfl) (.there .here) (by kernel_rfl) (by kernel_rfl) (by kernel_rfl)) ?_
  rintro _ _ ⟨rfl, rfl⟩
  refine ops_end ?_
  refine ae [(6, .pointer (some ⟨b0_1, 0, none⟩))] ?_
  refine at_then_normal ?_
  refine at_ret (by kernel_rfl) ?_
  obtain rfl := someE H
  refine at_backR [.agg #[.int .i64 (1), .int .i64 node, .int .i64 home, .int .i64 d.id, .int .i64 d.line, .int .i64 (0), .int .i64 (0), .bool false, .slice none 0 0]] ((IntsA none 0 ([] : List Int)) :: Γ) (rs := [.cell 6 33]) (by kernel_rfl) (.cons (.cell (by kernel_rfl) (retN (off := 0) (vs := [.int .i64 (1), .int .i64 node, .int .i64 home, .int .i64 d.id, .int .i64 d.line, .int .i64 (0), .int .i64 (0), .bool false, .slice none 0 0]) 9 (fun _ => by kernel_rfl) (holds_own .here) rfl (by exact ⟨rfl, rfl, rfl, rfl, rfl, rfl, rfl, rfl, rfl, trivial⟩))) .nil) (fun w hw => (Sat.less (.take .here (.drop .here (.drop .here (.drop .here .refl)))) (RowsA.none_mk (k := 1) (a := none) hw))) ?_
  exact ⟨none, 0, rfl, rfl⟩
 ·replace H := bifF H h1
  refine at_false (t := decide (d.step = (1 : Int))) (x := C68 [1,1,0,1,0,1,0]) (y := C68 [1,1,0,1,0,1,1]) (o := .tmp 17) (by kernel_rfl) (by kernel_rfl) (by kernel_rfl) h1 ?_
  refine aq (x := C68 [1,1,0,1,0,1,1,0]) (y := C68 [1,1,0,1,0,1,1,1]) ?_
  refine ar (id := 6) 2 ?_
  refine sp 23 (.bool (decide (d.step = (6 : Int)))) ?_
  refine sp 22 (.bool (decide (d.step = (6 : Int)))) ?_
  refine ops_end ?_
  refine ae [(1, .int .i64 node), (2, .int .i64 home), (3, .pointer (some ⟨b0_0, 0, none⟩)), (6, .pointer (some ⟨b0_1, 0, none⟩)), (7, .pointer (some ⟨b1_6, 0, none⟩)), (15, .int .i64 d.step), (22, .bool (decide (d.step = (6 : Int))))] ?_
  refine at_then_normal ?_
  rcases Bool.eq_false_or_eq_true (decide (d.step = (6 : Int))) with h2 | h2
  ·replace H := bifT H h2
   refine at_true (t := decide (d.step = (6 : Int))) (x := C68 [1,1,0,1,0,1,1,1,0]) (y := C68 [1,1,0,1,0,1,1,1,1]) (o := .tmp 22) (by kernel_rfl) (by kernel_rfl) (by kernel_rfl) h2 ?_
   refine aq (x := C68 [1,1,0,1,0,1,1,1,0,0]) (y := C68 [1,1,0,1,0,1,1,1,0,1]) ?_
   refine at_region_draw (id := 7) (by kernel_rfl) (by kernel_rfl) ?_
   refine dp 0 24 (.int .i64 home) ?_
   refine dp 1 25 (.pointer (some ⟨b0_0, 4, none⟩)) ?_
   refine dl 2 26 (.int .i64 d.state) (load1 (off := 4) (fun _ => by kernel_rfl) (holds_own (.there (.there .here))) (by kernel_rfl)) ?_
   refine dp 3 27 (.pointer (some ⟨b0_0, 5, none⟩)) ?_
   refine dl 4 28 (.int .i64 d.head) (load1 (off := 5) (fun _ => by kernel_rfl) (holds_own (.there (.there .here))) (by kernel_rfl)) ?_
   refine dp 5 29 (.pointer (some ⟨b1_6, 0, none⟩)) ?_
   refine d_do 6 [5] [3, 1, 0] [4, 2] (by kernel_rfl) (by kernel_rfl) (by kernel_rfl) (st_store (off := 0) (vs := [.int .i64 (2)]) (c' := #[.int .i64 (2), .int .i64 node, .int .i64 (0), .int .i64 d.id, .int .i64 d.line, .int .i64 (0), .int .i64 (0), .bool false, .slice none 0 0]) (fun _ => by kernel_rfl) .here (by kernel_rfl) (by kernel_rfl) (by kernel_rfl)) ?_
   rintro _ _ ⟨rfl, rfl⟩
   refine ⟨(stable_cons 4 28 (.int .i64 d.head) (by kernel_rfl) (by kernel_rfl) (by kernel_rfl) (load1 (off := 5) (fun _ => by kernel_rfl) (holds_own (.there (.there .here))) (by kernel_rfl)) (stable_cons 2 26 (.int .i64 d.state) (by kernel_rfl) (by kernel_rfl) (by kernel_rfl) (load1 (off := 4) (fun _ => by kernel_rfl) (holds_own (.there (.there .here))) (by kernel_rfl)) stable_nil)), ?_⟩
   refine dp 7 30 (.pointer (some ⟨b1_6, 2, none⟩)) ?_
   refine d_do 8 [7, 0, 6, 5] [3, 1] [4, 2] (by kernel_rfl) (by kernel_rfl) (by kernel_rfl) (st_store (off := 2) (vs := [.int .i64 home]) (c' := #[.int .i64 (2), .int .i64 node, .int .i64 home, .int .i64 d.id, .int .i64 d.line, .int .i64 (0), .int .i64 (0), .bool false, .slice none 0 0]) (fun _ => by kernel_rfl) .here (by kernel_rfl) (by kernel_rfl) (by kernel_rfl)) ?_
   rintro _ _ ⟨rfl, rfl⟩
   refine ⟨(stable_cons 4 28 (.int .i64 d.head) (by kernel_rfl) (by kernel_rfl) (by kernel_rfl) (load1 (off := 5) (fun _ => by kernel_rfl) (holds_own (.there (.there .here))) (by kernel_rfl)) (stable_cons 2 26 (.int .i64 d.state) (by kernel_rfl) (by kernel_rfl) (by kernel_rfl) (load1 (off := 4) (fun _ => by kernel_rfl) (holds_own (.there (.there .here))) (by kernel_rfl)) stable_nil)), ?_⟩
   refine dp 9 31 (.pointer (some ⟨b1_6, 6, none⟩)) ?_
   refine d_do 10 [9, 2, 8, 0, 1, 5, 6, 7] [3] [4] (by kernel_rfl) (by kernel_rfl) (by kernel_rfl) (st_store (off := 6) (vs := [.int .i64 d.state]) (c' := #[.int .i64 (2), .int .i64 node, .int .i64 home, .int .i64 d.id, .int .i64 d.line, .int .i64 (0), .int .i64 d.state, .bool false, .slice none 0 0]) (fun _ => by kernel_rfl) .here (by kernel_rfl) (by kernel_rfl) (by kernel_rfl)) ?_
   rintro _ _ ⟨rfl, rfl⟩
   refine ⟨(stable_cons 4 28 (.int .i64 d.head) (by kernel_rfl) (by kernel_rfl) (by kernel_rfl) (load1 (off := 5) (fun _ => by kernel_rfl) (holds_own (.there (.there .here))) (by kernel_rfl)) stable_nil), ?_⟩
   refine dp 11 32 (.pointer (some ⟨b1_6, 5, none⟩)) ?_
   refine d_do 12 [11, 4, 10, 0, 1, 2, 3, 5, 6, 7, 8, 9] [] [] (by kernel_rfl) (by kernel_rfl) (by kernel_rfl) (st_store (off := 5) (vs := [.int .i64 d.head]) (c' := #[.int .i64 (2), .int .i64 node, .int .i64 home, .int .i64 d.id, .int .i64 d.line, .int .i64 d.head, .int .i64 d.state, .bool false, .slice none 0 0]) (fun _ => by kernel_rfl) .here (by kernel_rfl) (by kernel_rfl) (by kernel_rfl)) ?_
   rintro _ _ ⟨rfl, rfl⟩
   refine ⟨stable_nil, ?_⟩
   refine draw_end (by kernel_rfl) ?_
   refine ae [(3, .pointer (some ⟨b0_0, 0, none⟩)), (6, .pointer (some ⟨b0_1, 0, none⟩)), (7, .pointer (some ⟨b1_6, 0, none⟩))] ?_
   refine at_then_normal ?_
   refine aq (x := C68 [1,1,0,1,0,1,1,1,0,1,0]) (y := C68 [1,1,0,1,0,1,1,1,0,1,1]) ?_
   refine ar (id := 8) 4 ?_
   refine sp 33 (.pointer (some ⟨b0_0, 6, none⟩)) ?_
   refine sl 34 (.slice da (List.length d.data) dcap) (load1 (off := 6) (fun _ => by kernel_rfl) (holds_own (.there (.there .here))) (by kernel_rfl)) ?_
   refine sp 35 (.int .i64 (((List.length d.data) : Nat) : Int)) ?_
   refine sp 36 (.bool (decide ((0 : Int) < (((List.length d.data) : Nat) : Int)))) ?_
   refine ops_end ?_
   refine ae [(3, .pointer (some ⟨b0_0, 0, none⟩)), (6, .pointer (some ⟨b0_1, 0, none⟩)), (7, .pointer (some ⟨b1_6, 0, none⟩)), (36, .bool (decide ((0 : Int) < (((List.length d.data) : Nat) : Int))))] ?_
   refine at_then_normal ?_
   rcases Bool.eq_false_or_eq_true (decide ((0 : Int) < (((List.length d.data) : Nat) : Int))) with h3 | h3
   ·replace H := bifT H h3
    refine at_true (t := decide ((0 : Int) < (((List.length d.data) : Nat) : Int))) (x := C68 [1,1,0,1,0,1,1,1,0,1,1,0]) (y := C68 [1,1,0,1,0,1,1,1,0,1,1,1]) (o := .tmp 36) (by kernel_rfl) (by kernel_rfl) (by kernel_rfl) h3 ?_
    refine ar (id := 9) 7 ?_
    refine sp 37 (.pointer (some ⟨b0_0, 6, none⟩)) ?_
    refine sl 38 (.slice da (List.length d.data) dcap) (load1 (off := 6) (fun _ => by kernel_rfl) (holds_own (.there (.there .here))) (by kernel_rfl)) ?_
    obtain ⟨hc9_2_0, H⟩ := chkE H
    obtain ⟨l9_2, hl9_2, H⟩ := letE H
    refine s_step 39 (by kernel_rfl) (by kernel_rfl) (StepTo.conv (fun w hw => RowsA.none_mk (k := 1) (a := none) hw) (st_append_ints (xs := ([] : List Int)) (ys := d.data) (zs := l9_2) (m1 := 0) (m2 := (List.length d.data)) (m := List.length l9_2) (cap2 := dcap) 22 22 3 (tinfo 3) (fun _ => by kernel_rfl) (by kernel_rfl) (by kernel_rfl) (by kernel_rfl) (by kernel_rfl) (by kernel_rfl) .here (Reads.conv (fun w hw => hw.less (.drop .here (.drop .here (.drop .here (.drop .here .refl))))) hrda) (by first | rfl | simp) (by first | rfl | simp) (by rw [← hl9_2]; first | done | simp) (by rw [← hl9_2]; first | done | simp) (by rw [← hl9_2]; exact hc9_2_0))) ?_
    rintro _ _ ⟨a9_2, c9_2, rfl, rfl⟩
    refine sp 40 (.pointer (some ⟨b1_6, 7, none⟩)) ?_
    refine s_do (by kernel_rfl) (by kernel_rfl) (st_store (off := 7) (vs := [.bool true]) (c' := #[.int .i64 (2), .int .i64 node, .int .i64 home, .int .i64 d.id, .int .i64 d.line, .int .i64 d.head, .int .i64 d.state, .bool true, .slice none 0 0]) (fun _ => by kernel_rfl) (.there .here) (by kernel_rfl) (by kernel_rfl) (by kernel_rfl)) ?_
    rintro _ _ ⟨rfl, rfl⟩
    refine sp 41 (.pointer (some ⟨b1_6, 8, none⟩)) ?_
    refine s_do (by kernel_rfl) (by kernel_rfl) (st_store (off := 8) (vs := [.slice a9_2 (List.length l9_2) c9_2]) (c' := #[.int .i64 (2), .int .i64 node, .int .i64 home, .int .i64 d.id, .int .i64 d.line, .int .i64 d.head, .int .i64 d.state, .bool true, .slice a9_2 (List.length l9_2) c9_2]) (fun _ => by kernel_rfl) .here (by kernel_rfl) (by kernel_rfl) (by kernel_rfl)) ?_
    rintro _ _ ⟨rfl, rfl⟩
    refine ops_end ?_
    refine ae [(6, .pointer (some ⟨b0_1, 0, none⟩)), (7, .pointer (some ⟨b1_6, 0, none⟩))] ?_
    refine at_in_normal ?_
    refine at_then_normal ?_
    refine aq (x := C68 [1,1,1,0]) (y := C68 [1,1,1,1]) ?_
    refine ar (id := 18) 2 ?_
    refine sl 74 (.agg #[.int .i64 (2), .int .i64 node, .int .i64 home, .int .i64 d.id, .int .i64 d.line, .int .i64 d.head, .int .i64 d.state, .bool true, .slice a9_2 (List.length l9_2) c9_2]) (loadN (off := 0) (vs := [.int .i64 (2), .int .i64 node, .int .i64 home, .int .i64 d.id, .int .i64 d.line, .int .i64 d.head, .int .i64 d.state, .bool true, .slice a9_2 (List.length l9_2) c9_2]) 9 (fun _ => by kernel_rfl) (holds_own .here) rfl (by exact ⟨rfl, rfl, rfl, rfl, rfl, rfl, rfl, rfl, rfl, trivial⟩)) ?_
    refine s_do (by kernel_rfl) (by kernel_rfl) (st_store (off := 0) (vs := [.int .i64 (2), .int .i64 node, .int .i64 home, .int .i64 d.id, .int .i64 d.line, .int .i64 d.head, .int .i64 d.state, .bool true, .slice a9_2 (List.length l9_2) c9_2]) (c' := #[.int .i64 (2), .int .i64 node, .int .i64 home, .int .i64 d.id, .int .i64 d.line, .int .i64 d.head, .int .i64 d.state, .bool true, .slice a9_2 (List.length l9_2) c9_2]) (fun _ => by kernel_rfl) (.there (.there .here)) (by kernel_rfl) (by kernel_rfl) (by kernel_rfl)) ?_
    rintro _ _ ⟨rfl, rfl⟩
    refine ops_end ?_
    refine ae [(6, .pointer (some ⟨b0_1, 0, none⟩))] ?_
    refine at_then_normal ?_
    refine at_ret (by kernel_rfl) ?_
    obtain rfl := someE H
    refine at_backR [.agg #[.int .i64 (2), .int .i64 node, .int .i64 home, .int .i64 d.id, .int .i64 d.line, .int .i64 d.head, .int .i64 d.state, .bool true, .slice a9_2 (List.length l9_2) c9_2]] ((IntsA a9_2 c9_2 l9_2) :: Γ) (rs := [.cell 6 33]) (by kernel_rfl) (.cons (.cell (by kernel_rfl) (retN (off := 0) (vs := [.int .i64 (2), .int .i64 node, .int .i64 home, .int .i64 d.id, .int .i64 d.line, .int .i64 d.head, .int .i64 d.state, .bool true, .slice a9_2 (List.length l9_2) c9_2]) 9 (fun _ => by kernel_rfl) (holds_own .here) rfl (by exact ⟨rfl, rfl, rfl, rfl, rfl, rfl, rfl, rfl, rfl, trivial⟩))) .nil) (fun w hw => (Sat.less (.take (.there (.there .here)) (.drop .here (.drop .here (.drop .here .refl)))) hw)) ?_
    exact ⟨a9_2, c9_2, rfl, rfl⟩
   ·replace H := bifF H h3
    refine at_false (t := decide ((0 : Int) < (((List.length d.data) : Nat) : Int))) (x := C68 [1,1,0,1,0,1,1,1,0,1,1,0]) (y := C68 [1,1,0,1,0,1,1,1,0,1,1,1]) (o := .tmp 36) (by kernel_rfl) (by kernel_rfl) (by kernel_rfl) h3 ?_
    refine at_skip (by kernel_rfl) ?_
    refine at_in_normal ?_
    refine at_then_normal ?_
    refine aq (x := C68 [1,1,1,0]) (y := C68 [1,1,1,1]) ?_
    refine ar (id := 18) 2 ?_
    refine sl 74 (.agg #[.int .i64 (2), .int .i64 node, .int .i64 home, .int .i64 d.id, .int .i64 d.line, .int .i64 d.head, .int .i64 d.state, .bool false, .slice none 0 0]) (loadN (off := 0) (vs := [.int .i64 (2), .int .i64 node, .int .i64 home, .int .i64 d.id, .int .i64 d.line, .int .i64 d.head, .int .i64 d.state, .bool false, .slice none 0 0]) 9 (fun _ => by kernel_rfl) (holds_own .here) rfl (by exact ⟨rfl, rfl, rfl, rfl, rfl, rfl, rfl, rfl, rfl, trivial⟩)) ?_
    refine s_do (by kernel_rfl) (by kernel_rfl) (st_store (off := 0) (vs := [.int .i64 (2), .int .i64 node, .int .i64 home, .int .i64 d.id, .int .i64 d.line, .int .i64 d.head, .int .i64 d.state, .bool false, .slice none 0 0]) (c' := #[.int .i64 (2), .int .i64 node, .int .i64 home, .int .i64 d.id, .int .i64 d.line, .int .i64 d.head, .int .i64 d.state, .bool false, .slice none 0 0]) (fun _ => by kernel_rfl) (.there .here) (by kernel_rfl) (by kernel_rfl) (by kernel_rfl)) ?_
    rintro _ _ ⟨rfl, rfl⟩
    refine ops_end ?_
    refine ae [(6, .pointer (some ⟨b0_1, 0, none⟩))] ?_
    refine at_then_normal ?_
    refine at_ret (by kernel_rfl) ?_
    obtain rfl := someE H
    refine at_backR [.agg #[.int .i64 (2), .int .i64 node, .int .i64 home, .int .i64 d.id, .int .i64 d.line, .int .i64 d.head, .int .i64 d.state, .bool false, .slice none 0 0]] ((IntsA none 0 ([] : List Int)) :: Γ) (rs := [.cell 6 33]) (by kernel_rfl) (.cons (.cell (by kernel_rfl) (retN (off := 0) (vs := [.int .i64 (2), .int .i64 node, .int .i64 home, .int .i64 d.id, .int .i64 d.line, .int .i64 d.head, .int .i64 d.state, .bool false, .slice none 0 0]) 9 (fun _ => by kernel_rfl) (holds_own .here) rfl (by exact ⟨rfl, rfl, rfl, rfl, rfl, rfl, rfl, rfl, rfl, trivial⟩))) .nil) (fun w hw => (Sat.less (.take .here (.drop .here (.drop .here (.drop .here .refl)))) (RowsA.none_mk (k := 1) (a := none) hw))) ?_
    exact ⟨none, 0, rfl, rfl⟩
  ·replace H := bifF H h2
   refine at_false (t := decide (d.step = (6 : Int))) (x := C68 [1,1,0,1,0,1,1,1,0]) (y := C68 [1,1,0,1,0,1,1,1,1]) (o := .tmp 22) (by kernel_rfl) (by kernel_rfl) (by kernel_rfl) h2 ?_
   refine aq (x := C68 [1,1,0,1,0,1,1,1,1,0]) (y := C68 [1,1,0,1,0,1,1,1,1,1]) ?_
   refine ar (id := 10) 2 ?_
   refine sp 43 (.bool (decide (d.step = (2 : Int)))) ?_
   refine sp 42 (.bool (decide (d.step = (2 : Int)))) ?_
   refine ops_end ?_
   refine ae [(1, .int .i64 node), (3, .pointer (some ⟨b0_0, 0, none⟩)), (6, .pointer (some ⟨b0_1, 0, none⟩)), (7, .pointer (some ⟨b1_6, 0, none⟩)), (15, .int .i64 d.step), (42, .bool (decide (d.step = (2 : Int))))] ?_
   refine at_then_normal ?_
   rcases Bool.eq_false_or_eq_true (decide (d.step = (2 : Int))) with h4 | h4
   ·replace H := bifT H h4
    refine at_true (t := decide (d.step = (2 : Int))) (x := C68 [1,1,0,1,0,1,1,1,1,1,0]) (y := C68 [1,1,0,1,0,1,1,1,1,1,1]) (o := .tmp 42) (by kernel_rfl) (by kernel_rfl) (by kernel_rfl) h4 ?_
    refine at_region_draw (id := 11) (by kernel_rfl) (by kernel_rfl) ?_
    refine dp 0 44 (.pointer (some ⟨b0_0, 5, none⟩)) ?_
    refine dl 1 45 (.int .i64 d.head) (load1 (off := 5) (fun _ => by kernel_rfl) (holds_own (.there (.there .here))) (by kernel_rfl)) ?_
    refine dp 2 46 (.int .i64 node) ?_
    refine dp 3 47 (.pointer (some ⟨b1_6, 0, none⟩)) ?_
    refine d_do 4 [3] [2, 0] [1] (by kernel_rfl) (by kernel_rfl) (by kernel_rfl) (st_store (off := 0) (vs := [.int .i64 (3)]) (c' := #[.int .i64 (3), .int .i64 node, .int .i64 (0), .int .i64 d.id, .int .i64 d.line, .int .i64 (0), .int .i64 (0), .bool false, .slice none 0 0]) (fun _ => by kernel_rfl) .here (by kernel_rfl) (by kernel_rfl) (by kernel_rfl)) ?_
    rintro _ _ ⟨rfl, rfl⟩
    refine ⟨(stable_cons 1 45 (.int .i64 d.head) (by kernel_rfl) (by kernel_rfl) (by kernel_rfl) (load1 (off := 5) (fun _ => by kernel_rfl) (holds_own (.there (.there .here))) (by kernel_rfl)) stable_nil), ?_⟩
    refine dp 5 48 (.pointer (some ⟨b1_6, 2, none⟩)) ?_
    refine d_do 6 [5, 1, 4, 0, 3] [2] [] (by kernel_rfl) (by kernel_rfl) (by kernel_rfl) (st_store (off := 2) (vs := [.int .i64 d.head]) (c' := #[.int .i64 (3), .int .i64 node, .int .i64 d.head, .int .i64 d.id, .int .i64 d.line, .int .i64 (0), .int .i64 (0), .bool false, .slice none 0 0]) (fun _ => by kernel_rfl) .here (by kernel_rfl) (by kernel_rfl) (by kernel_rfl)) ?_
    rintro _ _ ⟨rfl, rfl⟩
    refine ⟨stable_nil, ?_⟩
    refine dp 7 49 (.pointer (some ⟨b1_6, 5, none⟩)) ?_
    refine d_do 8 [7, 2, 6, 0, 1, 3, 4, 5] [] [] (by kernel_rfl) (by kernel_rfl) (by kernel_rfl) (st_store (off := 5) (vs := [.int .i64 node]) (c' := #[.int .i64 (3), .int .i64 node, .int .i64 d.head, .int .i64 d.id, .int .i64 d.line, .int .i64 node, .int .i64 (0), .bool false, .slice none 0 0]) (fun _ => by kernel_rfl) .here (by kernel_rfl) (by kernel_rfl) (by kernel_rfl)) ?_
    rintro _ _ ⟨rfl, rfl⟩
    refine ⟨stable_nil, ?_⟩
    refine draw_end (by kernel_rfl) ?_
    refine ae [(6, .pointer (some ⟨b0_1, 0, none⟩)), (7, .pointer (some ⟨b1_6, 0, none⟩))] ?_
    refine at_in_normal ?_
    refine at_then_normal ?_
    refine aq (x := C68 [1,1,1,0]) (y := C68 [1,1,1,1]) ?_
    refine ar (id := 18) 2 ?_
    refine sl 74 (.agg #[.int .i64 (3), .int .i64 node, .int .i64 d.head, .int .i64 d.id, .int .i64 d.line, .int .i64 node, .int .i64 (0), .bool false, .slice none 0 0]) (loadN (off := 0) (vs := [.int .i64 (3), .int .i64 node, .int .i64 d.head, .int .i64 d.id, .int .i64 d.line, .int .i64 node, .int .i64 (0), .bool false, .slice none 0 0]) 9 (fun _ => by kernel_rfl) (holds_own .here) rfl (by exact ⟨rfl, rfl, rfl, rfl, rfl, rfl, rfl, rfl, rfl, trivial⟩)) ?_
    refine s_do (by kernel_rfl) (by kernel_rfl) (st_store (off := 0) (vs := [.int .i64 (3), .int .i64 node, .int .i64 d.head, .int .i64 d.id, .int .i64 d.line, .int .i64 node, .int .i64 (0), .bool false, .slice none 0 0]) (c' := #[.int .i64 (3), .int .i64 node, .int .i64 d.head, .int .i64 d.id, .int .i64 d.line, .int .i64 node, .int .i64 (0), .bool false, .slice none 0 0]) (fun _ => by kernel_rfl) (.there .here) (by kernel_rfl) (by kernel_rfl) (by kernel_rfl)) ?_
    rintro _ _ ⟨rfl, rfl⟩
    refine ops_end ?_
    refine ae [(6, .pointer (some ⟨b0_1, 0, none⟩))] ?_
    refine at_then_normal ?_
    refine at_ret (by kernel_rfl) ?_
    obtain rfl := someE H
    refine at_backR [.agg #[.int .i64 (3), .int .i64 node, .int .i64 d.head, .int .i64 d.id, .int .i64 d.line, .int .i64 node, .int .i64 (0), .bool false, .slice none 0 0]] ((IntsA none 0 ([] : List Int)) :: Γ) (rs := [.cell 6 33]) (by kernel_rfl) (.cons (.cell (by kernel_rfl) (retN (off := 0) (vs := [.int .i64 (3), .int .i64 node, .int .i64 d.head, .int .i64 d.id, .int .i64 d.line, .int .i64 node, .int .i64 (0), .bool false, .slice none 0 0]) 9 (fun _ => by kernel_rfl) (holds_own .here) rfl (by exact ⟨rfl, rfl, rfl, rfl, rfl, rfl, rfl, rfl, rfl, trivial⟩))) .nil) (fun w hw => (Sat.less (.take .here (.drop .here (.drop .here (.drop .here .refl)))) (RowsA.none_mk (k := 1) (a := none) hw))) ?_
    exact ⟨none, 0, rfl, rfl⟩
   ·replace H := bifF H h4
    refine at_false (t := decide (d.step = (2 : Int))) (x := C68 [1,1,0,1,0,1,1,1,1,1,0]) (y := C68 [1,1,0,1,0,1,1,1,1,1,1]) (o := .tmp 42) (by kernel_rfl) (by kernel_rfl) (by kernel_rfl) h4 ?_
    refine aq (x := C68 [1,1,0,1,0,1,1,1,1,1,1,0]) (y := C68 [1,1,0,1,0,1,1,1,1,1,1,1]) ?_
    refine ar (id := 12) 2 ?_
    refine sp 51 (.bool (decide (d.step = (3 : Int)))) ?_
    refine sp 50 (.bool (decide (d.step = (3 : Int)))) ?_
    refine ops_end ?_
    refine ae [(3, .pointer (some ⟨b0_0, 0, none⟩)), (6, .pointer (some ⟨b0_1, 0, none⟩)), (7, .pointer (some ⟨b1_6, 0, none⟩)), (15, .int .i64 d.step), (50, .bool (decide (d.step = (3 : Int))))] ?_
    refine at_then_normal ?_
    rcases Bool.eq_false_or_eq_true (decide (d.step = (3 : Int))) with h5 | h5
    ·replace H := bifT H h5
     refine at_true (t := decide (d.step = (3 : Int))) (x := C68 [1,1,0,1,0,1,1,1,1,1,1,1,0]) (y := C68 [1,1,0,1,0,1,1,1,1,1,1,1,1]) (o := .tmp 50) (by kernel_rfl) (by kernel_rfl) (by kernel_rfl) h5 ?_
     refine at_region_draw (id := 13) (by kernel_rfl) (by kernel_rfl) ?_
     refine dp 0 52 (.pointer (some ⟨b0_0, 7, none⟩)) ?_
     refine dl 1 53 (.int .i64 d.next) (load1 (off := 7) (fun _ => by kernel_rfl) (holds_own (.there (.there .here))) (by kernel_rfl)) ?_
     refine dp 2 54 (.pointer (some ⟨b1_6, 0, none⟩)) ?_
     refine d_do 3 [2] [0] [1] (by kernel_rfl) (by kernel_rfl) (by kernel_rfl) (st_store (off := 0) (vs := [.int .i64 (6)]) (c' := #[.int .i64 (6), .int .i64 node, .int .i64 (0), .int .i64 d.id, .int .i64 d.line, .int .i64 (0), .int .i64 (0), .bool false, .slice none 0 0]) (fun _ => by kernel_rfl) .here (by kernel_rfl) (by kernel_rfl) (by kernel_rfl)) ?_
     rintro _ _ ⟨rfl, rfl⟩
     refine ⟨(stable_cons 1 53 (.int .i64 d.next) (by kernel_rfl) (by kernel_rfl) (by kernel_rfl) (load1 (off := 7) (fun _ => by kernel_rfl) (holds_own (.there (.there .here))) (by kernel_rfl)) stable_nil), ?_⟩
     refine dp 4 55 (.pointer (some ⟨b1_6, 2, none⟩)) ?_
     refine d_do 5 [4, 1, 3, 0, 2] [] [] (by kernel_rfl) (by kernel_rfl) (by kernel_rfl) (st_store (off := 2) (vs := [.int .i64 d.next]) (c' := #[.int .i64 (6), .int .i64 node, .int .i64 d.next, .int .i64 d.id, .int .i64 d.line, .int .i64 (0), .int .i64 (0), .bool false, .slice none 0 0]) (fun _ => by kernel_rfl) .here (by kernel_rfl) (by kernel_rfl) (by kernel_rfl)) ?_
     rintro _ _ ⟨rfl, rfl⟩
     refine ⟨stable_nil, ?_⟩
     refine draw_end (by kernel_rfl) ?_
     refine ae [(6, .pointer (some ⟨b0_1, 0, none⟩)), (7, .pointer (some ⟨b1_6, 0, none⟩))] ?_
     refine at_in_normal ?_
     refine at_then_normal ?_
     refine aq (x := C68 [1,1,1,0]) (y := C68 [1,1,1,1]) ?_
     refine ar (id := 18) 2 ?_
     refine sl 74 (.agg #[.int .i64 (6), .int .i64 node, .int .i64 d.next, .int .i64 d.id, .int .i64 d.line, .int .i64 (0), .int .i64 (0), .bool false, .slice none 0 0]) (loadN (off := 0) (vs := [.int .i64 (6), .int .i64 node, .int .i64 d.next, .int .i64 d.id, .int .i64 d.line, .int .i64 (0), .int .i64 (0), .bool false, .slice none 0 0]) 9 (fun _ => by kernel_rfl) (holds_own .here) rfl (by exact ⟨rfl, rfl, rfl, rfl, rfl, rfl, rfl, rfl, rfl, trivial⟩)) ?_
     refine s_do (by kernel_rfl) (by kernel_rfl) (st_store (off := 0) (vs := [.int .i64 (6), .int .i64 node, .int .i64 d.next, .int .i64 d.id, .int .i64 d.line, .int .i64 (0), .int .i64 (0), .bool false, .slice none 0 0]) (c' := #[.int .i64 (6), .int .i64 node, .int .i64 d.next, .int .i64 d.id, .int .i64 d.line, .int .i64 (0), .int .i64 (0), .bool false, .slice none 0 0]) (fun _ => by kernel_rfl) (.there .here) (by kernel_rfl) (by kernel_rfl) (by kernel_rfl)) ?_
     rintro _ _ ⟨rfl, rfl⟩
     refine ops_end ?_
     refine ae [(6, .pointer (some ⟨b0_1, 0, none⟩))] ?_
     refine at_then_normal ?_
     refine at_ret (by kernel_rfl) ?_
     obtain rfl := someE H
     refine at_backR [.agg #[.int .i64 (6), .int .i64 node, .int .i64 d.next, .int .i64 d.id, .int .i64 d.line, .int .i64 (0), .int .i64 (0), .bool false, .slice none 0 0]] ((IntsA none 0 ([] : List Int)) :: Γ) (rs := [.cell 6 33]) (by kernel_rfl) (.cons (.cell (by kernel_rfl) (retN (off := 0) (vs := [.int .i64 (6), .int .i64 node, .int .i64 d.next, .int .i64 d.id, .int .i64 d.line, .int .i64 (0), .int .i64 (0), .bool false, .slice none 0 0]) 9 (fun _ => by kernel_rfl) (holds_own .here) rfl (by exact ⟨rfl, rfl, rfl, rfl, rfl, rfl, rfl, rfl, rfl, trivial⟩))) .nil) (fun w hw => (Sat.less (.take .here (.drop .here (.drop .here (.drop .here .refl)))) (RowsA.none_mk (k := 1) (a := none) hw))) ?_
     exact ⟨none, 0, rfl, rfl⟩
    ·replace H := bifF H h5
     refine at_false (t := decide (d.step = (3 : Int))) (x := C68 [1,1,0,1,0,1,1,1,1,1,1,1,0]) (y := C68 [1,1,0,1,0,1,1,1,1,1,1,1,1]) (o := .tmp 50) (by kernel_rfl) (by kernel_rfl) (by kernel_rfl) h5 ?_
     refine aq (x := C68 [1,1,0,1,0,1,1,1,1,1,1,1,1,0]) (y := C68 [1,1,0,1,0,1,1,1,1,1,1,1,1,1]) ?_
     refine ar (id := 14) 2 ?_
     refine sp 57 (.bool (decide (d.step = (4 : Int)))) ?_
     refine sp 56 (.bool (decide (d.step = (4 : Int)))) ?_
     refine ops_end ?_
     refine ae [(3, .pointer (some ⟨b0_0, 0, none⟩)), (6, .pointer (some ⟨b0_1, 0, none⟩)), (7, .pointer (some ⟨b1_6, 0, none⟩)), (15, .int .i64 d.step), (56, .bool (decide (d.step = (4 : Int))))] ?_
     refine at_then_normal ?_
     rcases Bool.eq_false_or_eq_true (decide (d.step = (4 : Int))) with h6 | h6
     ·replace H := bifT H h6
      refine at_true (t := decide (d.step = (4 : Int))) (x := C68 [1,1,0,1,0,1,1,1,1,1,1,1,1,1,0]) (y := C68 [1,1,0,1,0,1,1,1,1,1,1,1,1,1,1]) (o := .tmp 56) (by kernel_rfl) (by kernel_rfl) (by kernel_rfl) h6 ?_
      refine at_region_draw (id := 15) (by kernel_rfl) (by kernel_rfl) ?_
      refine dp 0 58 (.pointer (some ⟨b0_0, 5, none⟩)) ?_
      refine dl 1 59 (.int .i64 d.head) (load1 (off := 5) (fun _ => by kernel_rfl) (holds_own (.there (.there .here))) (by kernel_rfl)) ?_
      refine dp 2 60 (.pointer (some ⟨b0_0, 7, none⟩)) ?_
      refine dl 3 61 (.int .i64 d.next) (load1 (off := 7) (fun _ => by kernel_rfl) (holds_own (.there (.there .here))) (by kernel_rfl)) ?_
      refine dp 4 62 (.pointer (some ⟨b1_6, 0, none⟩)) ?_
      refine d_do 5 [4] [2, 0] [3, 1] (by kernel_rfl) (by kernel_rfl) (by kernel_rfl) (st_store (off := 0) (vs := [.int .i64 (4)]) (c' := #[.int .i64 (4), .int .i64 node, .int .i64 (0), .int .i64 d.id, .int .i64 d.line, .int .i64 (0), .int .i64 (0), .bool false, .slice none 0 0]) (fun _ => by kernel_rfl) .here (by kernel_rfl) (by kernel_rfl) (by kernel_rfl)) ?_
      rintro _ _ ⟨rfl, rfl⟩
      refine ⟨(stable_cons 3 61 (.int .i64 d.next) (by kernel_rfl) (by kernel_rfl) (by kernel_rfl) (load1 (off := 7) (fun _ => by kernel_rfl) (holds_own (.there (.there .here))) (by kernel_rfl)) (stable_cons 1 59 (.int .i64 d.head) (by kernel_rfl) (by kernel_rfl) (by kernel_rfl) (load1 (off := 5) (fun _ => by kernel_rfl) (holds_own (.there (.there .here))) (by kernel_rfl)) stable_nil)), ?_⟩
      refine dp 6 63 (.pointer (some ⟨b1_6, 2, none⟩)) ?_
      refine d_do 7 [6, 1, 5, 0, 4] [2] [3] (by kernel_rfl) (by kernel_rfl) (by kernel_rfl) (st_store (off := 2) (vs := [.int .i64 d.head]) (c' := #[.int .i64 (4), .int .i64 node, .int .i64 d.head, .int .i64 d.id, .int .i64 d.line, .int .i64 (0), .int .i64 (0), .bool false, .slice none 0 0]) (fun _ => by kernel_rfl) .here (by kernel_rfl) (by kernel_rfl) (by kernel_rfl)) ?_
      rintro _ _ ⟨rfl, rfl⟩
      refine ⟨(stable_cons 3 61 (.int .i64 d.next) (by kernel_rfl) (by kernel_rfl) (by kernel_rfl) (load1 (off := 7) (fun _ => by kernel_rfl) (holds_own (.there (.there .here))) (by kernel_rfl)) stable_nil), ?_⟩
      refine dp 8 64 (.pointer (some ⟨b1_6, 5, none⟩)) ?_
      refine d_do 9 [8, 3, 7, 0, 1, 2, 4, 5, 6] [] [] (by kernel_rfl) (by kernel_rfl) (by kernel_rfl) (st_store (off := 5) (vs := [.int .i64 d.next]) (c' := #[.int .i64 (4), .int .i64 node, .int .i64 d.head, .int .i64 d.id, .int .i64 d.line, .int .i64 d.next, .int .i64 (0), .bool false, .slice none 0 0]) (fun _ => by kernel_rfl) .here (by kernel_rfl) (by kernel_rfl) (by kernel_rfl)) ?_
      rintro _ _ ⟨rfl, rfl⟩
      refine ⟨stable_nil, ?_⟩
      refine draw_end (by kernel_rfl) ?_
      refine ae [(6, .pointer (some ⟨b0_1, 0, none⟩)), (7, .pointer (some ⟨b1_6, 0, none⟩))] ?_
      refine at_in_normal ?_
      refine at_then_normal ?_
      refine aq (x := C68 [1,1,1,0]) (y := C68 [1,1,1,1]) ?_
      refine ar (id := 18) 2 ?_
      refine sl 74 (.agg #[.int .i64 (4), .int .i64 node, .int .i64 d.head, .int .i64 d.id, .int .i64 d.line, .int .i64 d.next, .int .i64 (0), .bool false, .slice none 0 0]) (loadN (off := 0) (vs := [.int .i64 (4), .int .i64 node, .int .i64 d.head, .int .i64 d.id, .int .i64 d.line, .int .i64 d.next, .int .i64 (0), .bool false, .slice none 0 0]) 9 (fun _ => by kernel_rfl) (holds_own .here) rfl (by exact ⟨rfl, rfl, rfl, rfl, rfl, rfl, rfl, rfl, rfl, trivial⟩)) ?_
      refine s_do (by kernel_rfl) (by kernel_rfl) (st_store (off := 0) (vs := [.int .i64 (4), .int .i64 node, .int .i64 d.head, .int .i64 d.id, .int .i64 d.line, .int .i64 d.next, .int .i64 (0), .bool false, .slice none 0 0]) (c' := #[.int .i64 (4), .int .i64 node, .int .i64 d.head, .int .i64 d.id, .int .i64 d.line, .int .i64 d.next, .int .i64 (0), .bool false, .slice none 0 0]) (fun _ => by kernel_rfl) (.there .here) (by kernel_rfl) (by kernel_rfl) (by kernel_rfl)) ?_
      rintro _ _ ⟨rfl, rfl⟩
      refine ops_end ?_
      refine ae [(6, .pointer (some ⟨b0_1, 0, none⟩))] ?_
      refine at_then_normal ?_
      refine at_ret (by kernel_rfl) ?_
      obtain rfl := someE H
      refine at_backR [.agg #[.int .i64 (4), .int .i64 node, .int .i64 d.head, .int .i64 d.id, .int .i64 d.line, .int .i64 d.next, .int .i64 (0), .bool false, .slice none 0 0]] ((IntsA none 0 ([] : List Int)) :: Γ) (rs := [.cell 6 33]) (by kernel_rfl) (.cons (.cell (by kernel_rfl) (retN (off := 0) (vs := [.int .i64 (4), .int .i64 node, .int .i64 d.head, .int .i64 d.id, .int .i64 d.line, .int .i64 d.next, .int .i64 (0), .bool false, .slice none 0 0]) 9 (fun _ => by kernel_rfl) (holds_own .here) rfl (by exact ⟨rfl, rfl, rfl, rfl, rfl, rfl, rfl, rfl, rfl, trivial⟩))) .nil) (fun w hw => (Sat.less (.take .here (.drop .here (.drop .here (.drop .here .refl)))) (RowsA.none_mk (k := 1) (a := none) hw))) ?_
      exact ⟨none, 0, rfl, rfl⟩
     ·replace H := bifF H h6
      refine at_false (t := decide (d.step = (4 : Int))) (x := C68 [1,1,0,1,0,1,1,1,1,1,1,1,1,1,0]) (y := C68 [1,1,0,1,0,1,1,1,1,1,1,1,1,1,1]) (o := .tmp 56) (by kernel_rfl) (by kernel_rfl) (by kernel_rfl) h6 ?_
      refine aq (x := C68 [1,1,0,1,0,1,1,1,1,1,1,1,1,1,1,0]) (y := C68 [1,1,0,1,0,1,1,1,1,1,1,1,1,1,1,1]) ?_
      refine ar (id := 16) 2 ?_
      refine sp 66 (.bool (decide (d.step = (5 : Int)))) ?_
      refine sp 65 (.bool (decide (d.step = (5 : Int)))) ?_
      refine ops_end ?_
      refine ae [(3, .pointer (some ⟨b0_0, 0, none⟩)), (6, .pointer (some ⟨b0_1, 0, none⟩)), (7, .pointer (some ⟨b1_6, 0, none⟩)), (65, .bool (decide (d.step = (5 : Int))))] ?_
      refine at_then_normal ?_
      rcases Bool.eq_false_or_eq_true (decide (d.step = (5 : Int))) with h7 | h7
      ·replace H := bifT H h7
       refine at_true (t := decide (d.step = (5 : Int))) (x := C68 [1,1,0,1,0,1,1,1,1,1,1,1,1,1,1,1,0]) (y := C68 [1,1,0,1,0,1,1,1,1,1,1,1,1,1,1,1,1]) (o := .tmp 65) (by kernel_rfl) (by kernel_rfl) (by kernel_rfl) h7 ?_
       refine at_region_draw (id := 17) (by kernel_rfl) (by kernel_rfl) ?_
       refine dp 0 67 (.pointer (some ⟨b0_0, 7, none⟩)) ?_
       refine dl 1 68 (.int .i64 d.next) (load1 (off := 7) (fun _ => by kernel_rfl) (holds_own (.there (.there .here))) (by kernel_rfl)) ?_
       refine dp 2 69 (.pointer (some ⟨b0_0, 5, none⟩)) ?_
       refine dl 3 70 (.int .i64 d.head) (load1 (off := 5) (fun _ => by kernel_rfl) (holds_own (.there (.there .here))) (by kernel_rfl)) ?_
       refine dp 4 71 (.pointer (some ⟨b1_6, 0, none⟩)) ?_
       refine d_do 5 [4] [2, 0] [3, 1] (by kernel_rfl) (by kernel_rfl) (by kernel_rfl) (st_store (off := 0) (vs := [.int .i64 (5)]) (c' := #[.int .i64 (5), .int .i64 node, .int .i64 (0), .int .i64 d.id, .int .i64 d.line, .int .i64 (0), .int .i64 (0), .bool false, .slice none 0 0]) (fun _ => by kernel_rfl) .here (by kernel_rfl) (by kernel_rfl) (by kernel_rfl)) ?_
       rintro _ _ ⟨rfl, rfl⟩
       refine ⟨(stable_cons 3 70 (.int .i64 d.head) (by kernel_rfl) (by kernel_rfl) (by kernel_rfl) (load1 (off := 5) (fun _ => by kernel_rfl) (holds_own (.there (.there .here))) (by kernel_rfl)) (stable_cons 1 68 (.int .i64 d.next) (by kernel_rfl) (by kernel_rfl) (by kernel_rfl) (load1 (off := 7) (fun _ => by kernel_rfl) (holds_own (.there (.there .here))) (by kernel_rfl)) stable_nil)), ?_⟩
       refine dp 6 72 (.pointer (some ⟨b1_6, 2, none⟩)) ?_
       refine d_do 7 [6, 1, 5, 0, 4] [2] [3] (by kernel_rfl) (by kernel_rfl) (by kernel_rfl) (st_store (off := 2) (vs := [.int .i64 d.next]) (c' := #[.int .i64 (5), .int .i64 node, .int .i64 d.next, .int .i64 d.id, .int .i64 d.line, .int .i64 (0), .int .i64 (0), .bool false, .slice none 0 0]) (fun _ => by kernel_rfl) .here (by kernel_rfl) (by kernel_rfl) (by kernel_rfl)) ?_
       rintro _ _ ⟨rfl, rfl⟩
       refine ⟨(stable_cons 3 70 (.int .i64 d.head) (by kernel_rfl) (by kernel_rfl) (by kernel_rfl) (load1 (off := 5) (fun _ => by kernel_rfl) (holds_own (.there (.there .here))) (by kernel_rfl)) stable_nil), ?_⟩
       refine dp 8 73 (.pointer (some ⟨b1_6, 5, none⟩)) ?_
       refine d_do 9 [8, 3, 7, 0, 1, 2, 4, 5, 6] [] [] (by kernel_rfl) (by kernel_rfl) (by kernel_rfl) (st_store (off := 5) (vs := [.int .i64 d.head]) (c' := #[.int .i64 (5), .int .i64 node, .int .i64 d.next, .int .i64 d.id, .int .i64 d.line, .int .i64 d.head, .int .i64 (0), .bool false, .slice none 0 0]) (fun _ => by kernel_rfl) .here (by kernel_rfl) (by kernel_rfl) (by kernel_rfl)) ?_
       rintro _ _ ⟨rfl, rfl⟩
       refine ⟨stable_nil, ?_⟩
       refine draw_end (by kernel_rfl) ?_
       refine ae [(6, .pointer (some ⟨b0_1, 0, none⟩)), (7, .pointer (some ⟨b1_6, 0, none⟩))] ?_
       refine at_in_normal ?_
       refine at_then_normal ?_
       refine aq (x := C68 [1,1,1,0]) (y := C68 [1,1,1,1]) ?_
       refine ar (id := 18) 2 ?_
       refine sl 74 (.agg #[.int .i64 (5), .int .i64 node, .int .i64 d.next, .int .i64 d.id, .int .i64 d.line, .int .i64 d.head, .int .i64 (0), .bool false, .slice none 0 0]) (loadN (off := 0) (vs := [.int .i64 (5), .int .i64 node, .int .i64 d.next, .int .i64 d.id, .int .i64 d.line, .int .i64 d.head, .int .i64 (0), .bool false, .slice none 0 0]) 9 (fun _ => by kernel_rfl) (holds_own .here) rfl (by exact ⟨rfl, rfl, rfl, rfl, rfl, rfl, rfl, rfl, rfl, trivial⟩)) ?_
       refine s_do (by kernel_rfl) (by kernel_rfl) (st_store (off := 0) (vs := [.int .i64 (5), .int .i64 node, .int .i64 d.next, .int .i64 d.id, .int .i64 d.line, .int .i64 d.head, .int .i64 (0), .bool false, .slice none 0 0]) (c' := #[.int .i64 (5), .int .i64 node, .int .i64 d.next, .int .i64 d.id, .int .i64 d.line, .int .i64 d.head, .int .i64 (0), .bool false, .slice none 0 0]) (fun _ => by kernel_rfl) (.there .here) (by kernel_rfl) (by kernel_rfl) (by kernel_rfl)) ?_
       rintro _ _ ⟨rfl, rfl⟩
       refine ops_end ?_
       refine ae [(6, .pointer (some ⟨b0_1, 0, none⟩))] ?_
       refine at_then_normal ?_
       refine at_ret (by kernel_rfl) ?_
       obtain rfl := someE H
       refine at_backR [.agg #[.int .i64 (5), .int .i64 node, .int .i64 d.next, .int .i64 d.id, .int .i64 d.line, .int .i64 d.head, .int .i64 (0), .bool false, .slice none 0 0]] ((IntsA none 0 ([] : List Int)) :: Γ) (rs := [.cell 6 33]) (by kernel_rfl) (.cons (.cell (by kernel_rfl) (retN (off := 0) (vs := [.int .i64 (5), .int .i64 node, .int .i64 d.next, .int .i64 d.id, .int .i64 d.line, .int .i64 d.head, .int .i64 (0), .bool false, .slice none 0 0]) 9 (fun _ => by kernel_rfl) (holds_own .here) rfl (by exact ⟨rfl, rfl, rfl, rfl, rfl, rfl, rfl, rfl, rfl, trivial⟩))) .nil) (fun w hw => (Sat.less (.take .here (.drop .here (.drop .here (.drop .here .refl)))) (RowsA.none_mk (k := 1) (a := none) hw))) ?_
       exact ⟨none, 0, rfl, rfl⟩
      ·replace H := bifF H h7
       refine at_false (t := decide (d.step = (5 : Int))) (x := C68 [1,1,0,1,0,1,1,1,1,1,1,1,1,1,1,1,0]) (y := C68 [1,1,0,1,0,1,1,1,1,1,1,1,1,1,1,1,1]) (o := .tmp 65) (by kernel_rfl) (by kernel_rfl) (by kernel_rfl) h7 ?_
       refine aq (x := C68 [1,1,0,1,0,1,1,1,1,1,1,1,1,1,1,1,1,0]) (y := C68 [1,1,0,1,0,1,1,1,1,1,1,1,1,1,1,1,1,1]) ?_
       refine ar (id := 3) 2 ?_
       refine sp 16 (.agg #[.int .i64 (0), .int .i64 (0), .int .i64 (0), .int .i64 (0), .int .i64 (0), .int .i64 (0), .int .i64 (0), .bool false, .slice none 0 0]) ?_
       refine s_do (by kernel_rfl) (by kernel_rfl) (st_store (off := 0) (vs := [.int .i64 (0), .int .i64 (0), .int .i64 (0), .int .i64 (0), .int .i64 (0), .int .i64 (0), .int .i64 (0), .bool false, .slice none 0 0]) (c' := #[.int .i64 (0), .int .i64 (0), .int .i64 (0), .int .i64 (0), .int .i64 (0), .int .i64 (0), .int .i64 (0), .bool false, .slice none 0 0]) (fun _ => by kernel_rfl) (.there .here) (by kernel_rfl) (by kernel_rfl) (by kernel_rfl)) ?_
       rintro _ _ ⟨rfl, rfl⟩
       refine ops_end ?_
       refine ae [(6, .pointer (some ⟨b0_1, 0, none⟩))] ?_
       refine at_then_normal ?_
       refine at_ret (by kernel_rfl) ?_
       refine at_in_ret ?_
       refine at_then_ret ?_
       obtain rfl := someE H
       refine at_backR [.agg #[.int .i64 (0), .int .i64 (0), .int .i64 (0), .int .i64 (0), .int .i64 (0), .int .i64 (0), .int .i64 (0), .bool false, .slice none 0 0]] ((IntsA none 0 ([] : List Int)) :: Γ) (rs := [.cell 6 33]) (by kernel_rfl) (.cons (.cell (by kernel_rfl) (retN (off := 0) (vs := [.int .i64 (0), .int .i64 (0), .int .i64 (0), .int .i64 (0), .int .i64 (0), .int .i64 (0), .int .i64 (0), .bool false, .slice none 0 0]) 9 (fun _ => by kernel_rfl) (holds_own .here) rfl (by exact ⟨rfl, rfl, rfl, rfl, rfl, rfl, rfl, rfl, rfl, trivial⟩))) .nil) (fun w hw => (Sat.less (.take .here (.drop .here (.drop .here (.drop .here .refl)))) (RowsA.none_mk (k := 1) (a := none) hw))) ?_
       exact ⟨none, 0, rfl, rfl⟩
def rfits7S (d : DealS) (p : PktS) : Option (Bool) :=
 (rask7S d (0 : Int) (0 : Int)).bind fun y1_1 => (ransS y1_1.kind).bind fun y1_3 => (bif decide ((0 : Int) < y1_3) then (bif decide (p.kind = y1_3) then (bif decide (p.id = d.id) then some (decide (p.line = d.line)) else some false) else some false) else some false)
noncomputable def C52 (p : List Nat) : Code := codeAt (bodyOf Try.f52) p
set_option maxRecDepth 100000 in
set_option maxHeartbeats 8000000 in
theorem RFits7F_tr {W0 : World} {Γ : List Asn} (da : Option Addr) (dcap : Nat) (d : DealS) (pa : Option Addr) (pcap : Nat) (p : PktS) (hrda : Reads W0 Γ da (ints d.data)) (hrpa : Reads W0 Γ pa (ints p.data)) (y : Bool) (H : rfits7S d p = some y) : Tr Try.prog 52 #[.agg #[.int .i64 d.kind, .int .i64 d.line, .int .i64 d.id, .int .i64 d.step, .int .i64 d.state, .int .i64 d.head, .slice da (List.length d.data) dcap, .int .i64 d.next, .int .i64 d.told], .agg #[.int .i64 p.kind, .int .i64 p.src, .int .i64 p.dst, .int .i64 p.id, .int .i64 p.line, .int .i64 p.ptr, .int .i64 p.state, .bool p.flag, .slice pa (List.length p.data) pcap]] W0 (Γ) (fun r Δ => r = .bool y ∧ Δ = Γ) := by
 unfold rfits7S at H
 refine Tr.enter (fn := Try.f52) (c := C52 []) (args := [.agg #[.int .i64 d.kind, .int .i64 d.line, .int .i64 d.id, .int .i64 d.step, .int .i64 d.state, .int .i64 d.head, .slice da (List.length d.data) dcap, .int .i64 d.next, .int .i64 d.told], .agg #[.int .i64 p.kind, .int .i64 p.src, .int .i64 p.dst, .int .i64 p.id, .int .i64 p.line, .int .i64 p.ptr, .int .i64 p.state, .bool p.flag, .slice pa (List.length p.data) pcap]]) 32 Try.func52 (by kernel_rfl) (by kernel_rfl) ?_
 refine ae [(0, .agg #[.int .i64 d.kind, .int .i64 d.line, .int .i64 d.id, .int .i64 d.step, .int .i64 d.state, .int .i64 d.head, .slice da (List.length d.data) dcap, .int .i64 d.next, .int .i64 d.told]), (1, .agg #[.int .i64 p.kind, .int .i64 p.src, .int .i64 p.dst, .int .i64 p.id, .int .i64 p.line, .int .i64 p.ptr, .int .i64 p.state, .bool p.flag, .slice pa (List.length p.data) pcap])] ?_
 refine aq (x := C52 [0]) (y := C52 [1]) ?_
 refine ar (id := 0) 3 ?_
 refine s_step 2 (by kernel_rfl) (by kernel_rfl) (st_new (T := 60) (cells := #[.int .i64 d.kind, .int .i64 d.line, .int .i64 d.id, .int .i64 d.step, .int .i64 d.state, .int .i64 d.head, .slice da (List.length d.data) dcap, .int .i64 d.next, .int .i64 d.told]) (fun a => .pointer (some a)) (fun _ => by kernel_rfl)) ?_
 rintro _ _ ⟨b0_0, rfl, rfl⟩
 refine s_step 3 (by kernel_rfl) (by kernel_rfl) (st_new (T := 33) (cells := #[.int .i64 p.kind, .int .i64 p.src, .int .i64 p.dst, .int .i64 p.id, .int .i64 p.line, .int .i64 p.ptr, .int .i64 p.state, .bool p.flag, .slice pa (List.length p.data) pcap]) (fun a => .pointer (some a)) (fun _ => by kernel_rfl)) ?_
 rintro _ _ ⟨b0_1, rfl, rfl⟩
 refine sp 4 (.bool false) ?_
 refine ops_end ?_
 refine ae [(2, .pointer (some ⟨b0_0, 0, none⟩)), (3, .pointer (some ⟨b0_1, 0, none⟩))] ?_
 refine at_then_normal ?_
 refine aq (x := C52 [1,0]) (y := C52 [1,1]) ?_
 refine ar (id := 1) 5 ?_
 refine sl 6 (.agg #[.int .i64 d.kind, .int .i64 d.line, .int .i64 d.id, .int .i64 d.step, .int .i64 d.state, .int .i64 d.head, .slice da (List.length d.data) dcap, .int .i64 d.next, .int .i64 d.told]) (loadN (off := 0) (vs := [.int .i64 d.kind, .int .i64 d.line, .int .i64 d.id, .int .i64 d.step, .int .i64 d.state, .int .i64 d.head, .slice da (List.length d.data) dcap, .int .i64 d.next, .int .i64 d.told]) 9 (fun _ => by kernel_rfl) (holds_own (.there .here)) rfl (by exact ⟨rfl, rfl, rfl, rfl, rfl, rfl, rfl, rfl, rfl, trivial⟩)) ?_
 obtain ⟨y1_1, hy1_1, H⟩ := bindE H
 refine s_call 7 68 #[.agg #[.int .i64 d.kind, .int .i64 d.line, .int .i64 d.id, .int .i64 d.step, .int .i64 d.state, .int .i64 d.head, .slice da (List.length d.data) dcap, .int .i64 d.next, .int .i64 d.told], .int .i64 (0), .int .i64 (0)] (by kernel_rfl) (by kernel_rfl) (fun _ => by kernel_rfl) (RAsk7F_tr da dcap d (0 : Int) (0 : Int) (Reads.conv (fun w hw => hw.less (.drop .here (.drop .here .refl))) hrda) y1_1 hy1_1) ?_
 rintro _ _ ⟨a1_1_00, c1_1_00, rfl, rfl⟩
 refine sp 8 (.int .i64 y1_1.kind) ?_
 obtain ⟨y1_3, hy1_3, H⟩ := bindE H
 refine s_quiet 9 (.int .i64 y1_3) 67 #[.int .i64 y1_1.kind] (by kernel_rfl) (by kernel_rfl) (fun _ => by kernel_rfl) (RAnsF_tr y1_1.kind y1_3 hy1_3) ?_
 refine sp 5 (.int .i64 y1_3) ?_
 refine ops_end ?_
 refine ae [(2, .pointer (some ⟨b0_0, 0, none⟩)), (3, .pointer (some ⟨b0_1, 0, none⟩)), (5, .int .i64 y1_3)] ?_
 refine at_then_normal ?_
 refine aq (x := C52 [1,1,0]) (y := C52 [1,1,1]) ?_
 refine ar (id := 2) 23 ?_
 refine sp 10 (.int .i64 y1_3) ?_
 refine sp 11 (.bool (decide ((0 : Int) < y1_3))) ?_
 rcases Bool.eq_false_or_eq_true (decide ((0 : Int) < y1_3)) with h1 | h1
 ·replace H := bifT H h1
  refine sr 12 (.bool true) (run_eq (v := .bool (decide ((0 : Int) < y1_3))) (fun _ => by kernel_rfl) (congrArg Value.bool h1)) ?_
  refine sp 13 (.pointer (some ⟨b0_1, 0, none⟩)) ?_
  refine sl 14 (.int .i64 p.kind) (load1 (off := 0) (fun _ => by kernel_rfl) (holds_own (.there .here)) (by kernel_rfl)) ?_
  refine sp 15 (.int .i64 y1_3) ?_
  refine sp 16 (.bool (decide (p.kind = y1_3))) ?_
  refine sp 17 (.bool (decide (p.kind = y1_3))) ?_
  rcases Bool.eq_false_or_eq_true (decide (p.kind = y1_3)) with h2 | h2
  ·replace H := bifT H h2
   refine sr 18 (.bool true) (run_eq (v := .bool (decide (p.kind = y1_3))) (fun _ => by kernel_rfl) (congrArg Value.bool h2)) ?_
   refine sp 19 (.pointer (some ⟨b0_1, 3, none⟩)) ?_
   refine sl 20 (.int .i64 p.id) (load1 (off := 3) (fun _ => by kernel_rfl) (holds_own (.there .here)) (by kernel_rfl)) ?_
   refine sp 21 (.pointer (some ⟨b0_0, 2, none⟩)) ?_
   refine sl 22 (.int .i64 d.id) (load1 (off := 2) (fun _ => by kernel_rfl) (holds_own (.there (.there .here))) (by kernel_rfl)) ?_
   refine sp 23 (.bool (decide (p.id = d.id))) ?_
   refine sp 24 (.bool (decide (p.id = d.id))) ?_
   rcases Bool.eq_false_or_eq_true (decide (p.id = d.id)) with h3 | h3
   ·replace H := bifT H h3
    refine sr 25 (.bool true) (run_eq (v := .bool (decide (p.id = d.id))) (fun _ => by kernel_rfl) (congrArg Value.bool h3)) ?_
    refine sp 26 (.pointer (some ⟨b0_1, 4, none⟩)) ?_
    refine sl 27 (.int .i64 p.line) (load1 (off := 4) (fun _ => by kernel_rfl) (holds_own (.there .here)) (by kernel_rfl)) ?_
    refine sp 28 (.pointer (some ⟨b0_0, 1, none⟩)) ?_
    refine sl 29 (.int .i64 d.line) (load1 (off := 1) (fun _ => by kernel_rfl) (holds_own (.there (.there .here))) (by kernel_rfl)) ?_
    refine sp 30 (.bool (decide (p.line = d.line))) ?_
    refine sp 31 (.bool (decide (p.line = d.line))) ?_
    refine sp 4 (.bool (decide (p.line = d.line))) ?_
    refine ops_end ?_
    refine ae [(4, .bool (decide (p.line = d.line)))] ?_
    refine at_then_normal ?_
    refine at_ret (by kernel_rfl) ?_
    obtain rfl := someE H
    refine at_backR [.bool (decide (p.line = d.line))] (Γ) (rs := [.tmp 4]) (by kernel_rfl) (.cons (.tmp (by kernel_rfl)) .nil) (fun w hw => (Sat.less (.drop .here (.drop .here (.drop .here .refl))) hw)) ?_
    exact ⟨rfl, rfl⟩
   ·replace H := bifF H h3
    refine sr 25 (.bool false) (run_eq (v := .bool (decide (p.id = d.id))) (fun _ => by kernel_rfl) (congrArg Value.bool h3)) ?_
    refine sa 26 ?_
    refine sa 27 ?_
    refine sa 28 ?_
    refine sa 29 ?_
    refine sa 30 ?_
    refine sp 31 (.bool false) ?_
    refine sp 4 (.bool false) ?_
    refine ops_end ?_
    refine ae [(4, .bool false)] ?_
    refine at_then_normal ?_
    refine at_ret (by kernel_rfl) ?_
    obtain rfl := someE H
    refine at_backR [.bool false] (Γ) (rs := [.tmp 4]) (by kernel_rfl) (.cons (.tmp (by kernel_rfl)) .nil) (fun w hw => (Sat.less (.drop .here (.drop .here (.drop .here .refl))) hw)) ?_
    exact ⟨rfl, rfl⟩
  ·replace H := bifF H h2
   refine sr 18 (.bool false) (run_eq (v := .bool (decide (p.kind = y1_3))) (fun _ => by kernel_rfl) (congrArg Value.bool h2)) ?_
   refine sa 19 ?_
   refine sa 20 ?_
   refine sa 21 ?_
   refine sa 22 ?_
   refine sa 23 ?_
   refine sp 24 (.bool false) ?_
   refine sp 25 (.bool false) ?_
   refine sa 26 ?_
   refine sa 27 ?_
   refine sa 28 ?_
   refine sa 29 ?_
   refine sa 30 ?_
   refine sp 31 (.bool false) ?_
   refine sp 4 (.bool false) ?_
   refine ops_end ?_
   refine ae [(4, .bool false)] ?_
   refine at_then_normal ?_
   refine at_ret (by kernel_rfl) ?_
   obtain rfl := someE H
   refine at_backR [.bool false] (Γ) (rs := [.tmp 4]) (by kernel_rfl) (.cons (.tmp (by kernel_rfl)) .nil) (fun w hw => (Sat.less (.drop .here (.drop .here (.drop .here .refl))) hw)) ?_
   exact ⟨rfl, rfl⟩
 ·replace H := bifF H h1
  refine sr 12 (.bool false) (run_eq (v := .bool (decide ((0 : Int) < y1_3))) (fun _ => by kernel_rfl) (congrArg Value.bool h1)) ?_
  refine sa 13 ?_
  refine sa 14 ?_
  refine sa 15 ?_
  refine sa 16 ?_
  refine sp 17 (.bool false) ?_
  refine sp 18 (.bool false) ?_
  refine sa 19 ?_
  refine sa 20 ?_
  refine sa 21 ?_
  refine sa 22 ?_
  refine sa 23 ?_
  refine sp 24 (.bool false) ?_
  refine sp 25 (.bool false) ?_
  refine sa 26 ?_
  refine sa 27 ?_
  refine sa 28 ?_
  refine sa 29 ?_
  refine sa 30 ?_
  refine sp 31 (.bool false) ?_
  refine sp 4 (.bool false) ?_
  refine ops_end ?_
  refine ae [(4, .bool false)] ?_
  refine at_then_normal ?_
  refine at_ret (by kernel_rfl) ?_
  obtain rfl := someE H
  refine at_backR [.bool false] (Γ) (rs := [.tmp 4]) (by kernel_rfl) (.cons (.tmp (by kernel_rfl)) .nil) (fun w hw => (Sat.less (.drop .here (.drop .here (.drop .here .refl))) hw)) ?_
  exact ⟨rfl, rfl⟩
def runlockS (d : DealS) (state : Int) (head : Int) (data : List Int) : Option (DealS) :=
 chk ((data).length ≤ 1099511627776) (letP (data) fun l1_3 => some (⟨d.kind, d.line, d.id, 6, state, head, l1_3, d.next, d.told⟩ : DealS))
noncomputable def C69 (p : List Nat) : Code := codeAt (bodyOf Try.f69) p
set_option maxRecDepth 100000 in
set_option maxHeartbeats 8000000 in
theorem RUnlockF_tr {W0 : World} {Γ : List Asn} (da : Option Addr) (dcap : Nat) (d : DealS) (state : Int) (head : Int) (dataa : Option Addr) (datacap : Nat) (data : List Int) (hrda : Reads W0 Γ da (ints d.data)) (hrdataa : Reads W0 Γ dataa (ints data)) (y : DealS) (H : runlockS d state head data = some y) : Tr Try.prog 69 #[.agg #[.int .i64 d.kind, .int .i64 d.line, .int .i64 d.id, .int .i64 d.step, .int .i64 d.state, .int .i64 d.head, .slice da (List.length d.data) dcap, .int .i64 d.next, .int .i64 d.told], .int .i64 state, .int .i64 head, .slice dataa (List.length data) datacap] W0 (Γ) (fun r Δ => ∃ (a0_0 : Option Addr) (c0_0 : Nat), r = .agg #[.int .i64 y.kind, .int .i64 y.line, .int .i64 y.id, .int .i64 y.step, .int .i64 y.state, .int .i64 y.head, .slice a0_0 (List.length y.data) c0_0, .int .i64 y.next, .int .i64 y.told] ∧ Δ = (ImmI a0_0 y.data) :: Γ) := by
 unfold runlockS at H
 refine Tr.enter (fn := Try.f69) (c := C69 []) (args := [.agg #[.int .i64 d.kind, .int .i64 d.line, .int .i64 d.id, .int .i64 d.step, .int .i64 d.state, .int .i64 d.head, .slice da (List.length d.data) dcap, .int .i64 d.next, .int .i64 d.told], .int .i64 state, .int .i64 head, .slice dataa (List.length data) datacap]) 18 Try.func69 (by kernel_rfl) (by kernel_rfl) ?_
 refine ae [(0, .agg #[.int .i64 d.kind, .int .i64 d.line, .int .i64 d.id, .int .i64 d.step, .int .i64 d.state, .int .i64 d.head, .slice da (List.length d.data) dcap, .int .i64 d.next, .int .i64 d.told]), (1, .int .i64 state), (2, .int .i64 head), (3, .slice dataa (List.length data) datacap)] ?_
 refine aq (x := C69 [0]) (y := C69 [1]) ?_
 refine ar (id := 0) 2 ?_
 refine s_step 4 (by kernel_rfl) (by kernel_rfl) (st_new (T := 60) (cells := #[.int .i64 d.kind, .int .i64 d.line, .int .i64 d.id, .int .i64 d.step, .int .i64 d.state, .int .i64 d.head, .slice da (List.length d.data) dcap, .int .i64 d.next, .int .i64 d.told]) (fun a => .pointer (some a)) (fun _ => by kernel_rfl)) ?_
 rintro _ _ ⟨b0_0, rfl, rfl⟩
 refine s_step 8 (by kernel_rfl) (by kernel_rfl) (st_new (T := 60) (cells := #[.int .i64 (0), .int .i64 (0), .int .i64 (0), .int .i64 (0), .int .i64 (0), .int .i64 (0), .slice none 0 0, .int .i64 (0), .int .i64 (0)]) (fun a => .pointer (some a)) (fun _ => by kernel_rfl)) ?_
 rintro _ _ ⟨b0_1, rfl, rfl⟩
 refine ops_end ?_
 refine ae [(1, .int .i64 state), (2, .int .i64 head), (3, .slice dataa (List.length data) datacap), (4, .pointer (some ⟨b0_0, 0, none⟩)), (8, .pointer (some ⟨b0_1, 0, none⟩))] ?_
 refine at_then_normal ?_
 refine aq (x := C69 [1,0]) (y := C69 [1,1]) ?_
 refine ar (id := 1) 12 ?_
 refine sp 9 (.int .i64 state) ?_
 refine sp 10 (.int .i64 head) ?_
 refine sp 11 (.slice dataa (List.length data) datacap) ?_
 obtain ⟨hc1_3_0, H⟩ := chkE H
 obtain ⟨l1_3, hl1_3, H⟩ := letE H
 refine s_step 12 (by kernel_rfl) (by kernel_rfl) (StepTo.conv (fun w hw => RowsA.none_mk (k := 1) (a := none) hw) (st_append_ints (xs := ([] : List Int)) (ys := data) (zs := l1_3) (m1 := 0) (m2 := (List.length data)) (m := List.length l1_3) (cap2 := datacap) 22 22 3 (tinfo 3) (fun _ => by kernel_rfl) (by kernel_rfl) (by kernel_rfl) (by kernel_rfl) (by kernel_rfl) (by kernel_rfl) .here (Reads.conv (fun w hw => hw.less (.drop .here (.drop .here (.drop .here .refl)))) hrdataa) (by first | rfl | simp) (by first | rfl | simp) (by rw [← hl1_3]; first | done | simp) (by rw [← hl1_3]; first | done | simp) (by rw [← hl1_3]; exact hc1_3_0))) ?_
 rintro _ _ ⟨a1_3, c1_3, rfl, rfl⟩
 refine sp 13 (.pointer (some ⟨b0_0, 3, none⟩)) ?_
 refine s_do (by kernel_rfl) (by kernel_rfl) (st_store (off := 3) (vs := [.int .i64 (6)]) (c' := #[.int .i64 d.kind, .int .i64 d.line, .int .i64 d.id, .int .i64 (6), .int .i64 d.state, .int .i64 d.head, .slice da (List.length d.data) dcap, .int .i64 d.next, .int .i64 d.told]) (fun _ => by kernel_rfl) (.there (.there .here)) (by kernel_rfl) (by kernel_rfl) (by kernel_rfl)) ?_
 rintro _ _ ⟨rfl, rfl⟩
 refine sp 14 (.pointer (some ⟨b0_0, 4, none⟩)) ?_
 refine s_do (by kernel_rfl) (by kernel_rfl) (st_store (off := 4) (vs := [.int .i64 state]) (c' := #[.int .i64 d.kind, .int .i64 d.line, .int .i64 d.id, .int .i64 (6), .int .i64 state, .int .i64 d.head, .slice da (List.length d.data) dcap, .int .i64 d.next, .int .i64 d.told]) (fun _ => by kernel_rfl) .here (by kernel_rfl) (by kernel_rfl) (by kernel_rfl)) ?_
 rintro _ _ ⟨rfl, rfl⟩
 refine sp 15 (.pointer (some ⟨b0_0, 5, none⟩)) ?_
 refine s_do (by kernel_rfl) (by kernel_rfl) (st_store (off := 5) (vs := [.int .i64 head]) (c' := #[.int .i64 d.kind, .int .i64 d.line, .int .i64 d.id, .int .i64 (6), .int .i64 state, .int .i64 head, .slice da (List.length d.data) dcap, .int .i64 d.next, .int .i64 d.told]) (fun _ => by kernel_rfl) .here (by kernel_rfl) (by kernel_rfl) (by kernel_rfl)) ?_
 rintro _ _ ⟨rfl, rfl⟩
 refine sp 16 (.pointer (some ⟨b0_0, 6, none⟩)) ?_
 refine s_do (by kernel_rfl) (by kernel_rfl) (st_store (off := 6) (vs := [.slice a1_3 (List.length l1_3) c1_3]) (c' := #[.int .i64 d.kind, .int .i64 d.line, .int .i64 d.id, .int .i64 (6), .int .i64 state, .int .i64 head, .slice a1_3 (List.length l1_3) c1_3, .int .i64 d.next, .int .i64 d.told]) (fun _ => by kernel_rfl) .here (by kernel_rfl) (by kernel_rfl) (by kernel_rfl)) ?_
 rintro _ _ ⟨rfl, rfl⟩
 refine ops_end ?_
 refine ae [(4, .pointer (some ⟨b0_0, 0, none⟩)), (8, .pointer (some ⟨b0_1, 0, none⟩))] ?_
 refine at_then_normal ?_
 refine aq (x := C69 [1,1,0]) (y := C69 [1,1,1]) ?_
 refine ar (id := 2) 2 ?_
 refine sl 17 (.agg #[.int .i64 d.kind, .int .i64 d.line, .int .i64 d.id, .int .i64 (6), .int .i64 state, .int .i64 head, .slice a1_3 (List.length l1_3) c1_3, .int .i64 d.next, .int .i64 d.told]) (loadN (off := 0) (vs := [.int .i64 d.kind, .int .i64 d.line, .int .i64 d.id, .int .i64 (6), .int .i64 state, .int .i64 head, .slice a1_3 (List.length l1_3) c1_3, .int .i64 d.next, .int .i64 d.told]) 9 (fun _ => by kernel_rfl) (holds_own .here) rfl (by exact ⟨rfl, rfl, rfl, rfl, rfl, rfl, rfl, rfl, rfl, trivial⟩)) ?_
 refine s_do (by kernel_rfl) (by kernel_rfl) (st_store (off := 0) (vs := [.int .i64 d.kind, .int .i64 d.line, .int .i64 d.id, .int .i64 (6), .int .i64 state, .int .i64 head, .slice a1_3 (List.length l1_3) c1_3, .int .i64 d.next, .int .i64 d.told]) (c' := #[.int .i64 d.kind, .int .i64 d.line, .int .i64 d.id, .int .i64 (6), .int .i64 state, .int .i64 head, .slice a1_3 (List.length l1_3) c1_3, .int .i64 d.next, .int .i64 d.told]) (fun _ => by kernel_rfl) (.there (.there .here)) (by kernel_rfl) (by kernel_rfl) (by kernel_rfl)) ?_
 rintro _ _ ⟨rfl, rfl⟩
 refine ops_end ?_
 refine ae [(8, .pointer (some ⟨b0_1, 0, none⟩))] ?_
 refine at_then_normal ?_
 refine at_ret (by kernel_rfl) ?_
 obtain rfl := someE H
 refine at_backR [.agg #[.int .i64 d.kind, .int .i64 d.line, .int .i64 d.id, .int .i64 (6), .int .i64 state, .int .i64 head, .slice a1_3 (List.length l1_3) c1_3, .int .i64 d.next, .int .i64 d.told]] ((ImmI a1_3 l1_3) :: Γ) (rs := [.cell 8 60]) (by kernel_rfl) (.cons (.cell (by kernel_rfl) (retN (off := 0) (vs := [.int .i64 d.kind, .int .i64 d.line, .int .i64 d.id, .int .i64 (6), .int .i64 state, .int .i64 head, .slice a1_3 (List.length l1_3) c1_3, .int .i64 d.next, .int .i64 d.told]) 9 (fun _ => by kernel_rfl) (holds_own .here) rfl (by exact ⟨rfl, rfl, rfl, rfl, rfl, rfl, rfl, rfl, rfl, trivial⟩))) .nil) (fun w hw => (Sat.less (.take .here (.drop .here (.drop .here .refl))) (RowsA.freeze (Sat.less (.take (.there (.there .here)) (.take .here (.take .here .refl))) hw)))) ?_
 exact ⟨a1_3, c1_3, rfl, rfl⟩
def rread7S_j0 (cc : CacheS) (d : DealS) (node : Int) (p : PktS) (e0_10 : Bool) : Option (DealS × Bool × CacheS) :=
 (bif e0_10 then (rputS cc (⟨(-1), (-1), d.line, 0, false, d.data⟩ : Ent)).bind fun y2_6 => (runlockS d (1 : Int) node ([] : List Int)).bind fun y3_2 => some (y3_2, true, y2_6.2) else (bif decide (d.step = (1 : Int)) then some ((⟨d.kind, d.line, d.id, 2, d.state, d.head, d.data, d.next, d.told⟩ : DealS), true, cc) else (bif decide (d.step = (2 : Int)) then (rputS cc (⟨d.head, (-1), d.line, 0, false, p.data⟩ : Ent)).bind fun y8_8 => (bif p.flag then (runlockS d (1 : Int) node p.data).bind fun y10_4 => some (y10_4, true, y8_8.2) else (runlockS d (1 : Int) node ([] : List Int)).bind fun y11_2 => some (y11_2, true, y8_8.2)) else some ((⟨0, 0, 0, 0, 0, 0, ([] : List Int), 0, 0⟩ : DealS), false, cc))))
def rread7S (d : DealS) (node : Int) (cc : CacheS) (p : PktS) : Option (DealS × Bool × CacheS) :=
 (bif decide (d.step = (1 : Int)) then rread7S_j0 cc d node p (decide (d.state = (0 : Int))) else rread7S_j0 cc d node p false)
noncomputable def C53 (p : List Nat) : Code := codeAt (bodyOf Try.f53) p
set_option maxRecDepth 100000 in
set_option maxHeartbeats 8000000 in
theorem RRead7F_tr {W0 : World} {Γ : List Asn} (da : Option Addr) (dcap : Nat) (d : DealS) (node : Int) (c : Nat) (cc : CacheS) (pa : Option Addr) (pcap : Nat) (p : PktS) (hrpa : Reads W0 Γ pa (ints p.data)) (y : DealS × Bool × CacheS) (H : rread7S d node cc p = some y) : Tr Try.prog 53 #[.agg #[.int .i64 d.kind, .int .i64 d.line, .int .i64 d.id, .int .i64 d.step, .int .i64 d.state, .int .i64 d.head, .slice da (List.length d.data) dcap, .int .i64 d.next, .int .i64 d.told], .int .i64 node, .pointer (some ⟨c, 0, none⟩), .agg #[.int .i64 p.kind, .int .i64 p.src, .int .i64 p.dst, .int .i64 p.id, .int .i64 p.line, .int .i64 p.ptr, .int .i64 p.state, .bool p.flag, .slice pa (List.length p.data) pcap]] W0 ((ImmI da d.data) :: (RChA c cc) :: Γ) (fun r Δ => ∃ (a0_0 : Option Addr) (c0_0 : Nat), r = .tuple #[.agg #[.int .i64 y.1.kind, .int .i64 y.1.line, .int .i64 y.1.id, .int .i64 y.1.step, .int .i64 y.1.state, .int .i64 y.1.head, .slice a0_0 (List.length y.1.data) c0_0, .int .i64 y.1.next, .int .i64 y.1.told], .bool y.2.1] ∧ Δ = (ImmI a0_0 y.1.data) :: (RChA c y.2.2) :: Γ) := by
 unfold rread7S at H
 refine Tr.enter (fn := Try.f53) (c := C53 []) (args := [.agg #[.int .i64 d.kind, .int .i64 d.line, .int .i64 d.id, .int .i64 d.step, .int .i64 d.state, .int .i64 d.head, .slice da (List.length d.data) dcap, .int .i64 d.next, .int .i64 d.told], .int .i64 node, .pointer (some ⟨c, 0, none⟩), .agg #[.int .i64 p.kind, .int .i64 p.src, .int .i64 p.dst, .int .i64 p.id, .int .i64 p.line, .int .i64 p.ptr, .int .i64 p.state, .bool p.flag, .slice pa (List.length p.data) pcap]]) 59 Try.func53 (by kernel_rfl) (by kernel_rfl) ?_
 refine ae [(0, .agg #[.int .i64 d.kind, .int .i64 d.line, .int .i64 d.id, .int .i64 d.step, .int .i64 d.state, .int .i64 d.head, .slice da (List.length d.data) dcap, .int .i64 d.next, .int .i64 d.told]), (1, .int .i64 node), (2, .pointer (some ⟨c, 0, none⟩)), (3, .agg #[.int .i64 p.kind, .int .i64 p.src, .int .i64 p.dst, .int .i64 p.id, .int .i64 p.line, .int .i64 p.ptr, .int .i64 p.state, .bool p.flag, .slice pa (List.length p.data) pcap])] ?_
 refine aq (x := C53 [0]) (y := C53 [1]) ?_
 refine ar (id := 0) 4 ?_
 refine s_step 4 (by kernel_rfl) (by kernel_rfl) (st_new (T := 60) (cells := #[.int .i64 d.kind, .int .i64 d.line, .int .i64 d.id, .int .i64 d.step, .int .i64 d.state, .int .i64 d.head, .slice da (List.length d.data) dcap, .int .i64 d.next, .int .i64 d.told]) (fun a => .pointer (some a)) (fun _ => by kernel_rfl)) ?_
 rintro _ _ ⟨b0_0, rfl, rfl⟩
 refine s_step 7 (by kernel_rfl) (by kernel_rfl) (st_new (T := 33) (cells := #[.int .i64 p.kind, .int .i64 p.src, .int .i64 p.dst, .int .i64 p.id, .int .i64 p.line, .int .i64 p.ptr, .int .i64 p.state, .bool p.flag, .slice pa (List.length p.data) pcap]) (fun a => .pointer (some a)) (fun _ => by kernel_rfl)) ?_
 rintro _ _ ⟨b0_1, rfl, rfl⟩
 refine s_step 8 (by kernel_rfl) (by kernel_rfl) (st_new (T := 60) (cells := #[.int .i64 (0), .int .i64 (0), .int .i64 (0), .int .i64 (0), .int .i64 (0), .int .i64 (0), .slice none 0 0, .int .i64 (0), .int .i64 (0)]) (fun a => .pointer (some a)) (fun _ => by kernel_rfl)) ?_
 rintro _ _ ⟨b0_2, rfl, rfl⟩
 refine sp 9 (.bool false) ?_
 refine ops_end ?_
 refine ae [(1, .int .i64 node), (2, .pointer (some ⟨c, 0, none⟩)), (4, .pointer (some ⟨b0_0, 0, none⟩)), (7, .pointer (some ⟨b0_1, 0, none⟩)), (8, .pointer (some ⟨b0_2, 0, none⟩))] ?_
 refine at_then_normal ?_
 refine aq (x := C53 [1,0]) (y := C53 [1,1]) ?_
 refine at_block (i := 0) (x := C53 [1,0,0]) (by kernel_rfl) ?_
 refine at_seq_join (x := C53 [1,0,0,0]) (y := C53 [1,0,0,1]) (fun ff ΔΔ => ∃ (e0_10 : Bool), rread7S_j0 cc d node p e0_10 = some y ∧ ff = [(1, .int .i64 node), (2, .pointer (some ⟨c, 0, none⟩)), (4, .pointer (some ⟨b0_0, 0, none⟩)), (7, .pointer (some ⟨b0_1, 0, none⟩)), (8, .pointer (some ⟨b0_2, 0, none⟩)), (10, .bool e0_10)] ∧ (Asn.own b0_2 (.cells #[.int .i64 (0), .int .i64 (0), .int .i64 (0), .int .i64 (0), .int .i64 (0), .int .i64 (0), .slice none 0 0, .int .i64 (0), .int .i64 (0)] 60 (0, 0))) :: (Asn.own b0_1 (.cells #[.int .i64 p.kind, .int .i64 p.src, .int .i64 p.dst, .int .i64 p.id, .int .i64 p.line, .int .i64 p.ptr, .int .i64 p.state, .bool p.flag, .slice pa (List.length p.data) pcap] 33 (0, 0))) :: (Asn.own b0_0 (.cells #[.int .i64 d.kind, .int .i64 d.line, .int .i64 d.id, .int .i64 d.step, .int .i64 d.state, .int .i64 d.head, .slice da (List.length d.data) dcap, .int .i64 d.next, .int .i64 d.told] 60 (0, 0))) :: (ImmI da d.data) :: (RChA c cc) :: Γ = ΔΔ) (by kernel_rfl) ?_ ?_
 ·rintro _ _ ⟨e0_10, H, rfl, rfl⟩
  rw [rread7S_j0] at H
  rcases Bool.eq_false_or_eq_true (e0_10) with h1 | h1
  ·replace H := bifT H h1
   refine at_true (t := e0_10) (x := C53 [1,0,0,1,0]) (y := C53 [1,0,0,1,1]) (o := .tmp 10) (by kernel_rfl) (by kernel_rfl) (by kernel_rfl) h1 ?_
   refine aq (x := C53 [1,0,0,1,0,0]) (y := C53 [1,0,0,1,0,1]) ?_
   refine ar (id := 2) 7 ?_
   refine sp 19 (.pointer (some ⟨c, 0, none⟩)) ?_
   refine sp 20 (.pointer (some ⟨b0_0, 1, none⟩)) ?_
   refine sl 21 (.int .i64 d.line) (load1 (off := 1) (fun _ => by kernel_rfl) (holds_own (.there (.there .here))) (by kernel_rfl)) ?_
   refine sp 22 (.pointer (some ⟨b0_0, 6, none⟩)) ?_
   refine sl 23 (.slice da (List.length d.data) dcap) (load1 (off := 6) (fun _ => by kernel_rfl) (holds_own (.there (.there .here))) (by kernel_rfl)) ?_
   refine sp 24 (.agg #[.int .i64 (-1), .int .i64 (-1), .int .i64 d.line, .int .i64 (0), .bool false, .slice da (List.length d.data) dcap]) ?_
   obtain ⟨y2_6, hy2_6, H⟩ := bindE H
   refine s_call 25 34 #[.pointer (some ⟨c, 0, none⟩), .agg #[.int .i64 (-1), .int .i64 (-1), .int .i64 d.line, .int .i64 (0), .bool false, .slice da (List.length d.data) dcap]] (by kernel_rfl) (by kernel_rfl) (fun _ => by kernel_rfl) (Tr.conv (Γ' := (RChA c cc) :: (Asn.own b0_2 (.cells #[.int .i64 (0), .int .i64 (0), .int .i64 (0), .int .i64 (0), .int .i64 (0), .int .i64 (0), .slice none 0 0, .int .i64 (0), .int .i64 (0)] 60 (0, 0))) :: (Asn.own b0_1 (.cells #[.int .i64 p.kind, .int .i64 p.src, .int .i64 p.dst, .int .i64 p.id, .int .i64 p.line, .int .i64 p.ptr, .int .i64 p.state, .bool p.flag, .slice pa (List.length p.data) pcap] 33 (0, 0))) :: (Asn.own b0_0 (.cells #[.int .i64 d.kind, .int .i64 d.line, .int .i64 d.id, .int .i64 d.step, .int .i64 d.state, .int .i64 d.head, .slice da (List.length d.data) dcap, .int .i64 d.next, .int .i64 d.told] 60 (0, 0))) :: (ImmI da d.data) :: Γ) (fun w hw => (Sat.less (.take (.there (.there (.there (.there .here)))) (.take .here (.take .here (.take .here (.take .here .refl))))) hw)) (RPutF_tr c cc da dcap (⟨(-1), (-1), d.line, 0, false, d.data⟩ : Ent) (ImmR.reads (k := 1) (.there (.there (.there .here)))) y2_6 hy2_6)) ?_
   rintro _ _ ⟨rfl, rfl⟩
   refine ops_end ?_
   refine ae [(1, .int .i64 node), (4, .pointer (some ⟨b0_0, 0, none⟩)), (8, .pointer (some ⟨b0_2, 0, none⟩))] ?_
   refine at_then_normal ?_
   refine aq (x := C53 [1,0,0,1,0,1,0]) (y := C53 [1,0,0,1,0,1,1]) ?_
   refine ar (id := 3) 5 ?_
   refine sl 26 (.agg #[.int .i64 d.kind, .int .i64 d.line, .int .i64 d.id, .int .i64 d.step, .int .i64 d.state, .int .i64 d.head, .slice da (List.length d.data) dcap, .int .i64 d.next, .int .i64 d.told]) (loadN (off := 0) (vs := [.int .i64 d.kind, .int .i64 d.line, .int .i64 d.id, .int .i64 d.step, .int .i64 d.state, .int .i64 d.head, .slice da (List.length d.data) dcap, .int .i64 d.next, .int .i64 d.told]) 9 (fun _ => by kernel_rfl) (holds_own (.there (.there (.there .here)))) rfl (by exact ⟨rfl, rfl, rfl, rfl, rfl, rfl, rfl, rfl, rfl, trivial⟩)) ?_
   refine sp 27 (.int .i64 node) ?_
   obtain ⟨y3_2, hy3_2, H⟩ := bindE H
   refine s_call 28 69 #[.agg #[.int .i64 d.kind, .int .i64 d.line, .int .i64 d.id, .int .i64 d.step, .int .i64 d.state, .int .i64 d.head, .slice da (List.length d.data) dcap, .int .i64 d.next, .int .i64 d.told], .int .i64 (1), .int .i64 node, .slice none 0 0] (by kernel_rfl) (by kernel_rfl) (fun _ => by kernel_rfl) (RUnlockF_tr da dcap d (1 : Int) node none 0 ([] : List Int) (ImmR.reads (k := 1) (.there (.there (.there (.there .here))))) Reads.nil y3_2 hy3_2) ?_
   rintro _ _ ⟨a3_2_00, c3_2_00, rfl, rfl⟩
   refine s_do (by kernel_rfl) (by kernel_rfl) (st_store (off := 0) (vs := [.int .i64 y3_2.kind, .int .i64 y3_2.line, .int .i64 y3_2.id, .int .i64 y3_2.step, .int .i64 y3_2.state, .int .i64 y3_2.head, .slice a3_2_00 (List.length y3_2.data) c3_2_00, .int .i64 y3_2.next, .int .i64 y3_2.told]) (c' := #[.int .i64 y3_2.kind, .int .i64 y3_2.line, .int .i64 y3_2.id, .int .i64 y3_2.step, .int .i64 y3_2.state, .int .i64 y3_2.head, .slice a3_2_00 (List.length y3_2.data) c3_2_00, .int .i64 y3_2.next, .int .i64 y3_2.told]) (fun _ => by kernel_rfl) (.there (.there .here)) (by kernel_rfl) (by kernel_rfl) (by kernel_rfl)) ?_
   rintro _ _ ⟨rfl, rfl⟩
   refine sp 9 (.bool true) ?_
   refine ops_end ?_
   refine ae [(8, .pointer (some ⟨b0_2, 0, none⟩)), (9, .bool true)] ?_
   refine at_then_normal ?_
   refine at_ret (by kernel_rfl) ?_
   refine at_in_ret ?_
   refine at_then_ret ?_
   obtain rfl := someE H
   refine at_backR [.agg #[.int .i64 y3_2.kind, .int .i64 y3_2.line, .int .i64 y3_2.id, .int .i64 y3_2.step, .int .i64 y3_2.state, .int .i64 y3_2.head, .slice a3_2_00 (List.length y3_2.data) c3_2_00, .int .i64 y3_2.next, .int .i64 y3_2.told], .bool true] ((ImmI a3_2_00 y3_2.data) :: (RChA c y2_6.2) :: Γ) (rs := [.cell 8 60, .tmp 9]) (by kernel_rfl) (.cons (.cell (by kernel_rfl) (retN (off := 0) (vs := [.int .i64 y3_2.kind, .int .i64 y3_2.line, .int .i64 y3_2.id, .int .i64 y3_2.step, .int .i64 y3_2.state, .int .i64 y3_2.head, .slice a3_2_00 (List.length y3_2.data) c3_2_00, .int .i64 y3_2.next, .int .i64 y3_2.told]) 9 (fun _ => by kernel_rfl) (holds_own .here) rfl (by exact ⟨rfl, rfl, rfl, rfl, rfl, rfl, rfl, rfl, rfl, trivial⟩))) (.cons (.tmp (by kernel_rfl)) .nil)) (fun w hw => (Sat.less (.take (.there .here) (.take (.there .here) (.drop .here (.drop .here (.drop .here (.drop .here .refl)))))) hw)) ?_
   exact ⟨a3_2_00, c3_2_00, rfl, rfl⟩
  ·replace H := bifF H h1
   refine at_false (t := e0_10) (x := C53 [1,0,0,1,0]) (y := C53 [1,0,0,1,1]) (o := .tmp 10) (by kernel_rfl) (by kernel_rfl) (by kernel_rfl) h1 ?_
   refine aq (x := C53 [1,0,0,1,1,0]) (y := C53 [1,0,0,1,1,1]) ?_
   refine ar (id := 4) 4 ?_
   refine sp 30 (.pointer (some ⟨b0_0, 3, none⟩)) ?_
   refine sl 31 (.int .i64 d.step) (load1 (off := 3) (fun _ => by kernel_rfl) (holds_own (.there (.there .here))) (by kernel_rfl)) ?_
   refine sp 32 (.bool (decide (d.step = (1 : Int)))) ?_
   refine sp 29 (.bool (decide (d.step = (1 : Int)))) ?_
   refine ops_end ?_
   refine ae [(1, .int .i64 node), (2, .pointer (some ⟨c, 0, none⟩)), (4, .pointer (some ⟨b0_0, 0, none⟩)), (7, .pointer (some ⟨b0_1, 0, none⟩)), (8, .pointer (some ⟨b0_2, 0, none⟩)), (29, .bool (decide (d.step = (1 : Int))))] ?_
   refine at_then_normal ?_
   rcases Bool.eq_false_or_eq_true (decide (d.step = (1 : Int))) with h2 | h2
   ·replace H := bifT H h2
    refine at_true (t := decide (d.step = (1 : Int))) (x := C53 [1,0,0,1,1,1,0]) (y := C53 [1,0,0,1,1,1,1]) (o := .tmp 29) (by kernel_rfl) (by kernel_rfl) (by kernel_rfl) h2 ?_
    refine aq (x := C53 [1,0,0,1,1,1,0,0]) (y := C53 [1,0,0,1,1,1,0,1]) ?_
    refine ar (id := 5) 2 ?_
    refine sp 33 (.pointer (some ⟨b0_0, 3, none⟩)) ?_
    refine s_do (by kernel_rfl) (by kernel_rfl) (st_store (off := 3) (vs := [.int .i64 (2)]) (c' := #[.int .i64 d.kind, .int .i64 d.line, .int .i64 d.id, .int .i64 (2), .int .i64 d.state, .int .i64 d.head, .slice da (List.length d.data) dcap, .int .i64 d.next, .int .i64 d.told]) (fun _ => by kernel_rfl) (.there (.there .here)) (by kernel_rfl) (by kernel_rfl) (by kernel_rfl)) ?_
    rintro _ _ ⟨rfl, rfl⟩
    refine ops_end ?_
    refine ae [(4, .pointer (some ⟨b0_0, 0, none⟩)), (8, .pointer (some ⟨b0_2, 0, none⟩))] ?_
    refine at_then_normal ?_
    refine aq (x := C53 [1,0,0,1,1,1,0,1,0]) (y := C53 [1,0,0,1,1,1,0,1,1]) ?_
    refine ar (id := 6) 3 ?_
    refine sl 34 (.agg #[.int .i64 d.kind, .int .i64 d.line, .int .i64 d.id, .int .i64 (2), .int .i64 d.state, .int .i64 d.head, .slice da (List.length d.data) dcap, .int .i64 d.next, .int .i64 d.told]) (loadN (off := 0) (vs := [.int .i64 d.kind, .int .i64 d.line, .int .i64 d.id, .int .i64 (2), .int .i64 d.state, .int .i64 d.head, .slice da (List.length d.data) dcap, .int .i64 d.next, .int .i64 d.told]) 9 (fun _ => by kernel_rfl) (holds_own .here) rfl (by exact ⟨rfl, rfl, rfl, rfl, rfl, rfl, rfl, rfl, rfl, trivial⟩)) ?_
    refine s_do (by kernel_rfl) (by kernel_rfl) (st_store (off := 0) (vs := [.int .i64 d.kind, .int .i64 d.line, .int .i64 d.id, .int .i64 (2), .int .i64 d.state, .int .i64 d.head, .slice da (List.length d.data) dcap, .int .i64 d.next, .int .i64 d.told]) (c' := #[.int .i64 d.kind, .int .i64 d.line, .int .i64 d.id, .int .i64 (2), .int .i64 d.state, .int .i64 d.head, .slice da (List.length d.data) dcap, .int .i64 d.next, .int .i64 d.told]) (fun _ => by kernel_rfl) (.there .here) (by kernel_rfl) (by kernel_rfl) (by kernel_rfl)) ?_
    rintro _ _ ⟨rfl, rfl⟩
    refine sp 9 (.bool true) ?_
    refine ops_end ?_
    refine ae [(8, .pointer (some ⟨b0_2, 0, none⟩)), (9, .bool true)] ?_
    refine at_then_normal ?_
    refine at_ret (by kernel_rfl) ?_
    refine at_in_ret ?_
    refine at_then_ret ?_
    obtain rfl := someE H
    refine at_backR [.agg #[.int .i64 d.kind, .int .i64 d.line, .int .i64 d.id, .int .i64 (2), .int .i64 d.state, .int .i64 d.head, .slice da (List.length d.data) dcap, .int .i64 d.next, .int .i64 d.told], .bool true] ((ImmI da d.data) :: (RChA c cc) :: Γ) (rs := [.cell 8 60, .tmp 9]) (by kernel_rfl) (.cons (.cell (by kernel_rfl) (retN (off := 0) (vs := [.int .i64 d.kind, .int .i64 d.line, .int .i64 d.id, .int .i64 (2), .int .i64 d.state, .int .i64 d.head, .slice da (List.length d.data) dcap, .int .i64 d.next, .int .i64 d.told]) 9 (fun _ => by kernel_rfl) (holds_own .here) rfl (by exact ⟨rfl, rfl, rfl, rfl, rfl, rfl, rfl, rfl, rfl, trivial⟩))) (.cons (.tmp (by kernel_rfl)) .nil)) (fun w hw => (Sat.less (.take (.there (.there (.there .here))) (.take (.there (.there (.there .here))) (.drop .here (.drop .here (.drop .here .refl))))) hw)) ?_
    exact ⟨da, dcap, rfl, rfl⟩
   ·replace H := bifF H h2
    refine at_false (t := decide (d.step = (1 : Int))) (x := C53 [1,0,0,1,1,1,0]) (y := C53 [1,0,0,1,1,1,1]) (o := .tmp 29) (by kernel_rfl) (by kernel_rfl) (by kernel_rfl) h2 ?_
    refine aq (x := C53 [1,0,0,1,1,1,1,0]) (y := C53 [1,0,0,1,1,1,1,1]) ?_
    refine ar (id := 7) 4 ?_
    refine sp 36 (.pointer (some ⟨b0_0, 3, none⟩)) ?_
    refine sl 37 (.int .i64 d.step) (load1 (off := 3) (fun _ => by kernel_rfl) (holds_own (.there (.there .here))) (by kernel_rfl)) ?_
    refine sp 38 (.bool (decide (d.step = (2 : Int)))) ?_
    refine sp 35 (.bool (decide (d.step = (2 : Int)))) ?_
    refine ops_end ?_
    refine ae [(1, .int .i64 node), (2, .pointer (some ⟨c, 0, none⟩)), (4, .pointer (some ⟨b0_0, 0, none⟩)), (7, .pointer (some ⟨b0_1, 0, none⟩)), (8, .pointer (some ⟨b0_2, 0, none⟩)), (35, .bool (decide (d.step = (2 : Int))))] ?_
    refine at_then_normal ?_
    rcases Bool.eq_false_or_eq_true (decide (d.step = (2 : Int))) with h3 | h3
    ·replace H := bifT H h3
     refine at_true (t := decide (d.step = (2 : Int))) (x := C53 [1,0,0,1,1,1,1,1,0]) (y := C53 [1,0,0,1,1,1,1,1,1]) (o := .tmp 35) (by kernel_rfl) (by kernel_rfl) (by kernel_rfl) h3 ?_
     refine aq (x := C53 [1,0,0,1,1,1,1,1,0,0]) (y := C53 [1,0,0,1,1,1,1,1,0,1]) ?_
     refine ar (id := 8) 9 ?_
     refine sp 39 (.pointer (some ⟨c, 0, none⟩)) ?_
     refine sp 40 (.pointer (some ⟨b0_0, 5, none⟩)) ?_
     refine sl 41 (.int .i64 d.head) (load1 (off := 5) (fun _ => by kernel_rfl) (holds_own (.there (.there .here))) (by kernel_rfl)) ?_
     refine sp 42 (.pointer (some ⟨b0_0, 1, none⟩)) ?_
     refine sl 43 (.int .i64 d.line) (load1 (off := 1) (fun _ => by kernel_rfl) (holds_own (.there (.there .here))) (by kernel_rfl)) ?_
     refine sp 44 (.pointer (some ⟨b0_1, 8, none⟩)) ?_
     refine sl 45 (.slice pa (List.length p.data) pcap) (load1 (off := 8) (fun _ => by kernel_rfl) (holds_own (.there .here)) (by kernel_rfl)) ?_
     refine sp 46 (.agg #[.int .i64 d.head, .int .i64 (-1), .int .i64 d.line, .int .i64 (0), .bool false, .slice pa (List.length p.data) pcap]) ?_
     obtain ⟨y8_8, hy8_8, H⟩ := bindE H
     refine s_call 47 34 #[.pointer (some ⟨c, 0, none⟩), .agg #[.int .i64 d.head, .int .i64 (-1), .int .i64 d.line, .int .i64 (0), .bool false, .slice pa (List.length p.data) pcap]] (by kernel_rfl) (by kernel_rfl) (fun _ => by kernel_rfl) (Tr.conv (Γ' := (RChA c cc) :: (Asn.own b0_2 (.cells #[.int .i64 (0), .int .i64 (0), .int .i64 (0), .int .i64 (0), .int .i64 (0), .int .i64 (0), .slice none 0 0, .int .i64 (0), .int .i64 (0)] 60 (0, 0))) :: (Asn.own b0_1 (.cells #[.int .i64 p.kind, .int .i64 p.src, .int .i64 p.dst, .int .i64 p.id, .int .i64 p.line, .int .i64 p.ptr, .int .i64 p.state, .bool p.flag, .slice pa (List.length p.data) pcap] 33 (0, 0))) :: (Asn.own b0_0 (.cells #[.int .i64 d.kind, .int .i64 d.line, .int .i64 d.id, .int .i64 d.step, .int .i64 d.state, .int .i64 d.head, .slice da (List.length d.data) dcap, .int .i64 d.next, .int .i64 d.told] 60 (0, 0))) :: (ImmI da d.data) :: Γ) (fun w hw => (Sat.less (.take (.there (.there (.there (.there .here)))) (.take .here (.take .here (.take .here (.take .here .refl))))) hw)) (RPutF_tr c cc pa pcap (⟨d.head, (-1), d.line, 0, false, p.data⟩ : Ent) (Reads.conv (fun w hw => hw.less (.drop .here (.drop .here (.drop .here (.drop .here .refl))))) hrpa) y8_8 hy8_8)) ?_
     rintro _ _ ⟨rfl, rfl⟩
     refine ops_end ?_
     refine ae [(1, .int .i64 node), (4, .pointer (some ⟨b0_0, 0, none⟩)), (7, .pointer (some ⟨b0_1, 0, none⟩)), (8, .pointer (some ⟨b0_2, 0, none⟩))] ?_
     refine at_then_normal ?_
     refine aq (x := C53 [1,0,0,1,1,1,1,1,0,1,0]) (y := C53 [1,0,0,1,1,1,1,1,0,1,1]) ?_
     refine aq (x := C53 [1,0,0,1,1,1,1,1,0,1,0,0]) (y := C53 [1,0,0,1,1,1,1,1,0,1,0,1]) ?_
     refine ar (id := 9) 2 ?_
     refine sp 48 (.pointer (some ⟨b0_1, 7, none⟩)) ?_
     refine sl 49 (.bool p.flag) (load1 (off := 7) (fun _ => by kernel_rfl) (holds_own (.there (.there .here))) (by kernel_rfl)) ?_
     refine ops_end ?_
     refine ae [(1, .int .i64 node), (4, .pointer (some ⟨b0_0, 0, none⟩)), (7, .pointer (some ⟨b0_1, 0, none⟩)), (8, .pointer (some ⟨b0_2, 0, none⟩)), (49, .bool p.flag)] ?_
     refine at_then_normal ?_
     rcases Bool.eq_false_or_eq_true (p.flag) with h4 | h4
     ·replace H := bifT H h4
      refine at_true (t := p.flag) (x := C53 [1,0,0,1,1,1,1,1,0,1,0,1,0]) (y := C53 [1,0,0,1,1,1,1,1,0,1,0,1,1]) (o := .tmp 49) (by kernel_rfl) (by kernel_rfl) (by kernel_rfl) h4 ?_
      refine aq (x := C53 [1,0,0,1,1,1,1,1,0,1,0,1,0,0]) (y := C53 [1,0,0,1,1,1,1,1,0,1,0,1,0,1]) ?_
      refine ar (id := 10) 7 ?_
      refine sl 50 (.agg #[.int .i64 d.kind, .int .i64 d.line, .int .i64 d.id, .int .i64 d.step, .int .i64 d.state, .int .i64 d.head, .slice da (List.length d.data) dcap, .int .i64 d.next, .int .i64 d.told]) (loadN (off := 0) (vs := [.int .i64 d.kind, .int .i64 d.line, .int .i64 d.id, .int .i64 d.step, .int .i64 d.state, .int .i64 d.head, .slice da (List.length d.data) dcap, .int .i64 d.next, .int .i64 d.told]) 9 (fun _ => by kernel_rfl) (holds_own (.there (.there (.there .here)))) rfl (by exact ⟨rfl, rfl, rfl, rfl, rfl, rfl, rfl, rfl, rfl, trivial⟩)) ?_
      refine sp 51 (.int .i64 node) ?_
      refine sp 52 (.pointer (some ⟨b0_1, 8, none⟩)) ?_
      refine sl 53 (.slice pa (List.length p.data) pcap) (load1 (off := 8) (fun _ => by kernel_rfl) (holds_own (.there (.there .here))) (by kernel_rfl)) ?_
      obtain ⟨y10_4, hy10_4, H⟩ := bindE H
      refine s_call 54 69 #[.agg #[.int .i64 d.kind, .int .i64 d.line, .int .i64 d.id, .int .i64 d.step, .int .i64 d.state, .int .i64 d.head, .slice da (List.length d.data) dcap, .int .i64 d.next, .int .i64 d.told], .int .i64 (1), .int .i64 node, .slice pa (List.length p.data) pcap] (by kernel_rfl) (by kernel_rfl) (fun _ => by kernel_rfl) (RUnlockF_tr da dcap d (1 : Int) node pa pcap p.data (ImmR.reads (k := 1) (.there (.there (.there (.there .here))))) (Reads.conv (fun w hw => hw.less (.drop .here (.drop .here (.drop .here (.drop .here (.drop .here .refl)))))) hrpa) y10_4 hy10_4) ?_
      rintro _ _ ⟨a10_4_00, c10_4_00, rfl, rfl⟩
      refine s_do (by kernel_rfl) (by kernel_rfl) (st_store (off := 0) (vs := [.int .i64 y10_4.kind, .int .i64 y10_4.line, .int .i64 y10_4.id, .int .i64 y10_4.step, .int .i64 y10_4.state, .int .i64 y10_4.head, .slice a10_4_00 (List.length y10_4.data) c10_4_00, .int .i64 y10_4.next, .int .i64 y10_4.told]) (c' := #[.int .i64 y10_4.kind, .int .i64 y10_4.line, .int .i64 y10_4.id, .int .i64 y10_4.step, .int .i64 y10_4.state, .int .i64 y10_4.head, .slice a10_4_00 (List.length y10_4.data) c10_4_00, .int .i64 y10_4.next, .int .i64 y10_4.told]) (fun _ => by kernel_rfl) (.there (.there .here)) (by kernel_rfl) (by kernel_rfl) (by kernel_rfl)) ?_
      rintro _ _ ⟨rfl, rfl⟩
      refine sp 9 (.bool true) ?_
      refine ops_end ?_
      refine ae [(8, .pointer (some ⟨b0_2, 0, none⟩)), (9, .bool true)] ?_
      refine at_then_normal ?_
      refine at_ret (by kernel_rfl) ?_
      refine at_then_ret ?_
      refine at_in_ret ?_
      refine at_then_ret ?_
      obtain rfl := someE H
      refine at_backR [.agg #[.int .i64 y10_4.kind, .int .i64 y10_4.line, .int .i64 y10_4.id, .int .i64 y10_4.step, .int .i64 y10_4.state, .int .i64 y10_4.head, .slice a10_4_00 (List.length y10_4.data) c10_4_00, .int .i64 y10_4.next, .int .i64 y10_4.told], .bool true] ((ImmI a10_4_00 y10_4.data) :: (RChA c y8_8.2) :: Γ) (rs := [.cell 8 60, .tmp 9]) (by kernel_rfl) (.cons (.cell (by kernel_rfl) (retN (off := 0) (vs := [.int .i64 y10_4.kind, .int .i64 y10_4.line, .int .i64 y10_4.id, .int .i64 y10_4.step, .int .i64 y10_4.state, .int .i64 y10_4.head, .slice a10_4_00 (List.length y10_4.data) c10_4_00, .int .i64 y10_4.next, .int .i64 y10_4.told]) 9 (fun _ => by kernel_rfl) (holds_own .here) rfl (by exact ⟨rfl, rfl, rfl, rfl, rfl, rfl, rfl, rfl, rfl, trivial⟩))) (.cons (.tmp (by kernel_rfl)) .nil)) (fun w hw => (Sat.less (.take (.there .here) (.take (.there .here) (.drop .here (.drop .here (.drop .here (.drop .here .refl)))))) hw)) ?_
      exact ⟨a10_4_00, c10_4_00, rfl, rfl⟩
     ·replace H := bifF H h4
      refine at_false (t := p.flag) (x := C53 [1,0,0,1,1,1,1,1,0,1,0,1,0]) (y := C53 [1,0,0,1,1,1,1,1,0,1,0,1,1]) (o := .tmp 49) (by kernel_rfl) (by kernel_rfl) (by kernel_rfl) h4 ?_
      refine at_skip (by kernel_rfl) ?_
      refine at_then_normal ?_
      refine aq (x := C53 [1,0,0,1,1,1,1,1,0,1,1,0]) (y := C53 [1,0,0,1,1,1,1,1,0,1,1,1]) ?_
      refine ar (id := 11) 5 ?_
      refine sl 55 (.agg #[.int .i64 d.kind, .int .i64 d.line, .int .i64 d.id, .int .i64 d.step, .int .i64 d.state, .int .i64 d.head, .slice da (List.length d.data) dcap, .int .i64 d.next, .int .i64 d.told]) (loadN (off := 0) (vs := [.int .i64 d.kind, .int .i64 d.line, .int .i64 d.id, .int .i64 d.step, .int .i64 d.state, .int .i64 d.head, .slice da (List.length d.data) dcap, .int .i64 d.next, .int .i64 d.told]) 9 (fun _ => by kernel_rfl) (holds_own (.there (.there (.there .here)))) rfl (by exact ⟨rfl, rfl, rfl, rfl, rfl, rfl, rfl, rfl, rfl, trivial⟩)) ?_
      refine sp 56 (.int .i64 node) ?_
      obtain ⟨y11_2, hy11_2, H⟩ := bindE H
      refine s_call 57 69 #[.agg #[.int .i64 d.kind, .int .i64 d.line, .int .i64 d.id, .int .i64 d.step, .int .i64 d.state, .int .i64 d.head, .slice da (List.length d.data) dcap, .int .i64 d.next, .int .i64 d.told], .int .i64 (1), .int .i64 node, .slice none 0 0] (by kernel_rfl) (by kernel_rfl) (fun _ => by kernel_rfl) (RUnlockF_tr da dcap d (1 : Int) node none 0 ([] : List Int) (ImmR.reads (k := 1) (.there (.there (.there (.there .here))))) Reads.nil y11_2 hy11_2) ?_
      rintro _ _ ⟨a11_2_00, c11_2_00, rfl, rfl⟩
      refine s_do (by kernel_rfl) (by kernel_rfl) (st_store (off := 0) (vs := [.int .i64 y11_2.kind, .int .i64 y11_2.line, .int .i64 y11_2.id, .int .i64 y11_2.step, .int .i64 y11_2.state, .int .i64 y11_2.head, .slice a11_2_00 (List.length y11_2.data) c11_2_00, .int .i64 y11_2.next, .int .i64 y11_2.told]) (c' := #[.int .i64 y11_2.kind, .int .i64 y11_2.line, .int .i64 y11_2.id, .int .i64 y11_2.step, .int .i64 y11_2.state, .int .i64 y11_2.head, .slice a11_2_00 (List.length y11_2.data) c11_2_00, .int .i64 y11_2.next, .int .i64 y11_2.told]) (fun _ => by kernel_rfl) (.there (.there .here)) (by kernel_rfl) (by kernel_rfl) (by kernel_rfl)) ?_
      rintro _ _ ⟨rfl, rfl⟩
      refine sp 9 (.bool true) ?_
      refine ops_end ?_
      refine ae [(8, .pointer (some ⟨b0_2, 0, none⟩)), (9, .bool true)] ?_
      refine at_then_normal ?_
      refine at_ret (by kernel_rfl) ?_
      refine at_in_ret ?_
      refine at_then_ret ?_
      obtain rfl := someE H
      refine at_backR [.agg #[.int .i64 y11_2.kind, .int .i64 y11_2.line, .int .i64 y11_2.id, .int .i64 y11_2.step, .int .i64 y11_2.state, .int .i64 y11_2.head, .slice a11_2_00 (List.length y11_2.data) c11_2_00, .int .i64 y11_2.next, .int .i64 y11_2.told], .bool true] ((ImmI a11_2_00 y11_2.data) :: (RChA c y8_8.2) :: Γ) (rs := [.cell 8 60, .tmp 9]) (by kernel_rfl) (.cons (.cell (by kernel_rfl) (retN (off := 0) (vs := [.int .i64 y11_2.kind, .int .i64 y11_2.line, .int .i64 y11_2.id, .int .i64 y11_2.step, .int .i64 y11_2.state, .int .i64 y11_2.head, .slice a11_2_00 (List.length y11_2.data) c11_2_00, .int .i64 y11_2.next, .int .i64 y11_2.told]) 9 (fun _ => by kernel_rfl) (holds_own .here) rfl (by exact ⟨rfl, rfl, rfl, rfl, rfl, rfl, rfl, rfl, rfl, trivial⟩))) (.cons (.tmp (by kernel_rfl)) .nil)) (fun w hw => (Sat.less (.take (.there .here) (.take (.there .here) (.drop .here (.drop .here (.drop .here (.drop .here .refl)))))) hw)) ?_
      exact ⟨a11_2_00, c11_2_00, rfl, rfl⟩
    ·replace H := bifF H h3
     refine at_false (t := decide (d.step = (2 : Int))) (x := C53 [1,0,0,1,1,1,1,1,0]) (y := C53 [1,0,0,1,1,1,1,1,1]) (o := .tmp 35) (by kernel_rfl) (by kernel_rfl) (by kernel_rfl) h3 ?_
     refine at_skip (by kernel_rfl) ?_
     refine at_in_normal ?_
     refine at_then_normal ?_
     refine aq (x := C53 [1,1,0]) (y := C53 [1,1,1]) ?_
     refine ar (id := 12) 3 ?_
     refine sp 58 (.agg #[.int .i64 (0), .int .i64 (0), .int .i64 (0), .int .i64 (0), .int .i64 (0), .int .i64 (0), .slice none 0 0, .int .i64 (0), .int .i64 (0)]) ?_
     refine s_do (by kernel_rfl) (by kernel_rfl) (st_store (off := 0) (vs := [.int .i64 (0), .int .i64 (0), .int .i64 (0), .int .i64 (0), .int .i64 (0), .int .i64 (0), .slice none 0 0, .int .i64 (0), .int .i64 (0)]) (c' := #[.int .i64 (0), .int .i64 (0), .int .i64 (0), .int .i64 (0), .int .i64 (0), .int .i64 (0), .slice none 0 0, .int .i64 (0), .int .i64 (0)]) (fun _ => by kernel_rfl) .here (by kernel_rfl) (by kernel_rfl) (by kernel_rfl)) ?_
     rintro _ _ ⟨rfl, rfl⟩
     refine sp 9 (.bool false) ?_
     refine ops_end ?_
     refine ae [(8, .pointer (some ⟨b0_2, 0, none⟩)), (9, .bool false)] ?_
     refine at_then_normal ?_
     refine at_ret (by kernel_rfl) ?_
     obtain rfl := someE H
     refine at_backR [.agg #[.int .i64 (0), .int .i64 (0), .int .i64 (0), .int .i64 (0), .int .i64 (0), .int .i64 (0), .slice none 0 0, .int .i64 (0), .int .i64 (0)], .bool false] ((ImmI none ([] : List Int)) :: (RChA c cc) :: Γ) (rs := [.cell 8 60, .tmp 9]) (by kernel_rfl) (.cons (.cell (by kernel_rfl) (retN (off := 0) (vs := [.int .i64 (0), .int .i64 (0), .int .i64 (0), .int .i64 (0), .int .i64 (0), .int .i64 (0), .slice none 0 0, .int .i64 (0), .int .i64 (0)]) 9 (fun _ => by kernel_rfl) (holds_own .here) rfl (by exact ⟨rfl, rfl, rfl, rfl, rfl, rfl, rfl, rfl, rfl, trivial⟩))) (.cons (.tmp (by kernel_rfl)) .nil)) (fun w hw => (Sat.less (.take .here (.take (.there (.there (.there (.there .here)))) (.drop .here (.drop .here (.drop .here (.drop .here .refl)))))) (ImmR.nil_mk (k := 1) (a := none) hw))) ?_
     exact ⟨none, 0, rfl, rfl⟩
 ·refine ar (id := 1) 9 ?_
  refine sp 11 (.pointer (some ⟨b0_0, 3, none⟩)) ?_
  refine sl 12 (.int .i64 d.step) (load1 (off := 3) (fun _ => by kernel_rfl) (holds_own (.there (.there .here))) (by kernel_rfl)) ?_
  refine sp 13 (.bool (decide (d.step = (1 : Int)))) ?_
  rcases Bool.eq_false_or_eq_true (decide (d.step = (1 : Int))) with h5 | h5
  ·replace H := bifT H h5
   refine sr 14 (.bool true) (run_eq (v := .bool (decide (d.step = (1 : Int)))) (fun _ => by kernel_rfl) (congrArg Value.bool h5)) ?_
   refine sp 15 (.pointer (some ⟨b0_0, 4, none⟩)) ?_
   refine sl 16 (.int .i64 d.state) (load1 (off := 4) (fun _ => by kernel_rfl) (holds_own (.there (.there .here))) (by kernel_rfl)) ?_
   refine sp 17 (.bool (decide (d.state = (0 : Int)))) ?_
   refine sp 18 (.bool (decide (d.state = (0 : Int)))) ?_
   refine sp 10 (.bool (decide (d.state = (0 : Int)))) ?_
   refine ops_end ?_
   refine ae [(1, .int .i64 node), (2, .pointer (some ⟨c, 0, none⟩)), (4, .pointer (some ⟨b0_0, 0, none⟩)), (7, .pointer (some ⟨b0_1, 0, none⟩)), (8, .pointer (some ⟨b0_2, 0, none⟩)), (10, .bool (decide (d.state = (0 : Int))))] ?_
   refine at_round_normal ?_
   exact at_join_mk [(1, .int .i64 node), (2, .pointer (some ⟨c, 0, none⟩)), (4, .pointer (some ⟨b0_0, 0, none⟩)), (7, .pointer (some ⟨b0_1, 0, none⟩)), (8, .pointer (some ⟨b0_2, 0, none⟩)), (10, .bool (decide (d.state = (0 : Int))))] ((Asn.own b0_2 (.cells #[.int .i64 (0), .int .i64 (0), .int .i64 (0), .int .i64 (0), .int .i64 (0), .int .i64 (0), .slice none 0 0, .int .i64 (0), .int .i64 (0)] 60 (0, 0))) :: (Asn.own b0_1 (.cells #[.int .i64 p.kind, .int .i64 p.src, .int .i64 p.dst, .int .i64 p.id, .int .i64 p.line, .int .i64 p.ptr, .int .i64 p.state, .bool p.flag, .slice pa (List.length p.data) pcap] 33 (0, 0))) :: (Asn.own b0_0 (.cells #[.int .i64 d.kind, .int .i64 d.line, .int .i64 d.id, .int .i64 d.step, .int .i64 d.state, .int .i64 d.head, .slice da (List.length d.data) dcap, .int .i64 d.next, .int .i64 d.told] 60 (0, 0))) :: (ImmI da d.data) :: (RChA c cc) :: Γ) ⟨by kernel_rfl, by kernel_rfl, by kernel_rfl, by kernel_rfl, by kernel_rfl, by kernel_rfl, trivial⟩ (fun w hw => (Sat.less (.take .here (.take .here (.take .here (.take .here (.take .here .refl))))) hw)) ⟨decide (d.state = (0 : Int)), H, rfl, rfl⟩
  ·replace H := bifF H h5
   refine sr 14 (.bool false) (run_eq (v := .bool (decide (d.step = (1 : Int)))) (fun _ => by kernel_rfl) (congrArg Value.bool h5)) ?_
   refine sa 15 ?_
   refine sa 16 ?_
   refine sa 17 ?_
   refine sp 18 (.bool false) ?_
   refine sp 10 (.bool false) ?_
   refine ops_end ?_
   refine ae [(1, .int .i64 node), (2, .pointer (some ⟨c, 0, none⟩)), (4, .pointer (some ⟨b0_0, 0, none⟩)), (7, .pointer (some ⟨b0_1, 0, none⟩)), (8, .pointer (some ⟨b0_2, 0, none⟩)), (10, .bool false)] ?_
   refine at_round_normal ?_
   exact at_join_mk [(1, .int .i64 node), (2, .pointer (some ⟨c, 0, none⟩)), (4, .pointer (some ⟨b0_0, 0, none⟩)), (7, .pointer (some ⟨b0_1, 0, none⟩)), (8, .pointer (some ⟨b0_2, 0, none⟩)), (10, .bool false)] ((Asn.own b0_2 (.cells #[.int .i64 (0), .int .i64 (0), .int .i64 (0), .int .i64 (0), .int .i64 (0), .int .i64 (0), .slice none 0 0, .int .i64 (0), .int .i64 (0)] 60 (0, 0))) :: (Asn.own b0_1 (.cells #[.int .i64 p.kind, .int .i64 p.src, .int .i64 p.dst, .int .i64 p.id, .int .i64 p.line, .int .i64 p.ptr, .int .i64 p.state, .bool p.flag, .slice pa (List.length p.data) pcap] 33 (0, 0))) :: (Asn.own b0_0 (.cells #[.int .i64 d.kind, .int .i64 d.line, .int .i64 d.id, .int .i64 d.step, .int .i64 d.state, .int .i64 d.head, .slice da (List.length d.data) dcap, .int .i64 d.next, .int .i64 d.told] 60 (0, 0))) :: (ImmI da d.data) :: (RChA c cc) :: Γ) ⟨by kernel_rfl, by kernel_rfl, by kernel_rfl, by kernel_rfl, by kernel_rfl, by kernel_rfl, trivial⟩ (fun w hw => (Sat.less (.take .here (.take .here (.take .here (.take .here (.take .here .refl))))) hw)) ⟨false, H, rfl, rfl⟩
def rwrite7S_j1 (d : DealS) (e0_b0_0_6x : List Int) (cc : CacheS) (node : Int) (e1_b0_0_7 : Int) : Option (DealS × Bool × CacheS) :=
 (bif !(decide (e1_b0_0_7 = ((-1) : Int))) then some ((⟨d.kind, d.line, d.id, 3, d.state, d.head, e0_b0_0_6x, e1_b0_0_7, d.told⟩ : DealS), true, cc) else (rputS cc (⟨(-1), (-1), d.line, 0, true, e0_b0_0_6x⟩ : Ent)).bind fun y17_6 => (runlockS (⟨d.kind, d.line, d.id, d.step, d.state, d.head, e0_b0_0_6x, e1_b0_0_7, d.told⟩ : DealS) (2 : Int) node ([] : List Int)).bind fun y18_2 => some (y18_2, true, y17_6.2))
def rwrite7S_j0 (node : Int) (y1_3 : Int) (cc : CacheS) (d : DealS) (e0_b0_0_6x : List Int) (e0_b0_0_7 : Int) : Option (DealS × Bool × CacheS) :=
 (bif decide (e0_b0_0_7 = node) then (bif decide ((0 : Int) ≤ y1_3) then chk (0 ≤ y1_3 ∧ y1_3 < ((List.length cc.l : Nat) : Int)) (rwrite7S_j1 d e0_b0_0_6x cc node (nthT cc.l y1_3).fwd) else rwrite7S_j1 d e0_b0_0_6x cc node e0_b0_0_7) else rwrite7S_j1 d e0_b0_0_6x cc node e0_b0_0_7)
def rwrite7S (d : DealS) (node : Int) (cc : CacheS) (p : PktS) : Option (DealS × Bool × CacheS) :=
 (ratS cc d.line).bind fun y1_3 => (bif decide (d.step = (1 : Int)) then (bif decide ((0 : Int) ≤ y1_3) then chk (0 ≤ y1_3 ∧ y1_3 < ((List.length cc.l : Nat) : Int)) (letP (nthT cc.l y1_3) fun x6_7 => chk ((x6_7.data).length ≤ 1099511627776) (letP (x6_7.data) fun l6_8 => rwrite7S_j0 node y1_3 cc d l6_8 d.head)) else rwrite7S_j0 node y1_3 cc d d.data d.head) else (bif decide (d.step = (3 : Int)) then (bif decide (y1_3 < (0 : Int)) then chk ((p.data).length ≤ 1099511627776) (letP (p.data) fun l10_2 => rwrite7S_j0 node y1_3 cc d l10_2 p.ptr) else rwrite7S_j0 node y1_3 cc d d.data p.ptr) else some ((⟨0, 0, 0, 0, 0, 0, ([] : List Int), 0, 0⟩ : DealS), false, cc)))
noncomputable def C54 (p : List Nat) : Code := codeAt (bodyOf Try.f54) p
set_option maxRecDepth 100000 in
set_option maxHeartbeats 8000000 in
theorem RWrite7F_tr {W0 : World} {Γ : List Asn} (da : Option Addr) (dcap : Nat) (d : DealS) (node : Int) (c : Nat) (cc : CacheS) (pa : Option Addr) (pcap : Nat) (p : PktS) (hrpa : Reads W0 Γ pa (ints p.data)) (y : DealS × Bool × CacheS) (H : rwrite7S d node cc p = some y) : Tr Try.prog 54 #[.agg #[.int .i64 d.kind, .int .i64 d.line, .int .i64 d.id, .int .i64 d.step, .int .i64 d.state, .int .i64 d.head, .slice da (List.length d.data) dcap, .int .i64 d.next, .int .i64 d.told], .int .i64 node, .pointer (some ⟨c, 0, none⟩), .agg #[.int .i64 p.kind, .int .i64 p.src, .int .i64 p.dst, .int .i64 p.id, .int .i64 p.line, .int .i64 p.ptr, .int .i64 p.state, .bool p.flag, .slice pa (List.length p.data) pcap]] W0 ((ImmI da d.data) :: (RChA c cc) :: Γ) (fun r Δ => ∃ (a0_0 : Option Addr) (c0_0 : Nat), r = .tuple #[.agg #[.int .i64 y.1.kind, .int .i64 y.1.line, .int .i64 y.1.id, .int .i64 y.1.step, .int .i64 y.1.state, .int .i64 y.1.head, .slice a0_0 (List.length y.1.data) c0_0, .int .i64 y.1.next, .int .i64 y.1.told], .bool y.2.1] ∧ Δ = (ImmI a0_0 y.1.data) :: (RChA c y.2.2) :: Γ) := by
 unfold rwrite7S at H
 refine Tr.enter (fn := Try.f54) (c := C54 []) (args := [.agg #[.int .i64 d.kind, .int .i64 d.line, .int .i64 d.id, .int .i64 d.step, .int .i64 d.state, .int .i64 d.head, .slice da (List.length d.data) dcap, .int .i64 d.next, .int .i64 d.told], .int .i64 node, .pointer (some ⟨c, 0, none⟩), .agg #[.int .i64 p.kind, .int .i64 p.src, .int .i64 p.dst, .int .i64 p.id, .int .i64 p.line, .int .i64 p.ptr, .int .i64 p.state, .bool p.flag, .slice pa (List.length p.data) pcap]]) 78 Try.func54 (by kernel_rfl) (by kernel_rfl) ?_
 refine ae [(0, .agg #[.int .i64 d.kind, .int .i64 d.line, .int .i64 d.id, .int .i64 d.step, .int .i64 d.state, .int .i64 d.head, .slice da (List.length d.data) dcap, .int .i64 d.next, .int .i64 d.told]), (1, .int .i64 node), (2, .pointer (some ⟨c, 0, none⟩)), (3, .agg #[.int .i64 p.kind, .int .i64 p.src, .int .i64 p.dst, .int .i64 p.id, .int .i64 p.line, .int .i64 p.ptr, .int .i64 p.state, .bool p.flag, .slice pa (List.length p.data) pcap])] ?_
 refine aq (x := C54 [0]) (y := C54 [1]) ?_
 refine ar (id := 0) 4 ?_
 refine s_step 4 (by kernel_rfl) (by kernel_rfl) (st_new (T := 60) (cells := #[.int .i64 d.kind, .int .i64 d.line, .int .i64 d.id, .int .i64 d.step, .int .i64 d.state, .int .i64 d.head, .slice da (List.length d.data) dcap, .int .i64 d.next, .int .i64 d.told]) (fun a => .pointer (some a)) (fun _ => by kernel_rfl)) ?_
 rintro _ _ ⟨b0_0, rfl, rfl⟩
 refine s_step 7 (by kernel_rfl) (by kernel_rfl) (st_new (T := 33) (cells := #[.int .i64 p.kind, .int .i64 p.src, .int .i64 p.dst, .int .i64 p.id, .int .i64 p.line, .int .i64 p.ptr, .int .i64 p.state, .bool p.flag, .slice pa (List.length p.data) pcap]) (fun a => .pointer (some a)) (fun _ => by kernel_rfl)) ?_
 rintro _ _ ⟨b0_1, rfl, rfl⟩
 refine s_step 8 (by kernel_rfl) (by kernel_rfl) (st_new (T := 60) (cells := #[.int .i64 (0), .int .i64 (0), .int .i64 (0), .int .i64 (0), .int .i64 (0), .int .i64 (0), .slice none 0 0, .int .i64 (0), .int .i64 (0)]) (fun a => .pointer (some a)) (fun _ => by kernel_rfl)) ?_
 rintro _ _ ⟨b0_2, rfl, rfl⟩
 refine sp 9 (.bool false) ?_
 refine ops_end ?_
 refine ae [(1, .int .i64 node), (2, .pointer (some ⟨c, 0, none⟩)), (4, .pointer (some ⟨b0_0, 0, none⟩)), (7, .pointer (some ⟨b0_1, 0, none⟩)), (8, .pointer (some ⟨b0_2, 0, none⟩))] ?_
 refine at_then_normal ?_
 refine aq (x := C54 [1,0]) (y := C54 [1,1]) ?_
 refine ar (id := 1) 5 ?_
 refine sp 11 (.pointer (some ⟨c, 0, none⟩)) ?_
 refine sp 12 (.pointer (some ⟨b0_0, 1, none⟩)) ?_
 refine sl 13 (.int .i64 d.line) (load1 (off := 1) (fun _ => by kernel_rfl) (holds_own (.there (.there .here))) (by kernel_rfl)) ?_
 refine RChA.tox (.there (.there (.there (.there .here)))) ?_
 intro x1_3_c
 obtain ⟨y1_3, hy1_3, H⟩ := bindE H
 refine s_call 14 47 #[.pointer (some ⟨c, 0, none⟩), .int .i64 d.line] (by kernel_rfl) (by kernel_rfl) (fun _ => by kernel_rfl) (RAtF_tr c x1_3_c cc d.line y1_3 hy1_3) ?_
 rintro _ _ ⟨rfl, rfl⟩
 refine sp 10 (.int .i64 y1_3) ?_
 refine ops_end ?_
 refine ae [(1, .int .i64 node), (2, .pointer (some ⟨c, 0, none⟩)), (4, .pointer (some ⟨b0_0, 0, none⟩)), (7, .pointer (some ⟨b0_1, 0, none⟩)), (8, .pointer (some ⟨b0_2, 0, none⟩)), (10, .int .i64 y1_3)] ?_
 refine at_then_normal ?_
 refine At.conv (Γ' := (RChA c cc) :: (Asn.own b0_2 (.cells #[.int .i64 (0), .int .i64 (0), .int .i64 (0), .int .i64 (0), .int .i64 (0), .int .i64 (0), .slice none 0 0, .int .i64 (0), .int .i64 (0)] 60 (0, 0))) :: (Asn.own b0_1 (.cells #[.int .i64 p.kind, .int .i64 p.src, .int .i64 p.dst, .int .i64 p.id, .int .i64 p.line, .int .i64 p.ptr, .int .i64 p.state, .bool p.flag, .slice pa (List.length p.data) pcap] 33 (0, 0))) :: (Asn.own b0_0 (.cells #[.int .i64 d.kind, .int .i64 d.line, .int .i64 d.id, .int .i64 d.step, .int .i64 d.state, .int .i64 d.head, .slice da (List.length d.data) dcap, .int .i64 d.next, .int .i64 d.told] 60 (0, 0))) :: (ImmI da d.data) :: Γ) (fun w hw => RChXA.shut (hw.pull .here)) ?_
 refine at_seq_join (x := C54 [1,1,0]) (y := C54 [1,1,1]) (fun ff ΔΔ => ∃ (e0_b0_0_6x : List Int) (e0_b0_0_7 : Int) (e0_b0_0_6a : Option Addr) (e0_b0_0_6c : Nat), rwrite7S_j0 node y1_3 cc d e0_b0_0_6x e0_b0_0_7 = some y ∧ ff = [(1, .int .i64 node), (2, .pointer (some ⟨c, 0, none⟩)), (4, .pointer (some ⟨b0_0, 0, none⟩)), (8, .pointer (some ⟨b0_2, 0, none⟩)), (10, .int .i64 y1_3)] ∧ (ImmI e0_b0_0_6a e0_b0_0_6x) :: (RChA c cc) :: (Asn.own b0_2 (.cells #[.int .i64 (0), .int .i64 (0), .int .i64 (0), .int .i64 (0), .int .i64 (0), .int .i64 (0), .slice none 0 0, .int .i64 (0), .int .i64 (0)] 60 (0, 0))) :: (Asn.own b0_0 (.cells #[.int .i64 d.kind, .int .i64 d.line, .int .i64 d.id, .int .i64 d.step, .int .i64 d.state, .int .i64 d.head, .slice e0_b0_0_6a (List.length e0_b0_0_6x) e0_b0_0_6c, .int .i64 e0_b0_0_7, .int .i64 d.told] 60 (0, 0))) :: Γ = ΔΔ) (by kernel_rfl) ?_ ?_
 ·rintro _ _ ⟨e0_b0_0_6x, e0_b0_0_7, e0_b0_0_6a, e0_b0_0_6c, H, rfl, rfl⟩
  rw [rwrite7S_j0] at H
  refine at_seq_join (x := C54 [1,1,1,0]) (y := C54 [1,1,1,1]) (fun ff ΔΔ => ∃ (e1_b0_0_7 : Int), rwrite7S_j1 d e0_b0_0_6x cc node e1_b0_0_7 = some y ∧ ff = [(1, .int .i64 node), (2, .pointer (some ⟨c, 0, none⟩)), (4, .pointer (some ⟨b0_0, 0, none⟩)), (8, .pointer (some ⟨b0_2, 0, none⟩))] ∧ (ImmI e0_b0_0_6a e0_b0_0_6x) :: (RChA c cc) :: (Asn.own b0_2 (.cells #[.int .i64 (0), .int .i64 (0), .int .i64 (0), .int .i64 (0), .int .i64 (0), .int .i64 (0), .slice none 0 0, .int .i64 (0), .int .i64 (0)] 60 (0, 0))) :: (Asn.own b0_0 (.cells #[.int .i64 d.kind, .int .i64 d.line, .int .i64 d.id, .int .i64 d.step, .int .i64 d.state, .int .i64 d.head, .slice e0_b0_0_6a (List.length e0_b0_0_6x) e0_b0_0_6c, .int .i64 e1_b0_0_7, .int .i64 d.told] 60 (0, 0))) :: Γ = ΔΔ) (by kernel_rfl) ?_ ?_
  ·rintro _ _ ⟨e1_b0_0_7, H, rfl, rfl⟩
   rw [rwrite7S_j1] at H
   refine aq (x := C54 [1,1,1,1,0]) (y := C54 [1,1,1,1,1]) ?_
   refine aq (x := C54 [1,1,1,1,0,0]) (y := C54 [1,1,1,1,0,1]) ?_
   refine ar (id := 14) 3 ?_
   refine sp 63 (.pointer (some ⟨b0_0, 7, none⟩)) ?_
   refine sl 64 (.int .i64 e1_b0_0_7) (load1 (off := 7) (fun _ => by kernel_rfl) (holds_own (.there (.there (.there .here)))) (by kernel_rfl)) ?_
   refine sp 65 (.bool (!(decide (e1_b0_0_7 = ((-1) : Int))))) ?_
   refine ops_end ?_
   refine ae [(1, .int .i64 node), (2, .pointer (some ⟨c, 0, none⟩)), (4, .pointer (some ⟨b0_0, 0, none⟩)), (8, .pointer (some ⟨b0_2, 0, none⟩)), (65, .bool (!(decide (e1_b0_0_7 = ((-1) : Int)))))] ?_
   refine at_then_normal ?_
   rcases Bool.eq_false_or_eq_true (!(decide (e1_b0_0_7 = ((-1) : Int)))) with h1 | h1
   ·replace H := bifT H h1
    refine at_true (t := !(decide (e1_b0_0_7 = ((-1) : Int)))) (x := C54 [1,1,1,1,0,1,0]) (y := C54 [1,1,1,1,0,1,1]) (o := .tmp 65) (by kernel_rfl) (by kernel_rfl) (by kernel_rfl) h1 ?_
    refine aq (x := C54 [1,1,1,1,0,1,0,0]) (y := C54 [1,1,1,1,0,1,0,1]) ?_
    refine ar (id := 15) 2 ?_
    refine sp 66 (.pointer (some ⟨b0_0, 3, none⟩)) ?_
    refine s_do (by kernel_rfl) (by kernel_rfl) (st_store (off := 3) (vs := [.int .i64 (3)]) (c' := #[.int .i64 d.kind, .int .i64 d.line, .int .i64 d.id, .int .i64 (3), .int .i64 d.state, .int .i64 d.head, .slice e0_b0_0_6a (List.length e0_b0_0_6x) e0_b0_0_6c, .int .i64 e1_b0_0_7, .int .i64 d.told]) (fun _ => by kernel_rfl) (.there (.there (.there .here))) (by kernel_rfl) (by kernel_rfl) (by kernel_rfl)) ?_
    rintro _ _ ⟨rfl, rfl⟩
    refine ops_end ?_
    refine ae [(4, .pointer (some ⟨b0_0, 0, none⟩)), (8, .pointer (some ⟨b0_2, 0, none⟩))] ?_
    refine at_then_normal ?_
    refine aq (x := C54 [1,1,1,1,0,1,0,1,0]) (y := C54 [1,1,1,1,0,1,0,1,1]) ?_
    refine ar (id := 16) 3 ?_
    refine sl 67 (.agg #[.int .i64 d.kind, .int .i64 d.line, .int .i64 d.id, .int .i64 (3), .int .i64 d.state, .int .i64 d.head, .slice e0_b0_0_6a (List.length e0_b0_0_6x) e0_b0_0_6c, .int .i64 e1_b0_0_7, .int .i64 d.told]) (loadN (off := 0) (vs := [.int .i64 d.kind, .int .i64 d.line, .int .i64 d.id, .int .i64 (3), .int .i64 d.state, .int .i64 d.head, .slice e0_b0_0_6a (List.length e0_b0_0_6x) e0_b0_0_6c, .int .i64 e1_b0_0_7, .int .i64 d.told]) 9 (fun _ => by kernel_rfl) (holds_own .here) rfl (by exact ⟨rfl, rfl, rfl, rfl, rfl, rfl, rfl, rfl, rfl, trivial⟩)) ?_
    refine s_do (by kernel_rfl) (by kernel_rfl) (st_store (off := 0) (vs := [.int .i64 d.kind, .int .i64 d.line, .int .i64 d.id, .int .i64 (3), .int .i64 d.state, .int .i64 d.head, .slice e0_b0_0_6a (List.length e0_b0_0_6x) e0_b0_0_6c, .int .i64 e1_b0_0_7, .int .i64 d.told]) (c' := #[.int .i64 d.kind, .int .i64 d.line, .int .i64 d.id, .int .i64 (3), .int .i64 d.state, .int .i64 d.head, .slice e0_b0_0_6a (List.length e0_b0_0_6x) e0_b0_0_6c, .int .i64 e1_b0_0_7, .int .i64 d.told]) (fun _ => by kernel_rfl) (.there (.there (.there .here))) (by kernel_rfl) (by kernel_rfl) (by kernel_rfl)) ?_
    rintro _ _ ⟨rfl, rfl⟩
    refine sp 9 (.bool true) ?_
    refine ops_end ?_
    refine ae [(8, .pointer (some ⟨b0_2, 0, none⟩)), (9, .bool true)] ?_
    refine at_then_normal ?_
    refine at_ret (by kernel_rfl) ?_
    refine at_then_ret ?_
    obtain rfl := someE H
    refine at_backR [.agg #[.int .i64 d.kind, .int .i64 d.line, .int .i64 d.id, .int .i64 (3), .int .i64 d.state, .int .i64 d.head, .slice e0_b0_0_6a (List.length e0_b0_0_6x) e0_b0_0_6c, .int .i64 e1_b0_0_7, .int .i64 d.told], .bool true] ((ImmI e0_b0_0_6a e0_b0_0_6x) :: (RChA c cc) :: Γ) (rs := [.cell 8 60, .tmp 9]) (by kernel_rfl) (.cons (.cell (by kernel_rfl) (retN (off := 0) (vs := [.int .i64 d.kind, .int .i64 d.line, .int .i64 d.id, .int .i64 (3), .int .i64 d.state, .int .i64 d.head, .slice e0_b0_0_6a (List.length e0_b0_0_6x) e0_b0_0_6c, .int .i64 e1_b0_0_7, .int .i64 d.told]) 9 (fun _ => by kernel_rfl) (holds_own .here) rfl (by exact ⟨rfl, rfl, rfl, rfl, rfl, rfl, rfl, rfl, rfl, trivial⟩))) (.cons (.tmp (by kernel_rfl)) .nil)) (fun w hw => (Sat.less (.take (.there (.there .here)) (.take (.there (.there .here)) (.drop .here (.drop .here .refl)))) hw)) ?_
    exact ⟨e0_b0_0_6a, e0_b0_0_6c, rfl, rfl⟩
   ·replace H := bifF H h1
    refine at_false (t := !(decide (e1_b0_0_7 = ((-1) : Int)))) (x := C54 [1,1,1,1,0,1,0]) (y := C54 [1,1,1,1,0,1,1]) (o := .tmp 65) (by kernel_rfl) (by kernel_rfl) (by kernel_rfl) h1 ?_
    refine at_skip (by kernel_rfl) ?_
    refine at_then_normal ?_
    refine aq (x := C54 [1,1,1,1,1,0]) (y := C54 [1,1,1,1,1,1]) ?_
    refine ar (id := 17) 7 ?_
    refine sp 68 (.pointer (some ⟨c, 0, none⟩)) ?_
    refine sp 69 (.pointer (some ⟨b0_0, 1, none⟩)) ?_
    refine sl 70 (.int .i64 d.line) (load1 (off := 1) (fun _ => by kernel_rfl) (holds_own (.there (.there (.there .here)))) (by kernel_rfl)) ?_
    refine sp 71 (.pointer (some ⟨b0_0, 6, none⟩)) ?_
    refine sl 72 (.slice e0_b0_0_6a (List.length e0_b0_0_6x) e0_b0_0_6c) (load1 (off := 6) (fun _ => by kernel_rfl) (holds_own (.there (.there (.there .here)))) (by kernel_rfl)) ?_
    refine sp 73 (.agg #[.int .i64 (-1), .int .i64 (-1), .int .i64 d.line, .int .i64 (0), .bool true, .slice e0_b0_0_6a (List.length e0_b0_0_6x) e0_b0_0_6c]) ?_
    obtain ⟨y17_6, hy17_6, H⟩ := bindE H
    refine s_call 74 34 #[.pointer (some ⟨c, 0, none⟩), .agg #[.int .i64 (-1), .int .i64 (-1), .int .i64 d.line, .int .i64 (0), .bool true, .slice e0_b0_0_6a (List.length e0_b0_0_6x) e0_b0_0_6c]] (by kernel_rfl) (by kernel_rfl) (fun _ => by kernel_rfl) (Tr.conv (Γ' := (RChA c cc) :: (ImmI e0_b0_0_6a e0_b0_0_6x) :: (Asn.own b0_2 (.cells #[.int .i64 (0), .int .i64 (0), .int .i64 (0), .int .i64 (0), .int .i64 (0), .int .i64 (0), .slice none 0 0, .int .i64 (0), .int .i64 (0)] 60 (0, 0))) :: (Asn.own b0_0 (.cells #[.int .i64 d.kind, .int .i64 d.line, .int .i64 d.id, .int .i64 d.step, .int .i64 d.state, .int .i64 d.head, .slice e0_b0_0_6a (List.length e0_b0_0_6x) e0_b0_0_6c, .int .i64 e1_b0_0_7, .int .i64 d.told] 60 (0, 0))) :: Γ) (fun w hw => (Sat.less (.take (.there .here) (.take .here (.take .here (.take .here .refl)))) hw)) (RPutF_tr c cc e0_b0_0_6a e0_b0_0_6c (⟨(-1), (-1), d.line, 0, true, e0_b0_0_6x⟩ : Ent) (ImmR.reads (k := 1) .here) y17_6 hy17_6)) ?_
    rintro _ _ ⟨rfl, rfl⟩
    refine ops_end ?_
    refine ae [(1, .int .i64 node), (4, .pointer (some ⟨b0_0, 0, none⟩)), (8, .pointer (some ⟨b0_2, 0, none⟩))] ?_
    refine at_then_normal ?_
    refine aq (x := C54 [1,1,1,1,1,1,0]) (y := C54 [1,1,1,1,1,1,1]) ?_
    refine ar (id := 18) 5 ?_
    refine sl 75 (.agg #[.int .i64 d.kind, .int .i64 d.line, .int .i64 d.id, .int .i64 d.step, .int .i64 d.state, .int .i64 d.head, .slice e0_b0_0_6a (List.length e0_b0_0_6x) e0_b0_0_6c, .int .i64 e1_b0_0_7, .int .i64 d.told]) (loadN (off := 0) (vs := [.int .i64 d.kind, .int .i64 d.line, .int .i64 d.id, .int .i64 d.step, .int .i64 d.state, .int .i64 d.head, .slice e0_b0_0_6a (List.length e0_b0_0_6x) e0_b0_0_6c, .int .i64 e1_b0_0_7, .int .i64 d.told]) 9 (fun _ => by kernel_rfl) (holds_own (.there (.there (.there .here)))) rfl (by exact ⟨rfl, rfl, rfl, rfl, rfl, rfl, rfl, rfl, rfl, trivial⟩)) ?_
    refine sp 76 (.int .i64 node) ?_
    obtain ⟨y18_2, hy18_2, H⟩ := bindE H
    refine s_call 77 69 #[.agg #[.int .i64 d.kind, .int .i64 d.line, .int .i64 d.id, .int .i64 d.step, .int .i64 d.state, .int .i64 d.head, .slice e0_b0_0_6a (List.length e0_b0_0_6x) e0_b0_0_6c, .int .i64 e1_b0_0_7, .int .i64 d.told], .int .i64 (2), .int .i64 node, .slice none 0 0] (by kernel_rfl) (by kernel_rfl) (fun _ => by kernel_rfl) (RUnlockF_tr e0_b0_0_6a e0_b0_0_6c (⟨d.kind, d.line, d.id, d.step, d.state, d.head, e0_b0_0_6x, e1_b0_0_7, d.told⟩ : DealS) (2 : Int) node none 0 ([] : List Int) (ImmR.reads (k := 1) (.there .here)) Reads.nil y18_2 hy18_2) ?_
    rintro _ _ ⟨a18_2_00, c18_2_00, rfl, rfl⟩
    refine s_do (by kernel_rfl) (by kernel_rfl) (st_store (off := 0) (vs := [.int .i64 y18_2.kind, .int .i64 y18_2.line, .int .i64 y18_2.id, .int .i64 y18_2.step, .int .i64 y18_2.state, .int .i64 y18_2.head, .slice a18_2_00 (List.length y18_2.data) c18_2_00, .int .i64 y18_2.next, .int .i64 y18_2.told]) (c' := #[.int .i64 y18_2.kind, .int .i64 y18_2.line, .int .i64 y18_2.id, .int .i64 y18_2.step, .int .i64 y18_2.state, .int .i64 y18_2.head, .slice a18_2_00 (List.length y18_2.data) c18_2_00, .int .i64 y18_2.next, .int .i64 y18_2.told]) (fun _ => by kernel_rfl) (.there (.there (.there .here))) (by kernel_rfl) (by kernel_rfl) (by kernel_rfl)) ?_
    rintro _ _ ⟨rfl, rfl⟩
    refine sp 9 (.bool true) ?_
    refine ops_end ?_
    refine ae [(8, .pointer (some ⟨b0_2, 0, none⟩)), (9, .bool true)] ?_
    refine at_then_normal ?_
    refine at_ret (by kernel_rfl) ?_
    obtain rfl := someE H
    refine at_backR [.agg #[.int .i64 y18_2.kind, .int .i64 y18_2.line, .int .i64 y18_2.id, .int .i64 y18_2.step, .int .i64 y18_2.state, .int .i64 y18_2.head, .slice a18_2_00 (List.length y18_2.data) c18_2_00, .int .i64 y18_2.next, .int .i64 y18_2.told], .bool true] ((ImmI a18_2_00 y18_2.data) :: (RChA c y17_6.2) :: Γ) (rs := [.cell 8 60, .tmp 9]) (by kernel_rfl) (.cons (.cell (by kernel_rfl) (retN (off := 0) (vs := [.int .i64 y18_2.kind, .int .i64 y18_2.line, .int .i64 y18_2.id, .int .i64 y18_2.step, .int .i64 y18_2.state, .int .i64 y18_2.head, .slice a18_2_00 (List.length y18_2.data) c18_2_00, .int .i64 y18_2.next, .int .i64 y18_2.told]) 9 (fun _ => by kernel_rfl) (holds_own .here) rfl (by exact ⟨rfl, rfl, rfl, rfl, rfl, rfl, rfl, rfl, rfl, trivial⟩))) (.cons (.tmp (by kernel_rfl)) .nil)) (fun w hw => (Sat.less (.take (.there .here) (.take (.there .here) (.drop .here (.drop .here (.drop .here .refl))))) hw)) ?_
    exact ⟨a18_2_00, c18_2_00, rfl, rfl⟩
  ·refine aq (x := C54 [1,1,1,0,0]) (y := C54 [1,1,1,0,1]) ?_
   refine ar (id := 12) 8 ?_
   refine sp 46 (.pointer (some ⟨b0_0, 7, none⟩)) ?_
   refine sl 47 (.int .i64 e0_b0_0_7) (load1 (off := 7) (fun _ => by kernel_rfl) (holds_own (.there (.there (.there .here)))) (by kernel_rfl)) ?_
   refine sp 48 (.int .i64 node) ?_
   refine sp 49 (.bool (decide (e0_b0_0_7 = node))) ?_
   rcases Bool.eq_false_or_eq_true (decide (e0_b0_0_7 = node)) with h2 | h2
   ·replace H := bifT H h2
    refine sr 50 (.bool true) (run_eq (v := .bool (decide (e0_b0_0_7 = node))) (fun _ => by kernel_rfl) (congrArg Value.bool h2)) ?_
    refine sp 51 (.int .i64 y1_3) ?_
    refine sp 52 (.bool (decide ((0 : Int) ≤ y1_3))) ?_
    refine sp 53 (.bool (decide ((0 : Int) ≤ y1_3))) ?_
    refine ops_end ?_
    refine ae [(1, .int .i64 node), (2, .pointer (some ⟨c, 0, none⟩)), (4, .pointer (some ⟨b0_0, 0, none⟩)), (8, .pointer (some ⟨b0_2, 0, none⟩)), (10, .int .i64 y1_3), (53, .bool (decide ((0 : Int) ≤ y1_3)))] ?_
    refine at_then_normal ?_
    rcases Bool.eq_false_or_eq_true (decide ((0 : Int) ≤ y1_3)) with h3 | h3
    ·replace H := bifT H h3
     refine at_true (t := decide ((0 : Int) ≤ y1_3)) (x := C54 [1,1,1,0,1,0]) (y := C54 [1,1,1,0,1,1]) (o := .tmp 53) (by kernel_rfl) (by kernel_rfl) (by kernel_rfl) h3 ?_
     refine ar (id := 13) 10 ?_
     refine sp 54 (.pointer (some ⟨c, 0, none⟩)) ?_
     refine sp 55 (.pointer (some ⟨c, 0, none⟩)) ?_
     refine sp 56 (.pointer (some ⟨c, 3, none⟩)) ?_
     refine RChA.tox (.there .here) ?_
     intro x13_3_c
     refine RChXA.open .here ?_
     refine sl 57 (.slice x13_3_c.a3 (List.length cc.l) x13_3_c.c3) (load1 (off := 3) (fun _ => by kernel_rfl) (holds_own .here) (by kernel_rfl)) ?_
     refine sp 58 (.int .i64 y1_3) ?_
     obtain ⟨hc13_5_0, H⟩ := chkE H
     refine rd_at (RecsX.rd (α := Ent) (.there .here)) (by have := hc13_5_0; omega) ?_
     intro bb1 oo1 ha1
     refine sr 59 (.pointer (some ⟨bb1, oo1 + (((y1_3).toNat) * 6 + 0), none⟩)) (index_at (t := 77) (sz := 6) (E := 50) (a := x13_3_c.a3) (m := (List.length cc.l)) (c := x13_3_c.c3) (b := bb1) (off := oo1) (i := (y1_3).toNat) (tinfo 50) (fun _ => by kernel_rfl) (by kernel_rfl) (by kernel_rfl) (by kernel_rfl) ha1 (idx_cast hc13_5_0) (idx_nat hc13_5_0) rfl) ?_
     refine sr 60 (.pointer (some ⟨bb1, oo1 + (((y1_3).toNat) * 6 + 0), none⟩)) (field_at (f := 0) (addr := ⟨bb1, oo1 + (((y1_3).toNat) * 6 + 0), none⟩) (fun _ => by kernel_rfl) rfl rfl) ?_
     refine sl 61 (.int .i64 ((nthT cc.l y1_3).fwd)) (load1_at (off := oo1 + ((y1_3).toNat * 6 + 0)) (v := .int .i64 ((nthT cc.l y1_3).fwd)) (fun _ => by kernel_rfl) rfl (rd_fld (RecsX.rd (α := Ent) (.there .here)) ha1 hc13_5_0 0 (fun _ _ => rfl))) ?_
     refine sp 62 (.pointer (some ⟨b0_0, 7, none⟩)) ?_
     refine s_do (by kernel_rfl) (by kernel_rfl) (st_store (off := 7) (vs := [.int .i64 ((nthT cc.l y1_3).fwd)]) (c' := #[.int .i64 d.kind, .int .i64 d.line, .int .i64 d.id, .int .i64 d.step, .int .i64 d.state, .int .i64 d.head, .slice e0_b0_0_6a (List.length e0_b0_0_6x) e0_b0_0_6c, .int .i64 ((nthT cc.l y1_3).fwd), .int .i64 d.told]) (fun _ => by kernel_rfl) (.there (.there (.there (.there .here)))) (by kernel_rfl) (by kernel_rfl) (by kernel_rfl)) ?_
     rintro _ _ ⟨rfl, rfl⟩
     refine ops_end ?_
     refine ae [(1, .int .i64 node), (2, .pointer (some ⟨c, 0, none⟩)), (4, .pointer (some ⟨b0_0, 0, none⟩)), (8, .pointer (some ⟨b0_2, 0, none⟩))] ?_
     refine at_round_normal ?_
     refine At.conv (Γ' := (RChXA c x13_3_c cc) :: (Asn.own b0_0 (.cells #[.int .i64 d.kind, .int .i64 d.line, .int .i64 d.id, .int .i64 d.step, .int .i64 d.state, .int .i64 d.head, .slice e0_b0_0_6a (List.length e0_b0_0_6x) e0_b0_0_6c, .int .i64 ((nthT cc.l y1_3).fwd), .int .i64 d.told] 60 (0, 0))) :: (ImmI e0_b0_0_6a e0_b0_0_6x) :: (Asn.own b0_2 (.cells #[.int .i64 (0), .int .i64 (0), .int .i64 (0), .int .i64 (0), .int .i64 (0), .int .i64 (0), .slice none 0 0, .int .i64 (0), .int .i64 (0)] 60 (0, 0))) :: Γ) (fun w hw => RChXA.close (x := x13_3_c) (t := cc) (Sat.less (.take (.there .here) (.take (.there .here) (.take .here (.take .here (.take .here .refl))))) hw)) ?_
     refine At.conv (Γ' := (RChA c cc) :: (Asn.own b0_0 (.cells #[.int .i64 d.kind, .int .i64 d.line, .int .i64 d.id, .int .i64 d.step, .int .i64 d.state, .int .i64 d.head, .slice e0_b0_0_6a (List.length e0_b0_0_6x) e0_b0_0_6c, .int .i64 ((nthT cc.l y1_3).fwd), .int .i64 d.told] 60 (0, 0))) :: (ImmI e0_b0_0_6a e0_b0_0_6x) :: (Asn.own b0_2 (.cells #[.int .i64 (0), .int .i64 (0), .int .i64 (0), .int .i64 (0), .int .i64 (0), .int .i64 (0), .slice none 0 0, .int .i64 (0), .int .i64 (0)] 60 (0, 0))) :: Γ) (fun w hw => RChXA.shut (hw.pull .here)) ?_
     exact at_join_mk [(1, .int .i64 node), (2, .pointer (some ⟨c, 0, none⟩)), (4, .pointer (some ⟨b0_0, 0, none⟩)), (8, .pointer (some ⟨b0_2, 0, none⟩))] ((ImmI e0_b0_0_6a e0_b0_0_6x) :: (RChA c cc) :: (Asn.own b0_2 (.cells #[.int .i64 (0), .int .i64 (0), .int .i64 (0), .int .i64 (0), .int .i64 (0), .int .i64 (0), .slice none 0 0, .int .i64 (0), .int .i64 (0)] 60 (0, 0))) :: (Asn.own b0_0 (.cells #[.int .i64 d.kind, .int .i64 d.line, .int .i64 d.id, .int .i64 d.step, .int .i64 d.state, .int .i64 d.head, .slice e0_b0_0_6a (List.length e0_b0_0_6x) e0_b0_0_6c, .int .i64 ((nthT cc.l y1_3).fwd), .int .i64 d.told] 60 (0, 0))) :: Γ) ⟨by kernel_rfl, by kernel_rfl, by kernel_rfl, by kernel_rfl, trivial⟩ (fun w hw => (Sat.less (.take (.there (.there .here)) (.take .here (.take (.there .here) (.take .here .refl)))) hw)) ⟨(nthT cc.l y1_3).fwd, H, rfl, rfl⟩
    ·replace H := bifF H h3
     refine at_false (t := decide ((0 : Int) ≤ y1_3)) (x := C54 [1,1,1,0,1,0]) (y := C54 [1,1,1,0,1,1]) (o := .tmp 53) (by kernel_rfl) (by kernel_rfl) (by kernel_rfl) h3 ?_
     refine at_skip (by kernel_rfl) ?_
     refine at_round_normal ?_
     exact at_join_mk [(1, .int .i64 node), (2, .pointer (some ⟨c, 0, none⟩)), (4, .pointer (some ⟨b0_0, 0, none⟩)), (8, .pointer (some ⟨b0_2, 0, none⟩))] ((ImmI e0_b0_0_6a e0_b0_0_6x) :: (RChA c cc) :: (Asn.own b0_2 (.cells #[.int .i64 (0), .int .i64 (0), .int .i64 (0), .int .i64 (0), .int .i64 (0), .int .i64 (0), .slice none 0 0, .int .i64 (0), .int .i64 (0)] 60 (0, 0))) :: (Asn.own b0_0 (.cells #[.int .i64 d.kind, .int .i64 d.line, .int .i64 d.id, .int .i64 d.step, .int .i64 d.state, .int .i64 d.head, .slice e0_b0_0_6a (List.length e0_b0_0_6x) e0_b0_0_6c, .int .i64 e0_b0_0_7, .int .i64 d.told] 60 (0, 0))) :: Γ) ⟨by kernel_rfl, by kernel_rfl, by kernel_rfl, by kernel_rfl, trivial⟩ (fun w hw => (Sat.less (.take .here (.take .here (.take .here (.take .here .refl)))) hw)) ⟨e0_b0_0_7, H, rfl, rfl⟩
   ·replace H := bifF H h2
    refine sr 50 (.bool false) (run_eq (v := .bool (decide (e0_b0_0_7 = node))) (fun _ => by kernel_rfl) (congrArg Value.bool h2)) ?_
    refine sa 51 ?_
    refine sa 52 ?_
    refine sp 53 (.bool false) ?_
    refine ops_end ?_
    refine ae [(1, .int .i64 node), (2, .pointer (some ⟨c, 0, none⟩)), (4, .pointer (some ⟨b0_0, 0, none⟩)), (8, .pointer (some ⟨b0_2, 0, none⟩)), (10, .int .i64 y1_3), (53, .bool false)] ?_
    refine at_then_normal ?_
    refine at_false (t := false) (x := C54 [1,1,1,0,1,0]) (y := C54 [1,1,1,0,1,1]) (o := .tmp 53) (by kernel_rfl) (by kernel_rfl) (by kernel_rfl) rfl ?_
    refine at_skip (by kernel_rfl) ?_
    refine at_round_normal ?_
    exact at_join_mk [(1, .int .i64 node), (2, .pointer (some ⟨c, 0, none⟩)), (4, .pointer (some ⟨b0_0, 0, none⟩)), (8, .pointer (some ⟨b0_2, 0, none⟩))] ((ImmI e0_b0_0_6a e0_b0_0_6x) :: (RChA c cc) :: (Asn.own b0_2 (.cells #[.int .i64 (0), .int .i64 (0), .int .i64 (0), .int .i64 (0), .int .i64 (0), .int .i64 (0), .slice none 0 0, .int .i64 (0), .int .i64 (0)] 60 (0, 0))) :: (Asn.own b0_0 (.cells #[.int .i64 d.kind, .int .i64 d.line, .int .i64 d.id, .int .i64 d.step, .int .i64 d.state, .int .i64 d.head, .slice e0_b0_0_6a (List.length e0_b0_0_6x) e0_b0_0_6c, .int .i64 e0_b0_0_7, .int .i64 d.told] 60 (0, 0))) :: Γ) ⟨by kernel_rfl, by kernel_rfl, by kernel_rfl, by kernel_rfl, trivial⟩ (fun w hw => (Sat.less (.take .here (.take .here (.take .here (.take .here .refl)))) hw)) ⟨e0_b0_0_7, H, rfl, rfl⟩
 ·refine aq (x := C54 [1,1,0,0]) (y := C54 [1,1,0,1]) ?_
  refine ar (id := 2) 2 ?_
  refine sp 15 (.pointer (some ⟨b0_0, 3, none⟩)) ?_
  refine sl 16 (.int .i64 d.step) (load1 (off := 3) (fun _ => by kernel_rfl) (holds_own (.there (.there (.there .here)))) (by kernel_rfl)) ?_
  refine ops_end ?_
  refine ae [(1, .int .i64 node), (2, .pointer (some ⟨c, 0, none⟩)), (4, .pointer (some ⟨b0_0, 0, none⟩)), (7, .pointer (some ⟨b0_1, 0, none⟩)), (8, .pointer (some ⟨b0_2, 0, none⟩)), (10, .int .i64 y1_3), (16, .int .i64 d.step)] ?_
  refine at_then_normal ?_
  refine at_block (i := 0) (x := C54 [1,1,0,1,0]) (by kernel_rfl) ?_
  refine aq (x := C54 [1,1,0,1,0,0]) (y := C54 [1,1,0,1,0,1]) ?_
  refine ar (id := 4) 2 ?_
  refine sp 19 (.bool (decide (d.step = (1 : Int)))) ?_
  refine sp 18 (.bool (decide (d.step = (1 : Int)))) ?_
  refine ops_end ?_
  refine ae [(1, .int .i64 node), (2, .pointer (some ⟨c, 0, none⟩)), (4, .pointer (some ⟨b0_0, 0, none⟩)), (7, .pointer (some ⟨b0_1, 0, none⟩)), (8, .pointer (some ⟨b0_2, 0, none⟩)), (10, .int .i64 y1_3), (16, .int .i64 d.step), (18, .bool (decide (d.step = (1 : Int))))] ?_
  refine at_then_normal ?_
  rcases Bool.eq_false_or_eq_true (decide (d.step = (1 : Int))) with h4 | h4
  ·replace H := bifT H h4
   refine at_true (t := decide (d.step = (1 : Int))) (x := C54 [1,1,0,1,0,1,0]) (y := C54 [1,1,0,1,0,1,1]) (o := .tmp 18) (by kernel_rfl) (by kernel_rfl) (by kernel_rfl) h4 ?_
   refine aq (x := C54 [1,1,0,1,0,1,0,0]) (y := C54 [1,1,0,1,0,1,0,1]) ?_
   refine aq (x := C54 [1,1,0,1,0,1,0,0,0]) (y := C54 [1,1,0,1,0,1,0,0,1]) ?_
   refine ar (id := 5) 2 ?_
   refine sp 20 (.int .i64 y1_3) ?_
   refine sp 21 (.bool (decide ((0 : Int) ≤ y1_3))) ?_
   refine ops_end ?_
   refine ae [(1, .int .i64 node), (2, .pointer (some ⟨c, 0, none⟩)), (4, .pointer (some ⟨b0_0, 0, none⟩)), (8, .pointer (some ⟨b0_2, 0, none⟩)), (10, .int .i64 y1_3), (21, .bool (decide ((0 : Int) ≤ y1_3)))] ?_
   refine at_then_normal ?_
   rcases Bool.eq_false_or_eq_true (decide ((0 : Int) ≤ y1_3)) with h5 | h5
   ·replace H := bifT H h5
    refine at_true (t := decide ((0 : Int) ≤ y1_3)) (x := C54 [1,1,0,1,0,1,0,0,1,0]) (y := C54 [1,1,0,1,0,1,0,0,1,1]) (o := .tmp 21) (by kernel_rfl) (by kernel_rfl) (by kernel_rfl) h5 ?_
    refine ar (id := 6) 11 ?_
    refine sp 22 (.pointer (some ⟨c, 0, none⟩)) ?_
    refine sp 23 (.pointer (some ⟨c, 0, none⟩)) ?_
    refine sp 24 (.pointer (some ⟨c, 3, none⟩)) ?_
    refine RChA.tox .here ?_
    intro x6_3_c
    refine RChXA.open .here ?_
    refine sl 25 (.slice x6_3_c.a3 (List.length cc.l) x6_3_c.c3) (load1 (off := 3) (fun _ => by kernel_rfl) (holds_own .here) (by kernel_rfl)) ?_
    refine sp 26 (.int .i64 y1_3) ?_
    obtain ⟨hc6_5_0, H⟩ := chkE H
    refine rd_at (RecsX.rd (α := Ent) (.there .here)) (by have := hc6_5_0; omega) ?_
    intro bb2 oo2 ha2
    refine sr 27 (.pointer (some ⟨bb2, oo2 + (((y1_3).toNat) * 6 + 0), none⟩)) (index_at (t := 77) (sz := 6) (E := 50) (a := x6_3_c.a3) (m := (List.length cc.l)) (c := x6_3_c.c3) (b := bb2) (off := oo2) (i := (y1_3).toNat) (tinfo 50) (fun _ => by kernel_rfl) (by kernel_rfl) (by kernel_rfl) (by kernel_rfl) ha2 (idx_cast hc6_5_0) (idx_nat hc6_5_0) rfl) ?_
    refine sr 28 (.pointer (some ⟨bb2, oo2 + (((y1_3).toNat) * 6 + 5), none⟩)) (field_at (f := 5) (addr := ⟨bb2, oo2 + (((y1_3).toNat) * 6 + 0), none⟩) (fun _ => by kernel_rfl) rfl rfl) ?_
    obtain ⟨x6_7, hx6_7, H⟩ := letE H
    refine rd_get (RecsX.rd (α := Ent) (.there .here)) hc6_5_0 ?_
    intro a6_7 c6_7 hrx6_7
    rw [hx6_7] at hrx6_7 ⊢
    refine sl 29 (.slice a6_7 (List.length x6_7.data) c6_7) (load1_at (off := oo2 + ((y1_3).toNat * 6 + 5)) (v := .slice a6_7 (List.length x6_7.data) c6_7) (fun _ => by kernel_rfl) rfl (rd_row (RecsX.rd (α := Ent) (.there (.there .here))) ha2 hrx6_7 rfl)) ?_
    obtain ⟨hc6_8_0, H⟩ := chkE H
    obtain ⟨l6_8, hl6_8, H⟩ := letE H
    refine s_step 30 (by kernel_rfl) (by kernel_rfl) (StepTo.conv (fun w hw => RowsA.none_mk (k := 1) (a := none) hw) (st_append_ints (xs := ([] : List Int)) (ys := x6_7.data) (zs := l6_8) (m1 := 0) (m2 := (List.length x6_7.data)) (m := List.length l6_8) (cap2 := c6_7) 22 22 3 (tinfo 3) (fun _ => by kernel_rfl) (by kernel_rfl) (by kernel_rfl) (by kernel_rfl) (by kernel_rfl) (by kernel_rfl) .here (ImmR.reads (k := 1) (.there .here)) (by first | rfl | simp) (by first | rfl | simp) (by rw [← hl6_8]; first | done | simp) (by rw [← hl6_8]; first | done | simp) (by rw [← hl6_8]; exact hc6_8_0))) ?_
    rintro _ _ ⟨a6_8, c6_8, rfl, rfl⟩
    refine sp 31 (.pointer (some ⟨b0_0, 6, none⟩)) ?_
    refine s_do (by kernel_rfl) (by kernel_rfl) (st_store (off := 6) (vs := [.slice a6_8 (List.length l6_8) c6_8]) (c' := #[.int .i64 d.kind, .int .i64 d.line, .int .i64 d.id, .int .i64 d.step, .int .i64 d.state, .int .i64 d.head, .slice a6_8 (List.length l6_8) c6_8, .int .i64 d.next, .int .i64 d.told]) (fun _ => by kernel_rfl) (.there (.there (.there (.there (.there (.there .here)))))) (by kernel_rfl) (by kernel_rfl) (by kernel_rfl)) ?_
    rintro _ _ ⟨rfl, rfl⟩
    refine ops_end ?_
    refine ae [(1, .int .i64 node), (2, .pointer (some ⟨c, 0, none⟩)), (4, .pointer (some ⟨b0_0, 0, none⟩)), (8, .pointer (some ⟨b0_2, 0, none⟩)), (10, .int .i64 y1_3)] ?_
    refine at_then_normal ?_
    refine ar (id := 7) 4 ?_
    refine sp 32 (.pointer (some ⟨b0_0, 5, none⟩)) ?_
    refine sl 33 (.int .i64 d.head) (load1 (off := 5) (fun _ => by kernel_rfl) (holds_own .here) (by kernel_rfl)) ?_
    refine sp 34 (.pointer (some ⟨b0_0, 7, none⟩)) ?_
    refine s_do (by kernel_rfl) (by kernel_rfl) (st_store (off := 7) (vs := [.int .i64 d.head]) (c' := #[.int .i64 d.kind, .int .i64 d.line, .int .i64 d.id, .int .i64 d.step, .int .i64 d.state, .int .i64 d.head, .slice a6_8 (List.length l6_8) c6_8, .int .i64 d.head, .int .i64 d.told]) (fun _ => by kernel_rfl) .here (by kernel_rfl) (by kernel_rfl) (by kernel_rfl)) ?_
    rintro _ _ ⟨rfl, rfl⟩
    refine ops_end ?_
    refine ae [(1, .int .i64 node), (2, .pointer (some ⟨c, 0, none⟩)), (4, .pointer (some ⟨b0_0, 0, none⟩)), (8, .pointer (some ⟨b0_2, 0, none⟩)), (10, .int .i64 y1_3)] ?_
    refine at_in_normal ?_
    refine at_round_normal ?_
    refine At.conv (Γ' := (RChXA c x6_3_c cc) :: (Asn.own b0_0 (.cells #[.int .i64 d.kind, .int .i64 d.line, .int .i64 d.id, .int .i64 d.step, .int .i64 d.state, .int .i64 d.head, .slice a6_8 (List.length l6_8) c6_8, .int .i64 d.head, .int .i64 d.told] 60 (0, 0))) :: (IntsA a6_8 c6_8 l6_8) :: (ImmI a6_7 x6_7.data) :: (Asn.own b0_2 (.cells #[.int .i64 (0), .int .i64 (0), .int .i64 (0), .int .i64 (0), .int .i64 (0), .int .i64 (0), .slice none 0 0, .int .i64 (0), .int .i64 (0)] 60 (0, 0))) :: (Asn.own b0_1 (.cells #[.int .i64 p.kind, .int .i64 p.src, .int .i64 p.dst, .int .i64 p.id, .int .i64 p.line, .int .i64 p.ptr, .int .i64 p.state, .bool p.flag, .slice pa (List.length p.data) pcap] 33 (0, 0))) :: (ImmI da d.data) :: Γ) (fun w hw => RChXA.close (x := x6_3_c) (t := cc) (Sat.less (.take (.there (.there (.there .here))) (.take (.there (.there (.there .here))) (.take .here (.take .here (.take .here (.take .here (.take .here (.take .here .refl)))))))) hw)) ?_
    refine At.conv (Γ' := (RChA c cc) :: (Asn.own b0_0 (.cells #[.int .i64 d.kind, .int .i64 d.line, .int .i64 d.id, .int .i64 d.step, .int .i64 d.state, .int .i64 d.head, .slice a6_8 (List.length l6_8) c6_8, .int .i64 d.head, .int .i64 d.told] 60 (0, 0))) :: (IntsA a6_8 c6_8 l6_8) :: (ImmI a6_7 x6_7.data) :: (Asn.own b0_2 (.cells #[.int .i64 (0), .int .i64 (0), .int .i64 (0), .int .i64 (0), .int .i64 (0), .int .i64 (0), .slice none 0 0, .int .i64 (0), .int .i64 (0)] 60 (0, 0))) :: (Asn.own b0_1 (.cells #[.int .i64 p.kind, .int .i64 p.src, .int .i64 p.dst, .int .i64 p.id, .int .i64 p.line, .int .i64 p.ptr, .int .i64 p.state, .bool p.flag, .slice pa (List.length p.data) pcap] 33 (0, 0))) :: (ImmI da d.data) :: Γ) (fun w hw => RChXA.shut (hw.pull .here)) ?_
    exact at_join_mk [(1, .int .i64 node), (2, .pointer (some ⟨c, 0, none⟩)), (4, .pointer (some ⟨b0_0, 0, none⟩)), (8, .pointer (some ⟨b0_2, 0, none⟩)), (10, .int .i64 y1_3)] ((ImmI a6_8 l6_8) :: (RChA c cc) :: (Asn.own b0_2 (.cells #[.int .i64 (0), .int .i64 (0), .int .i64 (0), .int .i64 (0), .int .i64 (0), .int .i64 (0), .slice none 0 0, .int .i64 (0), .int .i64 (0)] 60 (0, 0))) :: (Asn.own b0_0 (.cells #[.int .i64 d.kind, .int .i64 d.line, .int .i64 d.id, .int .i64 d.step, .int .i64 d.state, .int .i64 d.head, .slice a6_8 (List.length l6_8) c6_8, .int .i64 d.head, .int .i64 d.told] 60 (0, 0))) :: Γ) ⟨by kernel_rfl, by kernel_rfl, by kernel_rfl, by kernel_rfl, by kernel_rfl, trivial⟩ (fun w hw => (Sat.less (.take .here (.take .here (.take (.there (.there .here)) (.take .here (.drop .here (.drop .here (.drop .here .refl))))))) (RowsA.freeze (Sat.less (.take (.there (.there .here)) (.take .here (.take .here (.take .here (.take .here (.take .here (.take .here .refl))))))) hw)))) ⟨l6_8, d.head, a6_8, c6_8, H, rfl, rfl⟩
   ·replace H := bifF H h5
    refine at_false (t := decide ((0 : Int) ≤ y1_3)) (x := C54 [1,1,0,1,0,1,0,0,1,0]) (y := C54 [1,1,0,1,0,1,0,0,1,1]) (o := .tmp 21) (by kernel_rfl) (by kernel_rfl) (by kernel_rfl) h5 ?_
    refine at_skip (by kernel_rfl) ?_
    refine at_then_normal ?_
    refine ar (id := 7) 4 ?_
    refine sp 32 (.pointer (some ⟨b0_0, 5, none⟩)) ?_
    refine sl 33 (.int .i64 d.head) (load1 (off := 5) (fun _ => by kernel_rfl) (holds_own (.there (.there (.there .here)))) (by kernel_rfl)) ?_
    refine sp 34 (.pointer (some ⟨b0_0, 7, none⟩)) ?_
    refine s_do (by kernel_rfl) (by kernel_rfl) (st_store (off := 7) (vs := [.int .i64 d.head]) (c' := #[.int .i64 d.kind, .int .i64 d.line, .int .i64 d.id, .int .i64 d.step, .int .i64 d.state, .int .i64 d.head, .slice da (List.length d.data) dcap, .int .i64 d.head, .int .i64 d.told]) (fun _ => by kernel_rfl) (.there (.there (.there .here))) (by kernel_rfl) (by kernel_rfl) (by kernel_rfl)) ?_
    rintro _ _ ⟨rfl, rfl⟩
    refine ops_end ?_
    refine ae [(1, .int .i64 node), (2, .pointer (some ⟨c, 0, none⟩)), (4, .pointer (some ⟨b0_0, 0, none⟩)), (8, .pointer (some ⟨b0_2, 0, none⟩)), (10, .int .i64 y1_3)] ?_
    refine at_in_normal ?_
    refine at_round_normal ?_
    exact at_join_mk [(1, .int .i64 node), (2, .pointer (some ⟨c, 0, none⟩)), (4, .pointer (some ⟨b0_0, 0, none⟩)), (8, .pointer (some ⟨b0_2, 0, none⟩)), (10, .int .i64 y1_3)] ((ImmI da d.data) :: (RChA c cc) :: (Asn.own b0_2 (.cells #[.int .i64 (0), .int .i64 (0), .int .i64 (0), .int .i64 (0), .int .i64 (0), .int .i64 (0), .slice none 0 0, .int .i64 (0), .int .i64 (0)] 60 (0, 0))) :: (Asn.own b0_0 (.cells #[.int .i64 d.kind, .int .i64 d.line, .int .i64 d.id, .int .i64 d.step, .int .i64 d.state, .int .i64 d.head, .slice da (List.length d.data) dcap, .int .i64 d.head, .int .i64 d.told] 60 (0, 0))) :: Γ) ⟨by kernel_rfl, by kernel_rfl, by kernel_rfl, by kernel_rfl, by kernel_rfl, trivial⟩ (fun w hw => (Sat.less (.take (.there (.there (.there (.there .here)))) (.take (.there .here) (.take (.there .here) (.take .here (.drop .here .refl))))) hw)) ⟨d.data, d.head, da, dcap, H, rfl, rfl⟩
  ·replace H := bifF H h4
   refine at_false (t := decide (d.step = (1 : Int))) (x := C54 [1,1,0,1,0,1,0]) (y := C54 [1,1,0,1,0,1,1]) (o := .tmp 18) (by kernel_rfl) (by kernel_rfl) (by kernel_rfl) h4 ?_
   refine aq (x := C54 [1,1,0,1,0,1,1,0]) (y := C54 [1,1,0,1,0,1,1,1]) ?_
   refine ar (id := 8) 2 ?_
   refine sp 36 (.bool (decide (d.step = (3 : Int)))) ?_
   refine sp 35 (.bool (decide (d.step = (3 : Int)))) ?_
   refine ops_end ?_
   refine ae [(1, .int .i64 node), (2, .pointer (some ⟨c, 0, none⟩)), (4, .pointer (some ⟨b0_0, 0, none⟩)), (7, .pointer (some ⟨b0_1, 0, none⟩)), (8, .pointer (some ⟨b0_2, 0, none⟩)), (10, .int .i64 y1_3), (35, .bool (decide (d.step = (3 : Int))))] ?_
   refine at_then_normal ?_
   rcases Bool.eq_false_or_eq_true (decide (d.step = (3 : Int))) with h6 | h6
   ·replace H := bifT H h6
    refine at_true (t := decide (d.step = (3 : Int))) (x := C54 [1,1,0,1,0,1,1,1,0]) (y := C54 [1,1,0,1,0,1,1,1,1]) (o := .tmp 35) (by kernel_rfl) (by kernel_rfl) (by kernel_rfl) h6 ?_
    refine aq (x := C54 [1,1,0,1,0,1,1,1,0,0]) (y := C54 [1,1,0,1,0,1,1,1,0,1]) ?_
    refine aq (x := C54 [1,1,0,1,0,1,1,1,0,0,0]) (y := C54 [1,1,0,1,0,1,1,1,0,0,1]) ?_
    refine ar (id := 9) 2 ?_
    refine sp 37 (.int .i64 y1_3) ?_
    refine sp 38 (.bool (decide (y1_3 < (0 : Int)))) ?_
    refine ops_end ?_
    refine ae [(1, .int .i64 node), (2, .pointer (some ⟨c, 0, none⟩)), (4, .pointer (some ⟨b0_0, 0, none⟩)), (7, .pointer (some ⟨b0_1, 0, none⟩)), (8, .pointer (some ⟨b0_2, 0, none⟩)), (10, .int .i64 y1_3), (38, .bool (decide (y1_3 < (0 : Int))))] ?_
    refine at_then_normal ?_
    rcases Bool.eq_false_or_eq_true (decide (y1_3 < (0 : Int))) with h7 | h7
    ·replace H := bifT H h7
     refine at_true (t := decide (y1_3 < (0 : Int))) (x := C54 [1,1,0,1,0,1,1,1,0,0,1,0]) (y := C54 [1,1,0,1,0,1,1,1,0,0,1,1]) (o := .tmp 38) (by kernel_rfl) (by kernel_rfl) (by kernel_rfl) h7 ?_
     refine ar (id := 10) 5 ?_
     refine sp 39 (.pointer (some ⟨b0_1, 8, none⟩)) ?_
     refine sl 40 (.slice pa (List.length p.data) pcap) (load1 (off := 8) (fun _ => by kernel_rfl) (holds_own (.there (.there .here))) (by kernel_rfl)) ?_
     obtain ⟨hc10_2_0, H⟩ := chkE H
     obtain ⟨l10_2, hl10_2, H⟩ := letE H
     refine s_step 41 (by kernel_rfl) (by kernel_rfl) (StepTo.conv (fun w hw => RowsA.none_mk (k := 1) (a := none) hw) (st_append_ints (xs := ([] : List Int)) (ys := p.data) (zs := l10_2) (m1 := 0) (m2 := (List.length p.data)) (m := List.length l10_2) (cap2 := pcap) 22 22 3 (tinfo 3) (fun _ => by kernel_rfl) (by kernel_rfl) (by kernel_rfl) (by kernel_rfl) (by kernel_rfl) (by kernel_rfl) .here (Reads.conv (fun w hw => hw.less (.drop .here (.drop .here (.drop .here (.drop .here (.drop .here (.drop .here .refl))))))) hrpa) (by first | rfl | simp) (by first | rfl | simp) (by rw [← hl10_2]; first | done | simp) (by rw [← hl10_2]; first | done | simp) (by rw [← hl10_2]; exact hc10_2_0))) ?_
     rintro _ _ ⟨a10_2, c10_2, rfl, rfl⟩
     refine sp 42 (.pointer (some ⟨b0_0, 6, none⟩)) ?_
     refine s_do (by kernel_rfl) (by kernel_rfl) (st_store (off := 6) (vs := [.slice a10_2 (List.length l10_2) c10_2]) (c' := #[.int .i64 d.kind, .int .i64 d.line, .int .i64 d.id, .int .i64 d.step, .int .i64 d.state, .int .i64 d.head, .slice a10_2 (List.length l10_2) c10_2, .int .i64 d.next, .int .i64 d.told]) (fun _ => by kernel_rfl) (.there (.there (.there (.there .here)))) (by kernel_rfl) (by kernel_rfl) (by kernel_rfl)) ?_
     rintro _ _ ⟨rfl, rfl⟩
     refine ops_end ?_
     refine ae [(1, .int .i64 node), (2, .pointer (some ⟨c, 0, none⟩)), (4, .pointer (some ⟨b0_0, 0, none⟩)), (7, .pointer (some ⟨b0_1, 0, none⟩)), (8, .pointer (some ⟨b0_2, 0, none⟩)), (10, .int .i64 y1_3)] ?_
     refine at_then_normal ?_
     refine ar (id := 11) 4 ?_
     refine sp 43 (.pointer (some ⟨b0_1, 5, none⟩)) ?_
     refine sl 44 (.int .i64 p.ptr) (load1 (off := 5) (fun _ => by kernel_rfl) (holds_own (.there (.there (.there (.there .here))))) (by kernel_rfl)) ?_
     refine sp 45 (.pointer (some ⟨b0_0, 7, none⟩)) ?_
     refine s_do (by kernel_rfl) (by kernel_rfl) (st_store (off := 7) (vs := [.int .i64 p.ptr]) (c' := #[.int .i64 d.kind, .int .i64 d.line, .int .i64 d.id, .int .i64 d.step, .int .i64 d.state, .int .i64 d.head, .slice a10_2 (List.length l10_2) c10_2, .int .i64 p.ptr, .int .i64 d.told]) (fun _ => by kernel_rfl) .here (by kernel_rfl) (by kernel_rfl) (by kernel_rfl)) ?_
     rintro _ _ ⟨rfl, rfl⟩
     refine ops_end ?_
     refine ae [(1, .int .i64 node), (2, .pointer (some ⟨c, 0, none⟩)), (4, .pointer (some ⟨b0_0, 0, none⟩)), (8, .pointer (some ⟨b0_2, 0, none⟩)), (10, .int .i64 y1_3)] ?_
     refine at_in_normal ?_
     refine at_round_normal ?_
     exact at_join_mk [(1, .int .i64 node), (2, .pointer (some ⟨c, 0, none⟩)), (4, .pointer (some ⟨b0_0, 0, none⟩)), (8, .pointer (some ⟨b0_2, 0, none⟩)), (10, .int .i64 y1_3)] ((ImmI a10_2 l10_2) :: (RChA c cc) :: (Asn.own b0_2 (.cells #[.int .i64 (0), .int .i64 (0), .int .i64 (0), .int .i64 (0), .int .i64 (0), .int .i64 (0), .slice none 0 0, .int .i64 (0), .int .i64 (0)] 60 (0, 0))) :: (Asn.own b0_0 (.cells #[.int .i64 d.kind, .int .i64 d.line, .int .i64 d.id, .int .i64 d.step, .int .i64 d.state, .int .i64 d.head, .slice a10_2 (List.length l10_2) c10_2, .int .i64 p.ptr, .int .i64 d.told] 60 (0, 0))) :: Γ) ⟨by kernel_rfl, by kernel_rfl, by kernel_rfl, by kernel_rfl, by kernel_rfl, trivial⟩ (fun w hw => (Sat.less (.take .here (.take (.there .here) (.take (.there .here) (.take .here (.drop .here (.drop .here .refl)))))) (RowsA.freeze (Sat.less (.take (.there .here) (.take .here (.take .here (.take .here (.take .here (.take .here .refl)))))) hw)))) ⟨l10_2, p.ptr, a10_2, c10_2, H, rfl, rfl⟩
    ·replace H := bifF H h7
     refine at_false (t := decide (y1_3 < (0 : Int))) (x := C54 [1,1,0,1,0,1,1,1,0,0,1,0]) (y := C54 [1,1,0,1,0,1,1,1,0,0,1,1]) (o := .tmp 38) (by kernel_rfl) (by kernel_rfl) (by kernel_rfl) h7 ?_
     refine at_skip (by kernel_rfl) ?_
     refine at_then_normal ?_
     refine ar (id := 11) 4 ?_
     refine sp 43 (.pointer (some ⟨b0_1, 5, none⟩)) ?_
     refine sl 44 (.int .i64 p.ptr) (load1 (off := 5) (fun _ => by kernel_rfl) (holds_own (.there (.there .here))) (by kernel_rfl)) ?_
     refine sp 45 (.pointer (some ⟨b0_0, 7, none⟩)) ?_
     refine s_do (by kernel_rfl) (by kernel_rfl) (st_store (off := 7) (vs := [.int .i64 p.ptr]) (c' := #[.int .i64 d.kind, .int .i64 d.line, .int .i64 d.id, .int .i64 d.step, .int .i64 d.state, .int .i64 d.head, .slice da (List.length d.data) dcap, .int .i64 p.ptr, .int .i64 d.told]) (fun _ => by kernel_rfl) (.there (.there (.there .here))) (by kernel_rfl) (by kernel_rfl) (by kernel_rfl)) ?_
     rintro _ _ ⟨rfl, rfl⟩
     refine ops_end ?_
     refine ae [(1, .int .i64 node), (2, .pointer (some ⟨c, 0, none⟩)), (4, .pointer (some ⟨b0_0, 0, none⟩)), (8, .pointer (some ⟨b0_2, 0, none⟩)), (10, .int .i64 y1_3)] ?_
     refine at_in_normal ?_
     refine at_round_normal ?_
     exact at_join_mk [(1, .int .i64 node), (2, .pointer (some ⟨c, 0, none⟩)), (4, .pointer (some ⟨b0_0, 0, none⟩)), (8, .pointer (some ⟨b0_2, 0, none⟩)), (10, .int .i64 y1_3)] ((ImmI da d.data) :: (RChA c cc) :: (Asn.own b0_2 (.cells #[.int .i64 (0), .int .i64 (0), .int .i64 (0), .int .i64 (0), .int .i64 (0), .int .i64 (0), .slice none 0 0, .int .i64 (0), .int .i64 (0)] 60 (0, 0))) :: (Asn.own b0_0 (.cells #[.int .i64 d.kind, .int .i64 d.line, .int .i64 d.id, .int .i64 d.step, .int .i64 d.state, .int .i64 d.head, .slice da (List.length d.data) dcap, .int .i64 p.ptr, .int .i64 d.told] 60 (0, 0))) :: Γ) ⟨by kernel_rfl, by kernel_rfl, by kernel_rfl, by kernel_rfl, by kernel_rfl, trivial⟩ (fun w hw => (Sat.less (.take (.there (.there (.there (.there .here)))) (.take (.there .here) (.take (.there .here) (.take .here (.drop .here .refl))))) hw)) ⟨d.data, p.ptr, da, dcap, H, rfl, rfl⟩
   ·replace H := bifF H h6
    refine at_false (t := decide (d.step = (3 : Int))) (x := C54 [1,1,0,1,0,1,1,1,0]) (y := C54 [1,1,0,1,0,1,1,1,1]) (o := .tmp 35) (by kernel_rfl) (by kernel_rfl) (by kernel_rfl) h6 ?_
    refine aq (x := C54 [1,1,0,1,0,1,1,1,1,0]) (y := C54 [1,1,0,1,0,1,1,1,1,1]) ?_
    refine ar (id := 3) 3 ?_
    refine sp 17 (.agg #[.int .i64 (0), .int .i64 (0), .int .i64 (0), .int .i64 (0), .int .i64 (0), .int .i64 (0), .slice none 0 0, .int .i64 (0), .int .i64 (0)]) ?_
    refine s_do (by kernel_rfl) (by kernel_rfl) (st_store (off := 0) (vs := [.int .i64 (0), .int .i64 (0), .int .i64 (0), .int .i64 (0), .int .i64 (0), .int .i64 (0), .slice none 0 0, .int .i64 (0), .int .i64 (0)]) (c' := #[.int .i64 (0), .int .i64 (0), .int .i64 (0), .int .i64 (0), .int .i64 (0), .int .i64 (0), .slice none 0 0, .int .i64 (0), .int .i64 (0)]) (fun _ => by kernel_rfl) (.there .here) (by kernel_rfl) (by kernel_rfl) (by kernel_rfl)) ?_
    rintro _ _ ⟨rfl, rfl⟩
    refine sp 9 (.bool false) ?_
    refine ops_end ?_
    refine ae [(8, .pointer (some ⟨b0_2, 0, none⟩)), (9, .bool false)] ?_
    refine at_then_normal ?_
    refine at_ret (by kernel_rfl) ?_
    refine at_in_ret ?_
    refine at_then_ret ?_
    obtain rfl := someE H
    refine at_backR [.agg #[.int .i64 (0), .int .i64 (0), .int .i64 (0), .int .i64 (0), .int .i64 (0), .int .i64 (0), .slice none 0 0, .int .i64 (0), .int .i64 (0)], .bool false] ((ImmI none ([] : List Int)) :: (RChA c cc) :: Γ) (rs := [.cell 8 60, .tmp 9]) (by kernel_rfl) (.cons (.cell (by kernel_rfl) (retN (off := 0) (vs := [.int .i64 (0), .int .i64 (0), .int .i64 (0), .int .i64 (0), .int .i64 (0), .int .i64 (0), .slice none 0 0, .int .i64 (0), .int .i64 (0)]) 9 (fun _ => by kernel_rfl) (holds_own .here) rfl (by exact ⟨rfl, rfl, rfl, rfl, rfl, rfl, rfl, rfl, rfl, trivial⟩))) (.cons (.tmp (by kernel_rfl)) .nil)) (fun w hw => (Sat.less (.take .here (.take (.there .here) (.drop .here (.drop .here (.drop .here (.drop .here .refl)))))) (ImmR.nil_mk (k := 1) (a := none) hw))) ?_
    exact ⟨none, 0, rfl, rfl⟩
def rroll7S_j0 (cc : CacheS) (d : DealS) (x7_6 : Ent) (e0_39 : Bool) : Option (DealS × Bool × CacheS) :=
 (bif e0_39 then (rdropS cc d.line).bind fun y10_3 => (bif x7_6.dirty then (runlockS (⟨d.kind, d.line, d.id, d.step, d.state, d.head, ([] : List Int), d.next, d.told⟩ : DealS) (0 : Int) ((-1) : Int) x7_6.data).bind fun y12_3 => some (y12_3, true, y10_3.2.2) else (runlockS (⟨d.kind, d.line, d.id, d.step, d.state, d.head, ([] : List Int), d.next, d.told⟩ : DealS) (0 : Int) ((-1) : Int) ([] : List Int)).bind fun y13_1 => some (y13_1, true, y10_3.2.2)) else (bif decide (x7_6.back = ((-1) : Int)) then some ((⟨d.kind, d.line, d.id, 5, d.state, (-1), ([] : List Int), x7_6.fwd, d.told⟩ : DealS), true, cc) else some ((⟨d.kind, d.line, d.id, 4, d.state, x7_6.back, ([] : List Int), x7_6.fwd, d.told⟩ : DealS), true, cc)))
def rroll7S (d : DealS) (cc : CacheS) : Option (DealS × Bool × CacheS) :=
 (bif decide (d.step = (1 : Int)) then (ratS cc d.line).bind fun y4_3 => (bif decide (y4_3 < (0 : Int)) then (runlockS (⟨d.kind, d.line, d.id, d.step, d.state, d.head, ([] : List Int), d.next, d.told⟩ : DealS) d.state d.head ([] : List Int)).bind fun y6_5 => some (y6_5, true, cc) else chk (0 ≤ y4_3 ∧ y4_3 < ((List.length cc.l : Nat) : Int)) (letP (nthT cc.l y4_3) fun x7_6 => (bif decide (x7_6.back = ((-1) : Int)) then rroll7S_j0 cc d x7_6 (decide (x7_6.fwd = ((-1) : Int))) else rroll7S_j0 cc d x7_6 false))) else (bif decide (d.step = (4 : Int)) then (bif !(decide (d.next = ((-1) : Int))) then some ((⟨d.kind, d.line, d.id, 5, d.state, d.head, d.data, d.next, d.told⟩ : DealS), true, cc) else (rdropS cc d.line).bind fun y21_3 => (runlockS d (1 : Int) d.told ([] : List Int)).bind fun y22_3 => some (y22_3, true, y21_3.2.2)) else (bif decide (d.step = (5 : Int)) then (rdropS cc d.line).bind fun y24_3 => (bif decide (d.head = ((-1) : Int)) then (runlockS d (1 : Int) d.next ([] : List Int)).bind fun y26_3 => some (y26_3, true, y24_3.2.2) else (runlockS d (1 : Int) d.told ([] : List Int)).bind fun y27_3 => some (y27_3, true, y24_3.2.2)) else some ((⟨0, 0, 0, 0, 0, 0, ([] : List Int), 0, 0⟩ : DealS), false, cc))))
noncomputable def C55 (p : List Nat) : Code := codeAt (bodyOf Try.f55) p
set_option maxRecDepth 100000 in
set_option maxHeartbeats 8000000 in
theorem RRoll7F_tr {W0 : World} {Γ : List Asn} (da : Option Addr) (dcap : Nat) (d : DealS) (c : Nat) (cc : CacheS)  (y : DealS × Bool × CacheS) (H : rroll7S d cc = some y) : Tr Try.prog 55 #[.agg #[.int .i64 d.kind, .int .i64 d.line, .int .i64 d.id, .int .i64 d.step, .int .i64 d.state, .int .i64 d.head, .slice da (List.length d.data) dcap, .int .i64 d.next, .int .i64 d.told], .pointer (some ⟨c, 0, none⟩)] W0 ((ImmI da d.data) :: (RChA c cc) :: Γ) (fun r Δ => ∃ (a0_0 : Option Addr) (c0_0 : Nat), r = .tuple #[.agg #[.int .i64 y.1.kind, .int .i64 y.1.line, .int .i64 y.1.id, .int .i64 y.1.step, .int .i64 y.1.state, .int .i64 y.1.head, .slice a0_0 (List.length y.1.data) c0_0, .int .i64 y.1.next, .int .i64 y.1.told], .bool y.2.1] ∧ Δ = (ImmI a0_0 y.1.data) :: (RChA c y.2.2) :: Γ) := by
 unfold rroll7S at H
 refine Tr.enter (fn := Try.f55) (c := C55 []) (args := [.agg #[.int .i64 d.kind, .int .i64 d.line, .int .i64 d.id, .int .i64 d.step, .int .i64 d.state, .int .i64 d.head, .slice da (List.length d.data) dcap, .int .i64 d.next, .int .i64 d.told], .pointer (some ⟨c, 0, none⟩)]) 103 Try.func55 (by kernel_rfl) (by kernel_rfl) ?_
 refine ae [(0, .agg #[.int .i64 d.kind, .int .i64 d.line, .int .i64 d.id, .int .i64 d.step, .int .i64 d.state, .int .i64 d.head, .slice da (List.length d.data) dcap, .int .i64 d.next, .int .i64 d.told]), (1, .pointer (some ⟨c, 0, none⟩))] ?_
 refine aq (x := C55 [0]) (y := C55 [1]) ?_
 refine ar (id := 0) 3 ?_
 refine s_step 2 (by kernel_rfl) (by kernel_rfl) (st_new (T := 60) (cells := #[.int .i64 d.kind, .int .i64 d.line, .int .i64 d.id, .int .i64 d.step, .int .i64 d.state, .int .i64 d.head, .slice da (List.length d.data) dcap, .int .i64 d.next, .int .i64 d.told]) (fun a => .pointer (some a)) (fun _ => by kernel_rfl)) ?_
 rintro _ _ ⟨b0_0, rfl, rfl⟩
 refine s_step 4 (by kernel_rfl) (by kernel_rfl) (st_new (T := 60) (cells := #[.int .i64 (0), .int .i64 (0), .int .i64 (0), .int .i64 (0), .int .i64 (0), .int .i64 (0), .slice none 0 0, .int .i64 (0), .int .i64 (0)]) (fun a => .pointer (some a)) (fun _ => by kernel_rfl)) ?_
 rintro _ _ ⟨b0_1, rfl, rfl⟩
 refine sp 5 (.bool false) ?_
 refine ops_end ?_
 refine ae [(1, .pointer (some ⟨c, 0, none⟩)), (2, .pointer (some ⟨b0_0, 0, none⟩)), (4, .pointer (some ⟨b0_1, 0, none⟩))] ?_
 refine at_then_normal ?_
 refine aq (x := C55 [1,0]) (y := C55 [1,1]) ?_
 refine aq (x := C55 [1,0,0]) (y := C55 [1,0,1]) ?_
 refine ar (id := 1) 2 ?_
 refine sp 8 (.pointer (some ⟨b0_0, 3, none⟩)) ?_
 refine sl 9 (.int .i64 d.step) (load1 (off := 3) (fun _ => by kernel_rfl) (holds_own (.there .here)) (by kernel_rfl)) ?_
 refine ops_end ?_
 refine ae [(1, .pointer (some ⟨c, 0, none⟩)), (2, .pointer (some ⟨b0_0, 0, none⟩)), (4, .pointer (some ⟨b0_1, 0, none⟩)), (9, .int .i64 d.step)] ?_
 refine at_then_normal ?_
 refine at_block (i := 0) (x := C55 [1,0,1,0]) (by kernel_rfl) ?_
 refine aq (x := C55 [1,0,1,0,0]) (y := C55 [1,0,1,0,1]) ?_
 refine ar (id := 2) 2 ?_
 refine sp 11 (.bool (decide (d.step = (1 : Int)))) ?_
 refine sp 10 (.bool (decide (d.step = (1 : Int)))) ?_
 refine ops_end ?_
 refine ae [(1, .pointer (some ⟨c, 0, none⟩)), (2, .pointer (some ⟨b0_0, 0, none⟩)), (4, .pointer (some ⟨b0_1, 0, none⟩)), (9, .int .i64 d.step), (10, .bool (decide (d.step = (1 : Int))))] ?_
 refine at_then_normal ?_
 rcases Bool.eq_false_or_eq_true (decide (d.step = (1 : Int))) with h1 | h1
 ·replace H := bifT H h1
  refine at_true (t := decide (d.step = (1 : Int))) (x := C55 [1,0,1,0,1,0]) (y := C55 [1,0,1,0,1,1]) (o := .tmp 10) (by kernel_rfl) (by kernel_rfl) (by kernel_rfl) h1 ?_
  refine aq (x := C55 [1,0,1,0,1,0,0]) (y := C55 [1,0,1,0,1,0,1]) ?_
  refine ar (id := 3) 2 ?_
  refine sp 12 (.pointer (some ⟨b0_0, 6, none⟩)) ?_
  refine s_do (by kernel_rfl) (by kernel_rfl) (st_store (off := 6) (vs := [.slice none 0 0]) (c' := #[.int .i64 d.kind, .int .i64 d.line, .int .i64 d.id, .int .i64 d.step, .int .i64 d.state, .int .i64 d.head, .slice none 0 0, .int .i64 d.next, .int .i64 d.told]) (fun _ => by kernel_rfl) (.there .here) (by kernel_rfl) (by kernel_rfl) (by kernel_rfl)) ?_
  rintro _ _ ⟨rfl, rfl⟩
  refine ops_end ?_
  refine ae [(1, .pointer (some ⟨c, 0, none⟩)), (2, .pointer (some ⟨b0_0, 0, none⟩)), (4, .pointer (some ⟨b0_1, 0, none⟩))] ?_
  refine at_then_normal ?_
  refine aq (x := C55 [1,0,1,0,1,0,1,0]) (y := C55 [1,0,1,0,1,0,1,1]) ?_
  refine ar (id := 4) 5 ?_
  refine sp 13 (.pointer (some ⟨c, 0, none⟩)) ?_
  refine sp 14 (.pointer (some ⟨b0_0, 1, none⟩)) ?_
  refine sl 15 (.int .i64 d.line) (load1 (off := 1) (fun _ => by kernel_rfl) (holds_own .here) (by kernel_rfl)) ?_
  refine RChA.tox (.there (.there (.there .here))) ?_
  intro x4_3_c
  obtain ⟨y4_3, hy4_3, H⟩ := bindE H
  refine s_call 16 47 #[.pointer (some ⟨c, 0, none⟩), .int .i64 d.line] (by kernel_rfl) (by kernel_rfl) (fun _ => by kernel_rfl) (RAtF_tr c x4_3_c cc d.line y4_3 hy4_3) ?_
  rintro _ _ ⟨rfl, rfl⟩
  refine sp 6 (.int .i64 y4_3) ?_
  refine ops_end ?_
  refine ae [(1, .pointer (some ⟨c, 0, none⟩)), (2, .pointer (some ⟨b0_0, 0, none⟩)), (4, .pointer (some ⟨b0_1, 0, none⟩)), (6, .int .i64 y4_3)] ?_
  refine at_then_normal ?_
  refine At.conv (Γ' := (RChA c cc) :: (Asn.own b0_0 (.cells #[.int .i64 d.kind, .int .i64 d.line, .int .i64 d.id, .int .i64 d.step, .int .i64 d.state, .int .i64 d.head, .slice none 0 0, .int .i64 d.next, .int .i64 d.told] 60 (0, 0))) :: (Asn.own b0_1 (.cells #[.int .i64 (0), .int .i64 (0), .int .i64 (0), .int .i64 (0), .int .i64 (0), .int .i64 (0), .slice none 0 0, .int .i64 (0), .int .i64 (0)] 60 (0, 0))) :: (ImmI da d.data) :: Γ) (fun w hw => RChXA.shut (hw.pull .here)) ?_
  refine aq (x := C55 [1,0,1,0,1,0,1,1,0]) (y := C55 [1,0,1,0,1,0,1,1,1]) ?_
  refine aq (x := C55 [1,0,1,0,1,0,1,1,0,0]) (y := C55 [1,0,1,0,1,0,1,1,0,1]) ?_
  refine ar (id := 5) 2 ?_
  refine sp 17 (.int .i64 y4_3) ?_
  refine sp 18 (.bool (decide (y4_3 < (0 : Int)))) ?_
  refine ops_end ?_
  refine ae [(1, .pointer (some ⟨c, 0, none⟩)), (2, .pointer (some ⟨b0_0, 0, none⟩)), (4, .pointer (some ⟨b0_1, 0, none⟩)), (6, .int .i64 y4_3), (18, .bool (decide (y4_3 < (0 : Int))))] ?_
  refine at_then_normal ?_
  rcases Bool.eq_false_or_eq_true (decide (y4_3 < (0 : Int))) with h2 | h2
  ·replace H := bifT H h2
   refine at_true (t := decide (y4_3 < (0 : Int))) (x := C55 [1,0,1,0,1,0,1,1,0,1,0]) (y := C55 [1,0,1,0,1,0,1,1,0,1,1]) (o := .tmp 18) (by kernel_rfl) (by kernel_rfl) (by kernel_rfl) h2 ?_
   refine aq (x := C55 [1,0,1,0,1,0,1,1,0,1,0,0]) (y := C55 [1,0,1,0,1,0,1,1,0,1,0,1]) ?_
   refine ar (id := 6) 8 ?_
   refine sl 19 (.agg #[.int .i64 d.kind, .int .i64 d.line, .int .i64 d.id, .int .i64 d.step, .int .i64 d.state, .int .i64 d.head, .slice none 0 0, .int .i64 d.next, .int .i64 d.told]) (loadN (off := 0) (vs := [.int .i64 d.kind, .int .i64 d.line, .int .i64 d.id, .int .i64 d.step, .int .i64 d.state, .int .i64 d.head, .slice none 0 0, .int .i64 d.next, .int .i64 d.told]) 9 (fun _ => by kernel_rfl) (holds_own (.there .here)) rfl (by exact ⟨rfl, rfl, rfl, rfl, rfl, rfl, rfl, rfl, rfl, trivial⟩)) ?_
   refine sp 20 (.pointer (some ⟨b0_0, 4, none⟩)) ?_
   refine sl 21 (.int .i64 d.state) (load1 (off := 4) (fun _ => by kernel_rfl) (holds_own (.there .here)) (by kernel_rfl)) ?_
   refine sp 22 (.pointer (some ⟨b0_0, 5, none⟩)) ?_
   refine sl 23 (.int .i64 d.head) (load1 (off := 5) (fun _ => by kernel_rfl) (holds_own (.there .here)) (by kernel_rfl)) ?_
   obtain ⟨y6_5, hy6_5, H⟩ := bindE H
   refine s_call 24 69 #[.agg #[.int .i64 d.kind, .int .i64 d.line, .int .i64 d.id, .int .i64 d.step, .int .i64 d.state, .int .i64 d.head, .slice none 0 0, .int .i64 d.next, .int .i64 d.told], .int .i64 d.state, .int .i64 d.head, .slice none 0 0] (by kernel_rfl) (by kernel_rfl) (fun _ => by kernel_rfl) (RUnlockF_tr none 0 (⟨d.kind, d.line, d.id, d.step, d.state, d.head, ([] : List Int), d.next, d.told⟩ : DealS) d.state d.head none 0 ([] : List Int) Reads.nil Reads.nil y6_5 hy6_5) ?_
   rintro _ _ ⟨a6_5_00, c6_5_00, rfl, rfl⟩
   refine s_do (by kernel_rfl) (by kernel_rfl) (st_store (off := 0) (vs := [.int .i64 y6_5.kind, .int .i64 y6_5.line, .int .i64 y6_5.id, .int .i64 y6_5.step, .int .i64 y6_5.state, .int .i64 y6_5.head, .slice a6_5_00 (List.length y6_5.data) c6_5_00, .int .i64 y6_5.next, .int .i64 y6_5.told]) (c' := #[.int .i64 y6_5.kind, .int .i64 y6_5.line, .int .i64 y6_5.id, .int .i64 y6_5.step, .int .i64 y6_5.state, .int .i64 y6_5.head, .slice a6_5_00 (List.length y6_5.data) c6_5_00, .int .i64 y6_5.next, .int .i64 y6_5.told]) (fun _ => by kernel_rfl) (.there (.there (.there .here))) (by kernel_rfl) (by kernel_rfl) (by kernel_rfl)) ?_
   rintro _ _ ⟨rfl, rfl⟩
   refine sp 5 (.bool true) ?_
   refine ops_end ?_
   refine ae [(4, .pointer (some ⟨b0_1, 0, none⟩)), (5, .bool true)] ?_
   refine at_then_normal ?_
   refine at_ret (by kernel_rfl) ?_
   refine at_then_ret ?_
   refine at_in_ret ?_
   refine at_then_ret ?_
   obtain rfl := someE H
   refine at_backR [.agg #[.int .i64 y6_5.kind, .int .i64 y6_5.line, .int .i64 y6_5.id, .int .i64 y6_5.step, .int .i64 y6_5.state, .int .i64 y6_5.head, .slice a6_5_00 (List.length y6_5.data) c6_5_00, .int .i64 y6_5.next, .int .i64 y6_5.told], .bool true] ((ImmI a6_5_00 y6_5.data) :: (RChA c cc) :: Γ) (rs := [.cell 4 60, .tmp 5]) (by kernel_rfl) (.cons (.cell (by kernel_rfl) (retN (off := 0) (vs := [.int .i64 y6_5.kind, .int .i64 y6_5.line, .int .i64 y6_5.id, .int .i64 y6_5.step, .int .i64 y6_5.state, .int .i64 y6_5.head, .slice a6_5_00 (List.length y6_5.data) c6_5_00, .int .i64 y6_5.next, .int .i64 y6_5.told]) 9 (fun _ => by kernel_rfl) (holds_own .here) rfl (by exact ⟨rfl, rfl, rfl, rfl, rfl, rfl, rfl, rfl, rfl, trivial⟩))) (.cons (.tmp (by kernel_rfl)) .nil)) (fun w hw => (Sat.less (.take (.there .here) (.take (.there .here) (.drop .here (.drop .here (.drop .here .refl))))) hw)) ?_
   exact ⟨a6_5_00, c6_5_00, rfl, rfl⟩
  ·replace H := bifF H h2
   refine at_false (t := decide (y4_3 < (0 : Int))) (x := C55 [1,0,1,0,1,0,1,1,0,1,0]) (y := C55 [1,0,1,0,1,0,1,1,0,1,1]) (o := .tmp 18) (by kernel_rfl) (by kernel_rfl) (by kernel_rfl) h2 ?_
   refine at_skip (by kernel_rfl) ?_
   refine at_then_normal ?_
   refine aq (x := C55 [1,0,1,0,1,0,1,1,1,0]) (y := C55 [1,0,1,0,1,0,1,1,1,1]) ?_
   refine ar (id := 7) 9 ?_
   refine sp 25 (.pointer (some ⟨c, 0, none⟩)) ?_
   refine sp 26 (.pointer (some ⟨c, 0, none⟩)) ?_
   refine sp 27 (.pointer (some ⟨c, 3, none⟩)) ?_
   refine RChA.tox .here ?_
   intro x7_3_c
   refine RChXA.open .here ?_
   refine sl 28 (.slice x7_3_c.a3 (List.length cc.l) x7_3_c.c3) (load1 (off := 3) (fun _ => by kernel_rfl) (holds_own .here) (by kernel_rfl)) ?_
   refine sp 29 (.int .i64 y4_3) ?_
   obtain ⟨hc7_5_0, H⟩ := chkE H
   refine rd_at (RecsX.rd (α := Ent) (.there .here)) (by have := hc7_5_0; omega) ?_
   intro bb1 oo1 ha1
   refine sr 30 (.pointer (some ⟨bb1, oo1 + (((y4_3).toNat) * 6 + 0), none⟩)) (index_at (t := 77) (sz := 6) (E := 50) (a := x7_3_c.a3) (m := (List.length cc.l)) (c := x7_3_c.c3) (b := bb1) (off := oo1) (i := (y4_3).toNat) (tinfo 50) (fun _ => by kernel_rfl) (by kernel_rfl) (by kernel_rfl) (by kernel_rfl) ha1 (idx_cast hc7_5_0) (idx_nat hc7_5_0) rfl) ?_
   obtain ⟨x7_6, hx7_6, H⟩ := letE H
   refine rd_get (RecsX.rd (α := Ent) (.there .here)) hc7_5_0 ?_
   intro a7_6 c7_6 hrx7_6
   rw [hx7_6] at hrx7_6 ⊢
   refine sl 31 (.agg #[.int .i64 x7_6.fwd, .int .i64 x7_6.back, .int .i64 x7_6.line, .int .i64 x7_6.used, .bool x7_6.dirty, .slice a7_6 (List.length x7_6.data) c7_6]) (loadP_at (m := 6) (k := 6) (vs := [.int .i64 x7_6.fwd, .int .i64 x7_6.back, .int .i64 x7_6.line, .int .i64 x7_6.used, .bool x7_6.dirty, .slice a7_6 (List.length x7_6.data) c7_6]) (off := oo1) (i := (y4_3).toNat) (j := 0) (fun _ => by kernel_rfl) rfl rfl (fun q v hq => rd_row (j := 0 + q) (RecsX.rd (α := Ent) (.there (.there .here))) ha1 hrx7_6 (rowP (j := 0) (m := 6) (by kernel_rfl) hq))) ?_
   refine s_step 7 (by kernel_rfl) (by kernel_rfl) (st_new (T := 50) (cells := #[.int .i64 (0), .int .i64 (0), .int .i64 (0), .int .i64 (0), .bool false, .slice none 0 0]) (fun a => .pointer (some a)) (fun _ => by kernel_rfl)) ?_
   rintro _ _ ⟨b7_7, rfl, rfl⟩
   refine s_do (by kernel_rfl) (by kernel_rfl) (st_store (off := 0) (vs := [.int .i64 x7_6.fwd, .int .i64 x7_6.back, .int .i64 x7_6.line, .int .i64 x7_6.used, .bool x7_6.dirty, .slice a7_6 (List.length x7_6.data) c7_6]) (c' := #[.int .i64 x7_6.fwd, .int .i64 x7_6.back, .int .i64 x7_6.line, .int .i64 x7_6.used, .bool x7_6.dirty, .slice a7_6 (List.length x7_6.data) c7_6]) (fun _ => by kernel_rfl) .here (by kernel_rfl) (by kernel_rfl) (by kernel_rfl)) ?_
   rintro _ _ ⟨rfl, rfl⟩
   refine ops_end ?_
   refine ae [(1, .pointer (some ⟨c, 0, none⟩)), (2, .pointer (some ⟨b0_0, 0, none⟩)), (4, .pointer (some ⟨b0_1, 0, none⟩)), (7, .pointer (some ⟨b7_7, 0, none⟩))] ?_
   refine at_then_normal ?_
   refine At.conv (Γ' := (RChXA c x7_3_c cc) :: (Asn.own b7_7 (.cells #[.int .i64 x7_6.fwd, .int .i64 x7_6.back, .int .i64 x7_6.line, .int .i64 x7_6.used, .bool x7_6.dirty, .slice a7_6 (List.length x7_6.data) c7_6] 50 (0, 0))) :: (ImmI a7_6 x7_6.data) :: (Asn.own b0_0 (.cells #[.int .i64 d.kind, .int .i64 d.line, .int .i64 d.id, .int .i64 d.step, .int .i64 d.state, .int .i64 d.head, .slice none 0 0, .int .i64 d.next, .int .i64 d.told] 60 (0, 0))) :: (Asn.own b0_1 (.cells #[.int .i64 (0), .int .i64 (0), .int .i64 (0), .int .i64 (0), .int .i64 (0), .int .i64 (0), .slice none 0 0, .int .i64 (0), .int .i64 (0)] 60 (0, 0))) :: (ImmI da d.data) :: Γ) (fun w hw => RChXA.close (x := x7_3_c) (t := cc) (Sat.less (.take (.there (.there .here)) (.take (.there (.there .here)) (.take .here (.take .here (.take .here (.take .here (.take .here .refl))))))) hw)) ?_
   refine At.conv (Γ' := (RChA c cc) :: (Asn.own b7_7 (.cells #[.int .i64 x7_6.fwd, .int .i64 x7_6.back, .int .i64 x7_6.line, .int .i64 x7_6.used, .bool x7_6.dirty, .slice a7_6 (List.length x7_6.data) c7_6] 50 (0, 0))) :: (ImmI a7_6 x7_6.data) :: (Asn.own b0_0 (.cells #[.int .i64 d.kind, .int .i64 d.line, .int .i64 d.id, .int .i64 d.step, .int .i64 d.state, .int .i64 d.head, .slice none 0 0, .int .i64 d.next, .int .i64 d.told] 60 (0, 0))) :: (Asn.own b0_1 (.cells #[.int .i64 (0), .int .i64 (0), .int .i64 (0), .int .i64 (0), .int .i64 (0), .int .i64 (0), .slice none 0 0, .int .i64 (0), .int .i64 (0)] 60 (0, 0))) :: (ImmI da d.data) :: Γ) (fun w hw => RChXA.shut (hw.pull .here)) ?_
   refine aq (x := C55 [1,0,1,0,1,0,1,1,1,1,0]) (y := C55 [1,0,1,0,1,0,1,1,1,1,1]) ?_
   refine at_block (i := 1) (x := C55 [1,0,1,0,1,0,1,1,1,1,0,0]) (by kernel_rfl) ?_
   refine at_seq_join (x := C55 [1,0,1,0,1,0,1,1,1,1,0,0,0]) (y := C55 [1,0,1,0,1,0,1,1,1,1,0,0,1]) (fun ff ΔΔ => ∃ (e0_39 : Bool), rroll7S_j0 cc d x7_6 e0_39 = some y ∧ ff = [(1, .pointer (some ⟨c, 0, none⟩)), (2, .pointer (some ⟨b0_0, 0, none⟩)), (4, .pointer (some ⟨b0_1, 0, none⟩)), (7, .pointer (some ⟨b7_7, 0, none⟩)), (39, .bool e0_39)] ∧ (RChA c cc) :: (Asn.own b7_7 (.cells #[.int .i64 x7_6.fwd, .int .i64 x7_6.back, .int .i64 x7_6.line, .int .i64 x7_6.used, .bool x7_6.dirty, .slice a7_6 (List.length x7_6.data) c7_6] 50 (0, 0))) :: (ImmI a7_6 x7_6.data) :: (Asn.own b0_0 (.cells #[.int .i64 d.kind, .int .i64 d.line, .int .i64 d.id, .int .i64 d.step, .int .i64 d.state, .int .i64 d.head, .slice none 0 0, .int .i64 d.next, .int .i64 d.told] 60 (0, 0))) :: (Asn.own b0_1 (.cells #[.int .i64 (0), .int .i64 (0), .int .i64 (0), .int .i64 (0), .int .i64 (0), .int .i64 (0), .slice none 0 0, .int .i64 (0), .int .i64 (0)] 60 (0, 0))) :: Γ = ΔΔ) (by kernel_rfl) ?_ ?_
   ·rintro _ _ ⟨e0_39, H, rfl, rfl⟩
    rw [rroll7S_j0] at H
    rcases Bool.eq_false_or_eq_true (e0_39) with h3 | h3
    ·replace H := bifT H h3
     refine at_true (t := e0_39) (x := C55 [1,0,1,0,1,0,1,1,1,1,0,0,1,0]) (y := C55 [1,0,1,0,1,0,1,1,1,1,0,0,1,1]) (o := .tmp 39) (by kernel_rfl) (by kernel_rfl) (by kernel_rfl) h3 ?_
     refine aq (x := C55 [1,0,1,0,1,0,1,1,1,1,0,0,1,0,0]) (y := C55 [1,0,1,0,1,0,1,1,1,1,0,0,1,0,1]) ?_
     refine ar (id := 10) 4 ?_
     refine sp 48 (.pointer (some ⟨c, 0, none⟩)) ?_
     refine sp 49 (.pointer (some ⟨b0_0, 1, none⟩)) ?_
     refine sl 50 (.int .i64 d.line) (load1 (off := 1) (fun _ => by kernel_rfl) (holds_own (.there (.there (.there .here)))) (by kernel_rfl)) ?_
     obtain ⟨y10_3, hy10_3, H⟩ := bindE H
     refine s_call 51 16 #[.pointer (some ⟨c, 0, none⟩), .int .i64 d.line] (by kernel_rfl) (by kernel_rfl) (fun _ => by kernel_rfl) (RDropF_tr c cc d.line y10_3 hy10_3) ?_
     rintro _ _ ⟨a10_3_00, c10_3_00, rfl, rfl⟩
     refine ops_end ?_
     refine ae [(2, .pointer (some ⟨b0_0, 0, none⟩)), (4, .pointer (some ⟨b0_1, 0, none⟩)), (7, .pointer (some ⟨b7_7, 0, none⟩))] ?_
     refine at_then_normal ?_
     refine aq (x := C55 [1,0,1,0,1,0,1,1,1,1,0,0,1,0,1,0]) (y := C55 [1,0,1,0,1,0,1,1,1,1,0,0,1,0,1,1]) ?_
     refine aq (x := C55 [1,0,1,0,1,0,1,1,1,1,0,0,1,0,1,0,0]) (y := C55 [1,0,1,0,1,0,1,1,1,1,0,0,1,0,1,0,1]) ?_
     refine ar (id := 11) 2 ?_
     refine sp 52 (.pointer (some ⟨b7_7, 4, none⟩)) ?_
     refine sl 53 (.bool x7_6.dirty) (load1 (off := 4) (fun _ => by kernel_rfl) (holds_own (.there (.there .here))) (by kernel_rfl)) ?_
     refine ops_end ?_
     refine ae [(2, .pointer (some ⟨b0_0, 0, none⟩)), (4, .pointer (some ⟨b0_1, 0, none⟩)), (7, .pointer (some ⟨b7_7, 0, none⟩)), (53, .bool x7_6.dirty)] ?_
     refine at_then_normal ?_
     rcases Bool.eq_false_or_eq_true (x7_6.dirty) with h4 | h4
     ·replace H := bifT H h4
      refine at_true (t := x7_6.dirty) (x := C55 [1,0,1,0,1,0,1,1,1,1,0,0,1,0,1,0,1,0]) (y := C55 [1,0,1,0,1,0,1,1,1,1,0,0,1,0,1,0,1,1]) (o := .tmp 53) (by kernel_rfl) (by kernel_rfl) (by kernel_rfl) h4 ?_
      refine aq (x := C55 [1,0,1,0,1,0,1,1,1,1,0,0,1,0,1,0,1,0,0]) (y := C55 [1,0,1,0,1,0,1,1,1,1,0,0,1,0,1,0,1,0,1]) ?_
      refine ar (id := 12) 6 ?_
      refine sl 54 (.agg #[.int .i64 d.kind, .int .i64 d.line, .int .i64 d.id, .int .i64 d.step, .int .i64 d.state, .int .i64 d.head, .slice none 0 0, .int .i64 d.next, .int .i64 d.told]) (loadN (off := 0) (vs := [.int .i64 d.kind, .int .i64 d.line, .int .i64 d.id, .int .i64 d.step, .int .i64 d.state, .int .i64 d.head, .slice none 0 0, .int .i64 d.next, .int .i64 d.told]) 9 (fun _ => by kernel_rfl) (holds_own (.there (.there (.there (.there .here))))) rfl (by exact ⟨rfl, rfl, rfl, rfl, rfl, rfl, rfl, rfl, rfl, trivial⟩)) ?_
      refine sp 55 (.pointer (some ⟨b7_7, 5, none⟩)) ?_
      refine sl 56 (.slice a7_6 (List.length x7_6.data) c7_6) (load1 (off := 5) (fun _ => by kernel_rfl) (holds_own (.there (.there .here))) (by kernel_rfl)) ?_
      obtain ⟨y12_3, hy12_3, H⟩ := bindE H
      refine s_call 57 69 #[.agg #[.int .i64 d.kind, .int .i64 d.line, .int .i64 d.id, .int .i64 d.step, .int .i64 d.state, .int .i64 d.head, .slice none 0 0, .int .i64 d.next, .int .i64 d.told], .int .i64 (0), .int .i64 (-1), .slice a7_6 (List.length x7_6.data) c7_6] (by kernel_rfl) (by kernel_rfl) (fun _ => by kernel_rfl) (RUnlockF_tr none 0 (⟨d.kind, d.line, d.id, d.step, d.state, d.head, ([] : List Int), d.next, d.told⟩ : DealS) (0 : Int) ((-1) : Int) a7_6 c7_6 x7_6.data Reads.nil (ImmR.reads (k := 1) (.there (.there (.there .here)))) y12_3 hy12_3) ?_
      rintro _ _ ⟨a12_3_00, c12_3_00, rfl, rfl⟩
      refine s_do (by kernel_rfl) (by kernel_rfl) (st_store (off := 0) (vs := [.int .i64 y12_3.kind, .int .i64 y12_3.line, .int .i64 y12_3.id, .int .i64 y12_3.step, .int .i64 y12_3.state, .int .i64 y12_3.head, .slice a12_3_00 (List.length y12_3.data) c12_3_00, .int .i64 y12_3.next, .int .i64 y12_3.told]) (c' := #[.int .i64 y12_3.kind, .int .i64 y12_3.line, .int .i64 y12_3.id, .int .i64 y12_3.step, .int .i64 y12_3.state, .int .i64 y12_3.head, .slice a12_3_00 (List.length y12_3.data) c12_3_00, .int .i64 y12_3.next, .int .i64 y12_3.told]) (fun _ => by kernel_rfl) (.there (.there (.there (.there (.there (.there .here)))))) (by kernel_rfl) (by kernel_rfl) (by kernel_rfl)) ?_
      rintro _ _ ⟨rfl, rfl⟩
      refine sp 5 (.bool true) ?_
      refine ops_end ?_
      refine ae [(4, .pointer (some ⟨b0_1, 0, none⟩)), (5, .bool true)] ?_
      refine at_then_normal ?_
      refine at_ret (by kernel_rfl) ?_
      refine at_then_ret ?_
      refine at_in_ret ?_
      refine at_then_ret ?_
      refine at_in_ret ?_
      refine at_then_ret ?_
      obtain rfl := someE H
      refine at_backR [.agg #[.int .i64 y12_3.kind, .int .i64 y12_3.line, .int .i64 y12_3.id, .int .i64 y12_3.step, .int .i64 y12_3.state, .int .i64 y12_3.head, .slice a12_3_00 (List.length y12_3.data) c12_3_00, .int .i64 y12_3.next, .int .i64 y12_3.told], .bool true] ((ImmI a12_3_00 y12_3.data) :: (RChA c y10_3.2.2) :: Γ) (rs := [.cell 4 60, .tmp 5]) (by kernel_rfl) (.cons (.cell (by kernel_rfl) (retN (off := 0) (vs := [.int .i64 y12_3.kind, .int .i64 y12_3.line, .int .i64 y12_3.id, .int .i64 y12_3.step, .int .i64 y12_3.state, .int .i64 y12_3.head, .slice a12_3_00 (List.length y12_3.data) c12_3_00, .int .i64 y12_3.next, .int .i64 y12_3.told]) 9 (fun _ => by kernel_rfl) (holds_own .here) rfl (by exact ⟨rfl, rfl, rfl, rfl, rfl, rfl, rfl, rfl, rfl, trivial⟩))) (.cons (.tmp (by kernel_rfl)) .nil)) (fun w hw => (Sat.less (.take (.there .here) (.take (.there (.there .here)) (.drop .here (.drop .here (.drop .here (.drop .here (.drop .here .refl))))))) hw)) ?_
      exact ⟨a12_3_00, c12_3_00, rfl, rfl⟩
     ·replace H := bifF H h4
      refine at_false (t := x7_6.dirty) (x := C55 [1,0,1,0,1,0,1,1,1,1,0,0,1,0,1,0,1,0]) (y := C55 [1,0,1,0,1,0,1,1,1,1,0,0,1,0,1,0,1,1]) (o := .tmp 53) (by kernel_rfl) (by kernel_rfl) (by kernel_rfl) h4 ?_
      refine at_skip (by kernel_rfl) ?_
      refine at_then_normal ?_
      refine aq (x := C55 [1,0,1,0,1,0,1,1,1,1,0,0,1,0,1,1,0]) (y := C55 [1,0,1,0,1,0,1,1,1,1,0,0,1,0,1,1,1]) ?_
      refine ar (id := 13) 4 ?_
      refine sl 58 (.agg #[.int .i64 d.kind, .int .i64 d.line, .int .i64 d.id, .int .i64 d.step, .int .i64 d.state, .int .i64 d.head, .slice none 0 0, .int .i64 d.next, .int .i64 d.told]) (loadN (off := 0) (vs := [.int .i64 d.kind, .int .i64 d.line, .int .i64 d.id, .int .i64 d.step, .int .i64 d.state, .int .i64 d.head, .slice none 0 0, .int .i64 d.next, .int .i64 d.told]) 9 (fun _ => by kernel_rfl) (holds_own (.there (.there (.there (.there .here))))) rfl (by exact ⟨rfl, rfl, rfl, rfl, rfl, rfl, rfl, rfl, rfl, trivial⟩)) ?_
      obtain ⟨y13_1, hy13_1, H⟩ := bindE H
      refine s_call 59 69 #[.agg #[.int .i64 d.kind, .int .i64 d.line, .int .i64 d.id, .int .i64 d.step, .int .i64 d.state, .int .i64 d.head, .slice none 0 0, .int .i64 d.next, .int .i64 d.told], .int .i64 (0), .int .i64 (-1), .slice none 0 0] (by kernel_rfl) (by kernel_rfl) (fun _ => by kernel_rfl) (RUnlockF_tr none 0 (⟨d.kind, d.line, d.id, d.step, d.state, d.head, ([] : List Int), d.next, d.told⟩ : DealS) (0 : Int) ((-1) : Int) none 0 ([] : List Int) Reads.nil Reads.nil y13_1 hy13_1) ?_
      rintro _ _ ⟨a13_1_00, c13_1_00, rfl, rfl⟩
      refine s_do (by kernel_rfl) (by kernel_rfl) (st_store (off := 0) (vs := [.int .i64 y13_1.kind, .int .i64 y13_1.line, .int .i64 y13_1.id, .int .i64 y13_1.step, .int .i64 y13_1.state, .int .i64 y13_1.head, .slice a13_1_00 (List.length y13_1.data) c13_1_00, .int .i64 y13_1.next, .int .i64 y13_1.told]) (c' := #[.int .i64 y13_1.kind, .int .i64 y13_1.line, .int .i64 y13_1.id, .int .i64 y13_1.step, .int .i64 y13_1.state, .int .i64 y13_1.head, .slice a13_1_00 (List.length y13_1.data) c13_1_00, .int .i64 y13_1.next, .int .i64 y13_1.told]) (fun _ => by kernel_rfl) (.there (.there (.there (.there (.there (.there .here)))))) (by kernel_rfl) (by kernel_rfl) (by kernel_rfl)) ?_
      rintro _ _ ⟨rfl, rfl⟩
      refine sp 5 (.bool true) ?_
      refine ops_end ?_
      refine ae [(4, .pointer (some ⟨b0_1, 0, none⟩)), (5, .bool true)] ?_
      refine at_then_normal ?_
      refine at_ret (by kernel_rfl) ?_
      refine at_in_ret ?_
      refine at_then_ret ?_
      refine at_in_ret ?_
      refine at_then_ret ?_
      obtain rfl := someE H
      refine at_backR [.agg #[.int .i64 y13_1.kind, .int .i64 y13_1.line, .int .i64 y13_1.id, .int .i64 y13_1.step, .int .i64 y13_1.state, .int .i64 y13_1.head, .slice a13_1_00 (List.length y13_1.data) c13_1_00, .int .i64 y13_1.next, .int .i64 y13_1.told], .bool true] ((ImmI a13_1_00 y13_1.data) :: (RChA c y10_3.2.2) :: Γ) (rs := [.cell 4 60, .tmp 5]) (by kernel_rfl) (.cons (.cell (by kernel_rfl) (retN (off := 0) (vs := [.int .i64 y13_1.kind, .int .i64 y13_1.line, .int .i64 y13_1.id, .int .i64 y13_1.step, .int .i64 y13_1.state, .int .i64 y13_1.head, .slice a13_1_00 (List.length y13_1.data) c13_1_00, .int .i64 y13_1.next, .int .i64 y13_1.told]) 9 (fun _ => by kernel_rfl) (holds_own .here) rfl (by exact ⟨rfl, rfl, rfl, rfl, rfl, rfl, rfl, rfl, rfl, trivial⟩))) (.cons (.tmp (by kernel_rfl)) .nil)) (fun w hw => (Sat.less (.take (.there .here) (.take (.there (.there .here)) (.drop .here (.drop .here (.drop .here (.drop .here (.drop .here .refl))))))) hw)) ?_
      exact ⟨a13_1_00, c13_1_00, rfl, rfl⟩
    ·replace H := bifF H h3
     refine at_false (t := e0_39) (x := C55 [1,0,1,0,1,0,1,1,1,1,0,0,1,0]) (y := C55 [1,0,1,0,1,0,1,1,1,1,0,0,1,1]) (o := .tmp 39) (by kernel_rfl) (by kernel_rfl) (by kernel_rfl) h3 ?_
     refine aq (x := C55 [1,0,1,0,1,0,1,1,1,1,0,0,1,1,0]) (y := C55 [1,0,1,0,1,0,1,1,1,1,0,0,1,1,1]) ?_
     refine ar (id := 14) 4 ?_
     refine sp 61 (.pointer (some ⟨b7_7, 1, none⟩)) ?_
     refine sl 62 (.int .i64 x7_6.back) (load1 (off := 1) (fun _ => by kernel_rfl) (holds_own (.there .here)) (by kernel_rfl)) ?_
     refine sp 63 (.bool (decide (x7_6.back = ((-1) : Int)))) ?_
     refine sp 60 (.bool (decide (x7_6.back = ((-1) : Int)))) ?_
     refine ops_end ?_
     refine ae [(2, .pointer (some ⟨b0_0, 0, none⟩)), (4, .pointer (some ⟨b0_1, 0, none⟩)), (7, .pointer (some ⟨b7_7, 0, none⟩)), (60, .bool (decide (x7_6.back = ((-1) : Int))))] ?_
     refine at_then_normal ?_
     rcases Bool.eq_false_or_eq_true (decide (x7_6.back = ((-1) : Int))) with h5 | h5
     ·replace H := bifT H h5
      refine at_true (t := decide (x7_6.back = ((-1) : Int))) (x := C55 [1,0,1,0,1,0,1,1,1,1,0,0,1,1,1,0]) (y := C55 [1,0,1,0,1,0,1,1,1,1,0,0,1,1,1,1]) (o := .tmp 60) (by kernel_rfl) (by kernel_rfl) (by kernel_rfl) h5 ?_
      refine at_region_draw (id := 15) (by kernel_rfl) (by kernel_rfl) ?_
      refine dp 0 64 (.pointer (some ⟨b7_7, 0, none⟩)) ?_
      refine dl 1 65 (.int .i64 x7_6.fwd) (load1 (off := 0) (fun _ => by kernel_rfl) (holds_own (.there .here)) (by kernel_rfl)) ?_
      refine dp 2 66 (.pointer (some ⟨b0_0, 5, none⟩)) ?_
      refine d_do 3 [2] [0] [1] (by kernel_rfl) (by kernel_rfl) (by kernel_rfl) (st_store (off := 5) (vs := [.int .i64 (-1)]) (c' := #[.int .i64 d.kind, .int .i64 d.line, .int .i64 d.id, .int .i64 d.step, .int .i64 d.state, .int .i64 (-1), .slice none 0 0, .int .i64 d.next, .int .i64 d.told]) (fun _ => by kernel_rfl) (.there (.there (.there .here))) (by kernel_rfl) (by kernel_rfl) (by kernel_rfl)) ?_
      rintro _ _ ⟨rfl, rfl⟩
      refine ⟨(stable_cons 1 65 (.int .i64 x7_6.fwd) (by kernel_rfl) (by kernel_rfl) (by kernel_rfl) (load1 (off := 0) (fun _ => by kernel_rfl) (holds_own (.there (.there .here))) (by kernel_rfl)) stable_nil), ?_⟩
      refine dp 4 67 (.pointer (some ⟨b0_0, 7, none⟩)) ?_
      refine d_do 5 [4, 1, 3, 0, 2] [] [] (by kernel_rfl) (by kernel_rfl) (by kernel_rfl) (st_store (off := 7) (vs := [.int .i64 x7_6.fwd]) (c' := #[.int .i64 d.kind, .int .i64 d.line, .int .i64 d.id, .int .i64 d.step, .int .i64 d.state, .int .i64 (-1), .slice none 0 0, .int .i64 x7_6.fwd, .int .i64 d.told]) (fun _ => by kernel_rfl) .here (by kernel_rfl) (by kernel_rfl) (by kernel_rfl)) ?_
      rintro _ _ ⟨rfl, rfl⟩
      refine ⟨stable_nil, ?_⟩
      refine dp 6 68 (.pointer (some ⟨b0_0, 3, none⟩)) ?_
      refine d_do 7 [6, 5, 0, 1, 2, 3, 4] [] [] (by kernel_rfl) (by kernel_rfl) (by kernel_rfl) (st_store (off := 3) (vs := [.int .i64 (5)]) (c' := #[.int .i64 d.kind, .int .i64 d.line, .int .i64 d.id, .int .i64 (5), .int .i64 d.state, .int .i64 (-1), .slice none 0 0, .int .i64 x7_6.fwd, .int .i64 d.told]) (fun _ => by kernel_rfl) .here (by kernel_rfl) (by kernel_rfl) (by kernel_rfl)) ?_
      rintro _ _ ⟨rfl, rfl⟩
      refine ⟨stable_nil, ?_⟩
      refine draw_end (by kernel_rfl) ?_
      refine ae [(2, .pointer (some ⟨b0_0, 0, none⟩)), (4, .pointer (some ⟨b0_1, 0, none⟩))] ?_
      refine at_in_normal ?_
      refine at_then_normal ?_
      refine aq (x := C55 [1,0,1,0,1,0,1,1,1,1,1,0]) (y := C55 [1,0,1,0,1,0,1,1,1,1,1,1]) ?_
      refine ar (id := 16) 3 ?_
      refine sl 69 (.agg #[.int .i64 d.kind, .int .i64 d.line, .int .i64 d.id, .int .i64 (5), .int .i64 d.state, .int .i64 (-1), .slice none 0 0, .int .i64 x7_6.fwd, .int .i64 d.told]) (loadN (off := 0) (vs := [.int .i64 d.kind, .int .i64 d.line, .int .i64 d.id, .int .i64 (5), .int .i64 d.state, .int .i64 (-1), .slice none 0 0, .int .i64 x7_6.fwd, .int .i64 d.told]) 9 (fun _ => by kernel_rfl) (holds_own .here) rfl (by exact ⟨rfl, rfl, rfl, rfl, rfl, rfl, rfl, rfl, rfl, trivial⟩)) ?_
      refine s_do (by kernel_rfl) (by kernel_rfl) (st_store (off := 0) (vs := [.int .i64 d.kind, .int .i64 d.line, .int .i64 d.id, .int .i64 (5), .int .i64 d.state, .int .i64 (-1), .slice none 0 0, .int .i64 x7_6.fwd, .int .i64 d.told]) (c' := #[.int .i64 d.kind, .int .i64 d.line, .int .i64 d.id, .int .i64 (5), .int .i64 d.state, .int .i64 (-1), .slice none 0 0, .int .i64 x7_6.fwd, .int .i64 d.told]) (fun _ => by kernel_rfl) (.there (.there (.there (.there .here)))) (by kernel_rfl) (by kernel_rfl) (by kernel_rfl)) ?_
      rintro _ _ ⟨rfl, rfl⟩
      refine sp 5 (.bool true) ?_
      refine ops_end ?_
      refine ae [(4, .pointer (some ⟨b0_1, 0, none⟩)), (5, .bool true)] ?_
      refine at_then_normal ?_
      refine at_ret (by kernel_rfl) ?_
      refine at_in_ret ?_
      refine at_then_ret ?_
      obtain rfl := someE H
      refine at_backR [.agg #[.int .i64 d.kind, .int .i64 d.line, .int .i64 d.id, .int .i64 (5), .int .i64 d.state, .int .i64 (-1), .slice none 0 0, .int .i64 x7_6.fwd, .int .i64 d.told], .bool true] ((ImmI none ([] : List Int)) :: (RChA c cc) :: Γ) (rs := [.cell 4 60, .tmp 5]) (by kernel_rfl) (.cons (.cell (by kernel_rfl) (retN (off := 0) (vs := [.int .i64 d.kind, .int .i64 d.line, .int .i64 d.id, .int .i64 (5), .int .i64 d.state, .int .i64 (-1), .slice none 0 0, .int .i64 x7_6.fwd, .int .i64 d.told]) 9 (fun _ => by kernel_rfl) (holds_own .here) rfl (by exact ⟨rfl, rfl, rfl, rfl, rfl, rfl, rfl, rfl, rfl, trivial⟩))) (.cons (.tmp (by kernel_rfl)) .nil)) (fun w hw => (Sat.less (.take .here (.take (.there (.there .here)) (.drop .here (.drop .here (.drop .here (.drop .here .refl)))))) (ImmR.nil_mk (k := 1) (a := none) hw))) ?_
      exact ⟨none, 0, rfl, rfl⟩
     ·replace H := bifF H h5
      refine at_false (t := decide (x7_6.back = ((-1) : Int))) (x := C55 [1,0,1,0,1,0,1,1,1,1,0,0,1,1,1,0]) (y := C55 [1,0,1,0,1,0,1,1,1,1,0,0,1,1,1,1]) (o := .tmp 60) (by kernel_rfl) (by kernel_rfl) (by kernel_rfl) h5 ?_
      refine at_region_draw (id := 8) (by kernel_rfl) (by kernel_rfl) ?_
      refine dp 0 32 (.pointer (some ⟨b7_7, 1, none⟩)) ?_
      refine dl 1 33 (.int .i64 x7_6.back) (load1 (off := 1) (fun _ => by kernel_rfl) (holds_own (.there .here)) (by kernel_rfl)) ?_
      refine dp 2 34 (.pointer (some ⟨b7_7, 0, none⟩)) ?_
      refine dl 3 35 (.int .i64 x7_6.fwd) (load1 (off := 0) (fun _ => by kernel_rfl) (holds_own (.there .here)) (by kernel_rfl)) ?_
      refine dp 4 36 (.pointer (some ⟨b0_0, 5, none⟩)) ?_
      refine d_do 5 [4, 1, 0] [2] [3] (by kernel_rfl) (by kernel_rfl) (by kernel_rfl) (st_store (off := 5) (vs := [.int .i64 x7_6.back]) (c' := #[.int .i64 d.kind, .int .i64 d.line, .int .i64 d.id, .int .i64 d.step, .int .i64 d.state, .int .i64 x7_6.back, .slice none 0 0, .int .i64 d.next, .int .i64 d.told]) (fun _ => by kernel_rfl) (.there (.there (.there .here))) (by kernel_rfl) (by kernel_rfl) (by kernel_rfl)) ?_
      rintro _ _ ⟨rfl, rfl⟩
      refine ⟨(stable_cons 3 35 (.int .i64 x7_6.fwd) (by kernel_rfl) (by kernel_rfl) (by kernel_rfl) (load1 (off := 0) (fun _ => by kernel_rfl) (holds_own (.there (.there .here))) (by kernel_rfl)) stable_nil), ?_⟩
      refine dp 6 37 (.pointer (some ⟨b0_0, 7, none⟩)) ?_
      refine d_do 7 [6, 3, 5, 0, 1, 2, 4] [] [] (by kernel_rfl) (by kernel_rfl) (by kernel_rfl) (st_store (off := 7) (vs := [.int .i64 x7_6.fwd]) (c' := #[.int .i64 d.kind, .int .i64 d.line, .int .i64 d.id, .int .i64 d.step, .int .i64 d.state, .int .i64 x7_6.back, .slice none 0 0, .int .i64 x7_6.fwd, .int .i64 d.told]) (fun _ => by kernel_rfl) .here (by kernel_rfl) (by kernel_rfl) (by kernel_rfl)) ?_
      rintro _ _ ⟨rfl, rfl⟩
      refine ⟨stable_nil, ?_⟩
      refine dp 8 38 (.pointer (some ⟨b0_0, 3, none⟩)) ?_
      refine d_do 9 [8, 7, 0, 1, 2, 3, 4, 5, 6] [] [] (by kernel_rfl) (by kernel_rfl) (by kernel_rfl) (st_store (off := 3) (vs := [.int .i64 (4)]) (c' := #[.int .i64 d.kind, .int .i64 d.line, .int .i64 d.id, .int .i64 (4), .int .i64 d.state, .int .i64 x7_6.back, .slice none 0 0, .int .i64 x7_6.fwd, .int .i64 d.told]) (fun _ => by kernel_rfl) .here (by kernel_rfl) (by kernel_rfl) (by kernel_rfl)) ?_
      rintro _ _ ⟨rfl, rfl⟩
      refine ⟨stable_nil, ?_⟩
      refine draw_end (by kernel_rfl) ?_
      refine ae [(2, .pointer (some ⟨b0_0, 0, none⟩)), (4, .pointer (some ⟨b0_1, 0, none⟩))] ?_
      refine at_in_normal ?_
      refine at_then_normal ?_
      refine aq (x := C55 [1,0,1,0,1,0,1,1,1,1,1,0]) (y := C55 [1,0,1,0,1,0,1,1,1,1,1,1]) ?_
      refine ar (id := 16) 3 ?_
      refine sl 69 (.agg #[.int .i64 d.kind, .int .i64 d.line, .int .i64 d.id, .int .i64 (4), .int .i64 d.state, .int .i64 x7_6.back, .slice none 0 0, .int .i64 x7_6.fwd, .int .i64 d.told]) (loadN (off := 0) (vs := [.int .i64 d.kind, .int .i64 d.line, .int .i64 d.id, .int .i64 (4), .int .i64 d.state, .int .i64 x7_6.back, .slice none 0 0, .int .i64 x7_6.fwd, .int .i64 d.told]) 9 (fun _ => by kernel_rfl) (holds_own .here) rfl (by exact ⟨rfl, rfl, rfl, rfl, rfl, rfl, rfl, rfl, rfl, trivial⟩)) ?_
      refine s_do (by kernel_rfl) (by kernel_rfl) (st_store (off := 0) (vs := [.int .i64 d.kind, .int .i64 d.line, .int .i64 d.id, .int .i64 (4), .int .i64 d.state, .int .i64 x7_6.back, .slice none 0 0, .int .i64 x7_6.fwd, .int .i64 d.told]) (c' := #[.int .i64 d.kind, .int .i64 d.line, .int .i64 d.id, .int .i64 (4), .int .i64 d.state, .int .i64 x7_6.back, .slice none 0 0, .int .i64 x7_6.fwd, .int .i64 d.told]) (fun _ => by kernel_rfl) (.there (.there (.there (.there .here)))) (by kernel_rfl) (by kernel_rfl) (by kernel_rfl)) ?_
      rintro _ _ ⟨rfl, rfl⟩
      refine sp 5 (.bool true) ?_
      refine ops_end ?_
      refine ae [(4, .pointer (some ⟨b0_1, 0, none⟩)), (5, .bool true)] ?_
      refine at_then_normal ?_
      refine at_ret (by kernel_rfl) ?_
      refine at_in_ret ?_
      refine at_then_ret ?_
      obtain rfl := someE H
      refine at_backR [.agg #[.int .i64 d.kind, .int .i64 d.line, .int .i64 d.id, .int .i64 (4), .int .i64 d.state, .int .i64 x7_6.back, .slice none 0 0, .int .i64 x7_6.fwd, .int .i64 d.told], .bool true] ((ImmI none ([] : List Int)) :: (RChA c cc) :: Γ) (rs := [.cell 4 60, .tmp 5]) (by kernel_rfl) (.cons (.cell (by kernel_rfl) (retN (off := 0) (vs := [.int .i64 d.kind, .int .i64 d.line, .int .i64 d.id, .int .i64 (4), .int .i64 d.state, .int .i64 x7_6.back, .slice none 0 0, .int .i64 x7_6.fwd, .int .i64 d.told]) 9 (fun _ => by kernel_rfl) (holds_own .here) rfl (by exact ⟨rfl, rfl, rfl, rfl, rfl, rfl, rfl, rfl, rfl, trivial⟩))) (.cons (.tmp (by kernel_rfl)) .nil)) (fun w hw => (Sat.less (.take .here (.take (.there (.there .here)) (.drop .here (.drop .here (.drop .here (.drop .here .refl)))))) (ImmR.nil_mk (k := 1) (a := none) hw))) ?_
      exact ⟨none, 0, rfl, rfl⟩
   ·refine ar (id := 9) 9 ?_
    refine sp 40 (.pointer (some ⟨b7_7, 1, none⟩)) ?_
    refine sl 41 (.int .i64 x7_6.back) (load1 (off := 1) (fun _ => by kernel_rfl) (holds_own (.there .here)) (by kernel_rfl)) ?_
    refine sp 42 (.bool (decide (x7_6.back = ((-1) : Int)))) ?_
    rcases Bool.eq_false_or_eq_true (decide (x7_6.back = ((-1) : Int))) with h6 | h6
    ·replace H := bifT H h6
     refine sr 43 (.bool true) (run_eq (v := .bool (decide (x7_6.back = ((-1) : Int)))) (fun _ => by kernel_rfl) (congrArg Value.bool h6)) ?_
     refine sp 44 (.pointer (some ⟨b7_7, 0, none⟩)) ?_
     refine sl 45 (.int .i64 x7_6.fwd) (load1 (off := 0) (fun _ => by kernel_rfl) (holds_own (.there .here)) (by kernel_rfl)) ?_
     refine sp 46 (.bool (decide (x7_6.fwd = ((-1) : Int)))) ?_
     refine sp 47 (.bool (decide (x7_6.fwd = ((-1) : Int)))) ?_
     refine sp 39 (.bool (decide (x7_6.fwd = ((-1) : Int)))) ?_
     refine ops_end ?_
     refine ae [(1, .pointer (some ⟨c, 0, none⟩)), (2, .pointer (some ⟨b0_0, 0, none⟩)), (4, .pointer (some ⟨b0_1, 0, none⟩)), (7, .pointer (some ⟨b7_7, 0, none⟩)), (39, .bool (decide (x7_6.fwd = ((-1) : Int))))] ?_
     refine at_round_normal ?_
     exact at_join_mk [(1, .pointer (some ⟨c, 0, none⟩)), (2, .pointer (some ⟨b0_0, 0, none⟩)), (4, .pointer (some ⟨b0_1, 0, none⟩)), (7, .pointer (some ⟨b7_7, 0, none⟩)), (39, .bool (decide (x7_6.fwd = ((-1) : Int))))] ((RChA c cc) :: (Asn.own b7_7 (.cells #[.int .i64 x7_6.fwd, .int .i64 x7_6.back, .int .i64 x7_6.line, .int .i64 x7_6.used, .bool x7_6.dirty, .slice a7_6 (List.length x7_6.data) c7_6] 50 (0, 0))) :: (ImmI a7_6 x7_6.data) :: (Asn.own b0_0 (.cells #[.int .i64 d.kind, .int .i64 d.line, .int .i64 d.id, .int .i64 d.step, .int .i64 d.state, .int .i64 d.head, .slice none 0 0, .int .i64 d.next, .int .i64 d.told] 60 (0, 0))) :: (Asn.own b0_1 (.cells #[.int .i64 (0), .int .i64 (0), .int .i64 (0), .int .i64 (0), .int .i64 (0), .int .i64 (0), .slice none 0 0, .int .i64 (0), .int .i64 (0)] 60 (0, 0))) :: Γ) ⟨by kernel_rfl, by kernel_rfl, by kernel_rfl, by kernel_rfl, by kernel_rfl, trivial⟩ (fun w hw => (Sat.less (.take .here (.take .here (.take .here (.take .here (.take .here (.drop .here .refl)))))) hw)) ⟨decide (x7_6.fwd = ((-1) : Int)), H, rfl, rfl⟩
    ·replace H := bifF H h6
     refine sr 43 (.bool false) (run_eq (v := .bool (decide (x7_6.back = ((-1) : Int)))) (fun _ => by kernel_rfl) (congrArg Value.bool h6)) ?_
     refine sa 44 ?_
     refine sa 45 ?_
     refine sa 46 ?_
     refine sp 47 (.bool false) ?_
     refine sp 39 (.bool false) ?_
     refine ops_end ?_
     refine ae [(1, .pointer (some ⟨c, 0, none⟩)), (2, .pointer (some ⟨b0_0, 0, none⟩)), (4, .pointer (some ⟨b0_1, 0, none⟩)), (7, .pointer (some ⟨b7_7, 0, none⟩)), (39, .bool false)] ?_
     refine at_round_normal ?_
     exact at_join_mk [(1, .pointer (some ⟨c, 0, none⟩)), (2, .pointer (some ⟨b0_0, 0, none⟩)), (4, .pointer (some ⟨b0_1, 0, none⟩)), (7, .pointer (some ⟨b7_7, 0, none⟩)), (39, .bool false)] ((RChA c cc) :: (Asn.own b7_7 (.cells #[.int .i64 x7_6.fwd, .int .i64 x7_6.back, .int .i64 x7_6.line, .int .i64 x7_6.used, .bool x7_6.dirty, .slice a7_6 (List.length x7_6.data) c7_6] 50 (0, 0))) :: (ImmI a7_6 x7_6.data) :: (Asn.own b0_0 (.cells #[.int .i64 d.kind, .int .i64 d.line, .int .i64 d.id, .int .i64 d.step, .int .i64 d.state, .int .i64 d.head, .slice none 0 0, .int .i64 d.next, .int .i64 d.told] 60 (0, 0))) :: (Asn.own b0_1 (.cells #[.int .i64 (0), .int .i64 (0), .int .i64 (0), .int .i64 (0), .int .i64 (0), .int .i64 (0), .slice none 0 0, .int .i64 (0), .int .i64 (0)] 60 (0, 0))) :: Γ) ⟨by kernel_rfl, by kernel_rfl, by kernel_rfl, by kernel_rfl, by kernel_rfl, trivial⟩ (fun w hw => (Sat.less (.take .here (.take .here (.take .here (.take .here (.take .here (.drop .here .refl)))))) hw)) ⟨false, H, rfl, rfl⟩
 ·replace H := bifF H h1
  refine at_false (t := decide (d.step = (1 : Int))) (x := C55 [1,0,1,0,1,0]) (y := C55 [1,0,1,0,1,1]) (o := .tmp 10) (by kernel_rfl) (by kernel_rfl) (by kernel_rfl) h1 ?_
  refine aq (x := C55 [1,0,1,0,1,1,0]) (y := C55 [1,0,1,0,1,1,1]) ?_
  refine ar (id := 17) 2 ?_
  refine sp 71 (.bool (decide (d.step = (4 : Int)))) ?_
  refine sp 70 (.bool (decide (d.step = (4 : Int)))) ?_
  refine ops_end ?_
  refine ae [(1, .pointer (some ⟨c, 0, none⟩)), (2, .pointer (some ⟨b0_0, 0, none⟩)), (4, .pointer (some ⟨b0_1, 0, none⟩)), (9, .int .i64 d.step), (70, .bool (decide (d.step = (4 : Int))))] ?_
  refine at_then_normal ?_
  rcases Bool.eq_false_or_eq_true (decide (d.step = (4 : Int))) with h7 | h7
  ·replace H := bifT H h7
   refine at_true (t := decide (d.step = (4 : Int))) (x := C55 [1,0,1,0,1,1,1,0]) (y := C55 [1,0,1,0,1,1,1,1]) (o := .tmp 70) (by kernel_rfl) (by kernel_rfl) (by kernel_rfl) h7 ?_
   refine aq (x := C55 [1,0,1,0,1,1,1,0,0]) (y := C55 [1,0,1,0,1,1,1,0,1]) ?_
   refine aq (x := C55 [1,0,1,0,1,1,1,0,0,0]) (y := C55 [1,0,1,0,1,1,1,0,0,1]) ?_
   refine ar (id := 18) 3 ?_
   refine sp 72 (.pointer (some ⟨b0_0, 7, none⟩)) ?_
   refine sl 73 (.int .i64 d.next) (load1 (off := 7) (fun _ => by kernel_rfl) (holds_own (.there .here)) (by kernel_rfl)) ?_
   refine sp 74 (.bool (!(decide (d.next = ((-1) : Int))))) ?_
   refine ops_end ?_
   refine ae [(1, .pointer (some ⟨c, 0, none⟩)), (2, .pointer (some ⟨b0_0, 0, none⟩)), (4, .pointer (some ⟨b0_1, 0, none⟩)), (74, .bool (!(decide (d.next = ((-1) : Int)))))] ?_
   refine at_then_normal ?_
   rcases Bool.eq_false_or_eq_true (!(decide (d.next = ((-1) : Int)))) with h8 | h8
   ·replace H := bifT H h8
    refine at_true (t := !(decide (d.next = ((-1) : Int)))) (x := C55 [1,0,1,0,1,1,1,0,0,1,0]) (y := C55 [1,0,1,0,1,1,1,0,0,1,1]) (o := .tmp 74) (by kernel_rfl) (by kernel_rfl) (by kernel_rfl) h8 ?_
    refine aq (x := C55 [1,0,1,0,1,1,1,0,0,1,0,0]) (y := C55 [1,0,1,0,1,1,1,0,0,1,0,1]) ?_
    refine ar (id := 19) 2 ?_
    refine sp 75 (.pointer (some ⟨b0_0, 3, none⟩)) ?_
    refine s_do (by kernel_rfl) (by kernel_rfl) (st_store (off := 3) (vs := [.int .i64 (5)]) (c' := #[.int .i64 d.kind, .int .i64 d.line, .int .i64 d.id, .int .i64 (5), .int .i64 d.state, .int .i64 d.head, .slice da (List.length d.data) dcap, .int .i64 d.next, .int .i64 d.told]) (fun _ => by kernel_rfl) (.there .here) (by kernel_rfl) (by kernel_rfl) (by kernel_rfl)) ?_
    rintro _ _ ⟨rfl, rfl⟩
    refine ops_end ?_
    refine ae [(2, .pointer (some ⟨b0_0, 0, none⟩)), (4, .pointer (some ⟨b0_1, 0, none⟩))] ?_
    refine at_then_normal ?_
    refine aq (x := C55 [1,0,1,0,1,1,1,0,0,1,0,1,0]) (y := C55 [1,0,1,0,1,1,1,0,0,1,0,1,1]) ?_
    refine ar (id := 20) 3 ?_
    refine sl 76 (.agg #[.int .i64 d.kind, .int .i64 d.line, .int .i64 d.id, .int .i64 (5), .int .i64 d.state, .int .i64 d.head, .slice da (List.length d.data) dcap, .int .i64 d.next, .int .i64 d.told]) (loadN (off := 0) (vs := [.int .i64 d.kind, .int .i64 d.line, .int .i64 d.id, .int .i64 (5), .int .i64 d.state, .int .i64 d.head, .slice da (List.length d.data) dcap, .int .i64 d.next, .int .i64 d.told]) 9 (fun _ => by kernel_rfl) (holds_own .here) rfl (by exact ⟨rfl, rfl, rfl, rfl, rfl, rfl, rfl, rfl, rfl, trivial⟩)) ?_
    refine s_do (by kernel_rfl) (by kernel_rfl) (st_store (off := 0) (vs := [.int .i64 d.kind, .int .i64 d.line, .int .i64 d.id, .int .i64 (5), .int .i64 d.state, .int .i64 d.head, .slice da (List.length d.data) dcap, .int .i64 d.next, .int .i64 d.told]) (c' := #[.int .i64 d.kind, .int .i64 d.line, .int .i64 d.id, .int .i64 (5), .int .i64 d.state, .int .i64 d.head, .slice da (List.length d.data) dcap, .int .i64 d.next, .int .i64 d.told]) (fun _ => by kernel_rfl) (.there .here) (by kernel_rfl) (by kernel_rfl) (by kernel_rfl)) ?_
    rintro _ _ ⟨rfl, rfl⟩
    refine sp 5 (.bool true) ?_
    refine ops_end ?_
    refine ae [(4, .pointer (some ⟨b0_1, 0, none⟩)), (5, .bool true)] ?_
    refine at_then_normal ?_
    refine at_ret (by kernel_rfl) ?_
    refine at_then_ret ?_
    refine at_in_ret ?_
    refine at_then_ret ?_
    obtain rfl := someE H
    refine at_backR [.agg #[.int .i64 d.kind, .int .i64 d.line, .int .i64 d.id, .int .i64 (5), .int .i64 d.state, .int .i64 d.head, .slice da (List.length d.data) dcap, .int .i64 d.next, .int .i64 d.told], .bool true] ((ImmI da d.data) :: (RChA c cc) :: Γ) (rs := [.cell 4 60, .tmp 5]) (by kernel_rfl) (.cons (.cell (by kernel_rfl) (retN (off := 0) (vs := [.int .i64 d.kind, .int .i64 d.line, .int .i64 d.id, .int .i64 (5), .int .i64 d.state, .int .i64 d.head, .slice da (List.length d.data) dcap, .int .i64 d.next, .int .i64 d.told]) 9 (fun _ => by kernel_rfl) (holds_own .here) rfl (by exact ⟨rfl, rfl, rfl, rfl, rfl, rfl, rfl, rfl, rfl, trivial⟩))) (.cons (.tmp (by kernel_rfl)) .nil)) (fun w hw => (Sat.less (.take (.there (.there .here)) (.take (.there (.there .here)) (.drop .here (.drop .here .refl)))) hw)) ?_
    exact ⟨da, dcap, rfl, rfl⟩
   ·replace H := bifF H h8
    refine at_false (t := !(decide (d.next = ((-1) : Int)))) (x := C55 [1,0,1,0,1,1,1,0,0,1,0]) (y := C55 [1,0,1,0,1,1,1,0,0,1,1]) (o := .tmp 74) (by kernel_rfl) (by kernel_rfl) (by kernel_rfl) h8 ?_
    refine at_skip (by kernel_rfl) ?_
    refine at_then_normal ?_
    refine aq (x := C55 [1,0,1,0,1,1,1,0,1,0]) (y := C55 [1,0,1,0,1,1,1,0,1,1]) ?_
    refine ar (id := 21) 4 ?_
    refine sp 77 (.pointer (some ⟨c, 0, none⟩)) ?_
    refine sp 78 (.pointer (some ⟨b0_0, 1, none⟩)) ?_
    refine sl 79 (.int .i64 d.line) (load1 (off := 1) (fun _ => by kernel_rfl) (holds_own (.there .here)) (by kernel_rfl)) ?_
    obtain ⟨y21_3, hy21_3, H⟩ := bindE H
    refine s_call 80 16 #[.pointer (some ⟨c, 0, none⟩), .int .i64 d.line] (by kernel_rfl) (by kernel_rfl) (fun _ => by kernel_rfl) (Tr.conv (Γ' := (RChA c cc) :: (Asn.own b0_1 (.cells #[.int .i64 (0), .int .i64 (0), .int .i64 (0), .int .i64 (0), .int .i64 (0), .int .i64 (0), .slice none 0 0, .int .i64 (0), .int .i64 (0)] 60 (0, 0))) :: (Asn.own b0_0 (.cells #[.int .i64 d.kind, .int .i64 d.line, .int .i64 d.id, .int .i64 d.step, .int .i64 d.state, .int .i64 d.head, .slice da (List.length d.data) dcap, .int .i64 d.next, .int .i64 d.told] 60 (0, 0))) :: (ImmI da d.data) :: Γ) (fun w hw => (Sat.less (.take (.there (.there (.there .here))) (.take .here (.take .here (.take .here .refl)))) hw)) (RDropF_tr c cc d.line y21_3 hy21_3)) ?_
    rintro _ _ ⟨a21_3_00, c21_3_00, rfl, rfl⟩
    refine ops_end ?_
    refine ae [(2, .pointer (some ⟨b0_0, 0, none⟩)), (4, .pointer (some ⟨b0_1, 0, none⟩))] ?_
    refine at_then_normal ?_
    refine aq (x := C55 [1,0,1,0,1,1,1,0,1,1,0]) (y := C55 [1,0,1,0,1,1,1,0,1,1,1]) ?_
    refine ar (id := 22) 6 ?_
    refine sl 81 (.agg #[.int .i64 d.kind, .int .i64 d.line, .int .i64 d.id, .int .i64 d.step, .int .i64 d.state, .int .i64 d.head, .slice da (List.length d.data) dcap, .int .i64 d.next, .int .i64 d.told]) (loadN (off := 0) (vs := [.int .i64 d.kind, .int .i64 d.line, .int .i64 d.id, .int .i64 d.step, .int .i64 d.state, .int .i64 d.head, .slice da (List.length d.data) dcap, .int .i64 d.next, .int .i64 d.told]) 9 (fun _ => by kernel_rfl) (holds_own (.there (.there (.there .here)))) rfl (by exact ⟨rfl, rfl, rfl, rfl, rfl, rfl, rfl, rfl, rfl, trivial⟩)) ?_
    refine sp 82 (.pointer (some ⟨b0_0, 8, none⟩)) ?_
    refine sl 83 (.int .i64 d.told) (load1 (off := 8) (fun _ => by kernel_rfl) (holds_own (.there (.there (.there .here)))) (by kernel_rfl)) ?_
    obtain ⟨y22_3, hy22_3, H⟩ := bindE H
    refine s_call 84 69 #[.agg #[.int .i64 d.kind, .int .i64 d.line, .int .i64 d.id, .int .i64 d.step, .int .i64 d.state, .int .i64 d.head, .slice da (List.length d.data) dcap, .int .i64 d.next, .int .i64 d.told], .int .i64 (1), .int .i64 d.told, .slice none 0 0] (by kernel_rfl) (by kernel_rfl) (fun _ => by kernel_rfl) (RUnlockF_tr da dcap d (1 : Int) d.told none 0 ([] : List Int) (ImmR.reads (k := 1) (.there (.there (.there (.there .here))))) Reads.nil y22_3 hy22_3) ?_
    rintro _ _ ⟨a22_3_00, c22_3_00, rfl, rfl⟩
    refine s_do (by kernel_rfl) (by kernel_rfl) (st_store (off := 0) (vs := [.int .i64 y22_3.kind, .int .i64 y22_3.line, .int .i64 y22_3.id, .int .i64 y22_3.step, .int .i64 y22_3.state, .int .i64 y22_3.head, .slice a22_3_00 (List.length y22_3.data) c22_3_00, .int .i64 y22_3.next, .int .i64 y22_3.told]) (c' := #[.int .i64 y22_3.kind, .int .i64 y22_3.line, .int .i64 y22_3.id, .int .i64 y22_3.step, .int .i64 y22_3.state, .int .i64 y22_3.head, .slice a22_3_00 (List.length y22_3.data) c22_3_00, .int .i64 y22_3.next, .int .i64 y22_3.told]) (fun _ => by kernel_rfl) (.there (.there (.there .here))) (by kernel_rfl) (by kernel_rfl) (by kernel_rfl)) ?_
    rintro _ _ ⟨rfl, rfl⟩
    refine sp 5 (.bool true) ?_
    refine ops_end ?_
    refine ae [(4, .pointer (some ⟨b0_1, 0, none⟩)), (5, .bool true)] ?_
    refine at_then_normal ?_
    refine at_ret (by kernel_rfl) ?_
    refine at_in_ret ?_
    refine at_then_ret ?_
    obtain rfl := someE H
    refine at_backR [.agg #[.int .i64 y22_3.kind, .int .i64 y22_3.line, .int .i64 y22_3.id, .int .i64 y22_3.step, .int .i64 y22_3.state, .int .i64 y22_3.head, .slice a22_3_00 (List.length y22_3.data) c22_3_00, .int .i64 y22_3.next, .int .i64 y22_3.told], .bool true] ((ImmI a22_3_00 y22_3.data) :: (RChA c y21_3.2.2) :: Γ) (rs := [.cell 4 60, .tmp 5]) (by kernel_rfl) (.cons (.cell (by kernel_rfl) (retN (off := 0) (vs := [.int .i64 y22_3.kind, .int .i64 y22_3.line, .int .i64 y22_3.id, .int .i64 y22_3.step, .int .i64 y22_3.state, .int .i64 y22_3.head, .slice a22_3_00 (List.length y22_3.data) c22_3_00, .int .i64 y22_3.next, .int .i64 y22_3.told]) 9 (fun _ => by kernel_rfl) (holds_own .here) rfl (by exact ⟨rfl, rfl, rfl, rfl, rfl, rfl, rfl, rfl, rfl, trivial⟩))) (.cons (.tmp (by kernel_rfl)) .nil)) (fun w hw => (Sat.less (.take (.there .here) (.take (.there (.there .here)) (.drop .here (.drop .here (.drop .here (.drop .here .refl)))))) hw)) ?_
    exact ⟨a22_3_00, c22_3_00, rfl, rfl⟩
  ·replace H := bifF H h7
   refine at_false (t := decide (d.step = (4 : Int))) (x := C55 [1,0,1,0,1,1,1,0]) (y := C55 [1,0,1,0,1,1,1,1]) (o := .tmp 70) (by kernel_rfl) (by kernel_rfl) (by kernel_rfl) h7 ?_
   refine aq (x := C55 [1,0,1,0,1,1,1,1,0]) (y := C55 [1,0,1,0,1,1,1,1,1]) ?_
   refine ar (id := 23) 2 ?_
   refine sp 86 (.bool (decide (d.step = (5 : Int)))) ?_
   refine sp 85 (.bool (decide (d.step = (5 : Int)))) ?_
   refine ops_end ?_
   refine ae [(1, .pointer (some ⟨c, 0, none⟩)), (2, .pointer (some ⟨b0_0, 0, none⟩)), (4, .pointer (some ⟨b0_1, 0, none⟩)), (85, .bool (decide (d.step = (5 : Int))))] ?_
   refine at_then_normal ?_
   rcases Bool.eq_false_or_eq_true (decide (d.step = (5 : Int))) with h9 | h9
   ·replace H := bifT H h9
    refine at_true (t := decide (d.step = (5 : Int))) (x := C55 [1,0,1,0,1,1,1,1,1,0]) (y := C55 [1,0,1,0,1,1,1,1,1,1]) (o := .tmp 85) (by kernel_rfl) (by kernel_rfl) (by kernel_rfl) h9 ?_
    refine aq (x := C55 [1,0,1,0,1,1,1,1,1,0,0]) (y := C55 [1,0,1,0,1,1,1,1,1,0,1]) ?_
    refine ar (id := 24) 4 ?_
    refine sp 87 (.pointer (some ⟨c, 0, none⟩)) ?_
    refine sp 88 (.pointer (some ⟨b0_0, 1, none⟩)) ?_
    refine sl 89 (.int .i64 d.line) (load1 (off := 1) (fun _ => by kernel_rfl) (holds_own (.there .here)) (by kernel_rfl)) ?_
    obtain ⟨y24_3, hy24_3, H⟩ := bindE H
    refine s_call 90 16 #[.pointer (some ⟨c, 0, none⟩), .int .i64 d.line] (by kernel_rfl) (by kernel_rfl) (fun _ => by kernel_rfl) (Tr.conv (Γ' := (RChA c cc) :: (Asn.own b0_1 (.cells #[.int .i64 (0), .int .i64 (0), .int .i64 (0), .int .i64 (0), .int .i64 (0), .int .i64 (0), .slice none 0 0, .int .i64 (0), .int .i64 (0)] 60 (0, 0))) :: (Asn.own b0_0 (.cells #[.int .i64 d.kind, .int .i64 d.line, .int .i64 d.id, .int .i64 d.step, .int .i64 d.state, .int .i64 d.head, .slice da (List.length d.data) dcap, .int .i64 d.next, .int .i64 d.told] 60 (0, 0))) :: (ImmI da d.data) :: Γ) (fun w hw => (Sat.less (.take (.there (.there (.there .here))) (.take .here (.take .here (.take .here .refl)))) hw)) (RDropF_tr c cc d.line y24_3 hy24_3)) ?_
    rintro _ _ ⟨a24_3_00, c24_3_00, rfl, rfl⟩
    refine ops_end ?_
    refine ae [(2, .pointer (some ⟨b0_0, 0, none⟩)), (4, .pointer (some ⟨b0_1, 0, none⟩))] ?_
    refine at_then_normal ?_
    refine aq (x := C55 [1,0,1,0,1,1,1,1,1,0,1,0]) (y := C55 [1,0,1,0,1,1,1,1,1,0,1,1]) ?_
    refine aq (x := C55 [1,0,1,0,1,1,1,1,1,0,1,0,0]) (y := C55 [1,0,1,0,1,1,1,1,1,0,1,0,1]) ?_
    refine ar (id := 25) 3 ?_
    refine sp 91 (.pointer (some ⟨b0_0, 5, none⟩)) ?_
    refine sl 92 (.int .i64 d.head) (load1 (off := 5) (fun _ => by kernel_rfl) (holds_own (.there (.there (.there .here)))) (by kernel_rfl)) ?_
    refine sp 93 (.bool (decide (d.head = ((-1) : Int)))) ?_
    refine ops_end ?_
    refine ae [(2, .pointer (some ⟨b0_0, 0, none⟩)), (4, .pointer (some ⟨b0_1, 0, none⟩)), (93, .bool (decide (d.head = ((-1) : Int))))] ?_
    refine at_then_normal ?_
    rcases Bool.eq_false_or_eq_true (decide (d.head = ((-1) : Int))) with h10 | h10
    ·replace H := bifT H h10
     refine at_true (t := decide (d.head = ((-1) : Int))) (x := C55 [1,0,1,0,1,1,1,1,1,0,1,0,1,0]) (y := C55 [1,0,1,0,1,1,1,1,1,0,1,0,1,1]) (o := .tmp 93) (by kernel_rfl) (by kernel_rfl) (by kernel_rfl) h10 ?_
     refine aq (x := C55 [1,0,1,0,1,1,1,1,1,0,1,0,1,0,0]) (y := C55 [1,0,1,0,1,1,1,1,1,0,1,0,1,0,1]) ?_
     refine ar (id := 26) 6 ?_
     refine sl 94 (.agg #[.int .i64 d.kind, .int .i64 d.line, .int .i64 d.id, .int .i64 d.step, .int .i64 d.state, .int .i64 d.head, .slice da (List.length d.data) dcap, .int .i64 d.next, .int .i64 d.told]) (loadN (off := 0) (vs := [.int .i64 d.kind, .int .i64 d.line, .int .i64 d.id, .int .i64 d.step, .int .i64 d.state, .int .i64 d.head, .slice da (List.length d.data) dcap, .int .i64 d.next, .int .i64 d.told]) 9 (fun _ => by kernel_rfl) (holds_own (.there (.there (.there .here)))) rfl (by exact ⟨rfl, rfl, rfl, rfl, rfl, rfl, rfl, rfl, rfl, trivial⟩)) ?_
     refine sp 95 (.pointer (some ⟨b0_0, 7, none⟩)) ?_
     refine sl 96 (.int .i64 d.next) (load1 (off := 7) (fun _ => by kernel_rfl) (holds_own (.there (.there (.there .here)))) (by kernel_rfl)) ?_
     obtain ⟨y26_3, hy26_3, H⟩ := bindE H
     refine s_call 97 69 #[.agg #[.int .i64 d.kind, .int .i64 d.line, .int .i64 d.id, .int .i64 d.step, .int .i64 d.state, .int .i64 d.head, .slice da (List.length d.data) dcap, .int .i64 d.next, .int .i64 d.told], .int .i64 (1), .int .i64 d.next, .slice none 0 0] (by kernel_rfl) (by kernel_rfl) (fun _ => by kernel_rfl) (RUnlockF_tr da dcap d (1 : Int) d.next none 0 ([] : List Int) (ImmR.reads (k := 1) (.there (.there (.there (.there .here))))) Reads.nil y26_3 hy26_3) ?_
     rintro _ _ ⟨a26_3_00, c26_3_00, rfl, rfl⟩
     refine s_do (by kernel_rfl) (by kernel_rfl) (st_store (off := 0) (vs := [.int .i64 y26_3.kind, .int .i64 y26_3.line, .int .i64 y26_3.id, .int .i64 y26_3.step, .int .i64 y26_3.state, .int .i64 y26_3.head, .slice a26_3_00 (List.length y26_3.data) c26_3_00, .int .i64 y26_3.next, .int .i64 y26_3.told]) (c' := #[.int .i64 y26_3.kind, .int .i64 y26_3.line, .int .i64 y26_3.id, .int .i64 y26_3.step, .int .i64 y26_3.state, .int .i64 y26_3.head, .slice a26_3_00 (List.length y26_3.data) c26_3_00, .int .i64 y26_3.next, .int .i64 y26_3.told]) (fun _ => by kernel_rfl) (.there (.there (.there .here))) (by kernel_rfl) (by kernel_rfl) (by kernel_rfl)) ?_
     rintro _ _ ⟨rfl, rfl⟩
     refine sp 5 (.bool true) ?_
     refine ops_end ?_
     refine ae [(4, .pointer (some ⟨b0_1, 0, none⟩)), (5, .bool true)] ?_
     refine at_then_normal ?_
     refine at_ret (by kernel_rfl) ?_
     refine at_then_ret ?_
     refine at_in_ret ?_
     refine at_then_ret ?_
     obtain rfl := someE H
     refine at_backR [.agg #[.int .i64 y26_3.kind, .int .i64 y26_3.line, .int .i64 y26_3.id, .int .i64 y26_3.step, .int .i64 y26_3.state, .int .i64 y26_3.head, .slice a26_3_00 (List.length y26_3.data) c26_3_00, .int .i64 y26_3.next, .int .i64 y26_3.told], .bool true] ((ImmI a26_3_00 y26_3.data) :: (RChA c y24_3.2.2) :: Γ) (rs := [.cell 4 60, .tmp 5]) (by kernel_rfl) (.cons (.cell (by kernel_rfl) (retN (off := 0) (vs := [.int .i64 y26_3.kind, .int .i64 y26_3.line, .int .i64 y26_3.id, .int .i64 y26_3.step, .int .i64 y26_3.state, .int .i64 y26_3.head, .slice a26_3_00 (List.length y26_3.data) c26_3_00, .int .i64 y26_3.next, .int .i64 y26_3.told]) 9 (fun _ => by kernel_rfl) (holds_own .here) rfl (by exact ⟨rfl, rfl, rfl, rfl, rfl, rfl, rfl, rfl, rfl, trivial⟩))) (.cons (.tmp (by kernel_rfl)) .nil)) (fun w hw => (Sat.less (.take (.there .here) (.take (.there (.there .here)) (.drop .here (.drop .here (.drop .here (.drop .here .refl)))))) hw)) ?_
     exact ⟨a26_3_00, c26_3_00, rfl, rfl⟩
    ·replace H := bifF H h10
     refine at_false (t := decide (d.head = ((-1) : Int))) (x := C55 [1,0,1,0,1,1,1,1,1,0,1,0,1,0]) (y := C55 [1,0,1,0,1,1,1,1,1,0,1,0,1,1]) (o := .tmp 93) (by kernel_rfl) (by kernel_rfl) (by kernel_rfl) h10 ?_
     refine at_skip (by kernel_rfl) ?_
     refine at_then_normal ?_
     refine aq (x := C55 [1,0,1,0,1,1,1,1,1,0,1,1,0]) (y := C55 [1,0,1,0,1,1,1,1,1,0,1,1,1]) ?_
     refine ar (id := 27) 6 ?_
     refine sl 98 (.agg #[.int .i64 d.kind, .int .i64 d.line, .int .i64 d.id, .int .i64 d.step, .int .i64 d.state, .int .i64 d.head, .slice da (List.length d.data) dcap, .int .i64 d.next, .int .i64 d.told]) (loadN (off := 0) (vs := [.int .i64 d.kind, .int .i64 d.line, .int .i64 d.id, .int .i64 d.step, .int .i64 d.state, .int .i64 d.head, .slice da (List.length d.data) dcap, .int .i64 d.next, .int .i64 d.told]) 9 (fun _ => by kernel_rfl) (holds_own (.there (.there (.there .here)))) rfl (by exact ⟨rfl, rfl, rfl, rfl, rfl, rfl, rfl, rfl, rfl, trivial⟩)) ?_
     refine sp 99 (.pointer (some ⟨b0_0, 8, none⟩)) ?_
     refine sl 100 (.int .i64 d.told) (load1 (off := 8) (fun _ => by kernel_rfl) (holds_own (.there (.there (.there .here)))) (by kernel_rfl)) ?_
     obtain ⟨y27_3, hy27_3, H⟩ := bindE H
     refine s_call 101 69 #[.agg #[.int .i64 d.kind, .int .i64 d.line, .int .i64 d.id, .int .i64 d.step, .int .i64 d.state, .int .i64 d.head, .slice da (List.length d.data) dcap, .int .i64 d.next, .int .i64 d.told], .int .i64 (1), .int .i64 d.told, .slice none 0 0] (by kernel_rfl) (by kernel_rfl) (fun _ => by kernel_rfl) (RUnlockF_tr da dcap d (1 : Int) d.told none 0 ([] : List Int) (ImmR.reads (k := 1) (.there (.there (.there (.there .here))))) Reads.nil y27_3 hy27_3) ?_
     rintro _ _ ⟨a27_3_00, c27_3_00, rfl, rfl⟩
     refine s_do (by kernel_rfl) (by kernel_rfl) (st_store (off := 0) (vs := [.int .i64 y27_3.kind, .int .i64 y27_3.line, .int .i64 y27_3.id, .int .i64 y27_3.step, .int .i64 y27_3.state, .int .i64 y27_3.head, .slice a27_3_00 (List.length y27_3.data) c27_3_00, .int .i64 y27_3.next, .int .i64 y27_3.told]) (c' := #[.int .i64 y27_3.kind, .int .i64 y27_3.line, .int .i64 y27_3.id, .int .i64 y27_3.step, .int .i64 y27_3.state, .int .i64 y27_3.head, .slice a27_3_00 (List.length y27_3.data) c27_3_00, .int .i64 y27_3.next, .int .i64 y27_3.told]) (fun _ => by kernel_rfl) (.there (.there (.there .here))) (by kernel_rfl) (by kernel_rfl) (by kernel_rfl)) ?_
     rintro _ _ ⟨rfl, rfl⟩
     refine sp 5 (.bool true) ?_
     refine ops_end ?_
     refine ae [(4, .pointer (some ⟨b0_1, 0, none⟩)), (5, .bool true)] ?_
     refine at_then_normal ?_
     refine at_ret (by kernel_rfl) ?_
     refine at_in_ret ?_
     refine at_then_ret ?_
     obtain rfl := someE H
     refine at_backR [.agg #[.int .i64 y27_3.kind, .int .i64 y27_3.line, .int .i64 y27_3.id, .int .i64 y27_3.step, .int .i64 y27_3.state, .int .i64 y27_3.head, .slice a27_3_00 (List.length y27_3.data) c27_3_00, .int .i64 y27_3.next, .int .i64 y27_3.told], .bool true] ((ImmI a27_3_00 y27_3.data) :: (RChA c y24_3.2.2) :: Γ) (rs := [.cell 4 60, .tmp 5]) (by kernel_rfl) (.cons (.cell (by kernel_rfl) (retN (off := 0) (vs := [.int .i64 y27_3.kind, .int .i64 y27_3.line, .int .i64 y27_3.id, .int .i64 y27_3.step, .int .i64 y27_3.state, .int .i64 y27_3.head, .slice a27_3_00 (List.length y27_3.data) c27_3_00, .int .i64 y27_3.next, .int .i64 y27_3.told]) 9 (fun _ => by kernel_rfl) (holds_own .here) rfl (by exact ⟨rfl, rfl, rfl, rfl, rfl, rfl, rfl, rfl, rfl, trivial⟩))) (.cons (.tmp (by kernel_rfl)) .nil)) (fun w hw => (Sat.less (.take (.there .here) (.take (.there (.there .here)) (.drop .here (.drop .here (.drop .here (.drop .here .refl)))))) hw)) ?_
     exact ⟨a27_3_00, c27_3_00, rfl, rfl⟩
   ·replace H := bifF H h9
    refine at_false (t := decide (d.step = (5 : Int))) (x := C55 [1,0,1,0,1,1,1,1,1,0]) (y := C55 [1,0,1,0,1,1,1,1,1,1]) (o := .tmp 85) (by kernel_rfl) (by kernel_rfl) (by kernel_rfl) h9 ?_
    refine at_skip (by kernel_rfl) ?_
    refine at_in_normal ?_
    refine at_then_normal ?_
    refine aq (x := C55 [1,1,0]) (y := C55 [1,1,1]) ?_
    refine ar (id := 28) 3 ?_
    refine sp 102 (.agg #[.int .i64 (0), .int .i64 (0), .int .i64 (0), .int .i64 (0), .int .i64 (0), .int .i64 (0), .slice none 0 0, .int .i64 (0), .int .i64 (0)]) ?_
    refine s_do (by kernel_rfl) (by kernel_rfl) (st_store (off := 0) (vs := [.int .i64 (0), .int .i64 (0), .int .i64 (0), .int .i64 (0), .int .i64 (0), .int .i64 (0), .slice none 0 0, .int .i64 (0), .int .i64 (0)]) (c' := #[.int .i64 (0), .int .i64 (0), .int .i64 (0), .int .i64 (0), .int .i64 (0), .int .i64 (0), .slice none 0 0, .int .i64 (0), .int .i64 (0)]) (fun _ => by kernel_rfl) .here (by kernel_rfl) (by kernel_rfl) (by kernel_rfl)) ?_
    rintro _ _ ⟨rfl, rfl⟩
    refine sp 5 (.bool false) ?_
    refine ops_end ?_
    refine ae [(4, .pointer (some ⟨b0_1, 0, none⟩)), (5, .bool false)] ?_
    refine at_then_normal ?_
    refine at_ret (by kernel_rfl) ?_
    obtain rfl := someE H
    refine at_backR [.agg #[.int .i64 (0), .int .i64 (0), .int .i64 (0), .int .i64 (0), .int .i64 (0), .int .i64 (0), .slice none 0 0, .int .i64 (0), .int .i64 (0)], .bool false] ((ImmI none ([] : List Int)) :: (RChA c cc) :: Γ) (rs := [.cell 4 60, .tmp 5]) (by kernel_rfl) (.cons (.cell (by kernel_rfl) (retN (off := 0) (vs := [.int .i64 (0), .int .i64 (0), .int .i64 (0), .int .i64 (0), .int .i64 (0), .int .i64 (0), .slice none 0 0, .int .i64 (0), .int .i64 (0)]) 9 (fun _ => by kernel_rfl) (holds_own .here) rfl (by exact ⟨rfl, rfl, rfl, rfl, rfl, rfl, rfl, rfl, rfl, trivial⟩))) (.cons (.tmp (by kernel_rfl)) .nil)) (fun w hw => (Sat.less (.take .here (.take (.there (.there (.there .here))) (.drop .here (.drop .here (.drop .here .refl))))) (ImmR.nil_mk (k := 1) (a := none) hw))) ?_
    exact ⟨none, 0, rfl, rfl⟩
def rnext7S_j1 (d : DealS) (node : Int) (cc : CacheS) (p : PktS) (e1_b0_0_4 : Int) (e1_b0_0_5 : Int) (e1_b0_0_6x : List Int) (e1_b0_0_8 : Int) : Option (DealS × Bool × CacheS) :=
 (bif decide (d.kind = (1 : Int)) then (rread7S (⟨d.kind, d.line, d.id, d.step, e1_b0_0_4, e1_b0_0_5, e1_b0_0_6x, d.next, e1_b0_0_8⟩ : DealS) node cc p).bind fun y11_4 => some (y11_4.1, y11_4.2.1, y11_4.2.2) else (bif decide (d.kind = (2 : Int)) then (rwrite7S (⟨d.kind, d.line, d.id, d.step, e1_b0_0_4, e1_b0_0_5, e1_b0_0_6x, d.next, e1_b0_0_8⟩ : DealS) node cc p).bind fun y13_4 => some (y13_4.1, y13_4.2.1, y13_4.2.2) else (rroll7S (⟨d.kind, d.line, d.id, d.step, e1_b0_0_4, e1_b0_0_5, e1_b0_0_6x, d.next, e1_b0_0_8⟩ : DealS) cc).bind fun y14_2 => some (y14_2.1, y14_2.2.1, y14_2.2.2)))
def rnext7S_j0 (cc : CacheS) (d : DealS) (p : PktS) (node : Int) (e0_23 : Bool) : Option (DealS × Bool × CacheS) :=
 (bif e0_23 then some ((⟨0, 0, 0, 0, 0, 0, ([] : List Int), 0, 0⟩ : DealS), false, cc) else (bif decide (d.step = (6 : Int)) then some ((⟨d.kind, d.line, d.id, 0, d.state, d.head, d.data, d.next, d.told⟩ : DealS), true, cc) else (bif decide (d.step = (1 : Int)) then chk ((p.data).length ≤ 1099511627776) (letP (p.data) fun l8_2 => rnext7S_j1 d node cc p p.state p.ptr l8_2 p.ptr) else rnext7S_j1 d node cc p d.state d.head d.data d.told)))
def rnext7S (d : DealS) (node : Int) (cc : CacheS) (p : PktS) : Option (DealS × Bool × CacheS) :=
 (rfits7S d p).bind fun y1_2 => (bif !y1_2 then rnext7S_j0 cc d p node true else (bif decide (d.kind < (1 : Int)) then rnext7S_j0 cc d p node true else rnext7S_j0 cc d p node (decide ((3 : Int) < d.kind))))
noncomputable def C23 (p : List Nat) : Code := codeAt (bodyOf Try.f23) p
set_option maxRecDepth 100000 in
set_option maxHeartbeats 8000000 in
theorem RNext7F_tr {W0 : World} {Γ : List Asn} (da : Option Addr) (dcap : Nat) (d : DealS) (node : Int) (c : Nat) (cc : CacheS) (pa : Option Addr) (pcap : Nat) (p : PktS) (hrpa : Reads W0 Γ pa (ints p.data)) (y : DealS × Bool × CacheS) (H : rnext7S d node cc p = some y) : Tr Try.prog 23 #[.agg #[.int .i64 d.kind, .int .i64 d.line, .int .i64 d.id, .int .i64 d.step, .int .i64 d.state, .int .i64 d.head, .slice da (List.length d.data) dcap, .int .i64 d.next, .int .i64 d.told], .int .i64 node, .pointer (some ⟨c, 0, none⟩), .agg #[.int .i64 p.kind, .int .i64 p.src, .int .i64 p.dst, .int .i64 p.id, .int .i64 p.line, .int .i64 p.ptr, .int .i64 p.state, .bool p.flag, .slice pa (List.length p.data) pcap]] W0 ((ImmI da d.data) :: (RChA c cc) :: Γ) (fun r Δ => ∃ (a0_0 : Option Addr) (c0_0 : Nat), r = .tuple #[.agg #[.int .i64 y.1.kind, .int .i64 y.1.line, .int .i64 y.1.id, .int .i64 y.1.step, .int .i64 y.1.state, .int .i64 y.1.head, .slice a0_0 (List.length y.1.data) c0_0, .int .i64 y.1.next, .int .i64 y.1.told], .bool y.2.1] ∧ Δ = (ImmI a0_0 y.1.data) :: (RChA c y.2.2) :: Γ) := by
 unfold rnext7S at H
 refine Tr.enter (fn := Try.f23) (c := C23 []) (args := [.agg #[.int .i64 d.kind, .int .i64 d.line, .int .i64 d.id, .int .i64 d.step, .int .i64 d.state, .int .i64 d.head, .slice da (List.length d.data) dcap, .int .i64 d.next, .int .i64 d.told], .int .i64 node, .pointer (some ⟨c, 0, none⟩), .agg #[.int .i64 p.kind, .int .i64 p.src, .int .i64 p.dst, .int .i64 p.id, .int .i64 p.line, .int .i64 p.ptr, .int .i64 p.state, .bool p.flag, .slice pa (List.length p.data) pcap]]) 71 Try.func23 (by kernel_rfl) (by kernel_rfl) ?_
 refine ae [(0, .agg #[.int .i64 d.kind, .int .i64 d.line, .int .i64 d.id, .int .i64 d.step, .int .i64 d.state, .int .i64 d.head, .slice da (List.length d.data) dcap, .int .i64 d.next, .int .i64 d.told]), (1, .int .i64 node), (2, .pointer (some ⟨c, 0, none⟩)), (3, .agg #[.int .i64 p.kind, .int .i64 p.src, .int .i64 p.dst, .int .i64 p.id, .int .i64 p.line, .int .i64 p.ptr, .int .i64 p.state, .bool p.flag, .slice pa (List.length p.data) pcap])] ?_
 refine aq (x := C23 [0]) (y := C23 [1]) ?_
 refine ar (id := 0) 4 ?_
 refine s_step 4 (by kernel_rfl) (by kernel_rfl) (st_new (T := 60) (cells := #[.int .i64 d.kind, .int .i64 d.line, .int .i64 d.id, .int .i64 d.step, .int .i64 d.state, .int .i64 d.head, .slice da (List.length d.data) dcap, .int .i64 d.next, .int .i64 d.told]) (fun a => .pointer (some a)) (fun _ => by kernel_rfl)) ?_
 rintro _ _ ⟨b0_0, rfl, rfl⟩
 refine s_step 7 (by kernel_rfl) (by kernel_rfl) (st_new (T := 33) (cells := #[.int .i64 p.kind, .int .i64 p.src, .int .i64 p.dst, .int .i64 p.id, .int .i64 p.line, .int .i64 p.ptr, .int .i64 p.state, .bool p.flag, .slice pa (List.length p.data) pcap]) (fun a => .pointer (some a)) (fun _ => by kernel_rfl)) ?_
 rintro _ _ ⟨b0_1, rfl, rfl⟩
 refine s_step 8 (by kernel_rfl) (by kernel_rfl) (st_new (T := 60) (cells := #[.int .i64 (0), .int .i64 (0), .int .i64 (0), .int .i64 (0), .int .i64 (0), .int .i64 (0), .slice none 0 0, .int .i64 (0), .int .i64 (0)]) (fun a => .pointer (some a)) (fun _ => by kernel_rfl)) ?_
 rintro _ _ ⟨b0_2, rfl, rfl⟩
 refine sp 9 (.bool false) ?_
 refine ops_end ?_
 refine ae [(1, .int .i64 node), (2, .pointer (some ⟨c, 0, none⟩)), (4, .pointer (some ⟨b0_0, 0, none⟩)), (7, .pointer (some ⟨b0_1, 0, none⟩)), (8, .pointer (some ⟨b0_2, 0, none⟩))] ?_
 refine at_then_normal ?_
 refine aq (x := C23 [1,0]) (y := C23 [1,1]) ?_
 refine at_seq_join (x := C23 [1,0,0]) (y := C23 [1,0,1]) (fun ff ΔΔ => ∃ (e0_23 : Bool), rnext7S_j0 cc d p node e0_23 = some y ∧ ff = [(1, .int .i64 node), (2, .pointer (some ⟨c, 0, none⟩)), (4, .pointer (some ⟨b0_0, 0, none⟩)), (7, .pointer (some ⟨b0_1, 0, none⟩)), (8, .pointer (some ⟨b0_2, 0, none⟩)), (23, .bool e0_23)] ∧ (Asn.own b0_2 (.cells #[.int .i64 (0), .int .i64 (0), .int .i64 (0), .int .i64 (0), .int .i64 (0), .int .i64 (0), .slice none 0 0, .int .i64 (0), .int .i64 (0)] 60 (0, 0))) :: (Asn.own b0_1 (.cells #[.int .i64 p.kind, .int .i64 p.src, .int .i64 p.dst, .int .i64 p.id, .int .i64 p.line, .int .i64 p.ptr, .int .i64 p.state, .bool p.flag, .slice pa (List.length p.data) pcap] 33 (0, 0))) :: (Asn.own b0_0 (.cells #[.int .i64 d.kind, .int .i64 d.line, .int .i64 d.id, .int .i64 d.step, .int .i64 d.state, .int .i64 d.head, .slice da (List.length d.data) dcap, .int .i64 d.next, .int .i64 d.told] 60 (0, 0))) :: (ImmI da d.data) :: (RChA c cc) :: Γ = ΔΔ) (by kernel_rfl) ?_ ?_
 ·rintro _ _ ⟨e0_23, H, rfl, rfl⟩
  rw [rnext7S_j0] at H
  rcases Bool.eq_false_or_eq_true (e0_23) with h1 | h1
  ·replace H := bifT H h1
   refine at_true (t := e0_23) (x := C23 [1,0,1,0]) (y := C23 [1,0,1,1]) (o := .tmp 23) (by kernel_rfl) (by kernel_rfl) (by kernel_rfl) h1 ?_
   refine aq (x := C23 [1,0,1,0,0]) (y := C23 [1,0,1,0,1]) ?_
   refine ar (id := 2) 3 ?_
   refine sp 24 (.agg #[.int .i64 (0), .int .i64 (0), .int .i64 (0), .int .i64 (0), .int .i64 (0), .int .i64 (0), .slice none 0 0, .int .i64 (0), .int .i64 (0)]) ?_
   refine s_do (by kernel_rfl) (by kernel_rfl) (st_store (off := 0) (vs := [.int .i64 (0), .int .i64 (0), .int .i64 (0), .int .i64 (0), .int .i64 (0), .int .i64 (0), .slice none 0 0, .int .i64 (0), .int .i64 (0)]) (c' := #[.int .i64 (0), .int .i64 (0), .int .i64 (0), .int .i64 (0), .int .i64 (0), .int .i64 (0), .slice none 0 0, .int .i64 (0), .int .i64 (0)]) (fun _ => by kernel_rfl) .here (by kernel_rfl) (by kernel_rfl) (by kernel_rfl)) ?_
   rintro _ _ ⟨rfl, rfl⟩
   refine sp 9 (.bool false) ?_
   refine ops_end ?_
   refine ae [(8, .pointer (some ⟨b0_2, 0, none⟩)), (9, .bool false)] ?_
   refine at_then_normal ?_
   refine at_ret (by kernel_rfl) ?_
   refine at_then_ret ?_
   obtain rfl := someE H
   refine at_backR [.agg #[.int .i64 (0), .int .i64 (0), .int .i64 (0), .int .i64 (0), .int .i64 (0), .int .i64 (0), .slice none 0 0, .int .i64 (0), .int .i64 (0)], .bool false] ((ImmI none ([] : List Int)) :: (RChA c cc) :: Γ) (rs := [.cell 8 60, .tmp 9]) (by kernel_rfl) (.cons (.cell (by kernel_rfl) (retN (off := 0) (vs := [.int .i64 (0), .int .i64 (0), .int .i64 (0), .int .i64 (0), .int .i64 (0), .int .i64 (0), .slice none 0 0, .int .i64 (0), .int .i64 (0)]) 9 (fun _ => by kernel_rfl) (holds_own .here) rfl (by exact ⟨rfl, rfl, rfl, rfl, rfl, rfl, rfl, rfl, rfl, trivial⟩))) (.cons (.tmp (by kernel_rfl)) .nil)) (fun w hw => (Sat.less (.take .here (.take (.there (.there (.there (.there .here)))) (.drop .here (.drop .here (.drop .here (.drop .here .refl)))))) (ImmR.nil_mk (k := 1) (a := none) hw))) ?_
   exact ⟨none, 0, rfl, rfl⟩
  ·replace H := bifF H h1
   refine at_false (t := e0_23) (x := C23 [1,0,1,0]) (y := C23 [1,0,1,1]) (o := .tmp 23) (by kernel_rfl) (by kernel_rfl) (by kernel_rfl) h1 ?_
   refine at_skip (by kernel_rfl) ?_
   refine at_then_normal ?_
   refine aq (x := C23 [1,1,0]) (y := C23 [1,1,1]) ?_
   refine aq (x := C23 [1,1,0,0]) (y := C23 [1,1,0,1]) ?_
   refine ar (id := 3) 3 ?_
   refine sp 25 (.pointer (some ⟨b0_0, 3, none⟩)) ?_
   refine sl 26 (.int .i64 d.step) (load1 (off := 3) (fun _ => by kernel_rfl) (holds_own (.there (.there .here))) (by kernel_rfl)) ?_
   refine sp 27 (.bool (decide (d.step = (6 : Int)))) ?_
   refine ops_end ?_
   refine ae [(1, .int .i64 node), (2, .pointer (some ⟨c, 0, none⟩)), (4, .pointer (some ⟨b0_0, 0, none⟩)), (7, .pointer (some ⟨b0_1, 0, none⟩)), (8, .pointer (some ⟨b0_2, 0, none⟩)), (27, .bool (decide (d.step = (6 : Int))))] ?_
   refine at_then_normal ?_
   rcases Bool.eq_false_or_eq_true (decide (d.step = (6 : Int))) with h2 | h2
   ·replace H := bifT H h2
    refine at_true (t := decide (d.step = (6 : Int))) (x := C23 [1,1,0,1,0]) (y := C23 [1,1,0,1,1]) (o := .tmp 27) (by kernel_rfl) (by kernel_rfl) (by kernel_rfl) h2 ?_
    refine aq (x := C23 [1,1,0,1,0,0]) (y := C23 [1,1,0,1,0,1]) ?_
    refine ar (id := 4) 2 ?_
    refine sp 28 (.pointer (some ⟨b0_0, 3, none⟩)) ?_
    refine s_do (by kernel_rfl) (by kernel_rfl) (st_store (off := 3) (vs := [.int .i64 (0)]) (c' := #[.int .i64 d.kind, .int .i64 d.line, .int .i64 d.id, .int .i64 (0), .int .i64 d.state, .int .i64 d.head, .slice da (List.length d.data) dcap, .int .i64 d.next, .int .i64 d.told]) (fun _ => by kernel_rfl) (.there (.there .here)) (by kernel_rfl) (by kernel_rfl) (by kernel_rfl)) ?_
    rintro _ _ ⟨rfl, rfl⟩
    refine ops_end ?_
    refine ae [(4, .pointer (some ⟨b0_0, 0, none⟩)), (8, .pointer (some ⟨b0_2, 0, none⟩))] ?_
    refine at_then_normal ?_
    refine aq (x := C23 [1,1,0,1,0,1,0]) (y := C23 [1,1,0,1,0,1,1]) ?_
    refine ar (id := 5) 3 ?_
    refine sl 29 (.agg #[.int .i64 d.kind, .int .i64 d.line, .int .i64 d.id, .int .i64 (0), .int .i64 d.state, .int .i64 d.head, .slice da (List.length d.data) dcap, .int .i64 d.next, .int .i64 d.told]) (loadN (off := 0) (vs := [.int .i64 d.kind, .int .i64 d.line, .int .i64 d.id, .int .i64 (0), .int .i64 d.state, .int .i64 d.head, .slice da (List.length d.data) dcap, .int .i64 d.next, .int .i64 d.told]) 9 (fun _ => by kernel_rfl) (holds_own .here) rfl (by exact ⟨rfl, rfl, rfl, rfl, rfl, rfl, rfl, rfl, rfl, trivial⟩)) ?_
    refine s_do (by kernel_rfl) (by kernel_rfl) (st_store (off := 0) (vs := [.int .i64 d.kind, .int .i64 d.line, .int .i64 d.id, .int .i64 (0), .int .i64 d.state, .int .i64 d.head, .slice da (List.length d.data) dcap, .int .i64 d.next, .int .i64 d.told]) (c' := #[.int .i64 d.kind, .int .i64 d.line, .int .i64 d.id, .int .i64 (0), .int .i64 d.state, .int .i64 d.head, .slice da (List.length d.data) dcap, .int .i64 d.next, .int .i64 d.told]) (fun _ => by kernel_rfl) (.there .here) (by kernel_rfl) (by kernel_rfl) (by kernel_rfl)) ?_
    rintro _ _ ⟨rfl, rfl⟩
    refine sp 9 (.bool true) ?_
    refine ops_end ?_
    refine ae [(8, .pointer (some ⟨b0_2, 0, none⟩)), (9, .bool true)] ?_
    refine at_then_normal ?_
    refine at_ret (by kernel_rfl) ?_
    refine at_then_ret ?_
    obtain rfl := someE H
    refine at_backR [.agg #[.int .i64 d.kind, .int .i64 d.line, .int .i64 d.id, .int .i64 (0), .int .i64 d.state, .int .i64 d.head, .slice da (List.length d.data) dcap, .int .i64 d.next, .int .i64 d.told], .bool true] ((ImmI da d.data) :: (RChA c cc) :: Γ) (rs := [.cell 8 60, .tmp 9]) (by kernel_rfl) (.cons (.cell (by kernel_rfl) (retN (off := 0) (vs := [.int .i64 d.kind, .int .i64 d.line, .int .i64 d.id, .int .i64 (0), .int .i64 d.state, .int .i64 d.head, .slice da (List.length d.data) dcap, .int .i64 d.next, .int .i64 d.told]) 9 (fun _ => by kernel_rfl) (holds_own .here) rfl (by exact ⟨rfl, rfl, rfl, rfl, rfl, rfl, rfl, rfl, rfl, trivial⟩))) (.cons (.tmp (by kernel_rfl)) .nil)) (fun w hw => (Sat.less (.take (.there (.there (.there .here))) (.take (.there (.there (.there .here))) (.drop .here (.drop .here (.drop .here .refl))))) hw)) ?_
    exact ⟨da, dcap, rfl, rfl⟩
   ·replace H := bifF H h2
    refine at_false (t := decide (d.step = (6 : Int))) (x := C23 [1,1,0,1,0]) (y := C23 [1,1,0,1,1]) (o := .tmp 27) (by kernel_rfl) (by kernel_rfl) (by kernel_rfl) h2 ?_
    refine at_skip (by kernel_rfl) ?_
    refine at_then_normal ?_
    refine at_seq_join (x := C23 [1,1,1,0]) (y := C23 [1,1,1,1]) (fun ff ΔΔ => ∃ (e1_b0_0_4 : Int) (e1_b0_0_5 : Int) (e1_b0_0_6x : List Int) (e1_b0_0_8 : Int) (e1_b0_0_6a : Option Addr) (e1_b0_0_6c : Nat), rnext7S_j1 d node cc p e1_b0_0_4 e1_b0_0_5 e1_b0_0_6x e1_b0_0_8 = some y ∧ ff = [(1, .int .i64 node), (2, .pointer (some ⟨c, 0, none⟩)), (4, .pointer (some ⟨b0_0, 0, none⟩)), (7, .pointer (some ⟨b0_1, 0, none⟩)), (8, .pointer (some ⟨b0_2, 0, none⟩))] ∧ (ImmI e1_b0_0_6a e1_b0_0_6x) :: (Asn.own b0_2 (.cells #[.int .i64 (0), .int .i64 (0), .int .i64 (0), .int .i64 (0), .int .i64 (0), .int .i64 (0), .slice none 0 0, .int .i64 (0), .int .i64 (0)] 60 (0, 0))) :: (Asn.own b0_1 (.cells #[.int .i64 p.kind, .int .i64 p.src, .int .i64 p.dst, .int .i64 p.id, .int .i64 p.line, .int .i64 p.ptr, .int .i64 p.state, .bool p.flag, .slice pa (List.length p.data) pcap] 33 (0, 0))) :: (Asn.own b0_0 (.cells #[.int .i64 d.kind, .int .i64 d.line, .int .i64 d.id, .int .i64 d.step, .int .i64 e1_b0_0_4, .int .i64 e1_b0_0_5, .slice e1_b0_0_6a (List.length e1_b0_0_6x) e1_b0_0_6c, .int .i64 d.next, .int .i64 e1_b0_0_8] 60 (0, 0))) :: (RChA c cc) :: Γ = ΔΔ) (by kernel_rfl) ?_ ?_
    ·rintro _ _ ⟨e1_b0_0_4, e1_b0_0_5, e1_b0_0_6x, e1_b0_0_8, e1_b0_0_6a, e1_b0_0_6c, H, rfl, rfl⟩
     rw [rnext7S_j1] at H
     refine aq (x := C23 [1,1,1,1,0]) (y := C23 [1,1,1,1,1]) ?_
     refine aq (x := C23 [1,1,1,1,0,0]) (y := C23 [1,1,1,1,0,1]) ?_
     refine ar (id := 9) 2 ?_
     refine sp 46 (.pointer (some ⟨b0_0, 0, none⟩)) ?_
     refine sl 47 (.int .i64 d.kind) (load1 (off := 0) (fun _ => by kernel_rfl) (holds_own (.there (.there (.there .here)))) (by kernel_rfl)) ?_
     refine ops_end ?_
     refine ae [(1, .int .i64 node), (2, .pointer (some ⟨c, 0, none⟩)), (4, .pointer (some ⟨b0_0, 0, none⟩)), (7, .pointer (some ⟨b0_1, 0, none⟩)), (8, .pointer (some ⟨b0_2, 0, none⟩)), (47, .int .i64 d.kind)] ?_
     refine at_then_normal ?_
     refine at_block (i := 0) (x := C23 [1,1,1,1,0,1,0]) (by kernel_rfl) ?_
     refine aq (x := C23 [1,1,1,1,0,1,0,0]) (y := C23 [1,1,1,1,0,1,0,1]) ?_
     refine ar (id := 10) 2 ?_
     refine sp 49 (.bool (decide (d.kind = (1 : Int)))) ?_
     refine sp 48 (.bool (decide (d.kind = (1 : Int)))) ?_
     refine ops_end ?_
     refine ae [(1, .int .i64 node), (2, .pointer (some ⟨c, 0, none⟩)), (4, .pointer (some ⟨b0_0, 0, none⟩)), (7, .pointer (some ⟨b0_1, 0, none⟩)), (8, .pointer (some ⟨b0_2, 0, none⟩)), (47, .int .i64 d.kind), (48, .bool (decide (d.kind = (1 : Int))))] ?_
     refine at_then_normal ?_
     rcases Bool.eq_false_or_eq_true (decide (d.kind = (1 : Int))) with h3 | h3
     ·replace H := bifT H h3
      refine at_true (t := decide (d.kind = (1 : Int))) (x := C23 [1,1,1,1,0,1,0,1,0]) (y := C23 [1,1,1,1,0,1,0,1,1]) (o := .tmp 48) (by kernel_rfl) (by kernel_rfl) (by kernel_rfl) h3 ?_
      refine aq (x := C23 [1,1,1,1,0,1,0,1,0,0]) (y := C23 [1,1,1,1,0,1,0,1,0,1]) ?_
      refine ar (id := 11) 9 ?_
      refine sl 50 (.agg #[.int .i64 d.kind, .int .i64 d.line, .int .i64 d.id, .int .i64 d.step, .int .i64 e1_b0_0_4, .int .i64 e1_b0_0_5, .slice e1_b0_0_6a (List.length e1_b0_0_6x) e1_b0_0_6c, .int .i64 d.next, .int .i64 e1_b0_0_8]) (loadN (off := 0) (vs := [.int .i64 d.kind, .int .i64 d.line, .int .i64 d.id, .int .i64 d.step, .int .i64 e1_b0_0_4, .int .i64 e1_b0_0_5, .slice e1_b0_0_6a (List.length e1_b0_0_6x) e1_b0_0_6c, .int .i64 d.next, .int .i64 e1_b0_0_8]) 9 (fun _ => by kernel_rfl) (holds_own (.there (.there (.there .here)))) rfl (by exact ⟨rfl, rfl, rfl, rfl, rfl, rfl, rfl, rfl, rfl, trivial⟩)) ?_
      refine sp 51 (.int .i64 node) ?_
      refine sp 52 (.pointer (some ⟨c, 0, none⟩)) ?_
      refine sl 53 (.agg #[.int .i64 p.kind, .int .i64 p.src, .int .i64 p.dst, .int .i64 p.id, .int .i64 p.line, .int .i64 p.ptr, .int .i64 p.state, .bool p.flag, .slice pa (List.length p.data) pcap]) (loadN (off := 0) (vs := [.int .i64 p.kind, .int .i64 p.src, .int .i64 p.dst, .int .i64 p.id, .int .i64 p.line, .int .i64 p.ptr, .int .i64 p.state, .bool p.flag, .slice pa (List.length p.data) pcap]) 9 (fun _ => by kernel_rfl) (holds_own (.there (.there .here))) rfl (by exact ⟨rfl, rfl, rfl, rfl, rfl, rfl, rfl, rfl, rfl, trivial⟩)) ?_
      obtain ⟨y11_4, hy11_4, H⟩ := bindE H
      refine s_call 54 53 #[.agg #[.int .i64 d.kind, .int .i64 d.line, .int .i64 d.id, .int .i64 d.step, .int .i64 e1_b0_0_4, .int .i64 e1_b0_0_5, .slice e1_b0_0_6a (List.length e1_b0_0_6x) e1_b0_0_6c, .int .i64 d.next, .int .i64 e1_b0_0_8], .int .i64 node, .pointer (some ⟨c, 0, none⟩), .agg #[.int .i64 p.kind, .int .i64 p.src, .int .i64 p.dst, .int .i64 p.id, .int .i64 p.line, .int .i64 p.ptr, .int .i64 p.state, .bool p.flag, .slice pa (List.length p.data) pcap]] (by kernel_rfl) (by kernel_rfl) (fun _ => by kernel_rfl) (Tr.conv (Γ' := (ImmI e1_b0_0_6a e1_b0_0_6x) :: (RChA c cc) :: (ImmI e1_b0_0_6a e1_b0_0_6x) :: (Asn.own b0_2 (.cells #[.int .i64 (0), .int .i64 (0), .int .i64 (0), .int .i64 (0), .int .i64 (0), .int .i64 (0), .slice none 0 0, .int .i64 (0), .int .i64 (0)] 60 (0, 0))) :: (Asn.own b0_1 (.cells #[.int .i64 p.kind, .int .i64 p.src, .int .i64 p.dst, .int .i64 p.id, .int .i64 p.line, .int .i64 p.ptr, .int .i64 p.state, .bool p.flag, .slice pa (List.length p.data) pcap] 33 (0, 0))) :: (Asn.own b0_0 (.cells #[.int .i64 d.kind, .int .i64 d.line, .int .i64 d.id, .int .i64 d.step, .int .i64 e1_b0_0_4, .int .i64 e1_b0_0_5, .slice e1_b0_0_6a (List.length e1_b0_0_6x) e1_b0_0_6c, .int .i64 d.next, .int .i64 e1_b0_0_8] 60 (0, 0))) :: Γ) (fun w hw => (Sat.less (.take .here (.take (.there (.there (.there (.there .here)))) (.take .here (.take .here (.take .here (.take .here .refl)))))) (ImmR.dup (Sat.less (.take .here (.take .here (.take .here (.take .here (.take .here .refl))))) hw)))) (RRead7F_tr e1_b0_0_6a e1_b0_0_6c (⟨d.kind, d.line, d.id, d.step, e1_b0_0_4, e1_b0_0_5, e1_b0_0_6x, d.next, e1_b0_0_8⟩ : DealS) node c cc pa pcap p (Reads.conv (fun w hw => hw.less (.drop .here (.drop .here (.drop .here (.drop .here .refl))))) hrpa) y11_4 hy11_4)) ?_
      rintro _ _ ⟨a11_4_00, c11_4_00, rfl, rfl⟩
      refine sp 55 (.agg #[.int .i64 y11_4.1.kind, .int .i64 y11_4.1.line, .int .i64 y11_4.1.id, .int .i64 y11_4.1.step, .int .i64 y11_4.1.state, .int .i64 y11_4.1.head, .slice a11_4_00 (List.length y11_4.1.data) c11_4_00, .int .i64 y11_4.1.next, .int .i64 y11_4.1.told]) ?_
      refine sp 56 (.bool y11_4.2.1) ?_
      refine s_do (by kernel_rfl) (by kernel_rfl) (st_store (off := 0) (vs := [.int .i64 y11_4.1.kind, .int .i64 y11_4.1.line, .int .i64 y11_4.1.id, .int .i64 y11_4.1.step, .int .i64 y11_4.1.state, .int .i64 y11_4.1.head, .slice a11_4_00 (List.length y11_4.1.data) c11_4_00, .int .i64 y11_4.1.next, .int .i64 y11_4.1.told]) (c' := #[.int .i64 y11_4.1.kind, .int .i64 y11_4.1.line, .int .i64 y11_4.1.id, .int .i64 y11_4.1.step, .int .i64 y11_4.1.state, .int .i64 y11_4.1.head, .slice a11_4_00 (List.length y11_4.1.data) c11_4_00, .int .i64 y11_4.1.next, .int .i64 y11_4.1.told]) (fun _ => by kernel_rfl) (.there (.there (.there .here))) (by kernel_rfl) (by kernel_rfl) (by kernel_rfl)) ?_
      rintro _ _ ⟨rfl, rfl⟩
      refine sp 9 (.bool y11_4.2.1) ?_
      refine ops_end ?_
      refine ae [(8, .pointer (some ⟨b0_2, 0, none⟩)), (9, .bool y11_4.2.1)] ?_
      refine at_then_normal ?_
      refine at_ret (by kernel_rfl) ?_
      refine at_in_ret ?_
      refine at_then_ret ?_
      obtain rfl := someE H
      refine at_backR [.agg #[.int .i64 y11_4.1.kind, .int .i64 y11_4.1.line, .int .i64 y11_4.1.id, .int .i64 y11_4.1.step, .int .i64 y11_4.1.state, .int .i64 y11_4.1.head, .slice a11_4_00 (List.length y11_4.1.data) c11_4_00, .int .i64 y11_4.1.next, .int .i64 y11_4.1.told], .bool y11_4.2.1] ((ImmI a11_4_00 y11_4.1.data) :: (RChA c y11_4.2.2) :: Γ) (rs := [.cell 8 60, .tmp 9]) (by kernel_rfl) (.cons (.cell (by kernel_rfl) (retN (off := 0) (vs := [.int .i64 y11_4.1.kind, .int .i64 y11_4.1.line, .int .i64 y11_4.1.id, .int .i64 y11_4.1.step, .int .i64 y11_4.1.state, .int .i64 y11_4.1.head, .slice a11_4_00 (List.length y11_4.1.data) c11_4_00, .int .i64 y11_4.1.next, .int .i64 y11_4.1.told]) 9 (fun _ => by kernel_rfl) (holds_own .here) rfl (by exact ⟨rfl, rfl, rfl, rfl, rfl, rfl, rfl, rfl, rfl, trivial⟩))) (.cons (.tmp (by kernel_rfl)) .nil)) (fun w hw => (Sat.less (.take (.there .here) (.take (.there .here) (.drop .here (.drop .here (.drop .here (.drop .here .refl)))))) hw)) ?_
      exact ⟨a11_4_00, c11_4_00, rfl, rfl⟩
     ·replace H := bifF H h3
      refine at_false (t := decide (d.kind = (1 : Int))) (x := C23 [1,1,1,1,0,1,0,1,0]) (y := C23 [1,1,1,1,0,1,0,1,1]) (o := .tmp 48) (by kernel_rfl) (by kernel_rfl) (by kernel_rfl) h3 ?_
      refine aq (x := C23 [1,1,1,1,0,1,0,1,1,0]) (y := C23 [1,1,1,1,0,1,0,1,1,1]) ?_
      refine ar (id := 12) 2 ?_
      refine sp 58 (.bool (decide (d.kind = (2 : Int)))) ?_
      refine sp 57 (.bool (decide (d.kind = (2 : Int)))) ?_
      refine ops_end ?_
      refine ae [(1, .int .i64 node), (2, .pointer (some ⟨c, 0, none⟩)), (4, .pointer (some ⟨b0_0, 0, none⟩)), (7, .pointer (some ⟨b0_1, 0, none⟩)), (8, .pointer (some ⟨b0_2, 0, none⟩)), (57, .bool (decide (d.kind = (2 : Int))))] ?_
      refine at_then_normal ?_
      rcases Bool.eq_false_or_eq_true (decide (d.kind = (2 : Int))) with h4 | h4
      ·replace H := bifT H h4
       refine at_true (t := decide (d.kind = (2 : Int))) (x := C23 [1,1,1,1,0,1,0,1,1,1,0]) (y := C23 [1,1,1,1,0,1,0,1,1,1,1]) (o := .tmp 57) (by kernel_rfl) (by kernel_rfl) (by kernel_rfl) h4 ?_
       refine aq (x := C23 [1,1,1,1,0,1,0,1,1,1,0,0]) (y := C23 [1,1,1,1,0,1,0,1,1,1,0,1]) ?_
       refine ar (id := 13) 9 ?_
       refine sl 59 (.agg #[.int .i64 d.kind, .int .i64 d.line, .int .i64 d.id, .int .i64 d.step, .int .i64 e1_b0_0_4, .int .i64 e1_b0_0_5, .slice e1_b0_0_6a (List.length e1_b0_0_6x) e1_b0_0_6c, .int .i64 d.next, .int .i64 e1_b0_0_8]) (loadN (off := 0) (vs := [.int .i64 d.kind, .int .i64 d.line, .int .i64 d.id, .int .i64 d.step, .int .i64 e1_b0_0_4, .int .i64 e1_b0_0_5, .slice e1_b0_0_6a (List.length e1_b0_0_6x) e1_b0_0_6c, .int .i64 d.next, .int .i64 e1_b0_0_8]) 9 (fun _ => by kernel_rfl) (holds_own (.there (.there (.there .here)))) rfl (by exact ⟨rfl, rfl, rfl, rfl, rfl, rfl, rfl, rfl, rfl, trivial⟩)) ?_
       refine sp 60 (.int .i64 node) ?_
       refine sp 61 (.pointer (some ⟨c, 0, none⟩)) ?_
       refine sl 62 (.agg #[.int .i64 p.kind, .int .i64 p.src, .int .i64 p.dst, .int .i64 p.id, .int .i64 p.line, .int .i64 p.ptr, .int .i64 p.state, .bool p.flag, .slice pa (List.length p.data) pcap]) (loadN (off := 0) (vs := [.int .i64 p.kind, .int .i64 p.src, .int .i64 p.dst, .int .i64 p.id, .int .i64 p.line, .int .i64 p.ptr, .int .i64 p.state, .bool p.flag, .slice pa (List.length p.data) pcap]) 9 (fun _ => by kernel_rfl) (holds_own (.there (.there .here))) rfl (by exact ⟨rfl, rfl, rfl, rfl, rfl, rfl, rfl, rfl, rfl, trivial⟩)) ?_
       obtain ⟨y13_4, hy13_4, H⟩ := bindE H
       refine s_call 63 54 #[.agg #[.int .i64 d.kind, .int .i64 d.line, .int .i64 d.id, .int .i64 d.step, .int .i64 e1_b0_0_4, .int .i64 e1_b0_0_5, .slice e1_b0_0_6a (List.length e1_b0_0_6x) e1_b0_0_6c, .int .i64 d.next, .int .i64 e1_b0_0_8], .int .i64 node, .pointer (some ⟨c, 0, none⟩), .agg #[.int .i64 p.kind, .int .i64 p.src, .int .i64 p.dst, .int .i64 p.id, .int .i64 p.line, .int .i64 p.ptr, .int .i64 p.state, .bool p.flag, .slice pa (List.length p.data) pcap]] (by kernel_rfl) (by kernel_rfl) (fun _ => by kernel_rfl) (Tr.conv (Γ' := (ImmI e1_b0_0_6a e1_b0_0_6x) :: (RChA c cc) :: (ImmI e1_b0_0_6a e1_b0_0_6x) :: (Asn.own b0_2 (.cells #[.int .i64 (0), .int .i64 (0), .int .i64 (0), .int .i64 (0), .int .i64 (0), .int .i64 (0), .slice none 0 0, .int .i64 (0), .int .i64 (0)] 60 (0, 0))) :: (Asn.own b0_1 (.cells #[.int .i64 p.kind, .int .i64 p.src, .int .i64 p.dst, .int .i64 p.id, .int .i64 p.line, .int .i64 p.ptr, .int .i64 p.state, .bool p.flag, .slice pa (List.length p.data) pcap] 33 (0, 0))) :: (Asn.own b0_0 (.cells #[.int .i64 d.kind, .int .i64 d.line, .int .i64 d.id, .int .i64 d.step, .int .i64 e1_b0_0_4, .int .i64 e1_b0_0_5, .slice e1_b0_0_6a (List.length e1_b0_0_6x) e1_b0_0_6c, .int .i64 d.next, .int .i64 e1_b0_0_8] 60 (0, 0))) :: Γ) (fun w hw => (Sat.less (.take .here (.take (.there (.there (.there (.there .here)))) (.take .here (.take .here (.take .here (.take .here .refl)))))) (ImmR.dup (Sat.less (.take .here (.take .here (.take .here (.take .here (.take .here .refl))))) hw)))) (RWrite7F_tr e1_b0_0_6a e1_b0_0_6c (⟨d.kind, d.line, d.id, d.step, e1_b0_0_4, e1_b0_0_5, e1_b0_0_6x, d.next, e1_b0_0_8⟩ : DealS) node c cc pa pcap p (Reads.conv (fun w hw => hw.less (.drop .here (.drop .here (.drop .here (.drop .here .refl))))) hrpa) y13_4 hy13_4)) ?_
       rintro _ _ ⟨a13_4_00, c13_4_00, rfl, rfl⟩
       refine sp 64 (.agg #[.int .i64 y13_4.1.kind, .int .i64 y13_4.1.line, .int .i64 y13_4.1.id, .int .i64 y13_4.1.step, .int .i64 y13_4.1.state, .int .i64 y13_4.1.head, .slice a13_4_00 (List.length y13_4.1.data) c13_4_00, .int .i64 y13_4.1.next, .int .i64 y13_4.1.told]) ?_
       refine sp 65 (.bool y13_4.2.1) ?_
       refine s_do (by kernel_rfl) (by kernel_rfl) (st_store (off := 0) (vs := [.int .i64 y13_4.1.kind, .int .i64 y13_4.1.line, .int .i64 y13_4.1.id, .int .i64 y13_4.1.step, .int .i64 y13_4.1.state, .int .i64 y13_4.1.head, .slice a13_4_00 (List.length y13_4.1.data) c13_4_00, .int .i64 y13_4.1.next, .int .i64 y13_4.1.told]) (c' := #[.int .i64 y13_4.1.kind, .int .i64 y13_4.1.line, .int .i64 y13_4.1.id, .int .i64 y13_4.1.step, .int .i64 y13_4.1.state, .int .i64 y13_4.1.head, .slice a13_4_00 (List.length y13_4.1.data) c13_4_00, .int .i64 y13_4.1.next, .int .i64 y13_4.1.told]) (fun _ => by kernel_rfl) (.there (.there (.there .here))) (by kernel_rfl) (by kernel_rfl) (by kernel_rfl)) ?_
       rintro _ _ ⟨rfl, rfl⟩
       refine sp 9 (.bool y13_4.2.1) ?_
       refine ops_end ?_
       refine ae [(8, .pointer (some ⟨b0_2, 0, none⟩)), (9, .bool y13_4.2.1)] ?_
       refine at_then_normal ?_
       refine at_ret (by kernel_rfl) ?_
       refine at_in_ret ?_
       refine at_then_ret ?_
       obtain rfl := someE H
       refine at_backR [.agg #[.int .i64 y13_4.1.kind, .int .i64 y13_4.1.line, .int .i64 y13_4.1.id, .int .i64 y13_4.1.step, .int .i64 y13_4.1.state, .int .i64 y13_4.1.head, .slice a13_4_00 (List.length y13_4.1.data) c13_4_00, .int .i64 y13_4.1.next, .int .i64 y13_4.1.told], .bool y13_4.2.1] ((ImmI a13_4_00 y13_4.1.data) :: (RChA c y13_4.2.2) :: Γ) (rs := [.cell 8 60, .tmp 9]) (by kernel_rfl) (.cons (.cell (by kernel_rfl) (retN (off := 0) (vs := [.int .i64 y13_4.1.kind, .int .i64 y13_4.1.line, .int .i64 y13_4.1.id, .int .i64 y13_4.1.step, .int .i64 y13_4.1.state, .int .i64 y13_4.1.head, .slice a13_4_00 (List.length y13_4.1.data) c13_4_00, .int .i64 y13_4.1.next, .int .i64 y13_4.1.told]) 9 (fun _ => by kernel_rfl) (holds_own .here) rfl (by exact ⟨rfl, rfl, rfl, rfl, rfl, rfl, rfl, rfl, rfl, trivial⟩))) (.cons (.tmp (by kernel_rfl)) .nil)) (fun w hw => (Sat.less (.take (.there .here) (.take (.there .here) (.drop .here (.drop .here (.drop .here (.drop .here .refl)))))) hw)) ?_
       exact ⟨a13_4_00, c13_4_00, rfl, rfl⟩
      ·replace H := bifF H h4
       refine at_false (t := decide (d.kind = (2 : Int))) (x := C23 [1,1,1,1,0,1,0,1,1,1,0]) (y := C23 [1,1,1,1,0,1,0,1,1,1,1]) (o := .tmp 57) (by kernel_rfl) (by kernel_rfl) (by kernel_rfl) h4 ?_
       refine at_skip (by kernel_rfl) ?_
       refine at_in_normal ?_
       refine at_then_normal ?_
       refine aq (x := C23 [1,1,1,1,1,0]) (y := C23 [1,1,1,1,1,1]) ?_
       refine ar (id := 14) 7 ?_
       refine sl 66 (.agg #[.int .i64 d.kind, .int .i64 d.line, .int .i64 d.id, .int .i64 d.step, .int .i64 e1_b0_0_4, .int .i64 e1_b0_0_5, .slice e1_b0_0_6a (List.length e1_b0_0_6x) e1_b0_0_6c, .int .i64 d.next, .int .i64 e1_b0_0_8]) (loadN (off := 0) (vs := [.int .i64 d.kind, .int .i64 d.line, .int .i64 d.id, .int .i64 d.step, .int .i64 e1_b0_0_4, .int .i64 e1_b0_0_5, .slice e1_b0_0_6a (List.length e1_b0_0_6x) e1_b0_0_6c, .int .i64 d.next, .int .i64 e1_b0_0_8]) 9 (fun _ => by kernel_rfl) (holds_own (.there (.there (.there .here)))) rfl (by exact ⟨rfl, rfl, rfl, rfl, rfl, rfl, rfl, rfl, rfl, trivial⟩)) ?_
       refine sp 67 (.pointer (some ⟨c, 0, none⟩)) ?_
       obtain ⟨y14_2, hy14_2, H⟩ := bindE H
       refine s_call 68 55 #[.agg #[.int .i64 d.kind, .int .i64 d.line, .int .i64 d.id, .int .i64 d.step, .int .i64 e1_b0_0_4, .int .i64 e1_b0_0_5, .slice e1_b0_0_6a (List.length e1_b0_0_6x) e1_b0_0_6c, .int .i64 d.next, .int .i64 e1_b0_0_8], .pointer (some ⟨c, 0, none⟩)] (by kernel_rfl) (by kernel_rfl) (fun _ => by kernel_rfl) (Tr.conv (Γ' := (ImmI e1_b0_0_6a e1_b0_0_6x) :: (RChA c cc) :: (ImmI e1_b0_0_6a e1_b0_0_6x) :: (Asn.own b0_2 (.cells #[.int .i64 (0), .int .i64 (0), .int .i64 (0), .int .i64 (0), .int .i64 (0), .int .i64 (0), .slice none 0 0, .int .i64 (0), .int .i64 (0)] 60 (0, 0))) :: (Asn.own b0_1 (.cells #[.int .i64 p.kind, .int .i64 p.src, .int .i64 p.dst, .int .i64 p.id, .int .i64 p.line, .int .i64 p.ptr, .int .i64 p.state, .bool p.flag, .slice pa (List.length p.data) pcap] 33 (0, 0))) :: (Asn.own b0_0 (.cells #[.int .i64 d.kind, .int .i64 d.line, .int .i64 d.id, .int .i64 d.step, .int .i64 e1_b0_0_4, .int .i64 e1_b0_0_5, .slice e1_b0_0_6a (List.length e1_b0_0_6x) e1_b0_0_6c, .int .i64 d.next, .int .i64 e1_b0_0_8] 60 (0, 0))) :: Γ) (fun w hw => (Sat.less (.take .here (.take (.there (.there (.there (.there .here)))) (.take .here (.take .here (.take .here (.take .here .refl)))))) (ImmR.dup (Sat.less (.take .here (.take .here (.take .here (.take .here (.take .here .refl))))) hw)))) (RRoll7F_tr e1_b0_0_6a e1_b0_0_6c (⟨d.kind, d.line, d.id, d.step, e1_b0_0_4, e1_b0_0_5, e1_b0_0_6x, d.next, e1_b0_0_8⟩ : DealS) c cc y14_2 hy14_2)) ?_
       rintro _ _ ⟨a14_2_00, c14_2_00, rfl, rfl⟩
       refine sp 69 (.agg #[.int .i64 y14_2.1.kind, .int .i64 y14_2.1.line, .int .i64 y14_2.1.id, .int .i64 y14_2.1.step, .int .i64 y14_2.1.state, .int .i64 y14_2.1.head, .slice a14_2_00 (List.length y14_2.1.data) c14_2_00, .int .i64 y14_2.1.next, .int .i64 y14_2.1.told]) ?_
       refine sp 70 (.bool y14_2.2.1) ?_
       refine s_do (by kernel_rfl) (by kernel_rfl) (st_store (off := 0) (vs := [.int .i64 y14_2.1.kind, .int .i64 y14_2.1.line, .int .i64 y14_2.1.id, .int .i64 y14_2.1.step, .int .i64 y14_2.1.state, .int .i64 y14_2.1.head, .slice a14_2_00 (List.length y14_2.1.data) c14_2_00, .int .i64 y14_2.1.next, .int .i64 y14_2.1.told]) (c' := #[.int .i64 y14_2.1.kind, .int .i64 y14_2.1.line, .int .i64 y14_2.1.id, .int .i64 y14_2.1.step, .int .i64 y14_2.1.state, .int .i64 y14_2.1.head, .slice a14_2_00 (List.length y14_2.1.data) c14_2_00, .int .i64 y14_2.1.next, .int .i64 y14_2.1.told]) (fun _ => by kernel_rfl) (.there (.there (.there .here))) (by kernel_rfl) (by kernel_rfl) (by kernel_rfl)) ?_
       rintro _ _ ⟨rfl, rfl⟩
       refine sp 9 (.bool y14_2.2.1) ?_
       refine ops_end ?_
       refine ae [(8, .pointer (some ⟨b0_2, 0, none⟩)), (9, .bool y14_2.2.1)] ?_
       refine at_then_normal ?_
       refine at_ret (by kernel_rfl) ?_
       obtain rfl := someE H
       refine at_backR [.agg #[.int .i64 y14_2.1.kind, .int .i64 y14_2.1.line, .int .i64 y14_2.1.id, .int .i64 y14_2.1.step, .int .i64 y14_2.1.state, .int .i64 y14_2.1.head, .slice a14_2_00 (List.length y14_2.1.data) c14_2_00, .int .i64 y14_2.1.next, .int .i64 y14_2.1.told], .bool y14_2.2.1] ((ImmI a14_2_00 y14_2.1.data) :: (RChA c y14_2.2.2) :: Γ) (rs := [.cell 8 60, .tmp 9]) (by kernel_rfl) (.cons (.cell (by kernel_rfl) (retN (off := 0) (vs := [.int .i64 y14_2.1.kind, .int .i64 y14_2.1.line, .int .i64 y14_2.1.id, .int .i64 y14_2.1.step, .int .i64 y14_2.1.state, .int .i64 y14_2.1.head, .slice a14_2_00 (List.length y14_2.1.data) c14_2_00, .int .i64 y14_2.1.next, .int .i64 y14_2.1.told]) 9 (fun _ => by kernel_rfl) (holds_own .here) rfl (by exact ⟨rfl, rfl, rfl, rfl, rfl, rfl, rfl, rfl, rfl, trivial⟩))) (.cons (.tmp (by kernel_rfl)) .nil)) (fun w hw => (Sat.less (.take (.there .here) (.take (.there .here) (.drop .here (.drop .here (.drop .here (.drop .here .refl)))))) hw)) ?_
       exact ⟨a14_2_00, c14_2_00, rfl, rfl⟩
    ·refine aq (x := C23 [1,1,1,0,0]) (y := C23 [1,1,1,0,1]) ?_
     refine ar (id := 6) 3 ?_
     refine sp 30 (.pointer (some ⟨b0_0, 3, none⟩)) ?_
     refine sl 31 (.int .i64 d.step) (load1 (off := 3) (fun _ => by kernel_rfl) (holds_own (.there (.there .here))) (by kernel_rfl)) ?_
     refine sp 32 (.bool (decide (d.step = (1 : Int)))) ?_
     refine ops_end ?_
     refine ae [(1, .int .i64 node), (2, .pointer (some ⟨c, 0, none⟩)), (4, .pointer (some ⟨b0_0, 0, none⟩)), (7, .pointer (some ⟨b0_1, 0, none⟩)), (8, .pointer (some ⟨b0_2, 0, none⟩)), (32, .bool (decide (d.step = (1 : Int))))] ?_
     refine at_then_normal ?_
     rcases Bool.eq_false_or_eq_true (decide (d.step = (1 : Int))) with h5 | h5
     ·replace H := bifT H h5
      refine at_true (t := decide (d.step = (1 : Int))) (x := C23 [1,1,1,0,1,0]) (y := C23 [1,1,1,0,1,1]) (o := .tmp 32) (by kernel_rfl) (by kernel_rfl) (by kernel_rfl) h5 ?_
      refine aq (x := C23 [1,1,1,0,1,0,0]) (y := C23 [1,1,1,0,1,0,1]) ?_
      refine at_region_draw (id := 7) (by kernel_rfl) (by kernel_rfl) ?_
      refine dp 0 33 (.pointer (some ⟨b0_1, 6, none⟩)) ?_
      refine dl 1 34 (.int .i64 p.state) (load1 (off := 6) (fun _ => by kernel_rfl) (holds_own (.there .here)) (by kernel_rfl)) ?_
      refine dp 2 35 (.pointer (some ⟨b0_1, 5, none⟩)) ?_
      refine dl 3 36 (.int .i64 p.ptr) (load1 (off := 5) (fun _ => by kernel_rfl) (holds_own (.there .here)) (by kernel_rfl)) ?_
      refine dp 4 37 (.pointer (some ⟨b0_1, 5, none⟩)) ?_
      refine dl 5 38 (.int .i64 p.ptr) (load1 (off := 5) (fun _ => by kernel_rfl) (holds_own (.there .here)) (by kernel_rfl)) ?_
      refine dp 6 39 (.pointer (some ⟨b0_0, 4, none⟩)) ?_
      refine d_do 7 [6, 1, 0] [4, 2] [5, 3] (by kernel_rfl) (by kernel_rfl) (by kernel_rfl) (st_store (off := 4) (vs := [.int .i64 p.state]) (c' := #[.int .i64 d.kind, .int .i64 d.line, .int .i64 d.id, .int .i64 d.step, .int .i64 p.state, .int .i64 d.head, .slice da (List.length d.data) dcap, .int .i64 d.next, .int .i64 d.told]) (fun _ => by kernel_rfl) (.there (.there .here)) (by kernel_rfl) (by kernel_rfl) (by kernel_rfl)) ?_
      rintro _ _ ⟨rfl, rfl⟩
      refine ⟨(stable_cons 5 38 (.int .i64 p.ptr) (by kernel_rfl) (by kernel_rfl) (by kernel_rfl) (load1 (off := 5) (fun _ => by kernel_rfl) (holds_own (.there (.there .here))) (by kernel_rfl)) (stable_cons 3 36 (.int .i64 p.ptr) (by kernel_rfl) (by kernel_rfl) (by kernel_rfl) (load1 (off := 5) (fun _ => by kernel_rfl) (holds_own (.there (.there .here))) (by kernel_rfl)) stable_nil)), ?_⟩
      refine dp 8 40 (.pointer (some ⟨b0_0, 5, none⟩)) ?_
      refine d_do 9 [8, 3, 7, 0, 1, 2, 6] [4] [5] (by kernel_rfl) (by kernel_rfl) (by kernel_rfl) (st_store (off := 5) (vs := [.int .i64 p.ptr]) (c' := #[.int .i64 d.kind, .int .i64 d.line, .int .i64 d.id, .int .i64 d.step, .int .i64 p.state, .int .i64 p.ptr, .slice da (List.length d.data) dcap, .int .i64 d.next, .int .i64 d.told]) (fun _ => by kernel_rfl) .here (by kernel_rfl) (by kernel_rfl) (by kernel_rfl)) ?_
      rintro _ _ ⟨rfl, rfl⟩
      refine ⟨(stable_cons 5 38 (.int .i64 p.ptr) (by kernel_rfl) (by kernel_rfl) (by kernel_rfl) (load1 (off := 5) (fun _ => by kernel_rfl) (holds_own (.there (.there .here))) (by kernel_rfl)) stable_nil), ?_⟩
      refine dp 10 41 (.pointer (some ⟨b0_0, 8, none⟩)) ?_
      refine d_do 11 [10, 5, 9, 0, 1, 2, 3, 4, 6, 7, 8] [] [] (by kernel_rfl) (by kernel_rfl) (by kernel_rfl) (st_store (off := 8) (vs := [.int .i64 p.ptr]) (c' := #[.int .i64 d.kind, .int .i64 d.line, .int .i64 d.id, .int .i64 d.step, .int .i64 p.state, .int .i64 p.ptr, .slice da (List.length d.data) dcap, .int .i64 d.next, .int .i64 p.ptr]) (fun _ => by kernel_rfl) .here (by kernel_rfl) (by kernel_rfl) (by kernel_rfl)) ?_
      rintro _ _ ⟨rfl, rfl⟩
      refine ⟨stable_nil, ?_⟩
      refine draw_end (by kernel_rfl) ?_
      refine ae [(1, .int .i64 node), (2, .pointer (some ⟨c, 0, none⟩)), (4, .pointer (some ⟨b0_0, 0, none⟩)), (7, .pointer (some ⟨b0_1, 0, none⟩)), (8, .pointer (some ⟨b0_2, 0, none⟩))] ?_
      refine at_then_normal ?_
      refine ar (id := 8) 5 ?_
      refine sp 42 (.pointer (some ⟨b0_1, 8, none⟩)) ?_
      refine sl 43 (.slice pa (List.length p.data) pcap) (load1 (off := 8) (fun _ => by kernel_rfl) (holds_own (.there (.there .here))) (by kernel_rfl)) ?_
      obtain ⟨hc8_2_0, H⟩ := chkE H
      obtain ⟨l8_2, hl8_2, H⟩ := letE H
      refine s_step 44 (by kernel_rfl) (by kernel_rfl) (StepTo.conv (fun w hw => RowsA.none_mk (k := 1) (a := none) hw) (st_append_ints (xs := ([] : List Int)) (ys := p.data) (zs := l8_2) (m1 := 0) (m2 := (List.length p.data)) (m := List.length l8_2) (cap2 := pcap) 22 22 3 (tinfo 3) (fun _ => by kernel_rfl) (by kernel_rfl) (by kernel_rfl) (by kernel_rfl) (by kernel_rfl) (by kernel_rfl) .here (Reads.conv (fun w hw => hw.less (.drop .here (.drop .here (.drop .here (.drop .here (.drop .here (.drop .here .refl))))))) hrpa) (by first | rfl | simp) (by first | rfl | simp) (by rw [← hl8_2]; first | done | simp) (by rw [← hl8_2]; first | done | simp) (by rw [← hl8_2]; exact hc8_2_0))) ?_
      rintro _ _ ⟨a8_2, c8_2, rfl, rfl⟩
      refine sp 45 (.pointer (some ⟨b0_0, 6, none⟩)) ?_
      refine s_do (by kernel_rfl) (by kernel_rfl) (st_store (off := 6) (vs := [.slice a8_2 (List.length l8_2) c8_2]) (c' := #[.int .i64 d.kind, .int .i64 d.line, .int .i64 d.id, .int .i64 d.step, .int .i64 p.state, .int .i64 p.ptr, .slice a8_2 (List.length l8_2) c8_2, .int .i64 d.next, .int .i64 p.ptr]) (fun _ => by kernel_rfl) (.there .here) (by kernel_rfl) (by kernel_rfl) (by kernel_rfl)) ?_
      rintro _ _ ⟨rfl, rfl⟩
      refine ops_end ?_
      refine ae [(1, .int .i64 node), (2, .pointer (some ⟨c, 0, none⟩)), (4, .pointer (some ⟨b0_0, 0, none⟩)), (7, .pointer (some ⟨b0_1, 0, none⟩)), (8, .pointer (some ⟨b0_2, 0, none⟩))] ?_
      refine at_round_normal ?_
      exact at_join_mk [(1, .int .i64 node), (2, .pointer (some ⟨c, 0, none⟩)), (4, .pointer (some ⟨b0_0, 0, none⟩)), (7, .pointer (some ⟨b0_1, 0, none⟩)), (8, .pointer (some ⟨b0_2, 0, none⟩))] ((ImmI a8_2 l8_2) :: (Asn.own b0_2 (.cells #[.int .i64 (0), .int .i64 (0), .int .i64 (0), .int .i64 (0), .int .i64 (0), .int .i64 (0), .slice none 0 0, .int .i64 (0), .int .i64 (0)] 60 (0, 0))) :: (Asn.own b0_1 (.cells #[.int .i64 p.kind, .int .i64 p.src, .int .i64 p.dst, .int .i64 p.id, .int .i64 p.line, .int .i64 p.ptr, .int .i64 p.state, .bool p.flag, .slice pa (List.length p.data) pcap] 33 (0, 0))) :: (Asn.own b0_0 (.cells #[.int .i64 d.kind, .int .i64 d.line, .int .i64 d.id, .int .i64 d.step, .int .i64 p.state, .int .i64 p.ptr, .slice a8_2 (List.length l8_2) c8_2, .int .i64 d.next, .int .i64 p.ptr] 60 (0, 0))) :: (RChA c cc) :: Γ) ⟨by kernel_rfl, by kernel_rfl, by kernel_rfl, by kernel_rfl, by kernel_rfl, trivial⟩ (fun w hw => (Sat.less (.take .here (.take (.there .here) (.take (.there .here) (.take .here (.take (.there .here) (.drop .here .refl)))))) (RowsA.freeze (Sat.less (.take (.there .here) (.take .here (.take .here (.take .here (.take .here (.take .here .refl)))))) hw)))) ⟨p.state, p.ptr, l8_2, p.ptr, a8_2, c8_2, H, rfl, rfl⟩
     ·replace H := bifF H h5
      refine at_false (t := decide (d.step = (1 : Int))) (x := C23 [1,1,1,0,1,0]) (y := C23 [1,1,1,0,1,1]) (o := .tmp 32) (by kernel_rfl) (by kernel_rfl) (by kernel_rfl) h5 ?_
      refine at_skip (by kernel_rfl) ?_
      refine at_round_normal ?_
      exact at_join_mk [(1, .int .i64 node), (2, .pointer (some ⟨c, 0, none⟩)), (4, .pointer (some ⟨b0_0, 0, none⟩)), (7, .pointer (some ⟨b0_1, 0, none⟩)), (8, .pointer (some ⟨b0_2, 0, none⟩))] ((ImmI da d.data) :: (Asn.own b0_2 (.cells #[.int .i64 (0), .int .i64 (0), .int .i64 (0), .int .i64 (0), .int .i64 (0), .int .i64 (0), .slice none 0 0, .int .i64 (0), .int .i64 (0)] 60 (0, 0))) :: (Asn.own b0_1 (.cells #[.int .i64 p.kind, .int .i64 p.src, .int .i64 p.dst, .int .i64 p.id, .int .i64 p.line, .int .i64 p.ptr, .int .i64 p.state, .bool p.flag, .slice pa (List.length p.data) pcap] 33 (0, 0))) :: (Asn.own b0_0 (.cells #[.int .i64 d.kind, .int .i64 d.line, .int .i64 d.id, .int .i64 d.step, .int .i64 d.state, .int .i64 d.head, .slice da (List.length d.data) dcap, .int .i64 d.next, .int .i64 d.told] 60 (0, 0))) :: (RChA c cc) :: Γ) ⟨by kernel_rfl, by kernel_rfl, by kernel_rfl, by kernel_rfl, by kernel_rfl, trivial⟩ (fun w hw => (Sat.less (.take (.there (.there (.there .here))) (.take .here (.take .here (.take .here (.take .here .refl))))) hw)) ⟨d.state, d.head, d.data, d.told, da, dcap, H, rfl, rfl⟩
 ·refine ar (id := 1) 14 ?_
  refine sl 10 (.agg #[.int .i64 d.kind, .int .i64 d.line, .int .i64 d.id, .int .i64 d.step, .int .i64 d.state, .int .i64 d.head, .slice da (List.length d.data) dcap, .int .i64 d.next, .int .i64 d.told]) (loadN (off := 0) (vs := [.int .i64 d.kind, .int .i64 d.line, .int .i64 d.id, .int .i64 d.step, .int .i64 d.state, .int .i64 d.head, .slice da (List.length d.data) dcap, .int .i64 d.next, .int .i64 d.told]) 9 (fun _ => by kernel_rfl) (holds_own (.there (.there .here))) rfl (by exact ⟨rfl, rfl, rfl, rfl, rfl, rfl, rfl, rfl, rfl, trivial⟩)) ?_
  refine sl 11 (.agg #[.int .i64 p.kind, .int .i64 p.src, .int .i64 p.dst, .int .i64 p.id, .int .i64 p.line, .int .i64 p.ptr, .int .i64 p.state, .bool p.flag, .slice pa (List.length p.data) pcap]) (loadN (off := 0) (vs := [.int .i64 p.kind, .int .i64 p.src, .int .i64 p.dst, .int .i64 p.id, .int .i64 p.line, .int .i64 p.ptr, .int .i64 p.state, .bool p.flag, .slice pa (List.length p.data) pcap]) 9 (fun _ => by kernel_rfl) (holds_own (.there .here)) rfl (by exact ⟨rfl, rfl, rfl, rfl, rfl, rfl, rfl, rfl, rfl, trivial⟩)) ?_
  obtain ⟨y1_2, hy1_2, H⟩ := bindE H
  refine s_call 12 52 #[.agg #[.int .i64 d.kind, .int .i64 d.line, .int .i64 d.id, .int .i64 d.step, .int .i64 d.state, .int .i64 d.head, .slice da (List.length d.data) dcap, .int .i64 d.next, .int .i64 d.told], .agg #[.int .i64 p.kind, .int .i64 p.src, .int .i64 p.dst, .int .i64 p.id, .int .i64 p.line, .int .i64 p.ptr, .int .i64 p.state, .bool p.flag, .slice pa (List.length p.data) pcap]] (by kernel_rfl) (by kernel_rfl) (fun _ => by kernel_rfl) (RFits7F_tr da dcap d pa pcap p (ImmR.reads (k := 1) (.there (.there (.there .here)))) (Reads.conv (fun w hw => hw.less (.drop .here (.drop .here (.drop .here (.drop .here (.drop .here .refl)))))) hrpa) y1_2 hy1_2) ?_
  rintro _ _ ⟨rfl, rfl⟩
  refine sp 13 (.bool !y1_2) ?_
  rcases Bool.eq_false_or_eq_true (!y1_2) with h6 | h6
  ·replace H := bifT H h6
   refine sr 14 (.bool true) (run_eq (v := .bool (!y1_2)) (fun _ => by kernel_rfl) (congrArg Value.bool h6)) ?_
   refine sa 15 ?_
   refine sa 16 ?_
   refine sa 17 ?_
   refine sp 18 (.bool true) ?_
   refine sp 19 (.bool true) ?_
   refine sa 20 ?_
   refine sa 21 ?_
   refine sa 22 ?_
   refine sp 23 (.bool true) ?_
   refine ops_end ?_
   refine ae [(1, .int .i64 node), (2, .pointer (some ⟨c, 0, none⟩)), (4, .pointer (some ⟨b0_0, 0, none⟩)), (7, .pointer (some ⟨b0_1, 0, none⟩)), (8, .pointer (some ⟨b0_2, 0, none⟩)), (23, .bool true)] ?_
   refine at_round_normal ?_
   exact at_join_mk [(1, .int .i64 node), (2, .pointer (some ⟨c, 0, none⟩)), (4, .pointer (some ⟨b0_0, 0, none⟩)), (7, .pointer (some ⟨b0_1, 0, none⟩)), (8, .pointer (some ⟨b0_2, 0, none⟩)), (23, .bool true)] ((Asn.own b0_2 (.cells #[.int .i64 (0), .int .i64 (0), .int .i64 (0), .int .i64 (0), .int .i64 (0), .int .i64 (0), .slice none 0 0, .int .i64 (0), .int .i64 (0)] 60 (0, 0))) :: (Asn.own b0_1 (.cells #[.int .i64 p.kind, .int .i64 p.src, .int .i64 p.dst, .int .i64 p.id, .int .i64 p.line, .int .i64 p.ptr, .int .i64 p.state, .bool p.flag, .slice pa (List.length p.data) pcap] 33 (0, 0))) :: (Asn.own b0_0 (.cells #[.int .i64 d.kind, .int .i64 d.line, .int .i64 d.id, .int .i64 d.step, .int .i64 d.state, .int .i64 d.head, .slice da (List.length d.data) dcap, .int .i64 d.next, .int .i64 d.told] 60 (0, 0))) :: (ImmI da d.data) :: (RChA c cc) :: Γ) ⟨by kernel_rfl, by kernel_rfl, by kernel_rfl, by kernel_rfl, by kernel_rfl, by kernel_rfl, trivial⟩ (fun w hw => (Sat.less (.take .here (.take .here (.take .here (.take .here (.take .here .refl))))) hw)) ⟨true, H, rfl, rfl⟩
  ·replace H := bifF H h6
   refine sr 14 (.bool false) (run_eq (v := .bool (!y1_2)) (fun _ => by kernel_rfl) (congrArg Value.bool h6)) ?_
   refine sp 15 (.pointer (some ⟨b0_0, 0, none⟩)) ?_
   refine sl 16 (.int .i64 d.kind) (load1 (off := 0) (fun _ => by kernel_rfl) (holds_own (.there (.there .here))) (by kernel_rfl)) ?_
   refine sp 17 (.bool (decide (d.kind < (1 : Int)))) ?_
   refine sp 18 (.bool (decide (d.kind < (1 : Int)))) ?_
   rcases Bool.eq_false_or_eq_true (decide (d.kind < (1 : Int))) with h7 | h7
   ·replace H := bifT H h7
    refine sr 19 (.bool true) (run_eq (v := .bool (decide (d.kind < (1 : Int)))) (fun _ => by kernel_rfl) (congrArg Value.bool h7)) ?_
    refine sa 20 ?_
    refine sa 21 ?_
    refine sa 22 ?_
    refine sp 23 (.bool true) ?_
    refine ops_end ?_
    refine ae [(1, .int .i64 node), (2, .pointer (some ⟨c, 0, none⟩)), (4, .pointer (some ⟨b0_0, 0, none⟩)), (7, .pointer (some ⟨b0_1, 0, none⟩)), (8, .pointer (some ⟨b0_2, 0, none⟩)), (23, .bool true)] ?_
    refine at_round_normal ?_
    exact at_join_mk [(1, .int .i64 node), (2, .pointer (some ⟨c, 0, none⟩)), (4, .pointer (some ⟨b0_0, 0, none⟩)), (7, .pointer (some ⟨b0_1, 0, none⟩)), (8, .pointer (some ⟨b0_2, 0, none⟩)), (23, .bool true)] ((Asn.own b0_2 (.cells #[.int .i64 (0), .int .i64 (0), .int .i64 (0), .int .i64 (0), .int .i64 (0), .int .i64 (0), .slice none 0 0, .int .i64 (0), .int .i64 (0)] 60 (0, 0))) :: (Asn.own b0_1 (.cells #[.int .i64 p.kind, .int .i64 p.src, .int .i64 p.dst, .int .i64 p.id, .int .i64 p.line, .int .i64 p.ptr, .int .i64 p.state, .bool p.flag, .slice pa (List.length p.data) pcap] 33 (0, 0))) :: (Asn.own b0_0 (.cells #[.int .i64 d.kind, .int .i64 d.line, .int .i64 d.id, .int .i64 d.step, .int .i64 d.state, .int .i64 d.head, .slice da (List.length d.data) dcap, .int .i64 d.next, .int .i64 d.told] 60 (0, 0))) :: (ImmI da d.data) :: (RChA c cc) :: Γ) ⟨by kernel_rfl, by kernel_rfl, by kernel_rfl, by kernel_rfl, by kernel_rfl, by kernel_rfl, trivial⟩ (fun w hw => (Sat.less (.take .here (.take .here (.take .here (.take .here (.take .here .refl))))) hw)) ⟨true, H, rfl, rfl⟩
   ·replace H := bifF H h7
    refine sr 19 (.bool false) (run_eq (v := .bool (decide (d.kind < (1 : Int)))) (fun _ => by kernel_rfl) (congrArg Value.bool h7)) ?_
    refine sp 20 (.pointer (some ⟨b0_0, 0, none⟩)) ?_
    refine sl 21 (.int .i64 d.kind) (load1 (off := 0) (fun _ => by kernel_rfl) (holds_own (.there (.there .here))) (by kernel_rfl)) ?_
    refine sp 22 (.bool (decide ((3 : Int) < d.kind))) ?_
    refine sp 23 (.bool (decide ((3 : Int) < d.kind))) ?_
    refine ops_end ?_
    refine ae [(1, .int .i64 node), (2, .pointer (some ⟨c, 0, none⟩)), (4, .pointer (some ⟨b0_0, 0, none⟩)), (7, .pointer (some ⟨b0_1, 0, none⟩)), (8, .pointer (some ⟨b0_2, 0, none⟩)), (23, .bool (decide ((3 : Int) < d.kind)))] ?_
    refine at_round_normal ?_
    exact at_join_mk [(1, .int .i64 node), (2, .pointer (some ⟨c, 0, none⟩)), (4, .pointer (some ⟨b0_0, 0, none⟩)), (7, .pointer (some ⟨b0_1, 0, none⟩)), (8, .pointer (some ⟨b0_2, 0, none⟩)), (23, .bool (decide ((3 : Int) < d.kind)))] ((Asn.own b0_2 (.cells #[.int .i64 (0), .int .i64 (0), .int .i64 (0), .int .i64 (0), .int .i64 (0), .int .i64 (0), .slice none 0 0, .int .i64 (0), .int .i64 (0)] 60 (0, 0))) :: (Asn.own b0_1 (.cells #[.int .i64 p.kind, .int .i64 p.src, .int .i64 p.dst, .int .i64 p.id, .int .i64 p.line, .int .i64 p.ptr, .int .i64 p.state, .bool p.flag, .slice pa (List.length p.data) pcap] 33 (0, 0))) :: (Asn.own b0_0 (.cells #[.int .i64 d.kind, .int .i64 d.line, .int .i64 d.id, .int .i64 d.step, .int .i64 d.state, .int .i64 d.head, .slice da (List.length d.data) dcap, .int .i64 d.next, .int .i64 d.told] 60 (0, 0))) :: (ImmI da d.data) :: (RChA c cc) :: Γ) ⟨by kernel_rfl, by kernel_rfl, by kernel_rfl, by kernel_rfl, by kernel_rfl, by kernel_rfl, trivial⟩ (fun w hw => (Sat.less (.take .here (.take .here (.take .here (.take .here (.take .here .refl))))) hw)) ⟨decide ((3 : Int) < d.kind), H, rfl, rfl⟩
end Go.Proofs.Ytfndeehlbcbkpaa
