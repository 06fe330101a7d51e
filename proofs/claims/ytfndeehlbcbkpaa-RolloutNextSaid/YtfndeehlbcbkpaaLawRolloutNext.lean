/- The law RolloutNext: its walk. -/
import Derived.Test.YtfndeehlbcbkpaaBoA
import Derived.Test.YtfndeehlbcbkpaaRoA
import Derived.Test.YtfndeehlbcbkpaaRfA
import Derived.Test.YtfndeehlbcbkpaaRawA
namespace Go.Proofs.Ytfndeehlbcbkpaa
open Go Go.RowKit
set_option linter.unusedVariables false
set_option linter.unusedSimpArgs false
def wakes16S : Option (Bool) :=
 (bothS ([] : List Int) ([] : List Int) ([] : List Int)).bind fun y1_0 => letP ([7] : List Int) fun l4_1 => (enewS (1 : Int) ((-1) : Int) ((-1) : Int) true l4_1).bind fun y4_2 => (putS y1_0.1 y4_2).bind fun y4_3 => (dbeginS (3 : Int) (1 : Int) (0 : Int)).bind fun y5_0 => letP ([3] : List Int) fun l5_2 => (rnextS y5_0 (2 : Int) y4_3.2 (⟨7, 0, 0, 0, 1, 2, 2, false, l5_2⟩ : PktS)).bind fun y5_4 => (daskS y5_4.1 (2 : Int) (0 : Int)).bind fun y6_1 => (bif y5_4.2.1 then (bif decide (y6_1.kind = (2 : Int)) then (bif y6_1.flag then (bif decide ((((List.length y6_1.data) : Nat) : Int) = (1 : Int)) then chk (0 ≤ (0 : Int) ∧ (0 : Int) < ((y6_1.data.length : Nat) : Int)) ((bif decide ((nth y6_1.data (0 : Int)) = (7 : Int)) then (bif decide (y6_1.state = (0 : Int)) then (bif decide (y6_1.ptr = ((-1) : Int)) then letP (lenC y5_4.2.2) fun y7_35 => some (decide (y7_35 = (0 : Int))) else some false) else some false) else some false)) else some false) else some false) else some false) else some false)
noncomputable def C28 (p : List Nat) : Code := codeAt (bodyOf Try.f28) p
set_option maxRecDepth 100000 in
set_option maxHeartbeats 8000000 in
theorem W16F_tr {W0 : World} {Γ : List Asn}   (y : Bool) (H : wakes16S = some y) : Tr Try.prog 28 #[] W0 (Γ) (fun r Δ => r = .bool y ∧ Δ = Γ) := by
 unfold wakes16S at H
 refine Tr.enter (fn := Try.f28) (c := C28 []) (args := []) 64 Try.func28 (by kernel_rfl) (by kernel_rfl) ?_
 refine At.env [] trivial ?_
 refine aq (x := C28 [0]) (y := C28 [1]) ?_
 refine ar (id := 0) 1 ?_
 refine sp 0 (.bool false) ?_
 refine ops_end ?_
 refine At.env [] trivial ?_
 refine at_then_normal ?_
 refine aq (x := C28 [1,0]) (y := C28 [1,1]) ?_
 refine ar (id := 1) 6 ?_
 obtain ⟨y1_0, hy1_0, H⟩ := bindE H
 refine s_call 7 7 #[.slice none 0 0, .slice none 0 0, .slice none 0 0] (by kernel_rfl) (by kernel_rfl) (fun _ => by kernel_rfl) (BothF_tr none 0 ([] : List Int) none 0 ([] : List Int) none 0 ([] : List Int) Reads.nil Reads.nil Reads.nil (Nat.le_refl _) y1_0 hy1_0) ?_
 rintro _ _ ⟨b1_0_0, b1_0_1, rfl, rfl⟩
 refine sp 6 (.tuple #[.pointer (some ⟨b1_0_0, 0, none⟩), .pointer (some ⟨b1_0_1, 0, none⟩)]) ?_
 refine sp 8 (.pointer (some ⟨b1_0_0, 0, none⟩)) ?_
 refine sp 9 (.pointer (some ⟨b1_0_1, 0, none⟩)) ?_
 refine sp 1 (.pointer (some ⟨b1_0_0, 0, none⟩)) ?_
 refine sp 2 (.pointer (some ⟨b1_0_1, 0, none⟩)) ?_
 refine ops_end ?_
 refine ae [(1, .pointer (some ⟨b1_0_0, 0, none⟩))] ?_
 refine at_then_normal ?_
 refine aq (x := C28 [1,1,0]) (y := C28 [1,1,1]) ?_
 refine aq (x := C28 [1,1,0,0]) (y := C28 [1,1,0,1]) ?_
 refine ar (id := 2) 2 ?_
 refine sp 10 (.pointer (some ⟨b1_0_0, 0, none⟩)) ?_
 refine sp 11 (.bool false) ?_
 refine ops_end ?_
 refine ae [(1, .pointer (some ⟨b1_0_0, 0, none⟩)), (11, .bool false)] ?_
 refine at_then_normal ?_
 refine at_false (t := false) (x := C28 [1,1,0,1,0]) (y := C28 [1,1,0,1,1]) (o := .tmp 11) (by kernel_rfl) (by kernel_rfl) (by kernel_rfl) rfl ?_
 refine at_skip (by kernel_rfl) ?_
 refine at_then_normal ?_
 refine aq (x := C28 [1,1,1,0]) (y := C28 [1,1,1,1]) ?_
 refine ar (id := 4) 4 ?_
 refine sp 12 (.pointer (some ⟨b1_0_0, 0, none⟩)) ?_
 obtain ⟨l4_1, hl4_1, H⟩ := letE H
 refine s_step 13 (by kernel_rfl) (by kernel_rfl) (st_new_ints (T := 3) (xs := l4_1) 1 hl4_1 (fun _ => by kernel_rfl) (by kernel_rfl)) ?_
 rintro _ _ ⟨b4_1, rfl, rfl⟩
 obtain ⟨y4_2, hy4_2, H⟩ := bindE H
 refine s_call 14 31 #[.int .i64 (1), .int .i64 (-1), .int .i64 (-1), .bool true, .slice (some ⟨b4_1, 0, none⟩) (List.length l4_1) 1] (by kernel_rfl) (by kernel_rfl) (fun _ => by kernel_rfl) (ENewF_tr (1 : Int) ((-1) : Int) ((-1) : Int) true (some ⟨b4_1, 0, none⟩) 1 l4_1 (RowsA.reads (k := 1) .here) y4_2 hy4_2) ?_
 rintro _ _ ⟨a4_2_00, c4_2_00, rfl, rfl⟩
 obtain ⟨y4_3, hy4_3, H⟩ := bindE H
 refine s_call 15 33 #[.pointer (some ⟨b1_0_0, 0, none⟩), .agg #[.int .i64 y4_2.fwd, .int .i64 y4_2.back, .int .i64 y4_2.line, .int .i64 y4_2.used, .bool y4_2.dirty, .slice a4_2_00 (List.length y4_2.data) c4_2_00]] (by kernel_rfl) (by kernel_rfl) (fun _ => by kernel_rfl) (Tr.conv (Γ' := (CacheA b1_0_0 y1_0.1) :: (IntsA a4_2_00 c4_2_00 y4_2.data) :: (IntsA (some ⟨b4_1, 0, none⟩) 1 l4_1) :: (RChA b1_0_1 y1_0.2) :: Γ) (fun w hw => (Sat.less (.take (.there (.there .here)) (.take .here (.take .here (.take .here .refl)))) hw)) (PutF_tr b1_0_0 y1_0.1 a4_2_00 c4_2_00 y4_2 (RowsA.reads (k := 1) .here) y4_3 hy4_3)) ?_
 rintro _ _ ⟨rfl, rfl⟩
 refine ops_end ?_
 refine ae [(1, .pointer (some ⟨b1_0_0, 0, none⟩))] ?_
 refine at_then_normal ?_
 refine aq (x := C28 [1,1,1,1,0]) (y := C28 [1,1,1,1,1]) ?_
 refine ar (id := 5) 11 ?_
 obtain ⟨y5_0, hy5_0, H⟩ := bindE H
 refine s_call 17 9 #[.int .i64 (3), .int .i64 (1), .int .i64 (0)] (by kernel_rfl) (by kernel_rfl) (fun _ => by kernel_rfl) (DBeginF_tr (3 : Int) (1 : Int) (0 : Int) y5_0 hy5_0) ?_
 rintro _ _ ⟨a5_0_00, c5_0_00, rfl, rfl⟩
 refine sp 18 (.pointer (some ⟨b1_0_0, 0, none⟩)) ?_
 obtain ⟨l5_2, hl5_2, H⟩ := letE H
 refine s_step 19 (by kernel_rfl) (by kernel_rfl) (st_new_ints (T := 3) (xs := l5_2) 1 hl5_2 (fun _ => by kernel_rfl) (by kernel_rfl)) ?_
 rintro _ _ ⟨b5_2, rfl, rfl⟩
 refine sp 20 (.agg #[.int .i64 (7), .int .i64 (0), .int .i64 (0), .int .i64 (0), .int .i64 (1), .int .i64 (2), .int .i64 (2), .bool false, .slice (some ⟨b5_2, 0, none⟩) (List.length l5_2) 1]) ?_
 obtain ⟨y5_4, hy5_4, H⟩ := bindE H
 refine s_call 21 27 #[.agg #[.int .i64 y5_0.kind, .int .i64 y5_0.line, .int .i64 y5_0.id, .int .i64 y5_0.step, .int .i64 y5_0.state, .int .i64 y5_0.head, .slice a5_0_00 (List.length y5_0.data) c5_0_00, .int .i64 y5_0.next, .int .i64 y5_0.told], .int .i64 (2), .pointer (some ⟨b1_0_0, 0, none⟩), .agg #[.int .i64 (7), .int .i64 (0), .int .i64 (0), .int .i64 (0), .int .i64 (1), .int .i64 (2), .int .i64 (2), .bool false, .slice (some ⟨b5_2, 0, none⟩) (List.length l5_2) 1]] (by kernel_rfl) (by kernel_rfl) (fun _ => by kernel_rfl) (Tr.conv (Γ' := (ImmI a5_0_00 y5_0.data) :: (CacheA b1_0_0 y4_3.2) :: (ImmI a5_0_00 y5_0.data) :: (IntsA (some ⟨b5_2, 0, none⟩) 1 l5_2) :: (IntsA a4_2_00 c4_2_00 y4_2.data) :: (IntsA (some ⟨b4_1, 0, none⟩) 1 l4_1) :: (RChA b1_0_1 y1_0.2) :: Γ) (fun w hw => (Sat.less (.take .here (.take (.there (.there .here)) (.take .here (.take .here (.take .here (.take .here (.take .here .refl))))))) (ImmR.dup (Sat.less (.take (.there .here) (.take .here (.take .here (.take .here (.take .here (.take .here .refl)))))) hw)))) (RNextF_tr a5_0_00 c5_0_00 y5_0 (2 : Int) b1_0_0 y4_3.2 (some ⟨b5_2, 0, none⟩) 1 (⟨7, 0, 0, 0, 1, 2, 2, false, l5_2⟩ : PktS) (RowsA.reads (k := 1) (.there .here)) y5_4 hy5_4)) ?_
 rintro _ _ ⟨a5_4_00, c5_4_00, rfl, rfl⟩
 refine sp 16 (.tuple #[.agg #[.int .i64 y5_4.1.kind, .int .i64 y5_4.1.line, .int .i64 y5_4.1.id, .int .i64 y5_4.1.step, .int .i64 y5_4.1.state, .int .i64 y5_4.1.head, .slice a5_4_00 (List.length y5_4.1.data) c5_4_00, .int .i64 y5_4.1.next, .int .i64 y5_4.1.told], .bool y5_4.2.1]) ?_
 refine sp 22 (.agg #[.int .i64 y5_4.1.kind, .int .i64 y5_4.1.line, .int .i64 y5_4.1.id, .int .i64 y5_4.1.step, .int .i64 y5_4.1.state, .int .i64 y5_4.1.head, .slice a5_4_00 (List.length y5_4.1.data) c5_4_00, .int .i64 y5_4.1.next, .int .i64 y5_4.1.told]) ?_
 refine sp 23 (.bool y5_4.2.1) ?_
 refine s_step 3 (by kernel_rfl) (by kernel_rfl) (st_new (T := 29) (cells := #[.int .i64 (0), .int .i64 (0), .int .i64 (0), .int .i64 (0), .int .i64 (0), .int .i64 (0), .slice none 0 0, .int .i64 (0), .int .i64 (0)]) (fun a => .pointer (some a)) (fun _ => by kernel_rfl)) ?_
 rintro _ _ ⟨b5_8, rfl, rfl⟩
 refine s_do (by kernel_rfl) (by kernel_rfl) (st_store (off := 0) (vs := [.int .i64 y5_4.1.kind, .int .i64 y5_4.1.line, .int .i64 y5_4.1.id, .int .i64 y5_4.1.step, .int .i64 y5_4.1.state, .int .i64 y5_4.1.head, .slice a5_4_00 (List.length y5_4.1.data) c5_4_00, .int .i64 y5_4.1.next, .int .i64 y5_4.1.told]) (c' := #[.int .i64 y5_4.1.kind, .int .i64 y5_4.1.line, .int .i64 y5_4.1.id, .int .i64 y5_4.1.step, .int .i64 y5_4.1.state, .int .i64 y5_4.1.head, .slice a5_4_00 (List.length y5_4.1.data) c5_4_00, .int .i64 y5_4.1.next, .int .i64 y5_4.1.told]) (fun _ => by kernel_rfl) .here (by kernel_rfl) (by kernel_rfl) (by kernel_rfl)) ?_
 rintro _ _ ⟨rfl, rfl⟩
 refine sp 4 (.bool y5_4.2.1) ?_
 refine ops_end ?_
 refine ae [(1, .pointer (some ⟨b1_0_0, 0, none⟩)), (3, .pointer (some ⟨b5_8, 0, none⟩)), (4, .bool y5_4.2.1)] ?_
 refine at_then_normal ?_
 refine aq (x := C28 [1,1,1,1,1,0]) (y := C28 [1,1,1,1,1,1]) ?_
 refine ar (id := 6) 4 ?_
 refine sl 24 (.agg #[.int .i64 y5_4.1.kind, .int .i64 y5_4.1.line, .int .i64 y5_4.1.id, .int .i64 y5_4.1.step, .int .i64 y5_4.1.state, .int .i64 y5_4.1.head, .slice a5_4_00 (List.length y5_4.1.data) c5_4_00, .int .i64 y5_4.1.next, .int .i64 y5_4.1.told]) (loadN (off := 0) (vs := [.int .i64 y5_4.1.kind, .int .i64 y5_4.1.line, .int .i64 y5_4.1.id, .int .i64 y5_4.1.step, .int .i64 y5_4.1.state, .int .i64 y5_4.1.head, .slice a5_4_00 (List.length y5_4.1.data) c5_4_00, .int .i64 y5_4.1.next, .int .i64 y5_4.1.told]) 9 (fun _ => by kernel_rfl) (holds_own .here) rfl (by exact ⟨rfl, rfl, rfl, rfl, rfl, rfl, rfl, rfl, rfl, trivial⟩)) ?_
 obtain ⟨y6_1, hy6_1, H⟩ := bindE H
 refine s_call 25 58 #[.agg #[.int .i64 y5_4.1.kind, .int .i64 y5_4.1.line, .int .i64 y5_4.1.id, .int .i64 y5_4.1.step, .int .i64 y5_4.1.state, .int .i64 y5_4.1.head, .slice a5_4_00 (List.length y5_4.1.data) c5_4_00, .int .i64 y5_4.1.next, .int .i64 y5_4.1.told], .int .i64 (2), .int .i64 (0)] (by kernel_rfl) (by kernel_rfl) (fun _ => by kernel_rfl) (DAskF_tr a5_4_00 c5_4_00 y5_4.1 (2 : Int) (0 : Int) (ImmR.reads (k := 1) (.there .here)) y6_1 hy6_1) ?_
 rintro _ _ ⟨a6_1_00, c6_1_00, rfl, rfl⟩
 refine s_step 5 (by kernel_rfl) (by kernel_rfl) (st_new (T := 33) (cells := #[.int .i64 (0), .int .i64 (0), .int .i64 (0), .int .i64 (0), .int .i64 (0), .int .i64 (0), .int .i64 (0), .bool false, .slice none 0 0]) (fun a => .pointer (some a)) (fun _ => by kernel_rfl)) ?_
 rintro _ _ ⟨b6_2, rfl, rfl⟩
 refine s_do (by kernel_rfl) (by kernel_rfl) (st_store (off := 0) (vs := [.int .i64 y6_1.kind, .int .i64 y6_1.src, .int .i64 y6_1.dst, .int .i64 y6_1.id, .int .i64 y6_1.line, .int .i64 y6_1.ptr, .int .i64 y6_1.state, .bool y6_1.flag, .slice a6_1_00 (List.length y6_1.data) c6_1_00]) (c' := #[.int .i64 y6_1.kind, .int .i64 y6_1.src, .int .i64 y6_1.dst, .int .i64 y6_1.id, .int .i64 y6_1.line, .int .i64 y6_1.ptr, .int .i64 y6_1.state, .bool y6_1.flag, .slice a6_1_00 (List.length y6_1.data) c6_1_00]) (fun _ => by kernel_rfl) .here (by kernel_rfl) (by kernel_rfl) (by kernel_rfl)) ?_
 rintro _ _ ⟨rfl, rfl⟩
 refine ops_end ?_
 refine ae [(1, .pointer (some ⟨b1_0_0, 0, none⟩)), (4, .bool y5_4.2.1), (5, .pointer (some ⟨b6_2, 0, none⟩))] ?_
 refine at_then_normal ?_
 refine aq (x := C28 [1,1,1,1,1,1,0]) (y := C28 [1,1,1,1,1,1,1]) ?_
 refine ar (id := 7) 39 ?_
 refine sp 26 (.bool y5_4.2.1) ?_
 rcases Bool.eq_false_or_eq_true (y5_4.2.1) with h1 | h1
 ·replace H := bifT H h1
  refine sr 27 (.bool true) (run_eq (v := .bool (y5_4.2.1)) (fun _ => by kernel_rfl) (congrArg Value.bool h1)) ?_
  refine sp 28 (.pointer (some ⟨b6_2, 0, none⟩)) ?_
  refine sl 29 (.int .i64 y6_1.kind) (load1 (off := 0) (fun _ => by kernel_rfl) (holds_own .here) (by kernel_rfl)) ?_
  refine sp 30 (.bool (decide (y6_1.kind = (2 : Int)))) ?_
  refine sp 31 (.bool (decide (y6_1.kind = (2 : Int)))) ?_
  rcases Bool.eq_false_or_eq_true (decide (y6_1.kind = (2 : Int))) with h2 | h2
  ·replace H := bifT H h2
   refine sr 32 (.bool true) (run_eq (v := .bool (decide (y6_1.kind = (2 : Int)))) (fun _ => by kernel_rfl) (congrArg Value.bool h2)) ?_
   refine sp 33 (.pointer (some ⟨b6_2, 7, none⟩)) ?_
   refine sl 34 (.bool y6_1.flag) (load1 (off := 7) (fun _ => by kernel_rfl) (holds_own .here) (by kernel_rfl)) ?_
   refine sp 35 (.bool y6_1.flag) ?_
   rcases Bool.eq_false_or_eq_true (y6_1.flag) with h3 | h3
   ·replace H := bifT H h3
    refine sr 36 (.bool true) (run_eq (v := .bool (y6_1.flag)) (fun _ => by kernel_rfl) (congrArg Value.bool h3)) ?_
    refine sp 37 (.pointer (some ⟨b6_2, 8, none⟩)) ?_
    refine sl 38 (.slice a6_1_00 (List.length y6_1.data) c6_1_00) (load1 (off := 8) (fun _ => by kernel_rfl) (holds_own .here) (by kernel_rfl)) ?_
    refine sp 39 (.int .i64 (((List.length y6_1.data) : Nat) : Int)) ?_
    refine sp 40 (.bool (decide ((((List.length y6_1.data) : Nat) : Int) = (1 : Int)))) ?_
    refine sp 41 (.bool (decide ((((List.length y6_1.data) : Nat) : Int) = (1 : Int)))) ?_
    rcases Bool.eq_false_or_eq_true (decide ((((List.length y6_1.data) : Nat) : Int) = (1 : Int))) with h4 | h4
    ·replace H := bifT H h4
     refine sr 42 (.bool true) (run_eq (v := .bool (decide ((((List.length y6_1.data) : Nat) : Int) = (1 : Int)))) (fun _ => by kernel_rfl) (congrArg Value.bool h4)) ?_
     refine sp 43 (.pointer (some ⟨b6_2, 8, none⟩)) ?_
     refine sl 44 (.slice a6_1_00 (List.length y6_1.data) c6_1_00) (load1 (off := 8) (fun _ => by kernel_rfl) (holds_own .here) (by kernel_rfl)) ?_
     obtain ⟨hc7_19_0, H⟩ := chkE H
     refine rows_at (.there .here) (by have := hc7_19_0; simp only [ints_length]; omega) ?_
     intro bb1 oo1 ha1
     refine sr 45 (.pointer (some ⟨bb1, oo1 + (((0 : Int)).toNat * 1 + 0), none⟩)) (index_at (t := 22) (sz := 1) (E := 3) (a := a6_1_00) (m := (List.length y6_1.data)) (c := c6_1_00) (b := bb1) (off := oo1) (i := ((0 : Int)).toNat) (tinfo 3) (fun _ => by kernel_rfl) (by kernel_rfl) (by kernel_rfl) (by kernel_rfl) ha1 (idx_cast hc7_19_0) (idx_nat hc7_19_0) rfl) ?_
     refine sl 46 (.int .i64 (nth y6_1.data (0 : Int))) (load1_at (off := oo1 + (((0 : Int)).toNat * 1 + 0)) (v := .int .i64 (nth y6_1.data (0 : Int))) (fun _ => by kernel_rfl) rfl (reads_cell (k := 1) (RowsA.reads (k := 1) (.there .here)) (ints_rows _) ha1 (nth_row hc7_19_0) (show [(.int .i64 (nth y6_1.data (0 : Int)) : Value)][0]? = some _ from rfl))) ?_
     refine sp 47 (.bool (decide ((nth y6_1.data (0 : Int)) = (7 : Int)))) ?_
     refine sp 48 (.bool (decide ((nth y6_1.data (0 : Int)) = (7 : Int)))) ?_
     rcases Bool.eq_false_or_eq_true (decide ((nth y6_1.data (0 : Int)) = (7 : Int))) with h5 | h5
     ·replace H := bifT H h5
      refine sr 49 (.bool true) (run_eq (v := .bool (decide ((nth y6_1.data (0 : Int)) = (7 : Int)))) (fun _ => by kernel_rfl) (congrArg Value.bool h5)) ?_
      refine sp 50 (.pointer (some ⟨b6_2, 6, none⟩)) ?_
      refine sl 51 (.int .i64 y6_1.state) (load1 (off := 6) (fun _ => by kernel_rfl) (holds_own .here) (by kernel_rfl)) ?_
      refine sp 52 (.bool (decide (y6_1.state = (0 : Int)))) ?_
      refine sp 53 (.bool (decide (y6_1.state = (0 : Int)))) ?_
      rcases Bool.eq_false_or_eq_true (decide (y6_1.state = (0 : Int))) with h6 | h6
      ·replace H := bifT H h6
       refine sr 54 (.bool true) (run_eq (v := .bool (decide (y6_1.state = (0 : Int)))) (fun _ => by kernel_rfl) (congrArg Value.bool h6)) ?_
       refine sp 55 (.pointer (some ⟨b6_2, 5, none⟩)) ?_
       refine sl 56 (.int .i64 y6_1.ptr) (load1 (off := 5) (fun _ => by kernel_rfl) (holds_own .here) (by kernel_rfl)) ?_
       refine sp 57 (.bool (decide (y6_1.ptr = ((-1) : Int)))) ?_
       refine sp 58 (.bool (decide (y6_1.ptr = ((-1) : Int)))) ?_
       rcases Bool.eq_false_or_eq_true (decide (y6_1.ptr = ((-1) : Int))) with h7 | h7
       ·replace H := bifT H h7
        refine sr 59 (.bool true) (run_eq (v := .bool (decide (y6_1.ptr = ((-1) : Int)))) (fun _ => by kernel_rfl) (congrArg Value.bool h7)) ?_
        refine sp 60 (.pointer (some ⟨b1_0_0, 0, none⟩)) ?_
        obtain ⟨y7_35, hy7_35, H⟩ := letE H
        refine s_call 61 39 #[.pointer (some ⟨b1_0_0, 0, none⟩)] (by kernel_rfl) (by kernel_rfl) (fun _ => by kernel_rfl) (Tr.conv (Γ' := (CacheA b1_0_0 y5_4.2.2) :: (Asn.own b6_2 (.cells #[.int .i64 y6_1.kind, .int .i64 y6_1.src, .int .i64 y6_1.dst, .int .i64 y6_1.id, .int .i64 y6_1.line, .int .i64 y6_1.ptr, .int .i64 y6_1.state, .bool y6_1.flag, .slice a6_1_00 (List.length y6_1.data) c6_1_00] 33 (0, 0))) :: (IntsA a6_1_00 c6_1_00 y6_1.data) :: (Asn.own b5_8 (.cells #[.int .i64 y5_4.1.kind, .int .i64 y5_4.1.line, .int .i64 y5_4.1.id, .int .i64 y5_4.1.step, .int .i64 y5_4.1.state, .int .i64 y5_4.1.head, .slice a5_4_00 (List.length y5_4.1.data) c5_4_00, .int .i64 y5_4.1.next, .int .i64 y5_4.1.told] 29 (0, 0))) :: (ImmI a5_4_00 y5_4.1.data) :: (ImmI a5_0_00 y5_0.data) :: (IntsA (some ⟨b5_2, 0, none⟩) 1 l5_2) :: (IntsA a4_2_00 c4_2_00 y4_2.data) :: (IntsA (some ⟨b4_1, 0, none⟩) 1 l4_1) :: (RChA b1_0_1 y1_0.2) :: Γ) (fun w hw => (Sat.less (.take (.there (.there (.there (.there .here)))) (.take .here (.take .here (.take .here (.take .here (.take .here (.take .here (.take .here (.take .here (.take .here .refl)))))))))) hw)) (LenF_tr b1_0_0 y5_4.2.2 y7_35 hy7_35)) ?_
        rintro _ _ ⟨rfl, rfl⟩
        refine sp 62 (.bool (decide (y7_35 = (0 : Int)))) ?_
        refine sp 63 (.bool (decide (y7_35 = (0 : Int)))) ?_
        refine sp 0 (.bool (decide (y7_35 = (0 : Int)))) ?_
        refine ops_end ?_
        refine ae [(0, .bool (decide (y7_35 = (0 : Int))))] ?_
        refine at_then_normal ?_
        refine at_ret (by kernel_rfl) ?_
        obtain rfl := someE H
        refine at_backR [.bool (decide (y7_35 = (0 : Int)))] (Γ) (rs := [.tmp 0]) (by kernel_rfl) (.cons (.tmp (by kernel_rfl)) .nil) (fun w hw => (Sat.less (.drop .here (.drop .here (.drop .here (.drop .here (.drop .here (.drop .here (.drop .here (.drop .here (.drop .here (.drop .here .refl)))))))))) hw)) ?_
        exact ⟨rfl, rfl⟩
       ·replace H := bifF H h7
        refine sr 59 (.bool false) (run_eq (v := .bool (decide (y6_1.ptr = ((-1) : Int)))) (fun _ => by kernel_rfl) (congrArg Value.bool h7)) ?_
        refine sa 60 ?_
        refine sa 61 ?_
        refine sa 62 ?_
        refine sp 63 (.bool false) ?_
        refine sp 0 (.bool false) ?_
        refine ops_end ?_
        refine ae [(0, .bool false)] ?_
        refine at_then_normal ?_
        refine at_ret (by kernel_rfl) ?_
        obtain rfl := someE H
        refine at_backR [.bool false] (Γ) (rs := [.tmp 0]) (by kernel_rfl) (.cons (.tmp (by kernel_rfl)) .nil) (fun w hw => (Sat.less (.drop .here (.drop .here (.drop .here (.drop .here (.drop .here (.drop .here (.drop .here (.drop .here (.drop .here (.drop .here .refl)))))))))) hw)) ?_
        exact ⟨rfl, rfl⟩
      ·replace H := bifF H h6
       refine sr 54 (.bool false) (run_eq (v := .bool (decide (y6_1.state = (0 : Int)))) (fun _ => by kernel_rfl) (congrArg Value.bool h6)) ?_
       refine sa 55 ?_
       refine sa 56 ?_
       refine sa 57 ?_
       refine sp 58 (.bool false) ?_
       refine sp 59 (.bool false) ?_
       refine sa 60 ?_
       refine sa 61 ?_
       refine sa 62 ?_
       refine sp 63 (.bool false) ?_
       refine sp 0 (.bool false) ?_
       refine ops_end ?_
       refine ae [(0, .bool false)] ?_
       refine at_then_normal ?_
       refine at_ret (by kernel_rfl) ?_
       obtain rfl := someE H
       refine at_backR [.bool false] (Γ) (rs := [.tmp 0]) (by kernel_rfl) (.cons (.tmp (by kernel_rfl)) .nil) (fun w hw => (Sat.less (.drop .here (.drop .here (.drop .here (.drop .here (.drop .here (.drop .here (.drop .here (.drop .here (.drop .here (.drop .here .refl)))))))))) hw)) ?_
       exact ⟨rfl, rfl⟩
     ·replace H := bifF H h5
      refine sr 49 (.bool false) (run_eq (v := .bool (decide ((nth y6_1.data (0 : Int)) = (7 : Int)))) (fun _ => by kernel_rfl) (congrArg Value.bool h5)) ?_
      refine sa 50 ?_
      refine sa 51 ?_
      refine sa 52 ?_
      refine sp 53 (.bool false) ?_
      refine sp 54 (.bool false) ?_
      refine sa 55 ?_
      refine sa 56 ?_
      refine sa 57 ?_
      refine sp 58 (.bool false) ?_
      refine sp 59 (.bool false) ?_
      refine sa 60 ?_
      refine sa 61 ?_
      refine sa 62 ?_
      refine sp 63 (.bool false) ?_
      refine sp 0 (.bool false) ?_
      refine ops_end ?_
      refine ae [(0, .bool false)] ?_
      refine at_then_normal ?_
      refine at_ret (by kernel_rfl) ?_
      obtain rfl := someE H
      refine at_backR [.bool false] (Γ) (rs := [.tmp 0]) (by kernel_rfl) (.cons (.tmp (by kernel_rfl)) .nil) (fun w hw => (Sat.less (.drop .here (.drop .here (.drop .here (.drop .here (.drop .here (.drop .here (.drop .here (.drop .here (.drop .here (.drop .here .refl)))))))))) hw)) ?_
      exact ⟨rfl, rfl⟩
    ·replace H := bifF H h4
     refine sr 42 (.bool false) (run_eq (v := .bool (decide ((((List.length y6_1.data) : Nat) : Int) = (1 : Int)))) (fun _ => by kernel_rfl) (congrArg Value.bool h4)) ?_
     refine sa 43 ?_
     refine sa 44 ?_
     refine sa 45 ?_
     refine sa 46 ?_
     refine sa 47 ?_
     refine sp 48 (.bool false) ?_
     refine sp 49 (.bool false) ?_
     refine sa 50 ?_
     refine sa 51 ?_
     refine sa 52 ?_
     refine sp 53 (.bool false) ?_
     refine sp 54 (.bool false) ?_
     refine sa 55 ?_
     refine sa 56 ?_
     refine sa 57 ?_
     refine sp 58 (.bool false) ?_
     refine sp 59 (.bool false) ?_
     refine sa 60 ?_
     refine sa 61 ?_
     refine sa 62 ?_
     refine sp 63 (.bool false) ?_
     refine sp 0 (.bool false) ?_
     refine ops_end ?_
     refine ae [(0, .bool false)] ?_
     refine at_then_normal ?_
     refine at_ret (by kernel_rfl) ?_
     obtain rfl := someE H
     refine at_backR [.bool false] (Γ) (rs := [.tmp 0]) (by kernel_rfl) (.cons (.tmp (by kernel_rfl)) .nil) (fun w hw => (Sat.less (.drop .here (.drop .here (.drop .here (.drop .here (.drop .here (.drop .here (.drop .here (.drop .here (.drop .here (.drop .here .refl)))))))))) hw)) ?_
     exact ⟨rfl, rfl⟩
   ·replace H := bifF H h3
    refine sr 36 (.bool false) (run_eq (v := .bool (y6_1.flag)) (fun _ => by kernel_rfl) (congrArg Value.bool h3)) ?_
    refine sa 37 ?_
    refine sa 38 ?_
    refine sa 39 ?_
    refine sa 40 ?_
    refine sp 41 (.bool false) ?_
    refine sp 42 (.bool false) ?_
    refine sa 43 ?_
    refine sa 44 ?_
    refine sa 45 ?_
    refine sa 46 ?_
    refine sa 47 ?_
    refine sp 48 (.bool false) ?_
    refine sp 49 (.bool false) ?_
    refine sa 50 ?_
    refine sa 51 ?_
    refine sa 52 ?_
    refine sp 53 (.bool false) ?_
    refine sp 54 (.bool false) ?_
    refine sa 55 ?_
    refine sa 56 ?_
    refine sa 57 ?_
    refine sp 58 (.bool false) ?_
    refine sp 59 (.bool false) ?_
    refine sa 60 ?_
    refine sa 61 ?_
    refine sa 62 ?_
    refine sp 63 (.bool false) ?_
    refine sp 0 (.bool false) ?_
    refine ops_end ?_
    refine ae [(0, .bool false)] ?_
    refine at_then_normal ?_
    refine at_ret (by kernel_rfl) ?_
    obtain rfl := someE H
    refine at_backR [.bool false] (Γ) (rs := [.tmp 0]) (by kernel_rfl) (.cons (.tmp (by kernel_rfl)) .nil) (fun w hw => (Sat.less (.drop .here (.drop .here (.drop .here (.drop .here (.drop .here (.drop .here (.drop .here (.drop .here (.drop .here (.drop .here .refl)))))))))) hw)) ?_
    exact ⟨rfl, rfl⟩
  ·replace H := bifF H h2
   refine sr 32 (.bool false) (run_eq (v := .bool (decide (y6_1.kind = (2 : Int)))) (fun _ => by kernel_rfl) (congrArg Value.bool h2)) ?_
   refine sa 33 ?_
   refine sa 34 ?_
   refine sp 35 (.bool false) ?_
   refine sp 36 (.bool false) ?_
   refine sa 37 ?_
   refine sa 38 ?_
   refine sa 39 ?_
   refine sa 40 ?_
   refine sp 41 (.bool false) ?_
   refine sp 42 (.bool false) ?_
   refine sa 43 ?_
   refine sa 44 ?_
   refine sa 45 ?_
   refine sa 46 ?_
   refine sa 47 ?_
   refine sp 48 (.bool false) ?_
   refine sp 49 (.bool false) ?_
   refine sa 50 ?_
   refine sa 51 ?_
   refine sa 52 ?_
   refine sp 53 (.bool false) ?_
   refine sp 54 (.bool false) ?_
   refine sa 55 ?_
   refine sa 56 ?_
   refine sa 57 ?_
   refine sp 58 (.bool false) ?_
   refine sp 59 (.bool false) ?_
   refine sa 60 ?_
   refine sa 61 ?_
   refine sa 62 ?_
   refine sp 63 (.bool false) ?_
   refine sp 0 (.bool false) ?_
   refine ops_end ?_
   refine ae [(0, .bool false)] ?_
   refine at_then_normal ?_
   refine at_ret (by kernel_rfl) ?_
   obtain rfl := someE H
   refine at_backR [.bool false] (Γ) (rs := [.tmp 0]) (by kernel_rfl) (.cons (.tmp (by kernel_rfl)) .nil) (fun w hw => (Sat.less (.drop .here (.drop .here (.drop .here (.drop .here (.drop .here (.drop .here (.drop .here (.drop .here (.drop .here (.drop .here .refl)))))))))) hw)) ?_
   exact ⟨rfl, rfl⟩
 ·replace H := bifF H h1
  refine sr 27 (.bool false) (run_eq (v := .bool (y5_4.2.1)) (fun _ => by kernel_rfl) (congrArg Value.bool h1)) ?_
  refine sa 28 ?_
  refine sa 29 ?_
  refine sa 30 ?_
  refine sp 31 (.bool false) ?_
  refine sp 32 (.bool false) ?_
  refine sa 33 ?_
  refine sa 34 ?_
  refine sp 35 (.bool false) ?_
  refine sp 36 (.bool false) ?_
  refine sa 37 ?_
  refine sa 38 ?_
  refine sa 39 ?_
  refine sa 40 ?_
  refine sp 41 (.bool false) ?_
  refine sp 42 (.bool false) ?_
  refine sa 43 ?_
  refine sa 44 ?_
  refine sa 45 ?_
  refine sa 46 ?_
  refine sa 47 ?_
  refine sp 48 (.bool false) ?_
  refine sp 49 (.bool false) ?_
  refine sa 50 ?_
  refine sa 51 ?_
  refine sa 52 ?_
  refine sp 53 (.bool false) ?_
  refine sp 54 (.bool false) ?_
  refine sa 55 ?_
  refine sa 56 ?_
  refine sa 57 ?_
  refine sp 58 (.bool false) ?_
  refine sp 59 (.bool false) ?_
  refine sa 60 ?_
  refine sa 61 ?_
  refine sa 62 ?_
  refine sp 63 (.bool false) ?_
  refine sp 0 (.bool false) ?_
  refine ops_end ?_
  refine ae [(0, .bool false)] ?_
  refine at_then_normal ?_
  refine at_ret (by kernel_rfl) ?_
  obtain rfl := someE H
  refine at_backR [.bool false] (Γ) (rs := [.tmp 0]) (by kernel_rfl) (.cons (.tmp (by kernel_rfl)) .nil) (fun w hw => (Sat.less (.drop .here (.drop .here (.drop .here (.drop .here (.drop .here (.drop .here (.drop .here (.drop .here (.drop .here (.drop .here .refl)))))))))) hw)) ?_
  exact ⟨rfl, rfl⟩
def rolloutNextS_j3 (y20_4 : DealS × Bool × CacheS) (y1_1 : DealS) (y19_2 : (List Int)) (e3_30 : Bool) (e3_b21_0_0 : Int) (e3_b21_0_1 : Int) (e3_b21_0_2 : Int) (e3_b21_0_3 : Int) (e3_b21_0_4 : Int) (e3_b21_0_5 : Int) (e3_b21_0_6x : List Int) (e3_b21_0_7 : Int) (e3_b21_0_8 : Int) (e3_b5_3_1 : CacheS) : Option (Bool) :=
 (bif (y20_4.2.1 == e3_30) then (same13S y20_4.1 (⟨e3_b21_0_0, e3_b21_0_1, e3_b21_0_2, e3_b21_0_3, e3_b21_0_4, e3_b21_0_5, e3_b21_0_6x, e3_b21_0_7, e3_b21_0_8⟩ : DealS)).bind fun y25_6 => (bif y25_6 then (sameCS y20_4.2.2 e3_b5_3_1).bind fun y25_11 => (bif y25_11 then (ksameS y1_1.data y19_2).bind fun y25_17 => (bif y25_17 then (wakes16S).bind fun y25_20 => some y25_20 else some false) else some false) else some false) else some false)
def rolloutNextS_j2 (y1_1 : DealS) (e0_b1_2_0 : Int) (y4_1 : Int) (e1_b5_3_0 : CacheS) (y13_2 : PktS) (e1_b5_3_1 : CacheS) (e2_b13_3_0 : Int) (e2_b13_3_3 : Int) (e2_b13_3_4 : Int) : Option (Bool) :=
 (copyS y1_1.data).bind fun y19_2 => (rnextS (⟨e0_b1_2_0, y1_1.line, y1_1.id, y1_1.step, y1_1.state, y1_1.head, y1_1.data, y1_1.next, y1_1.told⟩ : DealS) y4_1 e1_b5_3_0 (⟨e2_b13_3_0, y13_2.src, y13_2.dst, e2_b13_3_3, e2_b13_3_4, y13_2.ptr, y13_2.state, y13_2.flag, y13_2.data⟩ : PktS)).bind fun y20_4 => (bif decide (e0_b1_2_0 = (3 : Int)) then (rnext7S (⟨e0_b1_2_0, y1_1.line, y1_1.id, y1_1.step, y1_1.state, y1_1.head, y1_1.data, y1_1.next, y1_1.told⟩ : DealS) y4_1 e1_b5_3_1 (⟨e2_b13_3_0, y13_2.src, y13_2.dst, e2_b13_3_3, e2_b13_3_4, y13_2.ptr, y13_2.state, y13_2.flag, y13_2.data⟩ : PktS)).bind fun y24_5 => rolloutNextS_j3 y20_4 y1_1 y19_2 y24_5.2.1 y24_5.1.kind y24_5.1.line y24_5.1.id y24_5.1.step y24_5.1.state y24_5.1.head y24_5.1.data y24_5.1.next y24_5.1.told y24_5.2.2 else rolloutNextS_j3 y20_4 y1_1 y19_2 false 0 0 0 0 0 0 ([] : List Int) 0 0 e1_b5_3_1)
def rolloutNextS_j1 (p : PktS) (how : Int) (fit : Bool) (y1_1 : DealS) (e0_b1_2_0 : Int) (y4_1 : Int) (e1_b5_3_0 : CacheS) (e1_b5_3_1 : CacheS) : Option (Bool) :=
 (plpacketS p how).bind fun y13_2 => (bif fit then letP ([0, 7, 9, 9, 8, 8, 8, 0] : List Int) fun l16_0 => chk (0 ≤ y1_1.step ∧ y1_1.step < ((l16_0.length : Nat) : Int)) ((bif !(decide ((nth l16_0 y1_1.step) = (0 : Int))) then rolloutNextS_j2 y1_1 e0_b1_2_0 y4_1 e1_b5_3_0 y13_2 e1_b5_3_1 (nth l16_0 y1_1.step) y1_1.id y1_1.line else rolloutNextS_j2 y1_1 e0_b1_2_0 y4_1 e1_b5_3_0 y13_2 e1_b5_3_1 y13_2.kind y1_1.id y1_1.line)) else rolloutNextS_j2 y1_1 e0_b1_2_0 y4_1 e1_b5_3_0 y13_2 e1_b5_3_1 y13_2.kind y13_2.id y13_2.line)
def rolloutNextS_j4 (y5_3 : CacheS × CacheS) (y1_1 : DealS) (p : PktS) (how : Int) (fit : Bool) (e0_b1_2_0 : Int) (y4_1 : Int) (e4_62 : Bool) : Option (Bool) :=
 (bif e4_62 then (victimS y5_3.1 y1_1.line).bind fun y10_3 => (dropS y5_3.1 y10_3.1).bind fun y11_2 => (rdropS y5_3.2 y10_3.1).bind fun y12_2 => rolloutNextS_j1 p how fit y1_1 e0_b1_2_0 y4_1 y11_2.2.2 y12_2.2.2 else rolloutNextS_j1 p how fit y1_1 e0_b1_2_0 y4_1 y5_3.1 y5_3.2)
def rolloutNextS_j0 (node : Int) (lines : List Int) (links : List Int) (data : List Int) (y1_1 : DealS) (p : PktS) (how : Int) (fit : Bool) (e0_b1_2_0 : Int) : Option (Bool) :=
 (withinS node (4 : Int)).bind fun y4_1 => (bothS lines links data).bind fun y5_3 => (findS y5_3.1 y1_1.line).bind fun y8_3 => (bif !y8_3.2 then (fullS y5_3.1 y1_1.line).bind fun y9_6 => rolloutNextS_j4 y5_3 y1_1 p how fit e0_b1_2_0 y4_1 y9_6 else rolloutNextS_j4 y5_3 y1_1 p how fit e0_b1_2_0 y4_1 false)
def rolloutNextS (x : RawS) (lines : List Int) (links : List Int) (data : List Int) (p : PktS) (how : Int) (node : Int) (fit : Bool) : Option (Bool) :=
 (deal13S x).bind fun y1_1 => (bif !(decide ((how.tmod (5 : Int)) = (4 : Int))) then rolloutNextS_j0 node lines links data y1_1 p how fit 3 else rolloutNextS_j0 node lines links data y1_1 p how fit y1_1.kind)
noncomputable def C6 (p : List Nat) : Code := codeAt (bodyOf Try.f6) p
set_option maxRecDepth 100000 in
set_option maxHeartbeats 8000000 in
theorem RolloutNextF_tr {W0 : World} {Γ : List Asn} (xa : Option Addr) (xcap : Nat) (x : RawS) (linesa : Option Addr) (linescap : Nat) (lines : List Int) (linksa : Option Addr) (linkscap : Nat) (links : List Int) (dataa : Option Addr) (datacap : Nat) (data : List Int) (pa : Option Addr) (pcap : Nat) (p : PktS) (how : Int) (node : Int) (fit : Bool) (hrxa : Reads W0 Γ xa (ints x.data)) (hcxa : x.data.length ≤ xcap) (hrlinesa : Reads W0 Γ linesa (ints lines)) (hrlinksa : Reads W0 Γ linksa (ints links)) (hrdataa : Reads W0 Γ dataa (ints data)) (hcdataa : data.length ≤ datacap) (hrpa : Reads W0 Γ pa (ints p.data)) (hcpa : p.data.length ≤ pcap) (y : Bool) (H : rolloutNextS x lines links data p how node fit = some y) : Tr Try.prog 6 #[.agg #[.int .i64 x.kind, .int .i64 x.line, .int .i64 x.id, .int .i64 x.step, .int .i64 x.state, .int .i64 x.head, .int .i64 x.next, .int .i64 x.told, .slice xa (List.length x.data) xcap], .slice linesa (List.length lines) linescap, .slice linksa (List.length links) linkscap, .slice dataa (List.length data) datacap, .agg #[.int .i64 p.kind, .int .i64 p.src, .int .i64 p.dst, .int .i64 p.id, .int .i64 p.line, .int .i64 p.ptr, .int .i64 p.state, .bool p.flag, .slice pa (List.length p.data) pcap], .int .i64 how, .int .i64 node, .bool fit] W0 (Γ) (fun r Δ => r = .bool y ∧ Δ = Γ) := by
 unfold rolloutNextS at H
 refine Tr.enter (fn := Try.f6) (c := C6 []) (args := [.agg #[.int .i64 x.kind, .int .i64 x.line, .int .i64 x.id, .int .i64 x.step, .int .i64 x.state, .int .i64 x.head, .int .i64 x.next, .int .i64 x.told, .slice xa (List.length x.data) xcap], .slice linesa (List.length lines) linescap, .slice linksa (List.length links) linkscap, .slice dataa (List.length data) datacap, .agg #[.int .i64 p.kind, .int .i64 p.src, .int .i64 p.dst, .int .i64 p.id, .int .i64 p.line, .int .i64 p.ptr, .int .i64 p.state, .bool p.flag, .slice pa (List.length p.data) pcap], .int .i64 how, .int .i64 node, .bool fit]) 140 Try.func6 (by kernel_rfl) (by kernel_rfl) ?_
 refine ae [(0, .agg #[.int .i64 x.kind, .int .i64 x.line, .int .i64 x.id, .int .i64 x.step, .int .i64 x.state, .int .i64 x.head, .int .i64 x.next, .int .i64 x.told, .slice xa (List.length x.data) xcap]), (1, .slice linesa (List.length lines) linescap), (2, .slice linksa (List.length links) linkscap), (3, .slice dataa (List.length data) datacap), (4, .agg #[.int .i64 p.kind, .int .i64 p.src, .int .i64 p.dst, .int .i64 p.id, .int .i64 p.line, .int .i64 p.ptr, .int .i64 p.state, .bool p.flag, .slice pa (List.length p.data) pcap]), (5, .int .i64 how), (6, .int .i64 node), (7, .bool fit)] ?_
 refine aq (x := C6 [0]) (y := C6 [1]) ?_
 refine ar (id := 0) 3 ?_
 refine s_step 8 (by kernel_rfl) (by kernel_rfl) (st_new (T := 56) (cells := #[.int .i64 x.kind, .int .i64 x.line, .int .i64 x.id, .int .i64 x.step, .int .i64 x.state, .int .i64 x.head, .int .i64 x.next, .int .i64 x.told, .slice xa (List.length x.data) xcap]) (fun a => .pointer (some a)) (fun _ => by kernel_rfl)) ?_
 rintro _ _ ⟨b0_0, rfl, rfl⟩
 refine s_step 12 (by kernel_rfl) (by kernel_rfl) (st_new (T := 33) (cells := #[.int .i64 p.kind, .int .i64 p.src, .int .i64 p.dst, .int .i64 p.id, .int .i64 p.line, .int .i64 p.ptr, .int .i64 p.state, .bool p.flag, .slice pa (List.length p.data) pcap]) (fun a => .pointer (some a)) (fun _ => by kernel_rfl)) ?_
 rintro _ _ ⟨b0_1, rfl, rfl⟩
 refine sp 16 (.bool false) ?_
 refine ops_end ?_
 refine ae [(1, .slice linesa (List.length lines) linescap), (2, .slice linksa (List.length links) linkscap), (3, .slice dataa (List.length data) datacap), (5, .int .i64 how), (6, .int .i64 node), (7, .bool fit), (8, .pointer (some ⟨b0_0, 0, none⟩)), (12, .pointer (some ⟨b0_1, 0, none⟩))] ?_
 refine at_then_normal ?_
 refine aq (x := C6 [1,0]) (y := C6 [1,1]) ?_
 refine ar (id := 1) 4 ?_
 refine sl 31 (.agg #[.int .i64 x.kind, .int .i64 x.line, .int .i64 x.id, .int .i64 x.step, .int .i64 x.state, .int .i64 x.head, .int .i64 x.next, .int .i64 x.told, .slice xa (List.length x.data) xcap]) (loadN (off := 0) (vs := [.int .i64 x.kind, .int .i64 x.line, .int .i64 x.id, .int .i64 x.step, .int .i64 x.state, .int .i64 x.head, .int .i64 x.next, .int .i64 x.told, .slice xa (List.length x.data) xcap]) 9 (fun _ => by kernel_rfl) (holds_own (.there .here)) rfl (by exact ⟨rfl, rfl, rfl, rfl, rfl, rfl, rfl, rfl, rfl, trivial⟩)) ?_
 obtain ⟨y1_1, hy1_1, H⟩ := bindE H
 refine s_call 32 20 #[.agg #[.int .i64 x.kind, .int .i64 x.line, .int .i64 x.id, .int .i64 x.step, .int .i64 x.state, .int .i64 x.head, .int .i64 x.next, .int .i64 x.told, .slice xa (List.length x.data) xcap]] (by kernel_rfl) (by kernel_rfl) (fun _ => by kernel_rfl) (Deal13F_tr xa xcap x (Reads.conv (fun w hw => hw.less (.drop .here (.drop .here .refl))) hrxa) hcxa y1_1 hy1_1) ?_
 rintro _ _ ⟨a1_1_00, c1_1_00, rfl, rfl⟩
 refine s_step 17 (by kernel_rfl) (by kernel_rfl) (st_new (T := 29) (cells := #[.int .i64 (0), .int .i64 (0), .int .i64 (0), .int .i64 (0), .int .i64 (0), .int .i64 (0), .slice none 0 0, .int .i64 (0), .int .i64 (0)]) (fun a => .pointer (some a)) (fun _ => by kernel_rfl)) ?_
 rintro _ _ ⟨b1_2, rfl, rfl⟩
 refine s_do (by kernel_rfl) (by kernel_rfl) (st_store (off := 0) (vs := [.int .i64 y1_1.kind, .int .i64 y1_1.line, .int .i64 y1_1.id, .int .i64 y1_1.step, .int .i64 y1_1.state, .int .i64 y1_1.head, .slice a1_1_00 (List.length y1_1.data) c1_1_00, .int .i64 y1_1.next, .int .i64 y1_1.told]) (c' := #[.int .i64 y1_1.kind, .int .i64 y1_1.line, .int .i64 y1_1.id, .int .i64 y1_1.step, .int .i64 y1_1.state, .int .i64 y1_1.head, .slice a1_1_00 (List.length y1_1.data) c1_1_00, .int .i64 y1_1.next, .int .i64 y1_1.told]) (fun _ => by kernel_rfl) .here (by kernel_rfl) (by kernel_rfl) (by kernel_rfl)) ?_
 rintro _ _ ⟨rfl, rfl⟩
 refine ops_end ?_
 refine ae [(1, .slice linesa (List.length lines) linescap), (2, .slice linksa (List.length links) linkscap), (3, .slice dataa (List.length data) datacap), (5, .int .i64 how), (6, .int .i64 node), (7, .bool fit), (12, .pointer (some ⟨b0_1, 0, none⟩)), (17, .pointer (some ⟨b1_2, 0, none⟩))] ?_
 refine at_then_normal ?_
 refine at_seq_join (x := C6 [1,1,0]) (y := C6 [1,1,1]) (fun ff ΔΔ => ∃ (e0_b1_2_0 : Int), rolloutNextS_j0 node lines links data y1_1 p how fit e0_b1_2_0 = some y ∧ ff = [(1, .slice linesa (List.length lines) linescap), (2, .slice linksa (List.length links) linkscap), (3, .slice dataa (List.length data) datacap), (5, .int .i64 how), (6, .int .i64 node), (7, .bool fit), (12, .pointer (some ⟨b0_1, 0, none⟩)), (17, .pointer (some ⟨b1_2, 0, none⟩))] ∧ (Asn.own b1_2 (.cells #[.int .i64 e0_b1_2_0, .int .i64 y1_1.line, .int .i64 y1_1.id, .int .i64 y1_1.step, .int .i64 y1_1.state, .int .i64 y1_1.head, .slice a1_1_00 (List.length y1_1.data) c1_1_00, .int .i64 y1_1.next, .int .i64 y1_1.told] 29 (0, 0))) :: (ImmI a1_1_00 y1_1.data) :: (Asn.own b0_1 (.cells #[.int .i64 p.kind, .int .i64 p.src, .int .i64 p.dst, .int .i64 p.id, .int .i64 p.line, .int .i64 p.ptr, .int .i64 p.state, .bool p.flag, .slice pa (List.length p.data) pcap] 33 (0, 0))) :: Γ = ΔΔ) (by kernel_rfl) ?_ ?_
 ·rintro _ _ ⟨e0_b1_2_0, H, rfl, rfl⟩
  rw [rolloutNextS_j0] at H
  refine aq (x := C6 [1,1,1,0]) (y := C6 [1,1,1,1]) ?_
  refine ar (id := 4) 3 ?_
  refine sp 37 (.int .i64 node) ?_
  obtain ⟨y4_1, hy4_1, H⟩ := bindE H
  refine s_quiet 38 (.int .i64 y4_1) 8 #[.int .i64 node, .int .i64 (4)] (by kernel_rfl) (by kernel_rfl) (fun _ => by kernel_rfl) (WithinF_tr node (4 : Int) y4_1 hy4_1) ?_
  refine sp 6 (.int .i64 y4_1) ?_
  refine ops_end ?_
  refine ae [(1, .slice linesa (List.length lines) linescap), (2, .slice linksa (List.length links) linkscap), (3, .slice dataa (List.length data) datacap), (5, .int .i64 how), (6, .int .i64 y4_1), (7, .bool fit), (12, .pointer (some ⟨b0_1, 0, none⟩)), (17, .pointer (some ⟨b1_2, 0, none⟩))] ?_
  refine at_then_normal ?_
  refine aq (x := C6 [1,1,1,1,0]) (y := C6 [1,1,1,1,1]) ?_
  refine ar (id := 5) 9 ?_
  refine sp 40 (.slice linesa (List.length lines) linescap) ?_
  refine sp 41 (.slice linksa (List.length links) linkscap) ?_
  refine sp 42 (.slice dataa (List.length data) datacap) ?_
  obtain ⟨y5_3, hy5_3, H⟩ := bindE H
  refine s_call 43 7 #[.slice linesa (List.length lines) linescap, .slice linksa (List.length links) linkscap, .slice dataa (List.length data) datacap] (by kernel_rfl) (by kernel_rfl) (fun _ => by kernel_rfl) (BothF_tr linesa linescap lines linksa linkscap links dataa datacap data (Reads.conv (fun w hw => hw.less (.drop .here (.drop .here (.drop .here .refl)))) hrlinesa) (Reads.conv (fun w hw => hw.less (.drop .here (.drop .here (.drop .here .refl)))) hrlinksa) (Reads.conv (fun w hw => hw.less (.drop .here (.drop .here (.drop .here .refl)))) hrdataa) hcdataa y5_3 hy5_3) ?_
  rintro _ _ ⟨b5_3_0, b5_3_1, rfl, rfl⟩
  refine sp 39 (.tuple #[.pointer (some ⟨b5_3_0, 0, none⟩), .pointer (some ⟨b5_3_1, 0, none⟩)]) ?_
  refine sp 44 (.pointer (some ⟨b5_3_0, 0, none⟩)) ?_
  refine sp 45 (.pointer (some ⟨b5_3_1, 0, none⟩)) ?_
  refine sp 18 (.pointer (some ⟨b5_3_0, 0, none⟩)) ?_
  refine sp 19 (.pointer (some ⟨b5_3_1, 0, none⟩)) ?_
  refine ops_end ?_
  refine ae [(5, .int .i64 how), (6, .int .i64 y4_1), (7, .bool fit), (12, .pointer (some ⟨b0_1, 0, none⟩)), (17, .pointer (some ⟨b1_2, 0, none⟩)), (18, .pointer (some ⟨b5_3_0, 0, none⟩)), (19, .pointer (some ⟨b5_3_1, 0, none⟩))] ?_
  refine at_then_normal ?_
  refine aq (x := C6 [1,1,1,1,1,0]) (y := C6 [1,1,1,1,1,1]) ?_
  refine aq (x := C6 [1,1,1,1,1,0,0]) (y := C6 [1,1,1,1,1,0,1]) ?_
  refine ar (id := 6) 2 ?_
  refine sp 46 (.pointer (some ⟨b5_3_0, 0, none⟩)) ?_
  refine sp 47 (.bool false) ?_
  refine ops_end ?_
  refine ae [(5, .int .i64 how), (6, .int .i64 y4_1), (7, .bool fit), (12, .pointer (some ⟨b0_1, 0, none⟩)), (17, .pointer (some ⟨b1_2, 0, none⟩)), (18, .pointer (some ⟨b5_3_0, 0, none⟩)), (19, .pointer (some ⟨b5_3_1, 0, none⟩)), (47, .bool false)] ?_
  refine at_then_normal ?_
  refine at_false (t := false) (x := C6 [1,1,1,1,1,0,1,0]) (y := C6 [1,1,1,1,1,0,1,1]) (o := .tmp 47) (by kernel_rfl) (by kernel_rfl) (by kernel_rfl) rfl ?_
  refine at_skip (by kernel_rfl) ?_
  refine at_then_normal ?_
  refine at_seq_join (x := C6 [1,1,1,1,1,1,0]) (y := C6 [1,1,1,1,1,1,1]) (fun ff ΔΔ => ∃ (e1_b5_3_0 : CacheS) (e1_b5_3_1 : CacheS), rolloutNextS_j1 p how fit y1_1 e0_b1_2_0 y4_1 e1_b5_3_0 e1_b5_3_1 = some y ∧ ff = [(5, .int .i64 how), (6, .int .i64 y4_1), (7, .bool fit), (12, .pointer (some ⟨b0_1, 0, none⟩)), (17, .pointer (some ⟨b1_2, 0, none⟩)), (18, .pointer (some ⟨b5_3_0, 0, none⟩)), (19, .pointer (some ⟨b5_3_1, 0, none⟩))] ∧ (CacheA b5_3_0 e1_b5_3_0) :: (RChA b5_3_1 e1_b5_3_1) :: (Asn.own b1_2 (.cells #[.int .i64 e0_b1_2_0, .int .i64 y1_1.line, .int .i64 y1_1.id, .int .i64 y1_1.step, .int .i64 y1_1.state, .int .i64 y1_1.head, .slice a1_1_00 (List.length y1_1.data) c1_1_00, .int .i64 y1_1.next, .int .i64 y1_1.told] 29 (0, 0))) :: (ImmI a1_1_00 y1_1.data) :: (Asn.own b0_1 (.cells #[.int .i64 p.kind, .int .i64 p.src, .int .i64 p.dst, .int .i64 p.id, .int .i64 p.line, .int .i64 p.ptr, .int .i64 p.state, .bool p.flag, .slice pa (List.length p.data) pcap] 33 (0, 0))) :: Γ = ΔΔ) (by kernel_rfl) ?_ ?_
  ·rintro _ _ ⟨e1_b5_3_0, e1_b5_3_1, H, rfl, rfl⟩
   rw [rolloutNextS_j1] at H
   refine aq (x := C6 [1,1,1,1,1,1,1,0]) (y := C6 [1,1,1,1,1,1,1,1]) ?_
   refine ar (id := 13) 5 ?_
   refine sl 76 (.agg #[.int .i64 p.kind, .int .i64 p.src, .int .i64 p.dst, .int .i64 p.id, .int .i64 p.line, .int .i64 p.ptr, .int .i64 p.state, .bool p.flag, .slice pa (List.length p.data) pcap]) (loadN (off := 0) (vs := [.int .i64 p.kind, .int .i64 p.src, .int .i64 p.dst, .int .i64 p.id, .int .i64 p.line, .int .i64 p.ptr, .int .i64 p.state, .bool p.flag, .slice pa (List.length p.data) pcap]) 9 (fun _ => by kernel_rfl) (holds_own (.there (.there (.there (.there .here))))) rfl (by exact ⟨rfl, rfl, rfl, rfl, rfl, rfl, rfl, rfl, rfl, trivial⟩)) ?_
   refine sp 77 (.int .i64 how) ?_
   obtain ⟨y13_2, hy13_2, H⟩ := bindE H
   refine s_call 78 21 #[.agg #[.int .i64 p.kind, .int .i64 p.src, .int .i64 p.dst, .int .i64 p.id, .int .i64 p.line, .int .i64 p.ptr, .int .i64 p.state, .bool p.flag, .slice pa (List.length p.data) pcap], .int .i64 how] (by kernel_rfl) (by kernel_rfl) (fun _ => by kernel_rfl) (PlPacketF_tr pa pcap p how (Reads.conv (fun w hw => hw.less (.drop .here (.drop .here (.drop .here (.drop .here (.drop .here .refl)))))) hrpa) hcpa y13_2 hy13_2) ?_
   rintro _ _ ⟨a13_2_00, c13_2_00, rfl, rfl⟩
   refine s_step 24 (by kernel_rfl) (by kernel_rfl) (st_new (T := 33) (cells := #[.int .i64 (0), .int .i64 (0), .int .i64 (0), .int .i64 (0), .int .i64 (0), .int .i64 (0), .int .i64 (0), .bool false, .slice none 0 0]) (fun a => .pointer (some a)) (fun _ => by kernel_rfl)) ?_
   rintro _ _ ⟨b13_3, rfl, rfl⟩
   refine s_do (by kernel_rfl) (by kernel_rfl) (st_store (off := 0) (vs := [.int .i64 y13_2.kind, .int .i64 y13_2.src, .int .i64 y13_2.dst, .int .i64 y13_2.id, .int .i64 y13_2.line, .int .i64 y13_2.ptr, .int .i64 y13_2.state, .bool y13_2.flag, .slice a13_2_00 (List.length y13_2.data) c13_2_00]) (c' := #[.int .i64 y13_2.kind, .int .i64 y13_2.src, .int .i64 y13_2.dst, .int .i64 y13_2.id, .int .i64 y13_2.line, .int .i64 y13_2.ptr, .int .i64 y13_2.state, .bool y13_2.flag, .slice a13_2_00 (List.length y13_2.data) c13_2_00]) (fun _ => by kernel_rfl) .here (by kernel_rfl) (by kernel_rfl) (by kernel_rfl)) ?_
   rintro _ _ ⟨rfl, rfl⟩
   refine ops_end ?_
   refine ae [(6, .int .i64 y4_1), (7, .bool fit), (17, .pointer (some ⟨b1_2, 0, none⟩)), (18, .pointer (some ⟨b5_3_0, 0, none⟩)), (19, .pointer (some ⟨b5_3_1, 0, none⟩)), (24, .pointer (some ⟨b13_3, 0, none⟩))] ?_
   refine at_then_normal ?_
   refine at_seq_join (x := C6 [1,1,1,1,1,1,1,1,0]) (y := C6 [1,1,1,1,1,1,1,1,1]) (fun ff ΔΔ => ∃ (e2_b13_3_0 : Int) (e2_b13_3_3 : Int) (e2_b13_3_4 : Int), rolloutNextS_j2 y1_1 e0_b1_2_0 y4_1 e1_b5_3_0 y13_2 e1_b5_3_1 e2_b13_3_0 e2_b13_3_3 e2_b13_3_4 = some y ∧ ff = [(6, .int .i64 y4_1), (17, .pointer (some ⟨b1_2, 0, none⟩)), (18, .pointer (some ⟨b5_3_0, 0, none⟩)), (19, .pointer (some ⟨b5_3_1, 0, none⟩)), (24, .pointer (some ⟨b13_3, 0, none⟩))] ∧ (Asn.own b13_3 (.cells #[.int .i64 e2_b13_3_0, .int .i64 y13_2.src, .int .i64 y13_2.dst, .int .i64 e2_b13_3_3, .int .i64 e2_b13_3_4, .int .i64 y13_2.ptr, .int .i64 y13_2.state, .bool y13_2.flag, .slice a13_2_00 (List.length y13_2.data) c13_2_00] 33 (0, 0))) :: (IntsA a13_2_00 c13_2_00 y13_2.data) :: (CacheA b5_3_0 e1_b5_3_0) :: (RChA b5_3_1 e1_b5_3_1) :: (Asn.own b1_2 (.cells #[.int .i64 e0_b1_2_0, .int .i64 y1_1.line, .int .i64 y1_1.id, .int .i64 y1_1.step, .int .i64 y1_1.state, .int .i64 y1_1.head, .slice a1_1_00 (List.length y1_1.data) c1_1_00, .int .i64 y1_1.next, .int .i64 y1_1.told] 29 (0, 0))) :: (ImmI a1_1_00 y1_1.data) :: Γ = ΔΔ) (by kernel_rfl) ?_ ?_
   ·rintro _ _ ⟨e2_b13_3_0, e2_b13_3_3, e2_b13_3_4, H, rfl, rfl⟩
    rw [rolloutNextS_j2] at H
    refine aq (x := C6 [1,1,1,1,1,1,1,1,1,0]) (y := C6 [1,1,1,1,1,1,1,1,1,1]) ?_
    refine ar (id := 19) 4 ?_
    refine sp 95 (.pointer (some ⟨b1_2, 6, none⟩)) ?_
    refine sl 96 (.slice a1_1_00 (List.length y1_1.data) c1_1_00) (load1 (off := 6) (fun _ => by kernel_rfl) (holds_own (.there (.there (.there (.there .here))))) (by kernel_rfl)) ?_
    obtain ⟨y19_2, hy19_2, H⟩ := bindE H
    refine s_call 97 22 #[.slice a1_1_00 (List.length y1_1.data) c1_1_00] (by kernel_rfl) (by kernel_rfl) (fun _ => by kernel_rfl) (CopyF_tr a1_1_00 c1_1_00 y1_1.data (ImmR.reads (k := 1) (.there (.there (.there (.there (.there .here)))))) y19_2 hy19_2) ?_
    rintro _ _ ⟨a19_2_00, c19_2_00, rfl, rfl⟩
    refine sp 26 (.slice a19_2_00 (List.length y19_2) c19_2_00) ?_
    refine ops_end ?_
    refine ae [(6, .int .i64 y4_1), (17, .pointer (some ⟨b1_2, 0, none⟩)), (18, .pointer (some ⟨b5_3_0, 0, none⟩)), (19, .pointer (some ⟨b5_3_1, 0, none⟩)), (24, .pointer (some ⟨b13_3, 0, none⟩)), (26, .slice a19_2_00 (List.length y19_2) c19_2_00)] ?_
    refine at_then_normal ?_
    refine aq (x := C6 [1,1,1,1,1,1,1,1,1,1,0]) (y := C6 [1,1,1,1,1,1,1,1,1,1,1]) ?_
    refine ar (id := 20) 11 ?_
    refine sl 99 (.agg #[.int .i64 e0_b1_2_0, .int .i64 y1_1.line, .int .i64 y1_1.id, .int .i64 y1_1.step, .int .i64 y1_1.state, .int .i64 y1_1.head, .slice a1_1_00 (List.length y1_1.data) c1_1_00, .int .i64 y1_1.next, .int .i64 y1_1.told]) (loadN (off := 0) (vs := [.int .i64 e0_b1_2_0, .int .i64 y1_1.line, .int .i64 y1_1.id, .int .i64 y1_1.step, .int .i64 y1_1.state, .int .i64 y1_1.head, .slice a1_1_00 (List.length y1_1.data) c1_1_00, .int .i64 y1_1.next, .int .i64 y1_1.told]) 9 (fun _ => by kernel_rfl) (holds_own (.there (.there (.there (.there (.there .here)))))) rfl (by exact ⟨rfl, rfl, rfl, rfl, rfl, rfl, rfl, rfl, rfl, trivial⟩)) ?_
    refine sp 100 (.int .i64 y4_1) ?_
    refine sp 101 (.pointer (some ⟨b5_3_0, 0, none⟩)) ?_
    refine sl 102 (.agg #[.int .i64 e2_b13_3_0, .int .i64 y13_2.src, .int .i64 y13_2.dst, .int .i64 e2_b13_3_3, .int .i64 e2_b13_3_4, .int .i64 y13_2.ptr, .int .i64 y13_2.state, .bool y13_2.flag, .slice a13_2_00 (List.length y13_2.data) c13_2_00]) (loadN (off := 0) (vs := [.int .i64 e2_b13_3_0, .int .i64 y13_2.src, .int .i64 y13_2.dst, .int .i64 e2_b13_3_3, .int .i64 e2_b13_3_4, .int .i64 y13_2.ptr, .int .i64 y13_2.state, .bool y13_2.flag, .slice a13_2_00 (List.length y13_2.data) c13_2_00]) 9 (fun _ => by kernel_rfl) (holds_own (.there .here)) rfl (by exact ⟨rfl, rfl, rfl, rfl, rfl, rfl, rfl, rfl, rfl, trivial⟩)) ?_
    obtain ⟨y20_4, hy20_4, H⟩ := bindE H
    refine s_call 103 27 #[.agg #[.int .i64 e0_b1_2_0, .int .i64 y1_1.line, .int .i64 y1_1.id, .int .i64 y1_1.step, .int .i64 y1_1.state, .int .i64 y1_1.head, .slice a1_1_00 (List.length y1_1.data) c1_1_00, .int .i64 y1_1.next, .int .i64 y1_1.told], .int .i64 y4_1, .pointer (some ⟨b5_3_0, 0, none⟩), .agg #[.int .i64 e2_b13_3_0, .int .i64 y13_2.src, .int .i64 y13_2.dst, .int .i64 e2_b13_3_3, .int .i64 e2_b13_3_4, .int .i64 y13_2.ptr, .int .i64 y13_2.state, .bool y13_2.flag, .slice a13_2_00 (List.length y13_2.data) c13_2_00]] (by kernel_rfl) (by kernel_rfl) (fun _ => by kernel_rfl) (Tr.conv (Γ' := (ImmI a1_1_00 y1_1.data) :: (CacheA b5_3_0 e1_b5_3_0) :: (ImmI a1_1_00 y1_1.data) :: (IntsA a19_2_00 c19_2_00 y19_2) :: (Asn.own b13_3 (.cells #[.int .i64 e2_b13_3_0, .int .i64 y13_2.src, .int .i64 y13_2.dst, .int .i64 e2_b13_3_3, .int .i64 e2_b13_3_4, .int .i64 y13_2.ptr, .int .i64 y13_2.state, .bool y13_2.flag, .slice a13_2_00 (List.length y13_2.data) c13_2_00] 33 (0, 0))) :: (IntsA a13_2_00 c13_2_00 y13_2.data) :: (RChA b5_3_1 e1_b5_3_1) :: (Asn.own b1_2 (.cells #[.int .i64 e0_b1_2_0, .int .i64 y1_1.line, .int .i64 y1_1.id, .int .i64 y1_1.step, .int .i64 y1_1.state, .int .i64 y1_1.head, .slice a1_1_00 (List.length y1_1.data) c1_1_00, .int .i64 y1_1.next, .int .i64 y1_1.told] 29 (0, 0))) :: Γ) (fun w hw => (Sat.less (.take .here (.take (.there (.there (.there (.there .here)))) (.take .here (.take .here (.take .here (.take .here (.take .here (.take .here .refl)))))))) (ImmR.dup (Sat.less (.take (.there (.there (.there (.there (.there (.there .here)))))) (.take .here (.take .here (.take .here (.take .here (.take .here (.take .here .refl))))))) hw)))) (RNextF_tr a1_1_00 c1_1_00 (⟨e0_b1_2_0, y1_1.line, y1_1.id, y1_1.step, y1_1.state, y1_1.head, y1_1.data, y1_1.next, y1_1.told⟩ : DealS) y4_1 b5_3_0 e1_b5_3_0 a13_2_00 c13_2_00 (⟨e2_b13_3_0, y13_2.src, y13_2.dst, e2_b13_3_3, e2_b13_3_4, y13_2.ptr, y13_2.state, y13_2.flag, y13_2.data⟩ : PktS) (RowsA.reads (k := 1) (.there (.there (.there .here)))) y20_4 hy20_4)) ?_
    rintro _ _ ⟨a20_4_00, c20_4_00, rfl, rfl⟩
    refine sp 98 (.tuple #[.agg #[.int .i64 y20_4.1.kind, .int .i64 y20_4.1.line, .int .i64 y20_4.1.id, .int .i64 y20_4.1.step, .int .i64 y20_4.1.state, .int .i64 y20_4.1.head, .slice a20_4_00 (List.length y20_4.1.data) c20_4_00, .int .i64 y20_4.1.next, .int .i64 y20_4.1.told], .bool y20_4.2.1]) ?_
    refine sp 104 (.agg #[.int .i64 y20_4.1.kind, .int .i64 y20_4.1.line, .int .i64 y20_4.1.id, .int .i64 y20_4.1.step, .int .i64 y20_4.1.state, .int .i64 y20_4.1.head, .slice a20_4_00 (List.length y20_4.1.data) c20_4_00, .int .i64 y20_4.1.next, .int .i64 y20_4.1.told]) ?_
    refine sp 105 (.bool y20_4.2.1) ?_
    refine s_step 27 (by kernel_rfl) (by kernel_rfl) (st_new (T := 29) (cells := #[.int .i64 (0), .int .i64 (0), .int .i64 (0), .int .i64 (0), .int .i64 (0), .int .i64 (0), .slice none 0 0, .int .i64 (0), .int .i64 (0)]) (fun a => .pointer (some a)) (fun _ => by kernel_rfl)) ?_
    rintro _ _ ⟨b20_8, rfl, rfl⟩
    refine s_do (by kernel_rfl) (by kernel_rfl) (st_store (off := 0) (vs := [.int .i64 y20_4.1.kind, .int .i64 y20_4.1.line, .int .i64 y20_4.1.id, .int .i64 y20_4.1.step, .int .i64 y20_4.1.state, .int .i64 y20_4.1.head, .slice a20_4_00 (List.length y20_4.1.data) c20_4_00, .int .i64 y20_4.1.next, .int .i64 y20_4.1.told]) (c' := #[.int .i64 y20_4.1.kind, .int .i64 y20_4.1.line, .int .i64 y20_4.1.id, .int .i64 y20_4.1.step, .int .i64 y20_4.1.state, .int .i64 y20_4.1.head, .slice a20_4_00 (List.length y20_4.1.data) c20_4_00, .int .i64 y20_4.1.next, .int .i64 y20_4.1.told]) (fun _ => by kernel_rfl) .here (by kernel_rfl) (by kernel_rfl) (by kernel_rfl)) ?_
    rintro _ _ ⟨rfl, rfl⟩
    refine sp 28 (.bool y20_4.2.1) ?_
    refine ops_end ?_
    refine ae [(6, .int .i64 y4_1), (17, .pointer (some ⟨b1_2, 0, none⟩)), (18, .pointer (some ⟨b5_3_0, 0, none⟩)), (19, .pointer (some ⟨b5_3_1, 0, none⟩)), (24, .pointer (some ⟨b13_3, 0, none⟩)), (26, .slice a19_2_00 (List.length y19_2) c19_2_00), (27, .pointer (some ⟨b20_8, 0, none⟩)), (28, .bool y20_4.2.1)] ?_
    refine at_then_normal ?_
    refine aq (x := C6 [1,1,1,1,1,1,1,1,1,1,1,0]) (y := C6 [1,1,1,1,1,1,1,1,1,1,1,1]) ?_
    refine ar (id := 21) 1 ?_
    refine s_step 29 (by kernel_rfl) (by kernel_rfl) (st_new (T := 60) (cells := #[.int .i64 (0), .int .i64 (0), .int .i64 (0), .int .i64 (0), .int .i64 (0), .int .i64 (0), .slice none 0 0, .int .i64 (0), .int .i64 (0)]) (fun a => .pointer (some a)) (fun _ => by kernel_rfl)) ?_
    rintro _ _ ⟨b21_0, rfl, rfl⟩
    refine ops_end ?_
    refine ae [(6, .int .i64 y4_1), (17, .pointer (some ⟨b1_2, 0, none⟩)), (18, .pointer (some ⟨b5_3_0, 0, none⟩)), (19, .pointer (some ⟨b5_3_1, 0, none⟩)), (24, .pointer (some ⟨b13_3, 0, none⟩)), (26, .slice a19_2_00 (List.length y19_2) c19_2_00), (27, .pointer (some ⟨b20_8, 0, none⟩)), (28, .bool y20_4.2.1), (29, .pointer (some ⟨b21_0, 0, none⟩))] ?_
    refine at_then_normal ?_
    refine aq (x := C6 [1,1,1,1,1,1,1,1,1,1,1,1,0]) (y := C6 [1,1,1,1,1,1,1,1,1,1,1,1,1]) ?_
    refine ar (id := 22) 1 ?_
    refine sp 30 (.bool false) ?_
    refine ops_end ?_
    refine ae [(6, .int .i64 y4_1), (17, .pointer (some ⟨b1_2, 0, none⟩)), (18, .pointer (some ⟨b5_3_0, 0, none⟩)), (19, .pointer (some ⟨b5_3_1, 0, none⟩)), (24, .pointer (some ⟨b13_3, 0, none⟩)), (26, .slice a19_2_00 (List.length y19_2) c19_2_00), (27, .pointer (some ⟨b20_8, 0, none⟩)), (28, .bool y20_4.2.1), (29, .pointer (some ⟨b21_0, 0, none⟩)), (30, .bool false)] ?_
    refine at_then_normal ?_
    refine at_seq_join (x := C6 [1,1,1,1,1,1,1,1,1,1,1,1,1,0]) (y := C6 [1,1,1,1,1,1,1,1,1,1,1,1,1,1]) (fun ff ΔΔ => ∃ (e3_30 : Bool) (e3_b21_0_0 : Int) (e3_b21_0_1 : Int) (e3_b21_0_2 : Int) (e3_b21_0_3 : Int) (e3_b21_0_4 : Int) (e3_b21_0_5 : Int) (e3_b21_0_6x : List Int) (e3_b21_0_7 : Int) (e3_b21_0_8 : Int) (e3_b5_3_1 : CacheS) (e3_b21_0_6a : Option Addr) (e3_b21_0_6c : Nat), rolloutNextS_j3 y20_4 y1_1 y19_2 e3_30 e3_b21_0_0 e3_b21_0_1 e3_b21_0_2 e3_b21_0_3 e3_b21_0_4 e3_b21_0_5 e3_b21_0_6x e3_b21_0_7 e3_b21_0_8 e3_b5_3_1 = some y ∧ ff = [(17, .pointer (some ⟨b1_2, 0, none⟩)), (18, .pointer (some ⟨b5_3_0, 0, none⟩)), (19, .pointer (some ⟨b5_3_1, 0, none⟩)), (26, .slice a19_2_00 (List.length y19_2) c19_2_00), (27, .pointer (some ⟨b20_8, 0, none⟩)), (28, .bool y20_4.2.1), (29, .pointer (some ⟨b21_0, 0, none⟩)), (30, .bool e3_30)] ∧ (ImmI e3_b21_0_6a e3_b21_0_6x) :: (Asn.own b21_0 (.cells #[.int .i64 e3_b21_0_0, .int .i64 e3_b21_0_1, .int .i64 e3_b21_0_2, .int .i64 e3_b21_0_3, .int .i64 e3_b21_0_4, .int .i64 e3_b21_0_5, .slice e3_b21_0_6a (List.length e3_b21_0_6x) e3_b21_0_6c, .int .i64 e3_b21_0_7, .int .i64 e3_b21_0_8] 60 (0, 0))) :: (Asn.own b20_8 (.cells #[.int .i64 y20_4.1.kind, .int .i64 y20_4.1.line, .int .i64 y20_4.1.id, .int .i64 y20_4.1.step, .int .i64 y20_4.1.state, .int .i64 y20_4.1.head, .slice a20_4_00 (List.length y20_4.1.data) c20_4_00, .int .i64 y20_4.1.next, .int .i64 y20_4.1.told] 29 (0, 0))) :: (ImmI a20_4_00 y20_4.1.data) :: (CacheA b5_3_0 y20_4.2.2) :: (ImmI a1_1_00 y1_1.data) :: (IntsA a19_2_00 c19_2_00 y19_2) :: (RChA b5_3_1 e3_b5_3_1) :: (Asn.own b1_2 (.cells #[.int .i64 e0_b1_2_0, .int .i64 y1_1.line, .int .i64 y1_1.id, .int .i64 y1_1.step, .int .i64 y1_1.state, .int .i64 y1_1.head, .slice a1_1_00 (List.length y1_1.data) c1_1_00, .int .i64 y1_1.next, .int .i64 y1_1.told] 29 (0, 0))) :: Γ = ΔΔ) (by kernel_rfl) ?_ ?_
    ·rintro _ _ ⟨e3_30, e3_b21_0_0, e3_b21_0_1, e3_b21_0_2, e3_b21_0_3, e3_b21_0_4, e3_b21_0_5, e3_b21_0_6x, e3_b21_0_7, e3_b21_0_8, e3_b5_3_1, e3_b21_0_6a, e3_b21_0_6c, H, rfl, rfl⟩
     rw [rolloutNextS_j3] at H
     refine aq (x := C6 [1,1,1,1,1,1,1,1,1,1,1,1,1,1,0]) (y := C6 [1,1,1,1,1,1,1,1,1,1,1,1,1,1,1]) ?_
     refine ar (id := 25) 23 ?_
     refine sp 118 (.bool y20_4.2.1) ?_
     refine sp 119 (.bool e3_30) ?_
     refine sp 120 (.bool (y20_4.2.1 == e3_30)) ?_
     rcases Bool.eq_false_or_eq_true ((y20_4.2.1 == e3_30)) with h1 | h1
     ·replace H := bifT H h1
      refine sr 121 (.bool true) (run_eq (v := .bool ((y20_4.2.1 == e3_30))) (fun _ => by kernel_rfl) (congrArg Value.bool h1)) ?_
      refine sl 122 (.agg #[.int .i64 y20_4.1.kind, .int .i64 y20_4.1.line, .int .i64 y20_4.1.id, .int .i64 y20_4.1.step, .int .i64 y20_4.1.state, .int .i64 y20_4.1.head, .slice a20_4_00 (List.length y20_4.1.data) c20_4_00, .int .i64 y20_4.1.next, .int .i64 y20_4.1.told]) (loadN (off := 0) (vs := [.int .i64 y20_4.1.kind, .int .i64 y20_4.1.line, .int .i64 y20_4.1.id, .int .i64 y20_4.1.step, .int .i64 y20_4.1.state, .int .i64 y20_4.1.head, .slice a20_4_00 (List.length y20_4.1.data) c20_4_00, .int .i64 y20_4.1.next, .int .i64 y20_4.1.told]) 9 (fun _ => by kernel_rfl) (holds_own (.there (.there .here))) rfl (by exact ⟨rfl, rfl, rfl, rfl, rfl, rfl, rfl, rfl, rfl, trivial⟩)) ?_
      refine sl 123 (.agg #[.int .i64 e3_b21_0_0, .int .i64 e3_b21_0_1, .int .i64 e3_b21_0_2, .int .i64 e3_b21_0_3, .int .i64 e3_b21_0_4, .int .i64 e3_b21_0_5, .slice e3_b21_0_6a (List.length e3_b21_0_6x) e3_b21_0_6c, .int .i64 e3_b21_0_7, .int .i64 e3_b21_0_8]) (loadN (off := 0) (vs := [.int .i64 e3_b21_0_0, .int .i64 e3_b21_0_1, .int .i64 e3_b21_0_2, .int .i64 e3_b21_0_3, .int .i64 e3_b21_0_4, .int .i64 e3_b21_0_5, .slice e3_b21_0_6a (List.length e3_b21_0_6x) e3_b21_0_6c, .int .i64 e3_b21_0_7, .int .i64 e3_b21_0_8]) 9 (fun _ => by kernel_rfl) (holds_own (.there .here)) rfl (by exact ⟨rfl, rfl, rfl, rfl, rfl, rfl, rfl, rfl, rfl, trivial⟩)) ?_
      obtain ⟨y25_6, hy25_6, H⟩ := bindE H
      refine s_call 124 25 #[.agg #[.int .i64 y20_4.1.kind, .int .i64 y20_4.1.line, .int .i64 y20_4.1.id, .int .i64 y20_4.1.step, .int .i64 y20_4.1.state, .int .i64 y20_4.1.head, .slice a20_4_00 (List.length y20_4.1.data) c20_4_00, .int .i64 y20_4.1.next, .int .i64 y20_4.1.told], .agg #[.int .i64 e3_b21_0_0, .int .i64 e3_b21_0_1, .int .i64 e3_b21_0_2, .int .i64 e3_b21_0_3, .int .i64 e3_b21_0_4, .int .i64 e3_b21_0_5, .slice e3_b21_0_6a (List.length e3_b21_0_6x) e3_b21_0_6c, .int .i64 e3_b21_0_7, .int .i64 e3_b21_0_8]] (by kernel_rfl) (by kernel_rfl) (fun _ => by kernel_rfl) (Same13F_tr a20_4_00 c20_4_00 y20_4.1 e3_b21_0_6a e3_b21_0_6c (⟨e3_b21_0_0, e3_b21_0_1, e3_b21_0_2, e3_b21_0_3, e3_b21_0_4, e3_b21_0_5, e3_b21_0_6x, e3_b21_0_7, e3_b21_0_8⟩ : DealS) (ImmR.reads (k := 1) (.there (.there (.there .here)))) (ImmR.reads (k := 1) .here) y25_6 hy25_6) ?_
      rintro _ _ ⟨rfl, rfl⟩
      refine sp 125 (.bool y25_6) ?_
      rcases Bool.eq_false_or_eq_true (y25_6) with h2 | h2
      ·replace H := bifT H h2
       refine sr 126 (.bool true) (run_eq (v := .bool (y25_6)) (fun _ => by kernel_rfl) (congrArg Value.bool h2)) ?_
       refine sp 127 (.pointer (some ⟨b5_3_0, 0, none⟩)) ?_
       refine sp 128 (.pointer (some ⟨b5_3_1, 0, none⟩)) ?_
       refine RChA.tox (.there (.there (.there (.there (.there (.there (.there .here))))))) ?_
       intro x25_11_b5_3_1
       obtain ⟨y25_11, hy25_11, H⟩ := bindE H
       refine s_call 129 11 #[.pointer (some ⟨b5_3_0, 0, none⟩), .pointer (some ⟨b5_3_1, 0, none⟩)] (by kernel_rfl) (by kernel_rfl) (fun _ => by kernel_rfl) (Tr.conv (Γ' := (CacheA b5_3_0 y20_4.2.2) :: (RChXA b5_3_1 x25_11_b5_3_1 e3_b5_3_1) :: (ImmI e3_b21_0_6a e3_b21_0_6x) :: (Asn.own b21_0 (.cells #[.int .i64 e3_b21_0_0, .int .i64 e3_b21_0_1, .int .i64 e3_b21_0_2, .int .i64 e3_b21_0_3, .int .i64 e3_b21_0_4, .int .i64 e3_b21_0_5, .slice e3_b21_0_6a (List.length e3_b21_0_6x) e3_b21_0_6c, .int .i64 e3_b21_0_7, .int .i64 e3_b21_0_8] 60 (0, 0))) :: (Asn.own b20_8 (.cells #[.int .i64 y20_4.1.kind, .int .i64 y20_4.1.line, .int .i64 y20_4.1.id, .int .i64 y20_4.1.step, .int .i64 y20_4.1.state, .int .i64 y20_4.1.head, .slice a20_4_00 (List.length y20_4.1.data) c20_4_00, .int .i64 y20_4.1.next, .int .i64 y20_4.1.told] 29 (0, 0))) :: (ImmI a20_4_00 y20_4.1.data) :: (ImmI a1_1_00 y1_1.data) :: (IntsA a19_2_00 c19_2_00 y19_2) :: (Asn.own b1_2 (.cells #[.int .i64 e0_b1_2_0, .int .i64 y1_1.line, .int .i64 y1_1.id, .int .i64 y1_1.step, .int .i64 y1_1.state, .int .i64 y1_1.head, .slice a1_1_00 (List.length y1_1.data) c1_1_00, .int .i64 y1_1.next, .int .i64 y1_1.told] 29 (0, 0))) :: Γ) (fun w hw => (Sat.less (.take (.there (.there (.there (.there (.there .here))))) (.take .here (.take .here (.take .here (.take .here (.take .here (.take .here (.take .here (.take .here .refl))))))))) hw)) (SameCF_tr b5_3_0 y20_4.2.2 b5_3_1 x25_11_b5_3_1 e3_b5_3_1 y25_11 hy25_11)) ?_
       rintro _ _ ⟨rfl, rfl⟩
       refine sp 130 (.bool y25_11) ?_
       rcases Bool.eq_false_or_eq_true (y25_11) with h3 | h3
       ·replace H := bifT H h3
        refine sr 131 (.bool true) (run_eq (v := .bool (y25_11)) (fun _ => by kernel_rfl) (congrArg Value.bool h3)) ?_
        refine sp 132 (.pointer (some ⟨b1_2, 6, none⟩)) ?_
        refine sl 133 (.slice a1_1_00 (List.length y1_1.data) c1_1_00) (load1 (off := 6) (fun _ => by kernel_rfl) (holds_own (.there (.there (.there (.there (.there (.there (.there (.there .here))))))))) (by kernel_rfl)) ?_
        refine sp 134 (.slice a19_2_00 (List.length y19_2) c19_2_00) ?_
        obtain ⟨y25_17, hy25_17, H⟩ := bindE H
        refine s_call 135 26 #[.slice a1_1_00 (List.length y1_1.data) c1_1_00, .slice a19_2_00 (List.length y19_2) c19_2_00] (by kernel_rfl) (by kernel_rfl) (fun _ => by kernel_rfl) (KSameF_tr a1_1_00 c1_1_00 y1_1.data a19_2_00 c19_2_00 y19_2 (ImmR.reads (k := 1) (.there (.there (.there (.there (.there (.there .here))))))) (RowsA.reads (k := 1) (.there (.there (.there (.there (.there (.there (.there .here)))))))) y25_17 hy25_17) ?_
        rintro _ _ ⟨rfl, rfl⟩
        refine sp 136 (.bool y25_17) ?_
        rcases Bool.eq_false_or_eq_true (y25_17) with h4 | h4
        ·replace H := bifT H h4
         refine sr 137 (.bool true) (run_eq (v := .bool (y25_17)) (fun _ => by kernel_rfl) (congrArg Value.bool h4)) ?_
         obtain ⟨y25_20, hy25_20, H⟩ := bindE H
         refine s_call 138 28 #[] (by kernel_rfl) (by kernel_rfl) (fun _ => by kernel_rfl) (W16F_tr  y25_20 hy25_20) ?_
         rintro _ _ ⟨rfl, rfl⟩
         refine sp 139 (.bool y25_20) ?_
         refine sp 16 (.bool y25_20) ?_
         refine ops_end ?_
         refine ae [(16, .bool y25_20)] ?_
         refine at_then_normal ?_
         refine at_ret (by kernel_rfl) ?_
         refine At.conv (Γ' := (RChA b5_3_1 e3_b5_3_1) :: (CacheA b5_3_0 y20_4.2.2) :: (ImmI e3_b21_0_6a e3_b21_0_6x) :: (Asn.own b21_0 (.cells #[.int .i64 e3_b21_0_0, .int .i64 e3_b21_0_1, .int .i64 e3_b21_0_2, .int .i64 e3_b21_0_3, .int .i64 e3_b21_0_4, .int .i64 e3_b21_0_5, .slice e3_b21_0_6a (List.length e3_b21_0_6x) e3_b21_0_6c, .int .i64 e3_b21_0_7, .int .i64 e3_b21_0_8] 60 (0, 0))) :: (Asn.own b20_8 (.cells #[.int .i64 y20_4.1.kind, .int .i64 y20_4.1.line, .int .i64 y20_4.1.id, .int .i64 y20_4.1.step, .int .i64 y20_4.1.state, .int .i64 y20_4.1.head, .slice a20_4_00 (List.length y20_4.1.data) c20_4_00, .int .i64 y20_4.1.next, .int .i64 y20_4.1.told] 29 (0, 0))) :: (ImmI a20_4_00 y20_4.1.data) :: (ImmI a1_1_00 y1_1.data) :: (IntsA a19_2_00 c19_2_00 y19_2) :: (Asn.own b1_2 (.cells #[.int .i64 e0_b1_2_0, .int .i64 y1_1.line, .int .i64 y1_1.id, .int .i64 y1_1.step, .int .i64 y1_1.state, .int .i64 y1_1.head, .slice a1_1_00 (List.length y1_1.data) c1_1_00, .int .i64 y1_1.next, .int .i64 y1_1.told] 29 (0, 0))) :: Γ) (fun w hw => RChXA.shut (hw.pull (.there .here))) ?_
         obtain rfl := someE H
         refine at_backR [.bool y25_20] (Γ) (rs := [.tmp 16]) (by kernel_rfl) (.cons (.tmp (by kernel_rfl)) .nil) (fun w hw => (Sat.less (.drop .here (.drop .here (.drop .here (.drop .here (.drop .here (.drop .here (.drop .here (.drop .here (.drop .here .refl))))))))) hw)) ?_
         exact ⟨rfl, rfl⟩
        ·replace H := bifF H h4
         refine sr 137 (.bool false) (run_eq (v := .bool (y25_17)) (fun _ => by kernel_rfl) (congrArg Value.bool h4)) ?_
         refine sa 138 ?_
         refine sp 139 (.bool false) ?_
         refine sp 16 (.bool false) ?_
         refine ops_end ?_
         refine ae [(16, .bool false)] ?_
         refine at_then_normal ?_
         refine at_ret (by kernel_rfl) ?_
         refine At.conv (Γ' := (RChA b5_3_1 e3_b5_3_1) :: (CacheA b5_3_0 y20_4.2.2) :: (ImmI e3_b21_0_6a e3_b21_0_6x) :: (Asn.own b21_0 (.cells #[.int .i64 e3_b21_0_0, .int .i64 e3_b21_0_1, .int .i64 e3_b21_0_2, .int .i64 e3_b21_0_3, .int .i64 e3_b21_0_4, .int .i64 e3_b21_0_5, .slice e3_b21_0_6a (List.length e3_b21_0_6x) e3_b21_0_6c, .int .i64 e3_b21_0_7, .int .i64 e3_b21_0_8] 60 (0, 0))) :: (Asn.own b20_8 (.cells #[.int .i64 y20_4.1.kind, .int .i64 y20_4.1.line, .int .i64 y20_4.1.id, .int .i64 y20_4.1.step, .int .i64 y20_4.1.state, .int .i64 y20_4.1.head, .slice a20_4_00 (List.length y20_4.1.data) c20_4_00, .int .i64 y20_4.1.next, .int .i64 y20_4.1.told] 29 (0, 0))) :: (ImmI a20_4_00 y20_4.1.data) :: (ImmI a1_1_00 y1_1.data) :: (IntsA a19_2_00 c19_2_00 y19_2) :: (Asn.own b1_2 (.cells #[.int .i64 e0_b1_2_0, .int .i64 y1_1.line, .int .i64 y1_1.id, .int .i64 y1_1.step, .int .i64 y1_1.state, .int .i64 y1_1.head, .slice a1_1_00 (List.length y1_1.data) c1_1_00, .int .i64 y1_1.next, .int .i64 y1_1.told] 29 (0, 0))) :: Γ) (fun w hw => RChXA.shut (hw.pull (.there .here))) ?_
         obtain rfl := someE H
         refine at_backR [.bool false] (Γ) (rs := [.tmp 16]) (by kernel_rfl) (.cons (.tmp (by kernel_rfl)) .nil) (fun w hw => (Sat.less (.drop .here (.drop .here (.drop .here (.drop .here (.drop .here (.drop .here (.drop .here (.drop .here (.drop .here .refl))))))))) hw)) ?_
         exact ⟨rfl, rfl⟩
       ·replace H := bifF H h3
        refine sr 131 (.bool false) (run_eq (v := .bool (y25_11)) (fun _ => by kernel_rfl) (congrArg Value.bool h3)) ?_
        refine sa 132 ?_
        refine sa 133 ?_
        refine sa 134 ?_
        refine sa 135 ?_
        refine sp 136 (.bool false) ?_
        refine sp 137 (.bool false) ?_
        refine sa 138 ?_
        refine sp 139 (.bool false) ?_
        refine sp 16 (.bool false) ?_
        refine ops_end ?_
        refine ae [(16, .bool false)] ?_
        refine at_then_normal ?_
        refine at_ret (by kernel_rfl) ?_
        refine At.conv (Γ' := (RChA b5_3_1 e3_b5_3_1) :: (CacheA b5_3_0 y20_4.2.2) :: (ImmI e3_b21_0_6a e3_b21_0_6x) :: (Asn.own b21_0 (.cells #[.int .i64 e3_b21_0_0, .int .i64 e3_b21_0_1, .int .i64 e3_b21_0_2, .int .i64 e3_b21_0_3, .int .i64 e3_b21_0_4, .int .i64 e3_b21_0_5, .slice e3_b21_0_6a (List.length e3_b21_0_6x) e3_b21_0_6c, .int .i64 e3_b21_0_7, .int .i64 e3_b21_0_8] 60 (0, 0))) :: (Asn.own b20_8 (.cells #[.int .i64 y20_4.1.kind, .int .i64 y20_4.1.line, .int .i64 y20_4.1.id, .int .i64 y20_4.1.step, .int .i64 y20_4.1.state, .int .i64 y20_4.1.head, .slice a20_4_00 (List.length y20_4.1.data) c20_4_00, .int .i64 y20_4.1.next, .int .i64 y20_4.1.told] 29 (0, 0))) :: (ImmI a20_4_00 y20_4.1.data) :: (ImmI a1_1_00 y1_1.data) :: (IntsA a19_2_00 c19_2_00 y19_2) :: (Asn.own b1_2 (.cells #[.int .i64 e0_b1_2_0, .int .i64 y1_1.line, .int .i64 y1_1.id, .int .i64 y1_1.step, .int .i64 y1_1.state, .int .i64 y1_1.head, .slice a1_1_00 (List.length y1_1.data) c1_1_00, .int .i64 y1_1.next, .int .i64 y1_1.told] 29 (0, 0))) :: Γ) (fun w hw => RChXA.shut (hw.pull (.there .here))) ?_
        obtain rfl := someE H
        refine at_backR [.bool false] (Γ) (rs := [.tmp 16]) (by kernel_rfl) (.cons (.tmp (by kernel_rfl)) .nil) (fun w hw => (Sat.less (.drop .here (.drop .here (.drop .here (.drop .here (.drop .here (.drop .here (.drop .here (.drop .here (.drop .here .refl))))))))) hw)) ?_
        exact ⟨rfl, rfl⟩
      ·replace H := bifF H h2
       refine sr 126 (.bool false) (run_eq (v := .bool (y25_6)) (fun _ => by kernel_rfl) (congrArg Value.bool h2)) ?_
       refine sa 127 ?_
       refine sa 128 ?_
       refine sa 129 ?_
       refine sp 130 (.bool false) ?_
       refine sp 131 (.bool false) ?_
       refine sa 132 ?_
       refine sa 133 ?_
       refine sa 134 ?_
       refine sa 135 ?_
       refine sp 136 (.bool false) ?_
       refine sp 137 (.bool false) ?_
       refine sa 138 ?_
       refine sp 139 (.bool false) ?_
       refine sp 16 (.bool false) ?_
       refine ops_end ?_
       refine ae [(16, .bool false)] ?_
       refine at_then_normal ?_
       refine at_ret (by kernel_rfl) ?_
       obtain rfl := someE H
       refine at_backR [.bool false] (Γ) (rs := [.tmp 16]) (by kernel_rfl) (.cons (.tmp (by kernel_rfl)) .nil) (fun w hw => (Sat.less (.drop .here (.drop .here (.drop .here (.drop .here (.drop .here (.drop .here (.drop .here (.drop .here (.drop .here .refl))))))))) hw)) ?_
       exact ⟨rfl, rfl⟩
     ·replace H := bifF H h1
      refine sr 121 (.bool false) (run_eq (v := .bool ((y20_4.2.1 == e3_30))) (fun _ => by kernel_rfl) (congrArg Value.bool h1)) ?_
      refine sa 122 ?_
      refine sa 123 ?_
      refine sa 124 ?_
      refine sp 125 (.bool false) ?_
      refine sp 126 (.bool false) ?_
      refine sa 127 ?_
      refine sa 128 ?_
      refine sa 129 ?_
      refine sp 130 (.bool false) ?_
      refine sp 131 (.bool false) ?_
      refine sa 132 ?_
      refine sa 133 ?_
      refine sa 134 ?_
      refine sa 135 ?_
      refine sp 136 (.bool false) ?_
      refine sp 137 (.bool false) ?_
      refine sa 138 ?_
      refine sp 139 (.bool false) ?_
      refine sp 16 (.bool false) ?_
      refine ops_end ?_
      refine ae [(16, .bool false)] ?_
      refine at_then_normal ?_
      refine at_ret (by kernel_rfl) ?_
      obtain rfl := someE H
      refine at_backR [.bool false] (Γ) (rs := [.tmp 16]) (by kernel_rfl) (.cons (.tmp (by kernel_rfl)) .nil) (fun w hw => (Sat.less (.drop .here (.drop .here (.drop .here (.drop .here (.drop .here (.drop .here (.drop .here (.drop .here (.drop .here .refl))))))))) hw)) ?_
      exact ⟨rfl, rfl⟩
    ·refine aq (x := C6 [1,1,1,1,1,1,1,1,1,1,1,1,1,0,0]) (y := C6 [1,1,1,1,1,1,1,1,1,1,1,1,1,0,1]) ?_
     refine ar (id := 23) 3 ?_
     refine sp 106 (.pointer (some ⟨b1_2, 0, none⟩)) ?_
     refine sl 107 (.int .i64 e0_b1_2_0) (load1 (off := 0) (fun _ => by kernel_rfl) (holds_own (.there (.there (.there (.there (.there (.there (.there (.there (.there .here)))))))))) (by kernel_rfl)) ?_
     refine sp 108 (.bool (decide (e0_b1_2_0 = (3 : Int)))) ?_
     refine ops_end ?_
     refine ae [(6, .int .i64 y4_1), (17, .pointer (some ⟨b1_2, 0, none⟩)), (18, .pointer (some ⟨b5_3_0, 0, none⟩)), (19, .pointer (some ⟨b5_3_1, 0, none⟩)), (24, .pointer (some ⟨b13_3, 0, none⟩)), (26, .slice a19_2_00 (List.length y19_2) c19_2_00), (27, .pointer (some ⟨b20_8, 0, none⟩)), (28, .bool y20_4.2.1), (29, .pointer (some ⟨b21_0, 0, none⟩)), (30, .bool false), (108, .bool (decide (e0_b1_2_0 = (3 : Int))))] ?_
     refine at_then_normal ?_
     rcases Bool.eq_false_or_eq_true (decide (e0_b1_2_0 = (3 : Int))) with h5 | h5
     ·replace H := bifT H h5
      refine at_true (t := decide (e0_b1_2_0 = (3 : Int))) (x := C6 [1,1,1,1,1,1,1,1,1,1,1,1,1,0,1,0]) (y := C6 [1,1,1,1,1,1,1,1,1,1,1,1,1,0,1,1]) (o := .tmp 108) (by kernel_rfl) (by kernel_rfl) (by kernel_rfl) h5 ?_
      refine at_region_draw (id := 24) (by kernel_rfl) (by kernel_rfl) ?_
      refine dl 0 110 (.agg #[.int .i64 e0_b1_2_0, .int .i64 y1_1.line, .int .i64 y1_1.id, .int .i64 y1_1.step, .int .i64 y1_1.state, .int .i64 y1_1.head, .slice a1_1_00 (List.length y1_1.data) c1_1_00, .int .i64 y1_1.next, .int .i64 y1_1.told]) (loadN (off := 0) (vs := [.int .i64 e0_b1_2_0, .int .i64 y1_1.line, .int .i64 y1_1.id, .int .i64 y1_1.step, .int .i64 y1_1.state, .int .i64 y1_1.head, .slice a1_1_00 (List.length y1_1.data) c1_1_00, .int .i64 y1_1.next, .int .i64 y1_1.told]) 9 (fun _ => by kernel_rfl) (holds_own (.there (.there (.there (.there (.there (.there (.there (.there (.there .here)))))))))) rfl (by exact ⟨rfl, rfl, rfl, rfl, rfl, rfl, rfl, rfl, rfl, trivial⟩)) ?_
      refine dp 2 112 (.int .i64 y4_1) ?_
      refine dp 3 113 (.pointer (some ⟨b5_3_1, 0, none⟩)) ?_
      refine dl 4 114 (.agg #[.int .i64 e2_b13_3_0, .int .i64 y13_2.src, .int .i64 y13_2.dst, .int .i64 e2_b13_3_3, .int .i64 e2_b13_3_4, .int .i64 y13_2.ptr, .int .i64 y13_2.state, .bool y13_2.flag, .slice a13_2_00 (List.length y13_2.data) c13_2_00]) (loadN (off := 0) (vs := [.int .i64 e2_b13_3_0, .int .i64 y13_2.src, .int .i64 y13_2.dst, .int .i64 e2_b13_3_3, .int .i64 e2_b13_3_4, .int .i64 y13_2.ptr, .int .i64 y13_2.state, .bool y13_2.flag, .slice a13_2_00 (List.length y13_2.data) c13_2_00]) 9 (fun _ => by kernel_rfl) (holds_own (.there (.there (.there (.there (.there (.there .here))))))) rfl (by exact ⟨rfl, rfl, rfl, rfl, rfl, rfl, rfl, rfl, rfl, trivial⟩)) ?_
      refine d_call 1 111 [0] [3, 2] [4] 24 #[.agg #[.int .i64 e0_b1_2_0, .int .i64 y1_1.line, .int .i64 y1_1.id, .int .i64 y1_1.step, .int .i64 y1_1.state, .int .i64 y1_1.head, .slice a1_1_00 (List.length y1_1.data) c1_1_00, .int .i64 y1_1.next, .int .i64 y1_1.told]] (by kernel_rfl) (by kernel_rfl) (by kernel_rfl) (fun _ => by kernel_rfl) (Ref13_tr e0_b1_2_0 y1_1.line y1_1.id y1_1.step y1_1.state y1_1.head y1_1.next y1_1.told a1_1_00 (List.length y1_1.data) c1_1_00) ?_
      rintro _ _ ⟨rfl, rfl⟩
      refine ⟨(stable_cons 4 114 (.agg #[.int .i64 e2_b13_3_0, .int .i64 y13_2.src, .int .i64 y13_2.dst, .int .i64 e2_b13_3_3, .int .i64 e2_b13_3_4, .int .i64 y13_2.ptr, .int .i64 y13_2.state, .bool y13_2.flag, .slice a13_2_00 (List.length y13_2.data) c13_2_00]) (by kernel_rfl) (by kernel_rfl) (by kernel_rfl) (loadN (off := 0) (vs := [.int .i64 e2_b13_3_0, .int .i64 y13_2.src, .int .i64 y13_2.dst, .int .i64 e2_b13_3_3, .int .i64 e2_b13_3_4, .int .i64 y13_2.ptr, .int .i64 y13_2.state, .bool y13_2.flag, .slice a13_2_00 (List.length y13_2.data) c13_2_00]) 9 (fun _ => by kernel_rfl) (holds_own (.there (.there (.there (.there (.there (.there .here))))))) rfl (by exact ⟨rfl, rfl, rfl, rfl, rfl, rfl, rfl, rfl, rfl, trivial⟩)) stable_nil), ?_⟩
      obtain ⟨y24_5, hy24_5, H⟩ := bindE H
      refine d_call 5 115 [1, 2, 3, 4, 0] [] [] 23 #[.agg #[.int .i64 e0_b1_2_0, .int .i64 y1_1.line, .int .i64 y1_1.id, .int .i64 y1_1.step, .int .i64 y1_1.state, .int .i64 y1_1.head, .slice a1_1_00 (List.length y1_1.data) c1_1_00, .int .i64 y1_1.next, .int .i64 y1_1.told], .int .i64 y4_1, .pointer (some ⟨b5_3_1, 0, none⟩), .agg #[.int .i64 e2_b13_3_0, .int .i64 y13_2.src, .int .i64 y13_2.dst, .int .i64 e2_b13_3_3, .int .i64 e2_b13_3_4, .int .i64 y13_2.ptr, .int .i64 y13_2.state, .bool y13_2.flag, .slice a13_2_00 (List.length y13_2.data) c13_2_00]] (by kernel_rfl) (by kernel_rfl) (by kernel_rfl) (fun _ => by kernel_rfl) (Tr.conv (Γ' := (ImmI a1_1_00 y1_1.data) :: (RChA b5_3_1 e1_b5_3_1) :: (ImmI a1_1_00 y1_1.data) :: (Asn.own b21_0 (.cells #[.int .i64 (0), .int .i64 (0), .int .i64 (0), .int .i64 (0), .int .i64 (0), .int .i64 (0), .slice none 0 0, .int .i64 (0), .int .i64 (0)] 60 (0, 0))) :: (Asn.own b20_8 (.cells #[.int .i64 y20_4.1.kind, .int .i64 y20_4.1.line, .int .i64 y20_4.1.id, .int .i64 y20_4.1.step, .int .i64 y20_4.1.state, .int .i64 y20_4.1.head, .slice a20_4_00 (List.length y20_4.1.data) c20_4_00, .int .i64 y20_4.1.next, .int .i64 y20_4.1.told] 29 (0, 0))) :: (ImmI a20_4_00 y20_4.1.data) :: (CacheA b5_3_0 y20_4.2.2) :: (IntsA a19_2_00 c19_2_00 y19_2) :: (Asn.own b13_3 (.cells #[.int .i64 e2_b13_3_0, .int .i64 y13_2.src, .int .i64 y13_2.dst, .int .i64 e2_b13_3_3, .int .i64 e2_b13_3_4, .int .i64 y13_2.ptr, .int .i64 y13_2.state, .bool y13_2.flag, .slice a13_2_00 (List.length y13_2.data) c13_2_00] 33 (0, 0))) :: (IntsA a13_2_00 c13_2_00 y13_2.data) :: (Asn.own b1_2 (.cells #[.int .i64 e0_b1_2_0, .int .i64 y1_1.line, .int .i64 y1_1.id, .int .i64 y1_1.step, .int .i64 y1_1.state, .int .i64 y1_1.head, .slice a1_1_00 (List.length y1_1.data) c1_1_00, .int .i64 y1_1.next, .int .i64 y1_1.told] 29 (0, 0))) :: Γ) (fun w hw => (Sat.less (.take .here (.take (.there (.there (.there (.there (.there (.there (.there (.there .here)))))))) (.take .here (.take .here (.take .here (.take .here (.take .here (.take .here (.take .here (.take .here (.take .here .refl))))))))))) (ImmR.dup (Sat.less (.take (.there (.there (.there (.there .here)))) (.take .here (.take .here (.take .here (.take .here (.take .here (.take .here (.take .here (.take .here (.take .here .refl)))))))))) hw)))) (RNext7F_tr a1_1_00 c1_1_00 (⟨e0_b1_2_0, y1_1.line, y1_1.id, y1_1.step, y1_1.state, y1_1.head, y1_1.data, y1_1.next, y1_1.told⟩ : DealS) y4_1 b5_3_1 e1_b5_3_1 a13_2_00 c13_2_00 (⟨e2_b13_3_0, y13_2.src, y13_2.dst, e2_b13_3_3, e2_b13_3_4, y13_2.ptr, y13_2.state, y13_2.flag, y13_2.data⟩ : PktS) (RowsA.reads (k := 1) (.there (.there (.there (.there (.there (.there (.there .here)))))))) y24_5 hy24_5)) ?_
      rintro _ _ ⟨a24_5_00, c24_5_00, rfl, rfl⟩
      refine ⟨stable_nil, ?_⟩
      refine dp 6 109 (.tuple #[.agg #[.int .i64 y24_5.1.kind, .int .i64 y24_5.1.line, .int .i64 y24_5.1.id, .int .i64 y24_5.1.step, .int .i64 y24_5.1.state, .int .i64 y24_5.1.head, .slice a24_5_00 (List.length y24_5.1.data) c24_5_00, .int .i64 y24_5.1.next, .int .i64 y24_5.1.told], .bool y24_5.2.1]) ?_
      refine dp 7 116 (.agg #[.int .i64 y24_5.1.kind, .int .i64 y24_5.1.line, .int .i64 y24_5.1.id, .int .i64 y24_5.1.step, .int .i64 y24_5.1.state, .int .i64 y24_5.1.head, .slice a24_5_00 (List.length y24_5.1.data) c24_5_00, .int .i64 y24_5.1.next, .int .i64 y24_5.1.told]) ?_
      refine dp 8 117 (.bool y24_5.2.1) ?_
      refine d_do 9 [7, 5, 0, 1, 2, 3, 4, 6] [8] [] (by kernel_rfl) (by kernel_rfl) (by kernel_rfl) (st_store (off := 0) (vs := [.int .i64 y24_5.1.kind, .int .i64 y24_5.1.line, .int .i64 y24_5.1.id, .int .i64 y24_5.1.step, .int .i64 y24_5.1.state, .int .i64 y24_5.1.head, .slice a24_5_00 (List.length y24_5.1.data) c24_5_00, .int .i64 y24_5.1.next, .int .i64 y24_5.1.told]) (c' := #[.int .i64 y24_5.1.kind, .int .i64 y24_5.1.line, .int .i64 y24_5.1.id, .int .i64 y24_5.1.step, .int .i64 y24_5.1.state, .int .i64 y24_5.1.head, .slice a24_5_00 (List.length y24_5.1.data) c24_5_00, .int .i64 y24_5.1.next, .int .i64 y24_5.1.told]) (fun _ => by kernel_rfl) (.there (.there (.there .here))) (by kernel_rfl) (by kernel_rfl) (by kernel_rfl)) ?_
      rintro _ _ ⟨rfl, rfl⟩
      refine ⟨stable_nil, ?_⟩
      refine dp 10 30 (.bool y24_5.2.1) ?_
      refine draw_end (by kernel_rfl) ?_
      refine ae [(17, .pointer (some ⟨b1_2, 0, none⟩)), (18, .pointer (some ⟨b5_3_0, 0, none⟩)), (19, .pointer (some ⟨b5_3_1, 0, none⟩)), (26, .slice a19_2_00 (List.length y19_2) c19_2_00), (27, .pointer (some ⟨b20_8, 0, none⟩)), (28, .bool y20_4.2.1), (29, .pointer (some ⟨b21_0, 0, none⟩)), (30, .bool y24_5.2.1)] ?_
      refine at_round_normal ?_
      exact at_join_mk [(17, .pointer (some ⟨b1_2, 0, none⟩)), (18, .pointer (some ⟨b5_3_0, 0, none⟩)), (19, .pointer (some ⟨b5_3_1, 0, none⟩)), (26, .slice a19_2_00 (List.length y19_2) c19_2_00), (27, .pointer (some ⟨b20_8, 0, none⟩)), (28, .bool y20_4.2.1), (29, .pointer (some ⟨b21_0, 0, none⟩)), (30, .bool y24_5.2.1)] ((ImmI a24_5_00 y24_5.1.data) :: (Asn.own b21_0 (.cells #[.int .i64 y24_5.1.kind, .int .i64 y24_5.1.line, .int .i64 y24_5.1.id, .int .i64 y24_5.1.step, .int .i64 y24_5.1.state, .int .i64 y24_5.1.head, .slice a24_5_00 (List.length y24_5.1.data) c24_5_00, .int .i64 y24_5.1.next, .int .i64 y24_5.1.told] 60 (0, 0))) :: (Asn.own b20_8 (.cells #[.int .i64 y20_4.1.kind, .int .i64 y20_4.1.line, .int .i64 y20_4.1.id, .int .i64 y20_4.1.step, .int .i64 y20_4.1.state, .int .i64 y20_4.1.head, .slice a20_4_00 (List.length y20_4.1.data) c20_4_00, .int .i64 y20_4.1.next, .int .i64 y20_4.1.told] 29 (0, 0))) :: (ImmI a20_4_00 y20_4.1.data) :: (CacheA b5_3_0 y20_4.2.2) :: (ImmI a1_1_00 y1_1.data) :: (IntsA a19_2_00 c19_2_00 y19_2) :: (RChA b5_3_1 y24_5.2.2) :: (Asn.own b1_2 (.cells #[.int .i64 e0_b1_2_0, .int .i64 y1_1.line, .int .i64 y1_1.id, .int .i64 y1_1.step, .int .i64 y1_1.state, .int .i64 y1_1.head, .slice a1_1_00 (List.length y1_1.data) c1_1_00, .int .i64 y1_1.next, .int .i64 y1_1.told] 29 (0, 0))) :: Γ) ⟨by kernel_rfl, by kernel_rfl, by kernel_rfl, by kernel_rfl, by kernel_rfl, by kernel_rfl, by kernel_rfl, by kernel_rfl, trivial⟩ (fun w hw => (Sat.less (.take (.there .here) (.take .here (.take (.there (.there .here)) (.take (.there (.there .here)) (.take (.there (.there .here)) (.take (.there .here) (.take (.there .here) (.take .here (.take (.there (.there .here)) (.drop .here (.drop .here .refl))))))))))) hw)) ⟨y24_5.2.1, y24_5.1.kind, y24_5.1.line, y24_5.1.id, y24_5.1.step, y24_5.1.state, y24_5.1.head, y24_5.1.data, y24_5.1.next, y24_5.1.told, y24_5.2.2, a24_5_00, c24_5_00, H, rfl, rfl⟩
     ·replace H := bifF H h5
      refine at_false (t := decide (e0_b1_2_0 = (3 : Int))) (x := C6 [1,1,1,1,1,1,1,1,1,1,1,1,1,0,1,0]) (y := C6 [1,1,1,1,1,1,1,1,1,1,1,1,1,0,1,1]) (o := .tmp 108) (by kernel_rfl) (by kernel_rfl) (by kernel_rfl) h5 ?_
      refine at_skip (by kernel_rfl) ?_
      refine at_round_normal ?_
      exact at_join_mk [(17, .pointer (some ⟨b1_2, 0, none⟩)), (18, .pointer (some ⟨b5_3_0, 0, none⟩)), (19, .pointer (some ⟨b5_3_1, 0, none⟩)), (26, .slice a19_2_00 (List.length y19_2) c19_2_00), (27, .pointer (some ⟨b20_8, 0, none⟩)), (28, .bool y20_4.2.1), (29, .pointer (some ⟨b21_0, 0, none⟩)), (30, .bool false)] ((ImmI none ([] : List Int)) :: (Asn.own b21_0 (.cells #[.int .i64 0, .int .i64 0, .int .i64 0, .int .i64 0, .int .i64 0, .int .i64 0, .slice none (List.length ([] : List Int)) 0, .int .i64 0, .int .i64 0] 60 (0, 0))) :: (Asn.own b20_8 (.cells #[.int .i64 y20_4.1.kind, .int .i64 y20_4.1.line, .int .i64 y20_4.1.id, .int .i64 y20_4.1.step, .int .i64 y20_4.1.state, .int .i64 y20_4.1.head, .slice a20_4_00 (List.length y20_4.1.data) c20_4_00, .int .i64 y20_4.1.next, .int .i64 y20_4.1.told] 29 (0, 0))) :: (ImmI a20_4_00 y20_4.1.data) :: (CacheA b5_3_0 y20_4.2.2) :: (ImmI a1_1_00 y1_1.data) :: (IntsA a19_2_00 c19_2_00 y19_2) :: (RChA b5_3_1 e1_b5_3_1) :: (Asn.own b1_2 (.cells #[.int .i64 e0_b1_2_0, .int .i64 y1_1.line, .int .i64 y1_1.id, .int .i64 y1_1.step, .int .i64 y1_1.state, .int .i64 y1_1.head, .slice a1_1_00 (List.length y1_1.data) c1_1_00, .int .i64 y1_1.next, .int .i64 y1_1.told] 29 (0, 0))) :: Γ) ⟨by kernel_rfl, by kernel_rfl, by kernel_rfl, by kernel_rfl, by kernel_rfl, by kernel_rfl, by kernel_rfl, by kernel_rfl, trivial⟩ (fun w hw => (Sat.less (.take .here (.take .here (.take .here (.take .here (.take .here (.take .here (.take .here (.take (.there (.there .here)) (.take (.there (.there .here)) (.drop .here (.drop .here .refl))))))))))) (ImmR.nil_mk (k := 1) (a := none) hw))) ⟨false, 0, 0, 0, 0, 0, 0, ([] : List Int), 0, 0, e1_b5_3_1, none, 0, H, rfl, rfl⟩
   ·refine aq (x := C6 [1,1,1,1,1,1,1,1,0,0]) (y := C6 [1,1,1,1,1,1,1,1,0,1]) ?_
    refine ar (id := 14) 1 ?_
    refine sp 79 (.bool fit) ?_
    refine ops_end ?_
    refine ae [(6, .int .i64 y4_1), (17, .pointer (some ⟨b1_2, 0, none⟩)), (18, .pointer (some ⟨b5_3_0, 0, none⟩)), (19, .pointer (some ⟨b5_3_1, 0, none⟩)), (24, .pointer (some ⟨b13_3, 0, none⟩)), (79, .bool fit)] ?_
    refine at_then_normal ?_
    rcases Bool.eq_false_or_eq_true (fit) with h6 | h6
    ·replace H := bifT H h6
     refine at_true (t := fit) (x := C6 [1,1,1,1,1,1,1,1,0,1,0]) (y := C6 [1,1,1,1,1,1,1,1,0,1,1]) (o := .tmp 79) (by kernel_rfl) (by kernel_rfl) (by kernel_rfl) h6 ?_
     refine aq (x := C6 [1,1,1,1,1,1,1,1,0,1,0,0]) (y := C6 [1,1,1,1,1,1,1,1,0,1,0,1]) ?_
     refine at_region_draw (id := 15) (by kernel_rfl) (by kernel_rfl) ?_
     refine dp 0 80 (.pointer (some ⟨b1_2, 2, none⟩)) ?_
     refine dl 1 81 (.int .i64 y1_1.id) (load1 (off := 2) (fun _ => by kernel_rfl) (holds_own (.there (.there (.there (.there .here))))) (by kernel_rfl)) ?_
     refine dp 2 82 (.pointer (some ⟨b1_2, 1, none⟩)) ?_
     refine dl 3 83 (.int .i64 y1_1.line) (load1 (off := 1) (fun _ => by kernel_rfl) (holds_own (.there (.there (.there (.there .here))))) (by kernel_rfl)) ?_
     refine dp 4 84 (.pointer (some ⟨b13_3, 3, none⟩)) ?_
     refine d_do 5 [4, 1, 0] [2] [3] (by kernel_rfl) (by kernel_rfl) (by kernel_rfl) (st_store (off := 3) (vs := [.int .i64 y1_1.id]) (c' := #[.int .i64 y13_2.kind, .int .i64 y13_2.src, .int .i64 y13_2.dst, .int .i64 y1_1.id, .int .i64 y13_2.line, .int .i64 y13_2.ptr, .int .i64 y13_2.state, .bool y13_2.flag, .slice a13_2_00 (List.length y13_2.data) c13_2_00]) (fun _ => by kernel_rfl) .here (by kernel_rfl) (by kernel_rfl) (by kernel_rfl)) ?_
     rintro _ _ ⟨rfl, rfl⟩
     refine ⟨(stable_cons 3 83 (.int .i64 y1_1.line) (by kernel_rfl) (by kernel_rfl) (by kernel_rfl) (load1 (off := 1) (fun _ => by kernel_rfl) (holds_own (.there (.there (.there (.there .here))))) (by kernel_rfl)) stable_nil), ?_⟩
     refine dp 6 85 (.pointer (some ⟨b13_3, 4, none⟩)) ?_
     refine d_do 7 [6, 3, 5, 0, 1, 2, 4] [] [] (by kernel_rfl) (by kernel_rfl) (by kernel_rfl) (st_store (off := 4) (vs := [.int .i64 y1_1.line]) (c' := #[.int .i64 y13_2.kind, .int .i64 y13_2.src, .int .i64 y13_2.dst, .int .i64 y1_1.id, .int .i64 y1_1.line, .int .i64 y13_2.ptr, .int .i64 y13_2.state, .bool y13_2.flag, .slice a13_2_00 (List.length y13_2.data) c13_2_00]) (fun _ => by kernel_rfl) .here (by kernel_rfl) (by kernel_rfl) (by kernel_rfl)) ?_
     rintro _ _ ⟨rfl, rfl⟩
     refine ⟨stable_nil, ?_⟩
     refine draw_end (by kernel_rfl) ?_
     refine ae [(6, .int .i64 y4_1), (17, .pointer (some ⟨b1_2, 0, none⟩)), (18, .pointer (some ⟨b5_3_0, 0, none⟩)), (19, .pointer (some ⟨b5_3_1, 0, none⟩)), (24, .pointer (some ⟨b13_3, 0, none⟩))] ?_
     refine at_then_normal ?_
     refine aq (x := C6 [1,1,1,1,1,1,1,1,0,1,0,1,0]) (y := C6 [1,1,1,1,1,1,1,1,0,1,0,1,1]) ?_
     refine ar (id := 16) 6 ?_
     obtain ⟨l16_0, hl16_0, H⟩ := letE H
     refine s_step 86 (by kernel_rfl) (by kernel_rfl) (st_new_ints (T := 3) (xs := l16_0) 8 hl16_0 (fun _ => by kernel_rfl) (by kernel_rfl)) ?_
     rintro _ _ ⟨b16_0, rfl, rfl⟩
     refine sp 87 (.pointer (some ⟨b1_2, 3, none⟩)) ?_
     refine sl 88 (.int .i64 y1_1.step) (load1 (off := 3) (fun _ => by kernel_rfl) (holds_own (.there (.there (.there (.there (.there .here)))))) (by kernel_rfl)) ?_
     obtain ⟨hc16_3_0, H⟩ := chkE H
     refine rows_at .here (by have := hc16_3_0; simp only [ints_length]; omega) ?_
     intro bb1 oo1 ha1
     refine sr 89 (.pointer (some ⟨bb1, oo1 + ((y1_1.step).toNat * 1 + 0), none⟩)) (index_at (t := 22) (sz := 1) (E := 3) (a := some ⟨b16_0, 0, none⟩) (m := (List.length l16_0)) (c := 8) (b := bb1) (off := oo1) (i := (y1_1.step).toNat) (tinfo 3) (fun _ => by kernel_rfl) (by kernel_rfl) (by kernel_rfl) (by kernel_rfl) ha1 (idx_cast hc16_3_0) (idx_nat hc16_3_0) rfl) ?_
     refine sl 90 (.int .i64 (nth l16_0 y1_1.step)) (load1_at (off := oo1 + ((y1_1.step).toNat * 1 + 0)) (v := .int .i64 (nth l16_0 y1_1.step)) (fun _ => by kernel_rfl) rfl (reads_cell (k := 1) (RowsA.reads (k := 1) .here) (ints_rows _) ha1 (nth_row hc16_3_0) (show [(.int .i64 (nth l16_0 y1_1.step) : Value)][0]? = some _ from rfl))) ?_
     refine sp 25 (.int .i64 (nth l16_0 y1_1.step)) ?_
     refine ops_end ?_
     refine ae [(6, .int .i64 y4_1), (17, .pointer (some ⟨b1_2, 0, none⟩)), (18, .pointer (some ⟨b5_3_0, 0, none⟩)), (19, .pointer (some ⟨b5_3_1, 0, none⟩)), (24, .pointer (some ⟨b13_3, 0, none⟩)), (25, .int .i64 (nth l16_0 y1_1.step))] ?_
     refine at_then_normal ?_
     refine aq (x := C6 [1,1,1,1,1,1,1,1,0,1,0,1,1,0]) (y := C6 [1,1,1,1,1,1,1,1,0,1,0,1,1,1]) ?_
     refine ar (id := 17) 2 ?_
     refine sp 91 (.int .i64 (nth l16_0 y1_1.step)) ?_
     refine sp 92 (.bool (!(decide ((nth l16_0 y1_1.step) = (0 : Int))))) ?_
     refine ops_end ?_
     refine ae [(6, .int .i64 y4_1), (17, .pointer (some ⟨b1_2, 0, none⟩)), (18, .pointer (some ⟨b5_3_0, 0, none⟩)), (19, .pointer (some ⟨b5_3_1, 0, none⟩)), (24, .pointer (some ⟨b13_3, 0, none⟩)), (25, .int .i64 (nth l16_0 y1_1.step)), (92, .bool (!(decide ((nth l16_0 y1_1.step) = (0 : Int)))))] ?_
     refine at_then_normal ?_
     rcases Bool.eq_false_or_eq_true (!(decide ((nth l16_0 y1_1.step) = (0 : Int)))) with h7 | h7
     ·replace H := bifT H h7
      refine at_true (t := !(decide ((nth l16_0 y1_1.step) = (0 : Int)))) (x := C6 [1,1,1,1,1,1,1,1,0,1,0,1,1,1,0]) (y := C6 [1,1,1,1,1,1,1,1,0,1,0,1,1,1,1]) (o := .tmp 92) (by kernel_rfl) (by kernel_rfl) (by kernel_rfl) h7 ?_
      refine ar (id := 18) 3 ?_
      refine sp 93 (.int .i64 (nth l16_0 y1_1.step)) ?_
      refine sp 94 (.pointer (some ⟨b13_3, 0, none⟩)) ?_
      refine s_do (by kernel_rfl) (by kernel_rfl) (st_store (off := 0) (vs := [.int .i64 (nth l16_0 y1_1.step)]) (c' := #[.int .i64 (nth l16_0 y1_1.step), .int .i64 y13_2.src, .int .i64 y13_2.dst, .int .i64 y1_1.id, .int .i64 y1_1.line, .int .i64 y13_2.ptr, .int .i64 y13_2.state, .bool y13_2.flag, .slice a13_2_00 (List.length y13_2.data) c13_2_00]) (fun _ => by kernel_rfl) (.there .here) (by kernel_rfl) (by kernel_rfl) (by kernel_rfl)) ?_
      rintro _ _ ⟨rfl, rfl⟩
      refine ops_end ?_
      refine ae [(6, .int .i64 y4_1), (17, .pointer (some ⟨b1_2, 0, none⟩)), (18, .pointer (some ⟨b5_3_0, 0, none⟩)), (19, .pointer (some ⟨b5_3_1, 0, none⟩)), (24, .pointer (some ⟨b13_3, 0, none⟩))] ?_
      refine at_round_normal ?_
      exact at_join_mk [(6, .int .i64 y4_1), (17, .pointer (some ⟨b1_2, 0, none⟩)), (18, .pointer (some ⟨b5_3_0, 0, none⟩)), (19, .pointer (some ⟨b5_3_1, 0, none⟩)), (24, .pointer (some ⟨b13_3, 0, none⟩))] ((Asn.own b13_3 (.cells #[.int .i64 (nth l16_0 y1_1.step), .int .i64 y13_2.src, .int .i64 y13_2.dst, .int .i64 y1_1.id, .int .i64 y1_1.line, .int .i64 y13_2.ptr, .int .i64 y13_2.state, .bool y13_2.flag, .slice a13_2_00 (List.length y13_2.data) c13_2_00] 33 (0, 0))) :: (IntsA a13_2_00 c13_2_00 y13_2.data) :: (CacheA b5_3_0 e1_b5_3_0) :: (RChA b5_3_1 e1_b5_3_1) :: (Asn.own b1_2 (.cells #[.int .i64 e0_b1_2_0, .int .i64 y1_1.line, .int .i64 y1_1.id, .int .i64 y1_1.step, .int .i64 y1_1.state, .int .i64 y1_1.head, .slice a1_1_00 (List.length y1_1.data) c1_1_00, .int .i64 y1_1.next, .int .i64 y1_1.told] 29 (0, 0))) :: (ImmI a1_1_00 y1_1.data) :: Γ) ⟨by kernel_rfl, by kernel_rfl, by kernel_rfl, by kernel_rfl, by kernel_rfl, trivial⟩ (fun w hw => (Sat.less (.take .here (.take (.there .here) (.take (.there .here) (.take (.there .here) (.take (.there .here) (.take (.there .here) (.drop .here (.drop .here .refl)))))))) hw)) ⟨nth l16_0 y1_1.step, y1_1.id, y1_1.line, H, rfl, rfl⟩
     ·replace H := bifF H h7
      refine at_false (t := !(decide ((nth l16_0 y1_1.step) = (0 : Int)))) (x := C6 [1,1,1,1,1,1,1,1,0,1,0,1,1,1,0]) (y := C6 [1,1,1,1,1,1,1,1,0,1,0,1,1,1,1]) (o := .tmp 92) (by kernel_rfl) (by kernel_rfl) (by kernel_rfl) h7 ?_
      refine at_skip (by kernel_rfl) ?_
      refine at_round_normal ?_
      exact at_join_mk [(6, .int .i64 y4_1), (17, .pointer (some ⟨b1_2, 0, none⟩)), (18, .pointer (some ⟨b5_3_0, 0, none⟩)), (19, .pointer (some ⟨b5_3_1, 0, none⟩)), (24, .pointer (some ⟨b13_3, 0, none⟩))] ((Asn.own b13_3 (.cells #[.int .i64 y13_2.kind, .int .i64 y13_2.src, .int .i64 y13_2.dst, .int .i64 y1_1.id, .int .i64 y1_1.line, .int .i64 y13_2.ptr, .int .i64 y13_2.state, .bool y13_2.flag, .slice a13_2_00 (List.length y13_2.data) c13_2_00] 33 (0, 0))) :: (IntsA a13_2_00 c13_2_00 y13_2.data) :: (CacheA b5_3_0 e1_b5_3_0) :: (RChA b5_3_1 e1_b5_3_1) :: (Asn.own b1_2 (.cells #[.int .i64 e0_b1_2_0, .int .i64 y1_1.line, .int .i64 y1_1.id, .int .i64 y1_1.step, .int .i64 y1_1.state, .int .i64 y1_1.head, .slice a1_1_00 (List.length y1_1.data) c1_1_00, .int .i64 y1_1.next, .int .i64 y1_1.told] 29 (0, 0))) :: (ImmI a1_1_00 y1_1.data) :: Γ) ⟨by kernel_rfl, by kernel_rfl, by kernel_rfl, by kernel_rfl, by kernel_rfl, trivial⟩ (fun w hw => (Sat.less (.take (.there .here) (.take (.there .here) (.take (.there .here) (.take (.there .here) (.take (.there .here) (.take (.there .here) (.drop .here (.drop .here .refl)))))))) hw)) ⟨y13_2.kind, y1_1.id, y1_1.line, H, rfl, rfl⟩
    ·replace H := bifF H h6
     refine at_false (t := fit) (x := C6 [1,1,1,1,1,1,1,1,0,1,0]) (y := C6 [1,1,1,1,1,1,1,1,0,1,1]) (o := .tmp 79) (by kernel_rfl) (by kernel_rfl) (by kernel_rfl) h6 ?_
     refine at_skip (by kernel_rfl) ?_
     refine at_round_normal ?_
     exact at_join_mk [(6, .int .i64 y4_1), (17, .pointer (some ⟨b1_2, 0, none⟩)), (18, .pointer (some ⟨b5_3_0, 0, none⟩)), (19, .pointer (some ⟨b5_3_1, 0, none⟩)), (24, .pointer (some ⟨b13_3, 0, none⟩))] ((Asn.own b13_3 (.cells #[.int .i64 y13_2.kind, .int .i64 y13_2.src, .int .i64 y13_2.dst, .int .i64 y13_2.id, .int .i64 y13_2.line, .int .i64 y13_2.ptr, .int .i64 y13_2.state, .bool y13_2.flag, .slice a13_2_00 (List.length y13_2.data) c13_2_00] 33 (0, 0))) :: (IntsA a13_2_00 c13_2_00 y13_2.data) :: (CacheA b5_3_0 e1_b5_3_0) :: (RChA b5_3_1 e1_b5_3_1) :: (Asn.own b1_2 (.cells #[.int .i64 e0_b1_2_0, .int .i64 y1_1.line, .int .i64 y1_1.id, .int .i64 y1_1.step, .int .i64 y1_1.state, .int .i64 y1_1.head, .slice a1_1_00 (List.length y1_1.data) c1_1_00, .int .i64 y1_1.next, .int .i64 y1_1.told] 29 (0, 0))) :: (ImmI a1_1_00 y1_1.data) :: Γ) ⟨by kernel_rfl, by kernel_rfl, by kernel_rfl, by kernel_rfl, by kernel_rfl, trivial⟩ (fun w hw => (Sat.less (.take .here (.take .here (.take .here (.take .here (.take .here (.take .here (.drop .here .refl))))))) hw)) ⟨y13_2.kind, y13_2.id, y13_2.line, H, rfl, rfl⟩
  ·refine aq (x := C6 [1,1,1,1,1,1,0,0]) (y := C6 [1,1,1,1,1,1,0,1]) ?_
   refine ar (id := 8) 10 ?_
   refine sp 49 (.pointer (some ⟨b5_3_0, 0, none⟩)) ?_
   refine sp 50 (.pointer (some ⟨b1_2, 1, none⟩)) ?_
   refine sl 51 (.int .i64 y1_1.line) (load1 (off := 1) (fun _ => by kernel_rfl) (holds_own (.there (.there .here))) (by kernel_rfl)) ?_
   obtain ⟨y8_3, hy8_3, H⟩ := bindE H
   refine s_call 52 17 #[.pointer (some ⟨b5_3_0, 0, none⟩), .int .i64 y1_1.line] (by kernel_rfl) (by kernel_rfl) (fun _ => by kernel_rfl) (FindF_tr b5_3_0 y5_3.1 y1_1.line y8_3 hy8_3) ?_
   rintro _ _ ⟨a8_3_00, c8_3_00, rfl, rfl⟩
   refine sp 48 (.tuple #[.agg #[.int .i64 y8_3.1.fwd, .int .i64 y8_3.1.back, .int .i64 y8_3.1.line, .int .i64 y8_3.1.used, .bool y8_3.1.dirty, .slice a8_3_00 (List.length y8_3.1.data) c8_3_00], .bool y8_3.2]) ?_
   refine sp 53 (.agg #[.int .i64 y8_3.1.fwd, .int .i64 y8_3.1.back, .int .i64 y8_3.1.line, .int .i64 y8_3.1.used, .bool y8_3.1.dirty, .slice a8_3_00 (List.length y8_3.1.data) c8_3_00]) ?_
   refine sp 54 (.bool y8_3.2) ?_
   refine s_step 20 (by kernel_rfl) (by kernel_rfl) (st_new (T := 46) (cells := #[.int .i64 (0), .int .i64 (0), .int .i64 (0), .int .i64 (0), .bool false, .slice none 0 0]) (fun a => .pointer (some a)) (fun _ => by kernel_rfl)) ?_
   rintro _ _ ⟨b8_7, rfl, rfl⟩
   refine s_do (by kernel_rfl) (by kernel_rfl) (st_store (off := 0) (vs := [.int .i64 y8_3.1.fwd, .int .i64 y8_3.1.back, .int .i64 y8_3.1.line, .int .i64 y8_3.1.used, .bool y8_3.1.dirty, .slice a8_3_00 (List.length y8_3.1.data) c8_3_00]) (c' := #[.int .i64 y8_3.1.fwd, .int .i64 y8_3.1.back, .int .i64 y8_3.1.line, .int .i64 y8_3.1.used, .bool y8_3.1.dirty, .slice a8_3_00 (List.length y8_3.1.data) c8_3_00]) (fun _ => by kernel_rfl) .here (by kernel_rfl) (by kernel_rfl) (by kernel_rfl)) ?_
   rintro _ _ ⟨rfl, rfl⟩
   refine sp 21 (.bool y8_3.2) ?_
   refine ops_end ?_
   refine ae [(5, .int .i64 how), (6, .int .i64 y4_1), (7, .bool fit), (12, .pointer (some ⟨b0_1, 0, none⟩)), (17, .pointer (some ⟨b1_2, 0, none⟩)), (18, .pointer (some ⟨b5_3_0, 0, none⟩)), (19, .pointer (some ⟨b5_3_1, 0, none⟩)), (21, .bool y8_3.2)] ?_
   refine at_then_normal ?_
   refine at_seq_join (x := C6 [1,1,1,1,1,1,0,1,0]) (y := C6 [1,1,1,1,1,1,0,1,1]) (fun ff ΔΔ => ∃ (e4_62 : Bool), rolloutNextS_j4 y5_3 y1_1 p how fit e0_b1_2_0 y4_1 e4_62 = some y ∧ ff = [(5, .int .i64 how), (6, .int .i64 y4_1), (7, .bool fit), (12, .pointer (some ⟨b0_1, 0, none⟩)), (17, .pointer (some ⟨b1_2, 0, none⟩)), (18, .pointer (some ⟨b5_3_0, 0, none⟩)), (19, .pointer (some ⟨b5_3_1, 0, none⟩)), (62, .bool e4_62)] ∧ (CacheA b5_3_0 y5_3.1) :: (RChA b5_3_1 y5_3.2) :: (Asn.own b1_2 (.cells #[.int .i64 e0_b1_2_0, .int .i64 y1_1.line, .int .i64 y1_1.id, .int .i64 y1_1.step, .int .i64 y1_1.state, .int .i64 y1_1.head, .slice a1_1_00 (List.length y1_1.data) c1_1_00, .int .i64 y1_1.next, .int .i64 y1_1.told] 29 (0, 0))) :: (ImmI a1_1_00 y1_1.data) :: (Asn.own b0_1 (.cells #[.int .i64 p.kind, .int .i64 p.src, .int .i64 p.dst, .int .i64 p.id, .int .i64 p.line, .int .i64 p.ptr, .int .i64 p.state, .bool p.flag, .slice pa (List.length p.data) pcap] 33 (0, 0))) :: Γ = ΔΔ) (by kernel_rfl) ?_ ?_
   ·rintro _ _ ⟨e4_62, H, rfl, rfl⟩
    rw [rolloutNextS_j4] at H
    rcases Bool.eq_false_or_eq_true (e4_62) with h8 | h8
    ·replace H := bifT H h8
     refine at_true (t := e4_62) (x := C6 [1,1,1,1,1,1,0,1,1,0]) (y := C6 [1,1,1,1,1,1,0,1,1,1]) (o := .tmp 62) (by kernel_rfl) (by kernel_rfl) (by kernel_rfl) h8 ?_
     refine aq (x := C6 [1,1,1,1,1,1,0,1,1,0,0]) (y := C6 [1,1,1,1,1,1,0,1,1,0,1]) ?_
     refine ar (id := 10) 9 ?_
     refine sp 64 (.pointer (some ⟨b5_3_0, 0, none⟩)) ?_
     refine sp 65 (.pointer (some ⟨b1_2, 1, none⟩)) ?_
     refine sl 66 (.int .i64 y1_1.line) (load1 (off := 1) (fun _ => by kernel_rfl) (holds_own (.there (.there .here))) (by kernel_rfl)) ?_
     refine CacheA.tox .here ?_
     intro x10_3_b5_3_0
     obtain ⟨y10_3, hy10_3, H⟩ := bindE H
     refine s_call 67 14 #[.pointer (some ⟨b5_3_0, 0, none⟩), .int .i64 y1_1.line] (by kernel_rfl) (by kernel_rfl) (fun _ => by kernel_rfl) (VictimF_tr b5_3_0 x10_3_b5_3_0 y5_3.1 y1_1.line y10_3 hy10_3) ?_
     rintro _ _ ⟨rfl, rfl⟩
     refine sp 63 (.tuple #[.int .i64 y10_3.1, .bool y10_3.2]) ?_
     refine sp 68 (.int .i64 y10_3.1) ?_
     refine sp 69 (.bool y10_3.2) ?_
     refine sp 22 (.int .i64 y10_3.1) ?_
     refine sp 23 (.bool y10_3.2) ?_
     refine ops_end ?_
     refine ae [(5, .int .i64 how), (6, .int .i64 y4_1), (7, .bool fit), (12, .pointer (some ⟨b0_1, 0, none⟩)), (17, .pointer (some ⟨b1_2, 0, none⟩)), (18, .pointer (some ⟨b5_3_0, 0, none⟩)), (19, .pointer (some ⟨b5_3_1, 0, none⟩)), (22, .int .i64 y10_3.1)] ?_
     refine at_then_normal ?_
     refine At.conv (Γ' := (CacheA b5_3_0 y5_3.1) :: (RChA b5_3_1 y5_3.2) :: (Asn.own b1_2 (.cells #[.int .i64 e0_b1_2_0, .int .i64 y1_1.line, .int .i64 y1_1.id, .int .i64 y1_1.step, .int .i64 y1_1.state, .int .i64 y1_1.head, .slice a1_1_00 (List.length y1_1.data) c1_1_00, .int .i64 y1_1.next, .int .i64 y1_1.told] 29 (0, 0))) :: (ImmI a1_1_00 y1_1.data) :: (Asn.own b0_1 (.cells #[.int .i64 p.kind, .int .i64 p.src, .int .i64 p.dst, .int .i64 p.id, .int .i64 p.line, .int .i64 p.ptr, .int .i64 p.state, .bool p.flag, .slice pa (List.length p.data) pcap] 33 (0, 0))) :: Γ) (fun w hw => CacheXA.shut (hw.pull .here)) ?_
     refine aq (x := C6 [1,1,1,1,1,1,0,1,1,0,1,0]) (y := C6 [1,1,1,1,1,1,0,1,1,0,1,1]) ?_
     refine ar (id := 11) 3 ?_
     refine sp 70 (.pointer (some ⟨b5_3_0, 0, none⟩)) ?_
     refine sp 71 (.int .i64 y10_3.1) ?_
     obtain ⟨y11_2, hy11_2, H⟩ := bindE H
     refine s_call 72 15 #[.pointer (some ⟨b5_3_0, 0, none⟩), .int .i64 y10_3.1] (by kernel_rfl) (by kernel_rfl) (fun _ => by kernel_rfl) (DropF_tr b5_3_0 y5_3.1 y10_3.1 y11_2 hy11_2) ?_
     rintro _ _ ⟨a11_2_00, c11_2_00, rfl, rfl⟩
     refine ops_end ?_
     refine ae [(5, .int .i64 how), (6, .int .i64 y4_1), (7, .bool fit), (12, .pointer (some ⟨b0_1, 0, none⟩)), (17, .pointer (some ⟨b1_2, 0, none⟩)), (18, .pointer (some ⟨b5_3_0, 0, none⟩)), (19, .pointer (some ⟨b5_3_1, 0, none⟩)), (22, .int .i64 y10_3.1)] ?_
     refine at_then_normal ?_
     refine ar (id := 12) 3 ?_
     refine sp 73 (.pointer (some ⟨b5_3_1, 0, none⟩)) ?_
     refine sp 74 (.int .i64 y10_3.1) ?_
     obtain ⟨y12_2, hy12_2, H⟩ := bindE H
     refine s_call 75 16 #[.pointer (some ⟨b5_3_1, 0, none⟩), .int .i64 y10_3.1] (by kernel_rfl) (by kernel_rfl) (fun _ => by kernel_rfl) (Tr.conv (Γ' := (RChA b5_3_1 y5_3.2) :: (IntsA a11_2_00 c11_2_00 y11_2.1.data) :: (CacheA b5_3_0 y11_2.2.2) :: (Asn.own b1_2 (.cells #[.int .i64 e0_b1_2_0, .int .i64 y1_1.line, .int .i64 y1_1.id, .int .i64 y1_1.step, .int .i64 y1_1.state, .int .i64 y1_1.head, .slice a1_1_00 (List.length y1_1.data) c1_1_00, .int .i64 y1_1.next, .int .i64 y1_1.told] 29 (0, 0))) :: (ImmI a1_1_00 y1_1.data) :: (Asn.own b0_1 (.cells #[.int .i64 p.kind, .int .i64 p.src, .int .i64 p.dst, .int .i64 p.id, .int .i64 p.line, .int .i64 p.ptr, .int .i64 p.state, .bool p.flag, .slice pa (List.length p.data) pcap] 33 (0, 0))) :: Γ) (fun w hw => (Sat.less (.take (.there (.there .here)) (.take .here (.take .here (.take .here (.take .here (.take .here .refl)))))) hw)) (RDropF_tr b5_3_1 y5_3.2 y10_3.1 y12_2 hy12_2)) ?_
     rintro _ _ ⟨a12_2_00, c12_2_00, rfl, rfl⟩
     refine ops_end ?_
     refine ae [(5, .int .i64 how), (6, .int .i64 y4_1), (7, .bool fit), (12, .pointer (some ⟨b0_1, 0, none⟩)), (17, .pointer (some ⟨b1_2, 0, none⟩)), (18, .pointer (some ⟨b5_3_0, 0, none⟩)), (19, .pointer (some ⟨b5_3_1, 0, none⟩))] ?_
     refine at_round_normal ?_
     exact at_join_mk [(5, .int .i64 how), (6, .int .i64 y4_1), (7, .bool fit), (12, .pointer (some ⟨b0_1, 0, none⟩)), (17, .pointer (some ⟨b1_2, 0, none⟩)), (18, .pointer (some ⟨b5_3_0, 0, none⟩)), (19, .pointer (some ⟨b5_3_1, 0, none⟩))] ((CacheA b5_3_0 y11_2.2.2) :: (RChA b5_3_1 y12_2.2.2) :: (Asn.own b1_2 (.cells #[.int .i64 e0_b1_2_0, .int .i64 y1_1.line, .int .i64 y1_1.id, .int .i64 y1_1.step, .int .i64 y1_1.state, .int .i64 y1_1.head, .slice a1_1_00 (List.length y1_1.data) c1_1_00, .int .i64 y1_1.next, .int .i64 y1_1.told] 29 (0, 0))) :: (ImmI a1_1_00 y1_1.data) :: (Asn.own b0_1 (.cells #[.int .i64 p.kind, .int .i64 p.src, .int .i64 p.dst, .int .i64 p.id, .int .i64 p.line, .int .i64 p.ptr, .int .i64 p.state, .bool p.flag, .slice pa (List.length p.data) pcap] 33 (0, 0))) :: Γ) ⟨by kernel_rfl, by kernel_rfl, by kernel_rfl, by kernel_rfl, by kernel_rfl, by kernel_rfl, by kernel_rfl, trivial⟩ (fun w hw => (Sat.less (.take (.there (.there (.there .here))) (.take (.there .here) (.take (.there (.there .here)) (.take (.there (.there .here)) (.take (.there (.there .here)) (.drop .here (.drop .here .refl))))))) hw)) ⟨y11_2.2.2, y12_2.2.2, H, rfl, rfl⟩
    ·replace H := bifF H h8
     refine at_false (t := e4_62) (x := C6 [1,1,1,1,1,1,0,1,1,0]) (y := C6 [1,1,1,1,1,1,0,1,1,1]) (o := .tmp 62) (by kernel_rfl) (by kernel_rfl) (by kernel_rfl) h8 ?_
     refine at_skip (by kernel_rfl) ?_
     refine at_round_normal ?_
     exact at_join_mk [(5, .int .i64 how), (6, .int .i64 y4_1), (7, .bool fit), (12, .pointer (some ⟨b0_1, 0, none⟩)), (17, .pointer (some ⟨b1_2, 0, none⟩)), (18, .pointer (some ⟨b5_3_0, 0, none⟩)), (19, .pointer (some ⟨b5_3_1, 0, none⟩))] ((CacheA b5_3_0 y5_3.1) :: (RChA b5_3_1 y5_3.2) :: (Asn.own b1_2 (.cells #[.int .i64 e0_b1_2_0, .int .i64 y1_1.line, .int .i64 y1_1.id, .int .i64 y1_1.step, .int .i64 y1_1.state, .int .i64 y1_1.head, .slice a1_1_00 (List.length y1_1.data) c1_1_00, .int .i64 y1_1.next, .int .i64 y1_1.told] 29 (0, 0))) :: (ImmI a1_1_00 y1_1.data) :: (Asn.own b0_1 (.cells #[.int .i64 p.kind, .int .i64 p.src, .int .i64 p.dst, .int .i64 p.id, .int .i64 p.line, .int .i64 p.ptr, .int .i64 p.state, .bool p.flag, .slice pa (List.length p.data) pcap] 33 (0, 0))) :: Γ) ⟨by kernel_rfl, by kernel_rfl, by kernel_rfl, by kernel_rfl, by kernel_rfl, by kernel_rfl, by kernel_rfl, trivial⟩ (fun w hw => (Sat.less (.take .here (.take .here (.take .here (.take .here (.take .here .refl))))) hw)) ⟨y5_3.1, y5_3.2, H, rfl, rfl⟩
   ·refine ar (id := 9) 8 ?_
    refine sp 55 (.bool y8_3.2) ?_
    refine sp 56 (.bool !y8_3.2) ?_
    rcases Bool.eq_false_or_eq_true (!y8_3.2) with h9 | h9
    ·replace H := bifT H h9
     refine sr 57 (.bool true) (run_eq (v := .bool (!y8_3.2)) (fun _ => by kernel_rfl) (congrArg Value.bool h9)) ?_
     refine sp 58 (.pointer (some ⟨b5_3_0, 0, none⟩)) ?_
     refine sp 59 (.pointer (some ⟨b1_2, 1, none⟩)) ?_
     refine sl 60 (.int .i64 y1_1.line) (load1 (off := 1) (fun _ => by kernel_rfl) (holds_own (.there (.there (.there (.there .here))))) (by kernel_rfl)) ?_
     obtain ⟨y9_6, hy9_6, H⟩ := bindE H
     refine s_call 61 13 #[.pointer (some ⟨b5_3_0, 0, none⟩), .int .i64 y1_1.line] (by kernel_rfl) (by kernel_rfl) (fun _ => by kernel_rfl) (Tr.conv (Γ' := (CacheA b5_3_0 y5_3.1) :: (Asn.own b8_7 (.cells #[.int .i64 y8_3.1.fwd, .int .i64 y8_3.1.back, .int .i64 y8_3.1.line, .int .i64 y8_3.1.used, .bool y8_3.1.dirty, .slice a8_3_00 (List.length y8_3.1.data) c8_3_00] 46 (0, 0))) :: (IntsA a8_3_00 c8_3_00 y8_3.1.data) :: (RChA b5_3_1 y5_3.2) :: (Asn.own b1_2 (.cells #[.int .i64 e0_b1_2_0, .int .i64 y1_1.line, .int .i64 y1_1.id, .int .i64 y1_1.step, .int .i64 y1_1.state, .int .i64 y1_1.head, .slice a1_1_00 (List.length y1_1.data) c1_1_00, .int .i64 y1_1.next, .int .i64 y1_1.told] 29 (0, 0))) :: (ImmI a1_1_00 y1_1.data) :: (Asn.own b0_1 (.cells #[.int .i64 p.kind, .int .i64 p.src, .int .i64 p.dst, .int .i64 p.id, .int .i64 p.line, .int .i64 p.ptr, .int .i64 p.state, .bool p.flag, .slice pa (List.length p.data) pcap] 33 (0, 0))) :: Γ) (fun w hw => (Sat.less (.take (.there (.there .here)) (.take .here (.take .here (.take .here (.take .here (.take .here (.take .here .refl))))))) hw)) (FullF_tr b5_3_0 y5_3.1 y1_1.line y9_6 hy9_6)) ?_
     rintro _ _ ⟨rfl, rfl⟩
     refine sp 62 (.bool y9_6) ?_
     refine ops_end ?_
     refine ae [(5, .int .i64 how), (6, .int .i64 y4_1), (7, .bool fit), (12, .pointer (some ⟨b0_1, 0, none⟩)), (17, .pointer (some ⟨b1_2, 0, none⟩)), (18, .pointer (some ⟨b5_3_0, 0, none⟩)), (19, .pointer (some ⟨b5_3_1, 0, none⟩)), (62, .bool y9_6)] ?_
     refine at_round_normal ?_
     exact at_join_mk [(5, .int .i64 how), (6, .int .i64 y4_1), (7, .bool fit), (12, .pointer (some ⟨b0_1, 0, none⟩)), (17, .pointer (some ⟨b1_2, 0, none⟩)), (18, .pointer (some ⟨b5_3_0, 0, none⟩)), (19, .pointer (some ⟨b5_3_1, 0, none⟩)), (62, .bool y9_6)] ((CacheA b5_3_0 y5_3.1) :: (RChA b5_3_1 y5_3.2) :: (Asn.own b1_2 (.cells #[.int .i64 e0_b1_2_0, .int .i64 y1_1.line, .int .i64 y1_1.id, .int .i64 y1_1.step, .int .i64 y1_1.state, .int .i64 y1_1.head, .slice a1_1_00 (List.length y1_1.data) c1_1_00, .int .i64 y1_1.next, .int .i64 y1_1.told] 29 (0, 0))) :: (ImmI a1_1_00 y1_1.data) :: (Asn.own b0_1 (.cells #[.int .i64 p.kind, .int .i64 p.src, .int .i64 p.dst, .int .i64 p.id, .int .i64 p.line, .int .i64 p.ptr, .int .i64 p.state, .bool p.flag, .slice pa (List.length p.data) pcap] 33 (0, 0))) :: Γ) ⟨by kernel_rfl, by kernel_rfl, by kernel_rfl, by kernel_rfl, by kernel_rfl, by kernel_rfl, by kernel_rfl, by kernel_rfl, trivial⟩ (fun w hw => (Sat.less (.take .here (.take (.there (.there .here)) (.take (.there (.there .here)) (.take (.there (.there .here)) (.take (.there (.there .here)) (.drop .here (.drop .here .refl))))))) hw)) ⟨y9_6, H, rfl, rfl⟩
    ·replace H := bifF H h9
     refine sr 57 (.bool false) (run_eq (v := .bool (!y8_3.2)) (fun _ => by kernel_rfl) (congrArg Value.bool h9)) ?_
     refine sa 58 ?_
     refine sa 59 ?_
     refine sa 60 ?_
     refine sa 61 ?_
     refine sp 62 (.bool false) ?_
     refine ops_end ?_
     refine ae [(5, .int .i64 how), (6, .int .i64 y4_1), (7, .bool fit), (12, .pointer (some ⟨b0_1, 0, none⟩)), (17, .pointer (some ⟨b1_2, 0, none⟩)), (18, .pointer (some ⟨b5_3_0, 0, none⟩)), (19, .pointer (some ⟨b5_3_1, 0, none⟩)), (62, .bool false)] ?_
     refine at_round_normal ?_
     exact at_join_mk [(5, .int .i64 how), (6, .int .i64 y4_1), (7, .bool fit), (12, .pointer (some ⟨b0_1, 0, none⟩)), (17, .pointer (some ⟨b1_2, 0, none⟩)), (18, .pointer (some ⟨b5_3_0, 0, none⟩)), (19, .pointer (some ⟨b5_3_1, 0, none⟩)), (62, .bool false)] ((CacheA b5_3_0 y5_3.1) :: (RChA b5_3_1 y5_3.2) :: (Asn.own b1_2 (.cells #[.int .i64 e0_b1_2_0, .int .i64 y1_1.line, .int .i64 y1_1.id, .int .i64 y1_1.step, .int .i64 y1_1.state, .int .i64 y1_1.head, .slice a1_1_00 (List.length y1_1.data) c1_1_00, .int .i64 y1_1.next, .int .i64 y1_1.told] 29 (0, 0))) :: (ImmI a1_1_00 y1_1.data) :: (Asn.own b0_1 (.cells #[.int .i64 p.kind, .int .i64 p.src, .int .i64 p.dst, .int .i64 p.id, .int .i64 p.line, .int .i64 p.ptr, .int .i64 p.state, .bool p.flag, .slice pa (List.length p.data) pcap] 33 (0, 0))) :: Γ) ⟨by kernel_rfl, by kernel_rfl, by kernel_rfl, by kernel_rfl, by kernel_rfl, by kernel_rfl, by kernel_rfl, by kernel_rfl, trivial⟩ (fun w hw => (Sat.less (.take (.there (.there .here)) (.take (.there (.there .here)) (.take (.there (.there .here)) (.take (.there (.there .here)) (.take (.there (.there .here)) (.drop .here (.drop .here .refl))))))) hw)) ⟨false, H, rfl, rfl⟩
 ·refine aq (x := C6 [1,1,0,0]) (y := C6 [1,1,0,1]) ?_
  refine ar (id := 2) 3 ?_
  refine sp 33 (.int .i64 how) ?_
  refine sr 34 (.int .i64 (how.tmod (5 : Int))) (run_remP (a := how) (b := 5) (fun _ => by kernel_rfl) (by decide)) ?_
  refine sp 35 (.bool (!(decide ((how.tmod (5 : Int)) = (4 : Int))))) ?_
  refine ops_end ?_
  refine ae [(1, .slice linesa (List.length lines) linescap), (2, .slice linksa (List.length links) linkscap), (3, .slice dataa (List.length data) datacap), (5, .int .i64 how), (6, .int .i64 node), (7, .bool fit), (12, .pointer (some ⟨b0_1, 0, none⟩)), (17, .pointer (some ⟨b1_2, 0, none⟩)), (35, .bool (!(decide ((how.tmod (5 : Int)) = (4 : Int)))))] ?_
  refine at_then_normal ?_
  rcases Bool.eq_false_or_eq_true (!(decide ((how.tmod (5 : Int)) = (4 : Int)))) with h10 | h10
  ·replace H := bifT H h10
   refine at_true (t := !(decide ((how.tmod (5 : Int)) = (4 : Int)))) (x := C6 [1,1,0,1,0]) (y := C6 [1,1,0,1,1]) (o := .tmp 35) (by kernel_rfl) (by kernel_rfl) (by kernel_rfl) h10 ?_
   refine ar (id := 3) 2 ?_
   refine sp 36 (.pointer (some ⟨b1_2, 0, none⟩)) ?_
   refine s_do (by kernel_rfl) (by kernel_rfl) (st_store (off := 0) (vs := [.int .i64 (3)]) (c' := #[.int .i64 (3), .int .i64 y1_1.line, .int .i64 y1_1.id, .int .i64 y1_1.step, .int .i64 y1_1.state, .int .i64 y1_1.head, .slice a1_1_00 (List.length y1_1.data) c1_1_00, .int .i64 y1_1.next, .int .i64 y1_1.told]) (fun _ => by kernel_rfl) .here (by kernel_rfl) (by kernel_rfl) (by kernel_rfl)) ?_
   rintro _ _ ⟨rfl, rfl⟩
   refine ops_end ?_
   refine ae [(1, .slice linesa (List.length lines) linescap), (2, .slice linksa (List.length links) linkscap), (3, .slice dataa (List.length data) datacap), (5, .int .i64 how), (6, .int .i64 node), (7, .bool fit), (12, .pointer (some ⟨b0_1, 0, none⟩)), (17, .pointer (some ⟨b1_2, 0, none⟩))] ?_
   refine at_round_normal ?_
   exact at_join_mk [(1, .slice linesa (List.length lines) linescap), (2, .slice linksa (List.length links) linkscap), (3, .slice dataa (List.length data) datacap), (5, .int .i64 how), (6, .int .i64 node), (7, .bool fit), (12, .pointer (some ⟨b0_1, 0, none⟩)), (17, .pointer (some ⟨b1_2, 0, none⟩))] ((Asn.own b1_2 (.cells #[.int .i64 3, .int .i64 y1_1.line, .int .i64 y1_1.id, .int .i64 y1_1.step, .int .i64 y1_1.state, .int .i64 y1_1.head, .slice a1_1_00 (List.length y1_1.data) c1_1_00, .int .i64 y1_1.next, .int .i64 y1_1.told] 29 (0, 0))) :: (ImmI a1_1_00 y1_1.data) :: (Asn.own b0_1 (.cells #[.int .i64 p.kind, .int .i64 p.src, .int .i64 p.dst, .int .i64 p.id, .int .i64 p.line, .int .i64 p.ptr, .int .i64 p.state, .bool p.flag, .slice pa (List.length p.data) pcap] 33 (0, 0))) :: Γ) ⟨by kernel_rfl, by kernel_rfl, by kernel_rfl, by kernel_rfl, by kernel_rfl, by kernel_rfl, by kernel_rfl, by kernel_rfl, trivial⟩ (fun w hw => (Sat.less (.take .here (.take .here (.take .here (.drop .here .refl)))) hw)) ⟨3, H, rfl, rfl⟩
  ·replace H := bifF H h10
   refine at_false (t := !(decide ((how.tmod (5 : Int)) = (4 : Int)))) (x := C6 [1,1,0,1,0]) (y := C6 [1,1,0,1,1]) (o := .tmp 35) (by kernel_rfl) (by kernel_rfl) (by kernel_rfl) h10 ?_
   refine at_skip (by kernel_rfl) ?_
   refine at_round_normal ?_
   exact at_join_mk [(1, .slice linesa (List.length lines) linescap), (2, .slice linksa (List.length links) linkscap), (3, .slice dataa (List.length data) datacap), (5, .int .i64 how), (6, .int .i64 node), (7, .bool fit), (12, .pointer (some ⟨b0_1, 0, none⟩)), (17, .pointer (some ⟨b1_2, 0, none⟩))] ((Asn.own b1_2 (.cells #[.int .i64 y1_1.kind, .int .i64 y1_1.line, .int .i64 y1_1.id, .int .i64 y1_1.step, .int .i64 y1_1.state, .int .i64 y1_1.head, .slice a1_1_00 (List.length y1_1.data) c1_1_00, .int .i64 y1_1.next, .int .i64 y1_1.told] 29 (0, 0))) :: (ImmI a1_1_00 y1_1.data) :: (Asn.own b0_1 (.cells #[.int .i64 p.kind, .int .i64 p.src, .int .i64 p.dst, .int .i64 p.id, .int .i64 p.line, .int .i64 p.ptr, .int .i64 p.state, .bool p.flag, .slice pa (List.length p.data) pcap] 33 (0, 0))) :: Γ) ⟨by kernel_rfl, by kernel_rfl, by kernel_rfl, by kernel_rfl, by kernel_rfl, by kernel_rfl, by kernel_rfl, by kernel_rfl, trivial⟩ (fun w hw => (Sat.less (.take .here (.take .here (.take .here (.drop .here .refl)))) hw)) ⟨y1_1.kind, H, rfl, rfl⟩
end Go.Proofs.Ytfndeehlbcbkpaa
