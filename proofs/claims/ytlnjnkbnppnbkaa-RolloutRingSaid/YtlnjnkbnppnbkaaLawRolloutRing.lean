/- The law RolloutRing: its walk. -/
import Derived.Test.YtlnjnkbnppnbkaaBoA
import Derived.Test.YtlnjnkbnppnbkaaSvA
import Derived.Test.YtlnjnkbnppnbkaaSlPtrs
import Derived.Test.YtlnjnkbnppnbkaaRoA
namespace Go.Proofs.Ytlnjnkbnppnbkaa
open Go Go.RowKit
set_option linter.unusedVariables false
set_option linter.unusedSimpArgs false
def wakes16S : Option (Bool) :=
 (bothS ([] : List Int) ([] : List Int) ([] : List Int)).bind fun y1_0 => letP ([7] : List Int) fun l4_1 => (enewS (1 : Int) ((-1) : Int) ((-1) : Int) true l4_1).bind fun y4_2 => (putS y1_0.1 y4_2).bind fun y4_3 => (dbeginS (3 : Int) (1 : Int) (0 : Int)).bind fun y5_0 => letP ([3] : List Int) fun l5_2 => (rnextS y5_0 (2 : Int) y4_3.2 (⟨7, 0, 0, 0, 1, 2, 2, false, l5_2⟩ : PktS)).bind fun y5_4 => (daskS y5_4.1 (2 : Int) (0 : Int)).bind fun y6_1 => (bif y5_4.2.1 then (bif decide (y6_1.kind = (2 : Int)) then (bif y6_1.flag then (bif decide ((((List.length y6_1.data) : Nat) : Int) = (1 : Int)) then chk (0 ≤ (0 : Int) ∧ (0 : Int) < ((y6_1.data.length : Nat) : Int)) ((bif decide ((nth y6_1.data (0 : Int)) = (7 : Int)) then (bif decide (y6_1.state = (0 : Int)) then (bif decide (y6_1.ptr = ((-1) : Int)) then letP (lenC y5_4.2.2) fun y7_35 => some (decide (y7_35 = (0 : Int))) else some false) else some false) else some false)) else some false) else some false) else some false) else some false)
noncomputable def C31 (p : List Nat) : Code := codeAt (bodyOf Try.f31) p
set_option maxRecDepth 100000 in
set_option maxHeartbeats 8000000 in
theorem W16F_tr {W0 : World} {Γ : List Asn}   (y : Bool) (H : wakes16S = some y) : Tr Try.prog 31 #[] W0 (Γ) (fun r Δ => r = .bool y ∧ Δ = Γ) := by
 unfold wakes16S at H
 refine Tr.enter (fn := Try.f31) (c := C31 []) (args := []) 64 Try.func31 (by kernel_rfl) (by kernel_rfl) ?_
 refine At.env [] trivial ?_
 refine aq (x := C31 [0]) (y := C31 [1]) ?_
 refine ar (id := 0) 1 ?_
 refine sp 0 (.bool false) ?_
 refine ops_end ?_
 refine At.env [] trivial ?_
 refine at_then_normal ?_
 refine aq (x := C31 [1,0]) (y := C31 [1,1]) ?_
 refine ar (id := 1) 6 ?_
 obtain ⟨y1_0, hy1_0, H⟩ := bindE H
 refine s_call 7 13 #[.slice none 0 0, .slice none 0 0, .slice none 0 0] (by kernel_rfl) (by kernel_rfl) (fun _ => by kernel_rfl) (BothF_tr none 0 ([] : List Int) none 0 ([] : List Int) none 0 ([] : List Int) Reads.nil Reads.nil Reads.nil (Nat.le_refl _) y1_0 hy1_0) ?_
 rintro _ _ ⟨b1_0_0, b1_0_1, rfl, rfl⟩
 refine sp 6 (.tuple #[.pointer (some ⟨b1_0_0, 0, none⟩), .pointer (some ⟨b1_0_1, 0, none⟩)]) ?_
 refine sp 8 (.pointer (some ⟨b1_0_0, 0, none⟩)) ?_
 refine sp 9 (.pointer (some ⟨b1_0_1, 0, none⟩)) ?_
 refine sp 1 (.pointer (some ⟨b1_0_0, 0, none⟩)) ?_
 refine sp 2 (.pointer (some ⟨b1_0_1, 0, none⟩)) ?_
 refine ops_end ?_
 refine ae [(1, .pointer (some ⟨b1_0_0, 0, none⟩))] ?_
 refine at_then_normal ?_
 refine aq (x := C31 [1,1,0]) (y := C31 [1,1,1]) ?_
 refine aq (x := C31 [1,1,0,0]) (y := C31 [1,1,0,1]) ?_
 refine ar (id := 2) 2 ?_
 refine sp 10 (.pointer (some ⟨b1_0_0, 0, none⟩)) ?_
 refine sp 11 (.bool false) ?_
 refine ops_end ?_
 refine ae [(1, .pointer (some ⟨b1_0_0, 0, none⟩)), (11, .bool false)] ?_
 refine at_then_normal ?_
 refine at_false (t := false) (x := C31 [1,1,0,1,0]) (y := C31 [1,1,0,1,1]) (o := .tmp 11) (by kernel_rfl) (by kernel_rfl) (by kernel_rfl) rfl ?_
 refine at_skip (by kernel_rfl) ?_
 refine at_then_normal ?_
 refine aq (x := C31 [1,1,1,0]) (y := C31 [1,1,1,1]) ?_
 refine ar (id := 4) 4 ?_
 refine sp 12 (.pointer (some ⟨b1_0_0, 0, none⟩)) ?_
 obtain ⟨l4_1, hl4_1, H⟩ := letE H
 refine s_step 13 (by kernel_rfl) (by kernel_rfl) (st_new_ints (T := 3) (xs := l4_1) 1 hl4_1 (fun _ => by kernel_rfl) (by kernel_rfl)) ?_
 rintro _ _ ⟨b4_1, rfl, rfl⟩
 obtain ⟨y4_2, hy4_2, H⟩ := bindE H
 refine s_call 14 15 #[.int .i64 (1), .int .i64 (-1), .int .i64 (-1), .bool true, .slice (some ⟨b4_1, 0, none⟩) (List.length l4_1) 1] (by kernel_rfl) (by kernel_rfl) (fun _ => by kernel_rfl) (ENewF_tr (1 : Int) ((-1) : Int) ((-1) : Int) true (some ⟨b4_1, 0, none⟩) 1 l4_1 (RowsA.reads (k := 1) .here) y4_2 hy4_2) ?_
 rintro _ _ ⟨a4_2_00, c4_2_00, rfl, rfl⟩
 obtain ⟨y4_3, hy4_3, H⟩ := bindE H
 refine s_call 15 14 #[.pointer (some ⟨b1_0_0, 0, none⟩), .agg #[.int .i64 y4_2.fwd, .int .i64 y4_2.back, .int .i64 y4_2.line, .int .i64 y4_2.used, .bool y4_2.dirty, .slice a4_2_00 (List.length y4_2.data) c4_2_00]] (by kernel_rfl) (by kernel_rfl) (fun _ => by kernel_rfl) (Tr.conv (Γ' := (CacheA b1_0_0 y1_0.1) :: (IntsA a4_2_00 c4_2_00 y4_2.data) :: (IntsA (some ⟨b4_1, 0, none⟩) 1 l4_1) :: (RChA b1_0_1 y1_0.2) :: Γ) (fun w hw => (Sat.less (.take (.there (.there .here)) (.take .here (.take .here (.take .here .refl)))) hw)) (PutF_tr b1_0_0 y1_0.1 a4_2_00 c4_2_00 y4_2 (RowsA.reads (k := 1) .here) y4_3 hy4_3)) ?_
 rintro _ _ ⟨rfl, rfl⟩
 refine ops_end ?_
 refine ae [(1, .pointer (some ⟨b1_0_0, 0, none⟩))] ?_
 refine at_then_normal ?_
 refine aq (x := C31 [1,1,1,1,0]) (y := C31 [1,1,1,1,1]) ?_
 refine ar (id := 5) 11 ?_
 obtain ⟨y5_0, hy5_0, H⟩ := bindE H
 refine s_call 17 17 #[.int .i64 (3), .int .i64 (1), .int .i64 (0)] (by kernel_rfl) (by kernel_rfl) (fun _ => by kernel_rfl) (DBeginF_tr (3 : Int) (1 : Int) (0 : Int) y5_0 hy5_0) ?_
 rintro _ _ ⟨a5_0_00, c5_0_00, rfl, rfl⟩
 refine sp 18 (.pointer (some ⟨b1_0_0, 0, none⟩)) ?_
 obtain ⟨l5_2, hl5_2, H⟩ := letE H
 refine s_step 19 (by kernel_rfl) (by kernel_rfl) (st_new_ints (T := 3) (xs := l5_2) 1 hl5_2 (fun _ => by kernel_rfl) (by kernel_rfl)) ?_
 rintro _ _ ⟨b5_2, rfl, rfl⟩
 refine sp 20 (.agg #[.int .i64 (7), .int .i64 (0), .int .i64 (0), .int .i64 (0), .int .i64 (1), .int .i64 (2), .int .i64 (2), .bool false, .slice (some ⟨b5_2, 0, none⟩) (List.length l5_2) 1]) ?_
 obtain ⟨y5_4, hy5_4, H⟩ := bindE H
 refine s_call 21 30 #[.agg #[.int .i64 y5_0.kind, .int .i64 y5_0.line, .int .i64 y5_0.id, .int .i64 y5_0.step, .int .i64 y5_0.state, .int .i64 y5_0.head, .slice a5_0_00 (List.length y5_0.data) c5_0_00, .int .i64 y5_0.next, .int .i64 y5_0.told], .int .i64 (2), .pointer (some ⟨b1_0_0, 0, none⟩), .agg #[.int .i64 (7), .int .i64 (0), .int .i64 (0), .int .i64 (0), .int .i64 (1), .int .i64 (2), .int .i64 (2), .bool false, .slice (some ⟨b5_2, 0, none⟩) (List.length l5_2) 1]] (by kernel_rfl) (by kernel_rfl) (fun _ => by kernel_rfl) (Tr.conv (Γ' := (ImmI a5_0_00 y5_0.data) :: (CacheA b1_0_0 y4_3.2) :: (ImmI a5_0_00 y5_0.data) :: (IntsA (some ⟨b5_2, 0, none⟩) 1 l5_2) :: (IntsA a4_2_00 c4_2_00 y4_2.data) :: (IntsA (some ⟨b4_1, 0, none⟩) 1 l4_1) :: (RChA b1_0_1 y1_0.2) :: Γ) (fun w hw => (Sat.less (.take .here (.take (.there (.there .here)) (.take .here (.take .here (.take .here (.take .here (.take .here .refl))))))) (ImmR.dup (Sat.less (.take (.there .here) (.take .here (.take .here (.take .here (.take .here (.take .here .refl)))))) hw)))) (RNextF_tr a5_0_00 c5_0_00 y5_0 (2 : Int) b1_0_0 y4_3.2 (some ⟨b5_2, 0, none⟩) 1 (⟨7, 0, 0, 0, 1, 2, 2, false, l5_2⟩ : PktS) (RowsA.reads (k := 1) (.there .here)) y5_4 hy5_4)) ?_
 rintro _ _ ⟨a5_4_00, c5_4_00, rfl, rfl⟩
 refine sp 16 (.tuple #[.agg #[.int .i64 y5_4.1.kind, .int .i64 y5_4.1.line, .int .i64 y5_4.1.id, .int .i64 y5_4.1.step, .int .i64 y5_4.1.state, .int .i64 y5_4.1.head, .slice a5_4_00 (List.length y5_4.1.data) c5_4_00, .int .i64 y5_4.1.next, .int .i64 y5_4.1.told], .bool y5_4.2.1]) ?_
 refine sp 22 (.agg #[.int .i64 y5_4.1.kind, .int .i64 y5_4.1.line, .int .i64 y5_4.1.id, .int .i64 y5_4.1.step, .int .i64 y5_4.1.state, .int .i64 y5_4.1.head, .slice a5_4_00 (List.length y5_4.1.data) c5_4_00, .int .i64 y5_4.1.next, .int .i64 y5_4.1.told]) ?_
 refine sp 23 (.bool y5_4.2.1) ?_
 refine s_step 3 (by kernel_rfl) (by kernel_rfl) (st_new (T := 35) (cells := #[.int .i64 (0), .int .i64 (0), .int .i64 (0), .int .i64 (0), .int .i64 (0), .int .i64 (0), .slice none 0 0, .int .i64 (0), .int .i64 (0)]) (fun a => .pointer (some a)) (fun _ => by kernel_rfl)) ?_
 rintro _ _ ⟨b5_8, rfl, rfl⟩
 refine s_do (by kernel_rfl) (by kernel_rfl) (st_store (off := 0) (vs := [.int .i64 y5_4.1.kind, .int .i64 y5_4.1.line, .int .i64 y5_4.1.id, .int .i64 y5_4.1.step, .int .i64 y5_4.1.state, .int .i64 y5_4.1.head, .slice a5_4_00 (List.length y5_4.1.data) c5_4_00, .int .i64 y5_4.1.next, .int .i64 y5_4.1.told]) (c' := #[.int .i64 y5_4.1.kind, .int .i64 y5_4.1.line, .int .i64 y5_4.1.id, .int .i64 y5_4.1.step, .int .i64 y5_4.1.state, .int .i64 y5_4.1.head, .slice a5_4_00 (List.length y5_4.1.data) c5_4_00, .int .i64 y5_4.1.next, .int .i64 y5_4.1.told]) (fun _ => by kernel_rfl) .here (by kernel_rfl) (by kernel_rfl) (by kernel_rfl)) ?_
 rintro _ _ ⟨rfl, rfl⟩
 refine sp 4 (.bool y5_4.2.1) ?_
 refine ops_end ?_
 refine ae [(1, .pointer (some ⟨b1_0_0, 0, none⟩)), (3, .pointer (some ⟨b5_8, 0, none⟩)), (4, .bool y5_4.2.1)] ?_
 refine at_then_normal ?_
 refine aq (x := C31 [1,1,1,1,1,0]) (y := C31 [1,1,1,1,1,1]) ?_
 refine ar (id := 6) 4 ?_
 refine sl 24 (.agg #[.int .i64 y5_4.1.kind, .int .i64 y5_4.1.line, .int .i64 y5_4.1.id, .int .i64 y5_4.1.step, .int .i64 y5_4.1.state, .int .i64 y5_4.1.head, .slice a5_4_00 (List.length y5_4.1.data) c5_4_00, .int .i64 y5_4.1.next, .int .i64 y5_4.1.told]) (loadN (off := 0) (vs := [.int .i64 y5_4.1.kind, .int .i64 y5_4.1.line, .int .i64 y5_4.1.id, .int .i64 y5_4.1.step, .int .i64 y5_4.1.state, .int .i64 y5_4.1.head, .slice a5_4_00 (List.length y5_4.1.data) c5_4_00, .int .i64 y5_4.1.next, .int .i64 y5_4.1.told]) 9 (fun _ => by kernel_rfl) (holds_own .here) rfl (by exact ⟨rfl, rfl, rfl, rfl, rfl, rfl, rfl, rfl, rfl, trivial⟩)) ?_
 obtain ⟨y6_1, hy6_1, H⟩ := bindE H
 refine s_call 25 26 #[.agg #[.int .i64 y5_4.1.kind, .int .i64 y5_4.1.line, .int .i64 y5_4.1.id, .int .i64 y5_4.1.step, .int .i64 y5_4.1.state, .int .i64 y5_4.1.head, .slice a5_4_00 (List.length y5_4.1.data) c5_4_00, .int .i64 y5_4.1.next, .int .i64 y5_4.1.told], .int .i64 (2), .int .i64 (0)] (by kernel_rfl) (by kernel_rfl) (fun _ => by kernel_rfl) (DAskF_tr a5_4_00 c5_4_00 y5_4.1 (2 : Int) (0 : Int) (ImmR.reads (k := 1) (.there .here)) y6_1 hy6_1) ?_
 rintro _ _ ⟨a6_1_00, c6_1_00, rfl, rfl⟩
 refine s_step 5 (by kernel_rfl) (by kernel_rfl) (st_new (T := 40) (cells := #[.int .i64 (0), .int .i64 (0), .int .i64 (0), .int .i64 (0), .int .i64 (0), .int .i64 (0), .int .i64 (0), .bool false, .slice none 0 0]) (fun a => .pointer (some a)) (fun _ => by kernel_rfl)) ?_
 rintro _ _ ⟨b6_2, rfl, rfl⟩
 refine s_do (by kernel_rfl) (by kernel_rfl) (st_store (off := 0) (vs := [.int .i64 y6_1.kind, .int .i64 y6_1.src, .int .i64 y6_1.dst, .int .i64 y6_1.id, .int .i64 y6_1.line, .int .i64 y6_1.ptr, .int .i64 y6_1.state, .bool y6_1.flag, .slice a6_1_00 (List.length y6_1.data) c6_1_00]) (c' := #[.int .i64 y6_1.kind, .int .i64 y6_1.src, .int .i64 y6_1.dst, .int .i64 y6_1.id, .int .i64 y6_1.line, .int .i64 y6_1.ptr, .int .i64 y6_1.state, .bool y6_1.flag, .slice a6_1_00 (List.length y6_1.data) c6_1_00]) (fun _ => by kernel_rfl) .here (by kernel_rfl) (by kernel_rfl) (by kernel_rfl)) ?_
 rintro _ _ ⟨rfl, rfl⟩
 refine ops_end ?_
 refine ae [(1, .pointer (some ⟨b1_0_0, 0, none⟩)), (4, .bool y5_4.2.1), (5, .pointer (some ⟨b6_2, 0, none⟩))] ?_
 refine at_then_normal ?_
 refine aq (x := C31 [1,1,1,1,1,1,0]) (y := C31 [1,1,1,1,1,1,1]) ?_
 refine ar (id := 7) 39 ?_
 refine sp 26 (.bool y5_4.2.1) ?_
 rcases Bool.eq_false_or_eq_true (y5_4.2.1) with h1 | h1
 ·replace H := bifT H h1
  refine sr 27 (.bool true) (run_eq (v := .bool (y5_4.2.1)) (fun _ => by kernel_rfl) (congrArg Value.bool h1)) ?_
  refine sp 28 (.pointer (some ⟨b6_2, 0, none⟩)) ?_
  refine sl 29 (.int .i64 y6_1.kind) (load1 (off := 0) (fun _ => by kernel_rfl) (holds_own .here) (by kernel_rfl)) ?_
  refine sp 30 (.bool (decide (y6_1.kind = (2 : Int)))) ?_
  refine sp 31 (.bool (decide (y6_1.kind = (2 : Int)))) ?_
  rcases Bool.eq_false_or_eq_true (decide (y6_1.kind = (2 : Int))) with h2 | h2
  ·replace H := bifT H h2
   refine sr 32 (.bool true) (run_eq (v := .bool (decide (y6_1.kind = (2 : Int)))) (fun _ => by kernel_rfl) (congrArg Value.bool h2)) ?_
   refine sp 33 (.pointer (some ⟨b6_2, 7, none⟩)) ?_
   refine sl 34 (.bool y6_1.flag) (load1 (off := 7) (fun _ => by kernel_rfl) (holds_own .here) (by kernel_rfl)) ?_
   refine sp 35 (.bool y6_1.flag) ?_
   rcases Bool.eq_false_or_eq_true (y6_1.flag) with h3 | h3
   ·replace H := bifT H h3
    refine sr 36 (.bool true) (run_eq (v := .bool (y6_1.flag)) (fun _ => by kernel_rfl) (congrArg Value.bool h3)) ?_
    refine sp 37 (.pointer (some ⟨b6_2, 8, none⟩)) ?_
    refine sl 38 (.slice a6_1_00 (List.length y6_1.data) c6_1_00) (load1 (off := 8) (fun _ => by kernel_rfl) (holds_own .here) (by kernel_rfl)) ?_
    refine sp 39 (.int .i64 (((List.length y6_1.data) : Nat) : Int)) ?_
    refine sp 40 (.bool (decide ((((List.length y6_1.data) : Nat) : Int) = (1 : Int)))) ?_
    refine sp 41 (.bool (decide ((((List.length y6_1.data) : Nat) : Int) = (1 : Int)))) ?_
    rcases Bool.eq_false_or_eq_true (decide ((((List.length y6_1.data) : Nat) : Int) = (1 : Int))) with h4 | h4
    ·replace H := bifT H h4
     refine sr 42 (.bool true) (run_eq (v := .bool (decide ((((List.length y6_1.data) : Nat) : Int) = (1 : Int)))) (fun _ => by kernel_rfl) (congrArg Value.bool h4)) ?_
     refine sp 43 (.pointer (some ⟨b6_2, 8, none⟩)) ?_
     refine sl 44 (.slice a6_1_00 (List.length y6_1.data) c6_1_00) (load1 (off := 8) (fun _ => by kernel_rfl) (holds_own .here) (by kernel_rfl)) ?_
     obtain ⟨hc7_19_0, H⟩ := chkE H
     refine rows_at (.there .here) (by have := hc7_19_0; simp only [ints_length]; omega) ?_
     intro bb1 oo1 ha1
     refine sr 45 (.pointer (some ⟨bb1, oo1 + (((0 : Int)).toNat * 1 + 0), none⟩)) (index_at (t := 30) (sz := 1) (E := 3) (a := a6_1_00) (m := (List.length y6_1.data)) (c := c6_1_00) (b := bb1) (off := oo1) (i := ((0 : Int)).toNat) (tinfo 3) (fun _ => by kernel_rfl) (by kernel_rfl) (by kernel_rfl) (by kernel_rfl) ha1 (idx_cast hc7_19_0) (idx_nat hc7_19_0) rfl) ?_
     refine sl 46 (.int .i64 (nth y6_1.data (0 : Int))) (load1_at (off := oo1 + (((0 : Int)).toNat * 1 + 0)) (v := .int .i64 (nth y6_1.data (0 : Int))) (fun _ => by kernel_rfl) rfl (reads_cell (k := 1) (RowsA.reads (k := 1) (.there .here)) (ints_rows _) ha1 (nth_row hc7_19_0) (show [(.int .i64 (nth y6_1.data (0 : Int)) : Value)][0]? = some _ from rfl))) ?_
     refine sp 47 (.bool (decide ((nth y6_1.data (0 : Int)) = (7 : Int)))) ?_
     refine sp 48 (.bool (decide ((nth y6_1.data (0 : Int)) = (7 : Int)))) ?_
     rcases Bool.eq_false_or_eq_true (decide ((nth y6_1.data (0 : Int)) = (7 : Int))) with h5 | h5
     ·replace H := bifT H h5
      refine sr 49 (.bool true) (run_eq (v := .bool (decide ((nth y6_1.data (0 : Int)) = (7 : Int)))) (fun _ => by kernel_rfl) (congrArg Value.bool h5)) ?_
      refine sp 50 (.pointer (some ⟨b6_2, 6, none⟩)) ?_
      refine sl 51 (.int .i64 y6_1.state) (load1 (off := 6) (fun _ => by kernel_rfl) (holds_own .here) (by kernel_rfl)) ?_
      refine sp 52 (.bool (decide (y6_1.state = (0 : Int)))) ?_
      refine sp 53 (.bool (decide (y6_1.state = (0 : Int)))) ?_
      rcases Bool.eq_false_or_eq_true (decide (y6_1.state = (0 : Int))) with h6 | h6
      ·replace H := bifT H h6
       refine sr 54 (.bool true) (run_eq (v := .bool (decide (y6_1.state = (0 : Int)))) (fun _ => by kernel_rfl) (congrArg Value.bool h6)) ?_
       refine sp 55 (.pointer (some ⟨b6_2, 5, none⟩)) ?_
       refine sl 56 (.int .i64 y6_1.ptr) (load1 (off := 5) (fun _ => by kernel_rfl) (holds_own .here) (by kernel_rfl)) ?_
       refine sp 57 (.bool (decide (y6_1.ptr = ((-1) : Int)))) ?_
       refine sp 58 (.bool (decide (y6_1.ptr = ((-1) : Int)))) ?_
       rcases Bool.eq_false_or_eq_true (decide (y6_1.ptr = ((-1) : Int))) with h7 | h7
       ·replace H := bifT H h7
        refine sr 59 (.bool true) (run_eq (v := .bool (decide (y6_1.ptr = ((-1) : Int)))) (fun _ => by kernel_rfl) (congrArg Value.bool h7)) ?_
        refine sp 60 (.pointer (some ⟨b1_0_0, 0, none⟩)) ?_
        obtain ⟨y7_35, hy7_35, H⟩ := letE H
        refine s_call 61 23 #[.pointer (some ⟨b1_0_0, 0, none⟩)] (by kernel_rfl) (by kernel_rfl) (fun _ => by kernel_rfl) (Tr.conv (Γ' := (CacheA b1_0_0 y5_4.2.2) :: (Asn.own b6_2 (.cells #[.int .i64 y6_1.kind, .int .i64 y6_1.src, .int .i64 y6_1.dst, .int .i64 y6_1.id, .int .i64 y6_1.line, .int .i64 y6_1.ptr, .int .i64 y6_1.state, .bool y6_1.flag, .slice a6_1_00 (List.length y6_1.data) c6_1_00] 40 (0, 0))) :: (IntsA a6_1_00 c6_1_00 y6_1.data) :: (Asn.own b5_8 (.cells #[.int .i64 y5_4.1.kind, .int .i64 y5_4.1.line, .int .i64 y5_4.1.id, .int .i64 y5_4.1.step, .int .i64 y5_4.1.state, .int .i64 y5_4.1.head, .slice a5_4_00 (List.length y5_4.1.data) c5_4_00, .int .i64 y5_4.1.next, .int .i64 y5_4.1.told] 35 (0, 0))) :: (ImmI a5_4_00 y5_4.1.data) :: (ImmI a5_0_00 y5_0.data) :: (IntsA (some ⟨b5_2, 0, none⟩) 1 l5_2) :: (IntsA a4_2_00 c4_2_00 y4_2.data) :: (IntsA (some ⟨b4_1, 0, none⟩) 1 l4_1) :: (RChA b1_0_1 y1_0.2) :: Γ) (fun w hw => (Sat.less (.take (.there (.there (.there (.there .here)))) (.take .here (.take .here (.take .here (.take .here (.take .here (.take .here (.take .here (.take .here (.take .here .refl)))))))))) hw)) (LenF_tr b1_0_0 y5_4.2.2 y7_35 hy7_35)) ?_
        rintro _ _ ⟨rfl, rfl⟩
        refine sp 62 (.bool (decide (y7_35 = (0 : Int)))) ?_
        refine sp 63 (.bool (decide (y7_35 = (0 : Int)))) ?_
        refine sp 0 (.bool (decide (y7_35 = (0 : Int)))) ?_
        refine ops_end ?_
        refine ae [(0, .bool (decide (y7_35 = (0 : Int))))] ?_
        refine at_then_normal ?_
        refine at_ret (by kernel_rfl) ?_
        obtain rfl := someE H
        refine at_backR [.bool (decide (y7_35 = (0 : Int)))] (Γ) (rs := [.tmp 0]) (by kernel_rfl) (.cons (.tmp (by kernel_rfl)) .nil) (fun w hw => (Sat.less (.drop .here (.drop .here (.drop .here (.drop .here (.drop .here (.drop .here (.drop .here (.drop .here (.drop .here (.drop .here .refl)))))))))) hw)) ?_
        exact ⟨rfl, rfl⟩
       ·replace H := bifF H h7
        refine sr 59 (.bool false) (run_eq (v := .bool (decide (y6_1.ptr = ((-1) : Int)))) (fun _ => by kernel_rfl) (congrArg Value.bool h7)) ?_
        refine sa 60 ?_
        refine sa 61 ?_
        refine sa 62 ?_
        refine sp 63 (.bool false) ?_
        refine sp 0 (.bool false) ?_
        refine ops_end ?_
        refine ae [(0, .bool false)] ?_
        refine at_then_normal ?_
        refine at_ret (by kernel_rfl) ?_
        obtain rfl := someE H
        refine at_backR [.bool false] (Γ) (rs := [.tmp 0]) (by kernel_rfl) (.cons (.tmp (by kernel_rfl)) .nil) (fun w hw => (Sat.less (.drop .here (.drop .here (.drop .here (.drop .here (.drop .here (.drop .here (.drop .here (.drop .here (.drop .here (.drop .here .refl)))))))))) hw)) ?_
        exact ⟨rfl, rfl⟩
      ·replace H := bifF H h6
       refine sr 54 (.bool false) (run_eq (v := .bool (decide (y6_1.state = (0 : Int)))) (fun _ => by kernel_rfl) (congrArg Value.bool h6)) ?_
       refine sa 55 ?_
       refine sa 56 ?_
       refine sa 57 ?_
       refine sp 58 (.bool false) ?_
       refine sp 59 (.bool false) ?_
       refine sa 60 ?_
       refine sa 61 ?_
       refine sa 62 ?_
       refine sp 63 (.bool false) ?_
       refine sp 0 (.bool false) ?_
       refine ops_end ?_
       refine ae [(0, .bool false)] ?_
       refine at_then_normal ?_
       refine at_ret (by kernel_rfl) ?_
       obtain rfl := someE H
       refine at_backR [.bool false] (Γ) (rs := [.tmp 0]) (by kernel_rfl) (.cons (.tmp (by kernel_rfl)) .nil) (fun w hw => (Sat.less (.drop .here (.drop .here (.drop .here (.drop .here (.drop .here (.drop .here (.drop .here (.drop .here (.drop .here (.drop .here .refl)))))))))) hw)) ?_
       exact ⟨rfl, rfl⟩
     ·replace H := bifF H h5
      refine sr 49 (.bool false) (run_eq (v := .bool (decide ((nth y6_1.data (0 : Int)) = (7 : Int)))) (fun _ => by kernel_rfl) (congrArg Value.bool h5)) ?_
      refine sa 50 ?_
      refine sa 51 ?_
      refine sa 52 ?_
      refine sp 53 (.bool false) ?_
      refine sp 54 (.bool false) ?_
      refine sa 55 ?_
      refine sa 56 ?_
      refine sa 57 ?_
      refine sp 58 (.bool false) ?_
      refine sp 59 (.bool false) ?_
      refine sa 60 ?_
      refine sa 61 ?_
      refine sa 62 ?_
      refine sp 63 (.bool false) ?_
      refine sp 0 (.bool false) ?_
      refine ops_end ?_
      refine ae [(0, .bool false)] ?_
      refine at_then_normal ?_
      refine at_ret (by kernel_rfl) ?_
      obtain rfl := someE H
      refine at_backR [.bool false] (Γ) (rs := [.tmp 0]) (by kernel_rfl) (.cons (.tmp (by kernel_rfl)) .nil) (fun w hw => (Sat.less (.drop .here (.drop .here (.drop .here (.drop .here (.drop .here (.drop .here (.drop .here (.drop .here (.drop .here (.drop .here .refl)))))))))) hw)) ?_
      exact ⟨rfl, rfl⟩
    ·replace H := bifF H h4
     refine sr 42 (.bool false) (run_eq (v := .bool (decide ((((List.length y6_1.data) : Nat) : Int) = (1 : Int)))) (fun _ => by kernel_rfl) (congrArg Value.bool h4)) ?_
     refine sa 43 ?_
     refine sa 44 ?_
     refine sa 45 ?_
     refine sa 46 ?_
     refine sa 47 ?_
     refine sp 48 (.bool false) ?_
     refine sp 49 (.bool false) ?_
     refine sa 50 ?_
     refine sa 51 ?_
     refine sa 52 ?_
     refine sp 53 (.bool false) ?_
     refine sp 54 (.bool false) ?_
     refine sa 55 ?_
     refine sa 56 ?_
     refine sa 57 ?_
     refine sp 58 (.bool false) ?_
     refine sp 59 (.bool false) ?_
     refine sa 60 ?_
     refine sa 61 ?_
     refine sa 62 ?_
     refine sp 63 (.bool false) ?_
     refine sp 0 (.bool false) ?_
     refine ops_end ?_
     refine ae [(0, .bool false)] ?_
     refine at_then_normal ?_
     refine at_ret (by kernel_rfl) ?_
     obtain rfl := someE H
     refine at_backR [.bool false] (Γ) (rs := [.tmp 0]) (by kernel_rfl) (.cons (.tmp (by kernel_rfl)) .nil) (fun w hw => (Sat.less (.drop .here (.drop .here (.drop .here (.drop .here (.drop .here (.drop .here (.drop .here (.drop .here (.drop .here (.drop .here .refl)))))))))) hw)) ?_
     exact ⟨rfl, rfl⟩
   ·replace H := bifF H h3
    refine sr 36 (.bool false) (run_eq (v := .bool (y6_1.flag)) (fun _ => by kernel_rfl) (congrArg Value.bool h3)) ?_
    refine sa 37 ?_
    refine sa 38 ?_
    refine sa 39 ?_
    refine sa 40 ?_
    refine sp 41 (.bool false) ?_
    refine sp 42 (.bool false) ?_
    refine sa 43 ?_
    refine sa 44 ?_
    refine sa 45 ?_
    refine sa 46 ?_
    refine sa 47 ?_
    refine sp 48 (.bool false) ?_
    refine sp 49 (.bool false) ?_
    refine sa 50 ?_
    refine sa 51 ?_
    refine sa 52 ?_
    refine sp 53 (.bool false) ?_
    refine sp 54 (.bool false) ?_
    refine sa 55 ?_
    refine sa 56 ?_
    refine sa 57 ?_
    refine sp 58 (.bool false) ?_
    refine sp 59 (.bool false) ?_
    refine sa 60 ?_
    refine sa 61 ?_
    refine sa 62 ?_
    refine sp 63 (.bool false) ?_
    refine sp 0 (.bool false) ?_
    refine ops_end ?_
    refine ae [(0, .bool false)] ?_
    refine at_then_normal ?_
    refine at_ret (by kernel_rfl) ?_
    obtain rfl := someE H
    refine at_backR [.bool false] (Γ) (rs := [.tmp 0]) (by kernel_rfl) (.cons (.tmp (by kernel_rfl)) .nil) (fun w hw => (Sat.less (.drop .here (.drop .here (.drop .here (.drop .here (.drop .here (.drop .here (.drop .here (.drop .here (.drop .here (.drop .here .refl)))))))))) hw)) ?_
    exact ⟨rfl, rfl⟩
  ·replace H := bifF H h2
   refine sr 32 (.bool false) (run_eq (v := .bool (decide (y6_1.kind = (2 : Int)))) (fun _ => by kernel_rfl) (congrArg Value.bool h2)) ?_
   refine sa 33 ?_
   refine sa 34 ?_
   refine sp 35 (.bool false) ?_
   refine sp 36 (.bool false) ?_
   refine sa 37 ?_
   refine sa 38 ?_
   refine sa 39 ?_
   refine sa 40 ?_
   refine sp 41 (.bool false) ?_
   refine sp 42 (.bool false) ?_
   refine sa 43 ?_
   refine sa 44 ?_
   refine sa 45 ?_
   refine sa 46 ?_
   refine sa 47 ?_
   refine sp 48 (.bool false) ?_
   refine sp 49 (.bool false) ?_
   refine sa 50 ?_
   refine sa 51 ?_
   refine sa 52 ?_
   refine sp 53 (.bool false) ?_
   refine sp 54 (.bool false) ?_
   refine sa 55 ?_
   refine sa 56 ?_
   refine sa 57 ?_
   refine sp 58 (.bool false) ?_
   refine sp 59 (.bool false) ?_
   refine sa 60 ?_
   refine sa 61 ?_
   refine sa 62 ?_
   refine sp 63 (.bool false) ?_
   refine sp 0 (.bool false) ?_
   refine ops_end ?_
   refine ae [(0, .bool false)] ?_
   refine at_then_normal ?_
   refine at_ret (by kernel_rfl) ?_
   obtain rfl := someE H
   refine at_backR [.bool false] (Γ) (rs := [.tmp 0]) (by kernel_rfl) (.cons (.tmp (by kernel_rfl)) .nil) (fun w hw => (Sat.less (.drop .here (.drop .here (.drop .here (.drop .here (.drop .here (.drop .here (.drop .here (.drop .here (.drop .here (.drop .here .refl)))))))))) hw)) ?_
   exact ⟨rfl, rfl⟩
 ·replace H := bifF H h1
  refine sr 27 (.bool false) (run_eq (v := .bool (y5_4.2.1)) (fun _ => by kernel_rfl) (congrArg Value.bool h1)) ?_
  refine sa 28 ?_
  refine sa 29 ?_
  refine sa 30 ?_
  refine sp 31 (.bool false) ?_
  refine sp 32 (.bool false) ?_
  refine sa 33 ?_
  refine sa 34 ?_
  refine sp 35 (.bool false) ?_
  refine sp 36 (.bool false) ?_
  refine sa 37 ?_
  refine sa 38 ?_
  refine sa 39 ?_
  refine sa 40 ?_
  refine sp 41 (.bool false) ?_
  refine sp 42 (.bool false) ?_
  refine sa 43 ?_
  refine sa 44 ?_
  refine sa 45 ?_
  refine sa 46 ?_
  refine sa 47 ?_
  refine sp 48 (.bool false) ?_
  refine sp 49 (.bool false) ?_
  refine sa 50 ?_
  refine sa 51 ?_
  refine sa 52 ?_
  refine sp 53 (.bool false) ?_
  refine sp 54 (.bool false) ?_
  refine sa 55 ?_
  refine sa 56 ?_
  refine sa 57 ?_
  refine sp 58 (.bool false) ?_
  refine sp 59 (.bool false) ?_
  refine sa 60 ?_
  refine sa 61 ?_
  refine sa 62 ?_
  refine sp 63 (.bool false) ?_
  refine sp 0 (.bool false) ?_
  refine ops_end ?_
  refine ae [(0, .bool false)] ?_
  refine at_then_normal ?_
  refine at_ret (by kernel_rfl) ?_
  obtain rfl := someE H
  refine at_backR [.bool false] (Γ) (rs := [.tmp 0]) (by kernel_rfl) (.cons (.tmp (by kernel_rfl)) .nil) (fun w hw => (Sat.less (.drop .here (.drop .here (.drop .here (.drop .here (.drop .here (.drop .here (.drop .here (.drop .here (.drop .here (.drop .here .refl)))))))))) hw)) ?_
  exact ⟨rfl, rfl⟩
def rolloutRingS_j6 (v5_22 : Int) (r5 : Int → Int → Int → Option (Bool)) (e6_20 : Int) (e6_21 : Int) : Option (Bool) :=
 chk (inR (v5_22 + (1 : Int))) (r5 e6_20 e6_21 (v5_22 + (1 : Int)))
def rolloutRingS_j7 (v5_22 : Int) (r5 : Int → Int → Int → Option (Bool)) (y39_4 : Ent × Bool) (e7_224 : Bool) : Option (Bool) :=
 (bif e7_224 then some false else rolloutRingS_j6 v5_22 r5 v5_22 y39_4.1.fwd)
def rolloutRingS_k5 (y29_2 : PktS) (e5_20 : Int) (e5_21 : Int) (e5_22 : Int) : Option (Bool) :=
 (bif decide (e5_21 = ((-1) : Int)) then (bif decide (y29_2.state = (1 : Int)) then (wakes16S).bind fun y43_8 => some y43_8 else some false) else some false)
def rolloutRingS_l5 (y1_1 : Int) (y2_2 : Int) (e3_7x : List CacheS) (v : Int) (k5 : Int → Int → Int → Option (Bool)) : Nat → Int → Int → Int → Option (Bool)
 | 0 => fun _ _ _ => none
 | m + 1 => fun v5_20 v5_21 v5_22 => (bif decide (v5_22 < (wr ((1 : Int) + y1_1))) then (bif decide (v5_22 = y2_2) then rolloutRingS_j6 v5_22 (rolloutRingS_l5 y1_1 y2_2 e3_7x v k5 m) v5_20 v5_21 else chk (0 ≤ v5_22 ∧ v5_22 < ((List.length e3_7x : Nat) : Int)) ((findS (nthC e3_7x v5_22) (0 : Int)).bind fun y39_4 => (bif !y39_4.2 then rolloutRingS_j7 v5_22 (rolloutRingS_l5 y1_1 y2_2 e3_7x v k5 m) y39_4 true else (bif !(decide (v5_21 = v5_22)) then rolloutRingS_j7 v5_22 (rolloutRingS_l5 y1_1 y2_2 e3_7x v k5 m) y39_4 true else (bif !(decide (y39_4.1.back = v5_20)) then rolloutRingS_j7 v5_22 (rolloutRingS_l5 y1_1 y2_2 e3_7x v k5 m) y39_4 true else (ewordS y39_4.1 (0 : Int)).bind fun y40_16 => rolloutRingS_j7 v5_22 (rolloutRingS_l5 y1_1 y2_2 e3_7x v k5 m) y39_4 (!(decide (y40_16 = v)))))))) else k5 v5_20 v5_21 v5_22)
def rolloutRingS_j4 (y1_1 : Int) (y2_2 : Int) (e3_7x : List CacheS) (v : Int) (y29_2 : PktS) : Option (Bool) :=
 (bif decide ((wr ((1 : Int) + y1_1)) = (1 : Int)) then (wakes16S).bind fun y33_0 => some y33_0 else rolloutRingS_l5 y1_1 y2_2 e3_7x v (rolloutRingS_k5 y29_2) 64 (-1) y29_2.ptr 0)
def rolloutRingS_j10 (y25_6 : PktS × Int × CacheS) (y2_2 : Int) (v3_b18_16_0 : Int) (v3_b18_16_1 : Int) (v3_b18_16_2 : Int) (v3_b18_16_3 : Int) (v3_b18_16_4 : Int) (v3_b18_16_5 : Int) (v3_b18_16_6x : List Int) (v3_b18_16_7 : Int) (v3_b18_16_8 : Int) (v3_15 : Int) (r3 : (List CacheS) → Bool → Int → Int → Int → Int → Int → Int → Int → (List Int) → Int → Int → Option (Bool)) (e10_7x : List CacheS) : Option (Bool) :=
 (bif !(decide (y25_6.2.1 = (0 : Int))) then some false else chk (0 ≤ y2_2 ∧ y2_2 < ((List.length e10_7x : Nat) : Int)) ((rnextS (⟨v3_b18_16_0, v3_b18_16_1, v3_b18_16_2, v3_b18_16_3, v3_b18_16_4, v3_b18_16_5, v3_b18_16_6x, v3_b18_16_7, v3_b18_16_8⟩ : DealS) y2_2 (nthC e10_7x y2_2) y25_6.1).bind fun y28_7 => letP (setC e10_7x y2_2 y28_7.2.2) fun cs28_7 => chk (inR (v3_15 + (1 : Int))) (r3 cs28_7 y28_7.2.1 (v3_15 + (1 : Int)) y28_7.1.kind y28_7.1.line y28_7.1.id y28_7.1.step y28_7.1.state y28_7.1.head y28_7.1.data y28_7.1.next y28_7.1.told)))
def rolloutRingS_j9 (y22_2 : PktS) (v3_7x : List CacheS) (y2_2 : Int) (v3_b18_16_0 : Int) (v3_b18_16_1 : Int) (v3_b18_16_2 : Int) (v3_b18_16_3 : Int) (v3_b18_16_4 : Int) (v3_b18_16_5 : Int) (v3_b18_16_6x : List Int) (v3_b18_16_7 : Int) (v3_b18_16_8 : Int) (v3_15 : Int) (r3 : (List CacheS) → Bool → Int → Int → Int → Int → Int → Int → Int → (List Int) → Int → Int → Option (Bool)) (e9_107 : Bool) : Option (Bool) :=
 (bif e9_107 then some false else chk (0 ≤ y22_2.dst ∧ y22_2.dst < ((List.length v3_7x : Nat) : Int)) ((shandleS (nthC v3_7x y22_2.dst) y22_2).bind fun y25_6 => letP (setC v3_7x y22_2.dst y25_6.2.2) fun cs25_6 => rolloutRingS_j10 y25_6 y2_2 v3_b18_16_0 v3_b18_16_1 v3_b18_16_2 v3_b18_16_3 v3_b18_16_4 v3_b18_16_5 v3_b18_16_6x v3_b18_16_7 v3_b18_16_8 v3_15 r3 cs25_6))
def rolloutRingS_j8 (v3_b18_16_0 : Int) (v3_b18_16_1 : Int) (v3_b18_16_2 : Int) (v3_b18_16_3 : Int) (v3_b18_16_4 : Int) (v3_b18_16_5 : Int) (v3_b18_16_6x : List Int) (v3_b18_16_7 : Int) (v3_b18_16_8 : Int) (y2_2 : Int) (v3_15 : Int) (v3_7x : List CacheS) (r3 : (List CacheS) → Bool → Int → Int → Int → Int → Int → Int → Int → (List Int) → Int → Int → Option (Bool)) (y1_1 : Int) (k3 : (List CacheS) → Bool → Int → Int → Int → Int → Int → Int → Int → (List Int) → Int → Int → Option (Bool)) (v3_14 : Bool) (e8_83 : Bool) : Option (Bool) :=
 (bif e8_83 then (daskS (⟨v3_b18_16_0, v3_b18_16_1, v3_b18_16_2, v3_b18_16_3, v3_b18_16_4, v3_b18_16_5, v3_b18_16_6x, v3_b18_16_7, v3_b18_16_8⟩ : DealS) y2_2 (0 : Int)).bind fun y22_2 => (bif decide ((2 : Int) < v3_15) then rolloutRingS_j9 y22_2 v3_7x y2_2 v3_b18_16_0 v3_b18_16_1 v3_b18_16_2 v3_b18_16_3 v3_b18_16_4 v3_b18_16_5 v3_b18_16_6x v3_b18_16_7 v3_b18_16_8 v3_15 r3 true else (bif decide (y22_2.dst < (0 : Int)) then rolloutRingS_j9 y22_2 v3_7x y2_2 v3_b18_16_0 v3_b18_16_1 v3_b18_16_2 v3_b18_16_3 v3_b18_16_4 v3_b18_16_5 v3_b18_16_6x v3_b18_16_7 v3_b18_16_8 v3_15 r3 true else (bif decide ((wr ((1 : Int) + y1_1)) ≤ y22_2.dst) then rolloutRingS_j9 y22_2 v3_7x y2_2 v3_b18_16_0 v3_b18_16_1 v3_b18_16_2 v3_b18_16_3 v3_b18_16_4 v3_b18_16_5 v3_b18_16_6x v3_b18_16_7 v3_b18_16_8 v3_15 r3 true else rolloutRingS_j9 y22_2 v3_7x y2_2 v3_b18_16_0 v3_b18_16_1 v3_b18_16_2 v3_b18_16_3 v3_b18_16_4 v3_b18_16_5 v3_b18_16_6x v3_b18_16_7 v3_b18_16_8 v3_15 r3 (decide (y22_2.dst = y2_2))))) else k3 v3_7x v3_14 v3_15 v3_b18_16_0 v3_b18_16_1 v3_b18_16_2 v3_b18_16_3 v3_b18_16_4 v3_b18_16_5 v3_b18_16_6x v3_b18_16_7 v3_b18_16_8)
def rolloutRingS_k3 (y2_2 : Int) (y1_1 : Int) (v : Int) (e3_7x : List CacheS) (e3_14 : Bool) (e3_15 : Int) (e3_b18_16_0 : Int) (e3_b18_16_1 : Int) (e3_b18_16_2 : Int) (e3_b18_16_3 : Int) (e3_b18_16_4 : Int) (e3_b18_16_5 : Int) (e3_b18_16_6x : List Int) (e3_b18_16_7 : Int) (e3_b18_16_8 : Int) : Option (Bool) :=
 (daskS (⟨e3_b18_16_0, e3_b18_16_1, e3_b18_16_2, e3_b18_16_3, e3_b18_16_4, e3_b18_16_5, e3_b18_16_6x, e3_b18_16_7, e3_b18_16_8⟩ : DealS) y2_2 (0 : Int)).bind fun y29_2 => (bif !e3_14 then some false else chk (0 ≤ y2_2 ∧ y2_2 < ((List.length e3_7x : Nat) : Int)) (letP (lenC (nthC e3_7x y2_2)) fun y30_7 => (bif !(decide (y30_7 = (0 : Int))) then some false else (bif !(decide (y29_2.kind = (2 : Int))) then some false else (bif !(y29_2.flag == (decide ((wr ((1 : Int) + y1_1)) = (1 : Int)))) then some false else (bif decide ((wr ((1 : Int) + y1_1)) = (1 : Int)) then (bif !(decide ((((List.length y29_2.data) : Nat) : Int) = (1 : Int))) then some false else chk (0 ≤ (0 : Int) ∧ (0 : Int) < ((y29_2.data.length : Nat) : Int)) ((bif !(decide ((nth y29_2.data (0 : Int)) = v)) then some false else (bif !(decide (y29_2.state = (0 : Int))) then some false else (bif !(decide (y29_2.ptr = ((-1) : Int))) then some false else rolloutRingS_j4 y1_1 y2_2 e3_7x v y29_2))))) else rolloutRingS_j4 y1_1 y2_2 e3_7x v y29_2))))))
def rolloutRingS_l3 (y2_2 : Int) (y1_1 : Int) (k3 : (List CacheS) → Bool → Int → Int → Int → Int → Int → Int → Int → (List Int) → Int → Int → Option (Bool)) : Nat → (List CacheS) → Bool → Int → Int → Int → Int → Int → Int → Int → (List Int) → Int → Int → Option (Bool)
 | 0 => fun _ _ _ _ _ _ _ _ _ _ _ _ => none
 | m + 1 => fun v3_7x v3_14 v3_15 v3_b18_16_0 v3_b18_16_1 v3_b18_16_2 v3_b18_16_3 v3_b18_16_4 v3_b18_16_5 v3_b18_16_6x v3_b18_16_7 v3_b18_16_8 => (bif v3_14 then rolloutRingS_j8 v3_b18_16_0 v3_b18_16_1 v3_b18_16_2 v3_b18_16_3 v3_b18_16_4 v3_b18_16_5 v3_b18_16_6x v3_b18_16_7 v3_b18_16_8 y2_2 v3_15 v3_7x (rolloutRingS_l3 y2_2 y1_1 k3 m) y1_1 k3 v3_14 (!(decide (v3_b18_16_3 = (6 : Int)))) else rolloutRingS_j8 v3_b18_16_0 v3_b18_16_1 v3_b18_16_2 v3_b18_16_3 v3_b18_16_4 v3_b18_16_5 v3_b18_16_6x v3_b18_16_7 v3_b18_16_8 y2_2 v3_15 v3_7x (rolloutRingS_l3 y2_2 y1_1 k3 m) y1_1 k3 v3_14 false)
def rolloutRingS_j2 (y2_2 : Int) (y1_1 : Int) (v : Int) (y18_12 : DealS × Bool × CacheS) (e2_7x : List CacheS) : Option (Bool) :=
 rolloutRingS_l3 y2_2 y1_1 (rolloutRingS_k3 y2_2 y1_1 v) 64 e2_7x y18_12.2.1 0 y18_12.1.kind y18_12.1.line y18_12.1.id y18_12.1.step y18_12.1.state y18_12.1.head y18_12.1.data y18_12.1.next y18_12.1.told
def rolloutRingS_j1 (y2_2 : Int) (e0_7x : List CacheS) (v : Int) (y1_1 : Int) (e1_12 : Int) : Option (Bool) :=
 chk (0 ≤ y2_2 ∧ y2_2 < ((List.length e0_7x : Nat) : Int)) ((dbeginS (3 : Int) (0 : Int) (0 : Int)).bind fun y18_0 => letP ([wr (v + (1 : Int))] : List Int) fun l18_10 => (rnextS y18_0 y2_2 (nthC e0_7x y2_2) (⟨7, 0, y2_2, 0, 0, 0, e1_12, false, l18_10⟩ : PktS)).bind fun y18_12 => letP (setC e0_7x y2_2 y18_12.2.2) fun cs18_12 => rolloutRingS_j2 y2_2 y1_1 v y18_12 cs18_12)
def rolloutRingS_j11 (v0_8 : Int) (r0 : (List CacheS) → Int → Option (Bool)) (e11_7x : List CacheS) : Option (Bool) :=
 chk (inR (v0_8 + (1 : Int))) (r0 e11_7x (v0_8 + (1 : Int)))
def rolloutRingS_j12 (v : Int) (v0_8 : Int) (y1_1 : Int) (y7_0 : CacheS) (v0_7x : List CacheS) (r0 : (List CacheS) → Int → Option (Bool)) (e12_10 : Int) : Option (Bool) :=
 letP ([v] : List Int) fun l13_6 => (enewS (0 : Int) e12_10 (v0_8 - (1 : Int)) (decide ((wr ((1 : Int) + y1_1)) = (1 : Int))) l13_6).bind fun y13_7 => (putS y7_0 y13_7).bind fun y13_8 => chk ((v0_7x ++ [y13_8.2]).length ≤ 1099511627776) (letP (v0_7x ++ [y13_8.2]) fun l14_3 => rolloutRingS_j11 v0_8 r0 l14_3)
def rolloutRingS_k0 (y1_1 : Int) (y2_2 : Int) (v : Int) (e0_7x : List CacheS) (e0_8 : Int) : Option (Bool) :=
 (bif decide ((wr ((1 : Int) + y1_1)) = (1 : Int)) then rolloutRingS_j1 y2_2 e0_7x v y1_1 2 else rolloutRingS_j1 y2_2 e0_7x v y1_1 1)
def rolloutRingS_l0 (y1_1 : Int) (v : Int) (k0 : (List CacheS) → Int → Option (Bool)) : Nat → (List CacheS) → Int → Option (Bool)
 | 0 => fun _ _ => none
 | m + 1 => fun v0_7x v0_8 => (bif decide (v0_8 < (wr ((1 : Int) + y1_1))) then letP (newC (1 : Int) (1 : Int)) fun y7_0 => chk (inR (v0_8 + (1 : Int))) (chk (inR (v0_8 - (1 : Int))) ((bif decide (v0_8 = (wr ((wr ((1 : Int) + y1_1)) - (1 : Int)))) then rolloutRingS_j12 v v0_8 y1_1 y7_0 v0_7x (rolloutRingS_l0 y1_1 v k0 m) (-1) else rolloutRingS_j12 v v0_8 y1_1 y7_0 v0_7x (rolloutRingS_l0 y1_1 v k0 m) (v0_8 + (1 : Int))))) else k0 v0_7x v0_8)
def rolloutRingS (n : Int) (at_ : Int) (v : Int) : Option (Bool) :=
 (withinS n (6 : Int)).bind fun y1_1 => (withinS at_ (wr ((1 : Int) + y1_1))).bind fun y2_2 => rolloutRingS_l0 y1_1 v (rolloutRingS_k0 y1_1 y2_2 v) 64 ([] : List CacheS) 0
noncomputable def C12 (p : List Nat) : Code := codeAt (bodyOf Try.f12) p
set_option maxRecDepth 100000 in
set_option maxHeartbeats 8000000 in
theorem RolloutRingF_tr {W0 : World} {Γ : List Asn} (n : Int) (at_ : Int) (v : Int)  (y : Bool) (H : rolloutRingS n at_ v = some y) : Tr Try.prog 12 #[.int .i64 n, .int .i64 at_, .int .i64 v] W0 (Γ) (fun r Δ => r = .bool y ∧ Δ = Γ) := by
 unfold rolloutRingS at H
 refine Tr.enter (fn := Try.f12) (c := C12 []) (args := [.int .i64 n, .int .i64 at_, .int .i64 v]) 239 Try.func12 (by kernel_rfl) (by kernel_rfl) ?_
 refine ae [(0, .int .i64 n), (1, .int .i64 at_), (2, .int .i64 v)] ?_
 refine aq (x := C12 [0]) (y := C12 [1]) ?_
 refine ar (id := 0) 1 ?_
 refine sp 6 (.bool false) ?_
 refine ops_end ?_
 refine ae [(0, .int .i64 n), (1, .int .i64 at_), (2, .int .i64 v)] ?_
 refine at_then_normal ?_
 refine aq (x := C12 [1,0]) (y := C12 [1,1]) ?_
 refine ar (id := 1) 4 ?_
 refine sp 25 (.int .i64 n) ?_
 obtain ⟨y1_1, hy1_1, H⟩ := bindE H
 refine s_quiet 26 (.int .i64 y1_1) 22 #[.int .i64 n, .int .i64 (6)] (by kernel_rfl) (by kernel_rfl) (fun _ => by kernel_rfl) (WithinF_tr n (6 : Int) y1_1 hy1_1) ?_
 refine sp 27 (.int .i64 (wr ((1 : Int) + y1_1))) ?_
 refine sp 0 (.int .i64 (wr ((1 : Int) + y1_1))) ?_
 refine ops_end ?_
 refine ae [(0, .int .i64 (wr ((1 : Int) + y1_1))), (1, .int .i64 at_), (2, .int .i64 v)] ?_
 refine at_then_normal ?_
 refine aq (x := C12 [1,1,0]) (y := C12 [1,1,1]) ?_
 refine ar (id := 2) 4 ?_
 refine sp 28 (.int .i64 at_) ?_
 refine sp 29 (.int .i64 (wr ((1 : Int) + y1_1))) ?_
 obtain ⟨y2_2, hy2_2, H⟩ := bindE H
 refine s_quiet 30 (.int .i64 y2_2) 22 #[.int .i64 at_, .int .i64 (wr ((1 : Int) + y1_1))] (by kernel_rfl) (by kernel_rfl) (fun _ => by kernel_rfl) (WithinF_tr at_ (wr ((1 : Int) + y1_1)) y2_2 hy2_2) ?_
 refine sp 1 (.int .i64 y2_2) ?_
 refine ops_end ?_
 refine ae [(0, .int .i64 (wr ((1 : Int) + y1_1))), (1, .int .i64 y2_2), (2, .int .i64 v)] ?_
 refine at_then_normal ?_
 refine aq (x := C12 [1,1,1,0]) (y := C12 [1,1,1,1]) ?_
 refine ar (id := 3) 1 ?_
 refine sp 7 (.slice none 0 0) ?_
 refine ops_end ?_
 refine ae [(0, .int .i64 (wr ((1 : Int) + y1_1))), (1, .int .i64 y2_2), (2, .int .i64 v), (7, .slice none 0 0)] ?_
 refine at_then_normal ?_
 refine aq (x := C12 [1,1,1,1,0]) (y := C12 [1,1,1,1,1]) ?_
 refine aq (x := C12 [1,1,1,1,0,0]) (y := C12 [1,1,1,1,0,1]) ?_
 refine ar (id := 4) 1 ?_
 refine sp 8 (.int .i64 (0)) ?_
 refine ops_end ?_
 refine ae [(0, .int .i64 (wr ((1 : Int) + y1_1))), (1, .int .i64 y2_2), (2, .int .i64 v), (7, .slice none 0 0), (8, .int .i64 (0))] ?_
 refine at_then_normal ?_
 refine at_block (i := 0) (x := C12 [1,1,1,1,0,1,0]) (by kernel_rfl) ?_
 refine At.conv (Γ' := (PtrsX ([] : List (List Value)) none 0 ([] : List CacheS)) :: Γ) (fun w hw => (Sat.less (.take .here .refl) (PtrsX.nil (a := none) hw))) ?_
 refine at_loopR (x := C12 [1,1,1,1,0,1,0,0]) (fun mm ff ΔΔ => ∃ (fuel : Nat) (v0_7x : List CacheS) (v0_8 : Int) (v0_7a : Option Addr) (v0_7c : Nat) (v0_7r : List (List Value)), rolloutRingS_l0 y1_1 v (rolloutRingS_k0 y1_1 y2_2 v) fuel v0_7x v0_8 = some y ∧ fuel = mm ∧ ff = [(0, .int .i64 (wr ((1 : Int) + y1_1))), (1, .int .i64 y2_2), (2, .int .i64 v), (7, .slice v0_7a (List.length v0_7x) v0_7c), (8, .int .i64 v0_8)] ∧ (PtrsX v0_7r v0_7a v0_7c v0_7x) :: Γ = ΔΔ) (64) (by kernel_rfl) [(0, .int .i64 (wr ((1 : Int) + y1_1))), (1, .int .i64 y2_2), (2, .int .i64 v), (7, .slice none (List.length ([] : List CacheS)) 0), (8, .int .i64 0)] ⟨by kernel_rfl, by kernel_rfl, by kernel_rfl, by kernel_rfl, by kernel_rfl, trivial⟩ ⟨64, ([] : List CacheS), 0, none, 0, ([] : List (List Value)), H, rfl, rfl, rfl⟩ ?_
 rintro _ _ _ ⟨fuel1, v0_7x, v0_8, v0_7a, v0_7c, v0_7r, H, rfl, rfl, rfl⟩
 rcases fuel1 with _ | fuel1
 ·exact (noneE H).elim
 rw [rolloutRingS_l0] at H
 refine aq (x := C12 [1,1,1,1,0,1,0,0,0]) (y := C12 [1,1,1,1,0,1,0,0,1]) ?_
 refine aq (x := C12 [1,1,1,1,0,1,0,0,0,0]) (y := C12 [1,1,1,1,0,1,0,0,0,1]) ?_
 refine ar (id := 5) 3 ?_
 refine sp 31 (.int .i64 v0_8) ?_
 refine sp 32 (.int .i64 (wr ((1 : Int) + y1_1))) ?_
 refine sp 33 (.bool (decide (v0_8 < (wr ((1 : Int) + y1_1))))) ?_
 refine ops_end ?_
 refine ae [(0, .int .i64 (wr ((1 : Int) + y1_1))), (1, .int .i64 y2_2), (2, .int .i64 v), (7, .slice v0_7a (List.length v0_7x) v0_7c), (8, .int .i64 v0_8), (33, .bool (decide (v0_8 < (wr ((1 : Int) + y1_1)))))] ?_
 refine at_then_normal ?_
 rcases Bool.eq_false_or_eq_true (decide (v0_8 < (wr ((1 : Int) + y1_1)))) with h1 | h1
 ·replace H := bifT H h1
  refine at_true (t := decide (v0_8 < (wr ((1 : Int) + y1_1)))) (x := C12 [1,1,1,1,0,1,0,0,0,1,0]) (y := C12 [1,1,1,1,0,1,0,0,0,1,1]) (o := .tmp 33) (by kernel_rfl) (by kernel_rfl) (by kernel_rfl) h1 ?_
  refine at_skip (by kernel_rfl) ?_
  refine at_then_normal ?_
  refine at_seq_join (x := C12 [1,1,1,1,0,1,0,0,1,0]) (y := C12 [1,1,1,1,0,1,0,0,1,1]) (fun ff ΔΔ => ∃ (e11_7x : List CacheS) (e11_7a : Option Addr) (e11_7c : Nat) (e11_7r : List (List Value)), rolloutRingS_j11 v0_8 (rolloutRingS_l0 y1_1 v (rolloutRingS_k0 y1_1 y2_2 v) fuel1) e11_7x = some y ∧ ff = [(0, .int .i64 (wr ((1 : Int) + y1_1))), (1, .int .i64 y2_2), (2, .int .i64 v), (7, .slice e11_7a (List.length e11_7x) e11_7c), (8, .int .i64 v0_8)] ∧ (PtrsX e11_7r e11_7a e11_7c e11_7x) :: Γ = ΔΔ) (by kernel_rfl) ?_ ?_
  ·rintro _ _ ⟨e11_7x, e11_7a, e11_7c, e11_7r, H, rfl, rfl⟩
   rw [rolloutRingS_j11] at H
   refine ar (id := 6) 3 ?_
   refine sp 34 (.int .i64 v0_8) ?_
   obtain ⟨hc6_1_0, H⟩ := chkE H
   refine sr 35 (.int .i64 (v0_8 + (1 : Int))) (run_eq (v := .int .i64 (IntKind.i64.wrap (v0_8 + (1 : Int)))) (fun _ => by kernel_rfl) (by rw [inR.wrap hc6_1_0])) ?_
   refine sp 8 (.int .i64 (v0_8 + (1 : Int))) ?_
   refine ops_end ?_
   refine ae [(0, .int .i64 (wr ((1 : Int) + y1_1))), (1, .int .i64 y2_2), (2, .int .i64 v), (7, .slice e11_7a (List.length e11_7x) e11_7c), (8, .int .i64 (v0_8 + (1 : Int)))] ?_
   refine at_round_normal ?_
   exact at_roundR fuel1 [(0, .int .i64 (wr ((1 : Int) + y1_1))), (1, .int .i64 y2_2), (2, .int .i64 v), (7, .slice e11_7a (List.length e11_7x) e11_7c), (8, .int .i64 (v0_8 + (1 : Int)))] ((PtrsX e11_7r e11_7a e11_7c e11_7x) :: Γ) (Nat.lt_succ_self _) ⟨by kernel_rfl, by kernel_rfl, by kernel_rfl, by kernel_rfl, by kernel_rfl, trivial⟩ (fun w hw => (Sat.less (.take .here .refl) hw)) ⟨fuel1, e11_7x, v0_8 + (1 : Int), e11_7a, e11_7c, e11_7r, H, rfl, rfl, rfl⟩
  ·refine at_block (i := 1) (x := C12 [1,1,1,1,0,1,0,0,1,0,0]) (by kernel_rfl) ?_
   refine aq (x := C12 [1,1,1,1,0,1,0,0,1,0,0,0]) (y := C12 [1,1,1,1,0,1,0,0,1,0,0,1]) ?_
   refine ar (id := 7) 2 ?_
   obtain ⟨y7_0, hy7_0, H⟩ := letE H
   refine s_call 36 32 #[.int .i64 (1), .int .i64 (1)] (by kernel_rfl) (by kernel_rfl) (fun _ => by kernel_rfl) (NewF_tr (1 : Int) (1 : Int) y7_0 hy7_0) ?_
   rintro _ _ ⟨b7_0, rfl, rfl⟩
   refine sp 9 (.pointer (some ⟨b7_0, 0, none⟩)) ?_
   refine ops_end ?_
   refine ae [(0, .int .i64 (wr ((1 : Int) + y1_1))), (1, .int .i64 y2_2), (2, .int .i64 v), (7, .slice v0_7a (List.length v0_7x) v0_7c), (8, .int .i64 v0_8), (9, .pointer (some ⟨b7_0, 0, none⟩))] ?_
   refine at_then_normal ?_
   refine aq (x := C12 [1,1,1,1,0,1,0,0,1,0,0,1,0]) (y := C12 [1,1,1,1,0,1,0,0,1,0,0,1,1]) ?_
   refine aq (x := C12 [1,1,1,1,0,1,0,0,1,0,0,1,0,0]) (y := C12 [1,1,1,1,0,1,0,0,1,0,0,1,0,1]) ?_
   refine ar (id := 8) 2 ?_
   refine sp 37 (.pointer (some ⟨b7_0, 0, none⟩)) ?_
   refine sp 38 (.bool false) ?_
   refine ops_end ?_
   refine ae [(0, .int .i64 (wr ((1 : Int) + y1_1))), (1, .int .i64 y2_2), (2, .int .i64 v), (7, .slice v0_7a (List.length v0_7x) v0_7c), (8, .int .i64 v0_8), (9, .pointer (some ⟨b7_0, 0, none⟩)), (38, .bool false)] ?_
   refine at_then_normal ?_
   refine at_false (t := false) (x := C12 [1,1,1,1,0,1,0,0,1,0,0,1,0,1,0]) (y := C12 [1,1,1,1,0,1,0,0,1,0,0,1,0,1,1]) (o := .tmp 38) (by kernel_rfl) (by kernel_rfl) (by kernel_rfl) rfl ?_
   refine at_skip (by kernel_rfl) ?_
   refine at_then_normal ?_
   refine aq (x := C12 [1,1,1,1,0,1,0,0,1,0,0,1,1,0]) (y := C12 [1,1,1,1,0,1,0,0,1,0,0,1,1,1]) ?_
   refine ar (id := 10) 6 ?_
   refine sp 39 (.int .i64 v0_8) ?_
   obtain ⟨hc10_1_0, H⟩ := chkE H
   refine sr 40 (.int .i64 (v0_8 + (1 : Int))) (run_eq (v := .int .i64 (IntKind.i64.wrap (v0_8 + (1 : Int)))) (fun _ => by kernel_rfl) (by rw [inR.wrap hc10_1_0])) ?_
   refine sp 41 (.int .i64 v0_8) ?_
   obtain ⟨hc10_3_0, H⟩ := chkE H
   refine sr 42 (.int .i64 (v0_8 - (1 : Int))) (run_eq (v := .int .i64 (IntKind.i64.wrap (v0_8 - (1 : Int)))) (fun _ => by kernel_rfl) (by rw [inR.wrap hc10_3_0])) ?_
   refine sp 10 (.int .i64 (v0_8 + (1 : Int))) ?_
   refine sp 11 (.int .i64 (v0_8 - (1 : Int))) ?_
   refine ops_end ?_
   refine ae [(0, .int .i64 (wr ((1 : Int) + y1_1))), (1, .int .i64 y2_2), (2, .int .i64 v), (7, .slice v0_7a (List.length v0_7x) v0_7c), (8, .int .i64 v0_8), (9, .pointer (some ⟨b7_0, 0, none⟩)), (10, .int .i64 (v0_8 + (1 : Int))), (11, .int .i64 (v0_8 - (1 : Int)))] ?_
   refine at_then_normal ?_
   refine at_seq_join (x := C12 [1,1,1,1,0,1,0,0,1,0,0,1,1,1,0]) (y := C12 [1,1,1,1,0,1,0,0,1,0,0,1,1,1,1]) (fun ff ΔΔ => ∃ (e12_10 : Int), rolloutRingS_j12 v v0_8 y1_1 y7_0 v0_7x (rolloutRingS_l0 y1_1 v (rolloutRingS_k0 y1_1 y2_2 v) fuel1) e12_10 = some y ∧ ff = [(0, .int .i64 (wr ((1 : Int) + y1_1))), (1, .int .i64 y2_2), (2, .int .i64 v), (7, .slice v0_7a (List.length v0_7x) v0_7c), (8, .int .i64 v0_8), (9, .pointer (some ⟨b7_0, 0, none⟩)), (10, .int .i64 e12_10), (11, .int .i64 (v0_8 - (1 : Int)))] ∧ (CacheA b7_0 y7_0) :: (PtrsX v0_7r v0_7a v0_7c v0_7x) :: Γ = ΔΔ) (by kernel_rfl) ?_ ?_
   ·rintro _ _ ⟨e12_10, H, rfl, rfl⟩
    rw [rolloutRingS_j12] at H
    refine aq (x := C12 [1,1,1,1,0,1,0,0,1,0,0,1,1,1,1,0]) (y := C12 [1,1,1,1,0,1,0,0,1,0,0,1,1,1,1,1]) ?_
    refine ar (id := 13) 9 ?_
    refine sp 47 (.pointer (some ⟨b7_0, 0, none⟩)) ?_
    refine sp 48 (.int .i64 e12_10) ?_
    refine sp 49 (.int .i64 (v0_8 - (1 : Int))) ?_
    refine sp 50 (.int .i64 (wr ((1 : Int) + y1_1))) ?_
    refine sp 51 (.bool (decide ((wr ((1 : Int) + y1_1)) = (1 : Int)))) ?_
    refine sp 52 (.int .i64 v) ?_
    obtain ⟨l13_6, hl13_6, H⟩ := letE H
    refine s_step 53 (by kernel_rfl) (by kernel_rfl) (st_new_ints (T := 3) (xs := l13_6) 1 hl13_6 (fun _ => by kernel_rfl) (by kernel_rfl)) ?_
    rintro _ _ ⟨b13_6, rfl, rfl⟩
    obtain ⟨y13_7, hy13_7, H⟩ := bindE H
    refine s_call 54 15 #[.int .i64 (0), .int .i64 e12_10, .int .i64 (v0_8 - (1 : Int)), .bool (decide ((wr ((1 : Int) + y1_1)) = (1 : Int))), .slice (some ⟨b13_6, 0, none⟩) (List.length l13_6) 1] (by kernel_rfl) (by kernel_rfl) (fun _ => by kernel_rfl) (ENewF_tr (0 : Int) e12_10 (v0_8 - (1 : Int)) (decide ((wr ((1 : Int) + y1_1)) = (1 : Int))) (some ⟨b13_6, 0, none⟩) 1 l13_6 (RowsA.reads (k := 1) .here) y13_7 hy13_7) ?_
    rintro _ _ ⟨a13_7_00, c13_7_00, rfl, rfl⟩
    obtain ⟨y13_8, hy13_8, H⟩ := bindE H
    refine s_call 55 14 #[.pointer (some ⟨b7_0, 0, none⟩), .agg #[.int .i64 y13_7.fwd, .int .i64 y13_7.back, .int .i64 y13_7.line, .int .i64 y13_7.used, .bool y13_7.dirty, .slice a13_7_00 (List.length y13_7.data) c13_7_00]] (by kernel_rfl) (by kernel_rfl) (fun _ => by kernel_rfl) (Tr.conv (Γ' := (CacheA b7_0 y7_0) :: (IntsA a13_7_00 c13_7_00 y13_7.data) :: (IntsA (some ⟨b13_6, 0, none⟩) 1 l13_6) :: (PtrsX v0_7r v0_7a v0_7c v0_7x) :: Γ) (fun w hw => (Sat.less (.take (.there (.there .here)) (.take .here (.take .here (.take .here .refl)))) hw)) (PutF_tr b7_0 y7_0 a13_7_00 c13_7_00 y13_7 (RowsA.reads (k := 1) .here) y13_8 hy13_8)) ?_
    rintro _ _ ⟨rfl, rfl⟩
    refine ops_end ?_
    refine ae [(0, .int .i64 (wr ((1 : Int) + y1_1))), (1, .int .i64 y2_2), (2, .int .i64 v), (7, .slice v0_7a (List.length v0_7x) v0_7c), (8, .int .i64 v0_8), (9, .pointer (some ⟨b7_0, 0, none⟩))] ?_
    refine at_then_normal ?_
    refine ar (id := 14) 5 ?_
    refine sp 56 (.slice v0_7a (List.length v0_7x) v0_7c) ?_
    refine sp 57 (.pointer (some ⟨b7_0, 0, none⟩)) ?_
    refine s_step 58 (by kernel_rfl) (by kernel_rfl) (st_new (T := 22) (cells := #[.pointer (some ⟨b7_0, 0, none⟩)]) (fun a => .slice (some a) 1 1) (fun _ => by kernel_rfl)) ?_
    rintro _ _ ⟨b14_2, rfl, rfl⟩
    obtain ⟨hc14_3_0, H⟩ := chkE H
    obtain ⟨l14_3, hl14_3, H⟩ := letE H
    refine s_step 59 (by kernel_rfl) (by kernel_rfl) (st_append_ptr (m1 := (List.length v0_7x)) (cap2 := 1) (cs := v0_7x) (zs := l14_3) (c := y13_8.2) (pb := b7_0) (info := tinfo 22) 8 (.pointer none) (m := List.length l14_3) 60 60 22 (fun _ => by kernel_rfl) (by kernel_rfl) (by kernel_rfl) (by kernel_rfl) (by kernel_rfl) (by kernel_rfl) (by kernel_rfl) (by kernel_rfl) (by kernel_rfl) (.there (.there (.there (.there .here)))) (.there .here) (Reads.own (rows := [ptrV b7_0]) .here (by rfl)) (by first | rfl | simp) rfl hl14_3 (by rw [← hl14_3]; exact hc14_3_0)) ?_
    rintro _ _ ⟨a14_3, c14_3, rw14_3, rfl, rfl⟩
    refine sp 7 (.slice a14_3 (List.length l14_3) c14_3) ?_
    refine ops_end ?_
    refine ae [(0, .int .i64 (wr ((1 : Int) + y1_1))), (1, .int .i64 y2_2), (2, .int .i64 v), (7, .slice a14_3 (List.length l14_3) c14_3), (8, .int .i64 v0_8)] ?_
    refine at_in_normal ?_
    refine at_round_normal ?_
    exact at_join_mk [(0, .int .i64 (wr ((1 : Int) + y1_1))), (1, .int .i64 y2_2), (2, .int .i64 v), (7, .slice a14_3 (List.length l14_3) c14_3), (8, .int .i64 v0_8)] ((PtrsX rw14_3 a14_3 c14_3 l14_3) :: Γ) ⟨by kernel_rfl, by kernel_rfl, by kernel_rfl, by kernel_rfl, by kernel_rfl, trivial⟩ (fun w hw => (Sat.less (.take .here (.drop .here (.drop .here (.drop .here .refl)))) hw)) ⟨l14_3, a14_3, c14_3, rw14_3, H, rfl, rfl⟩
   ·refine aq (x := C12 [1,1,1,1,0,1,0,0,1,0,0,1,1,1,0,0]) (y := C12 [1,1,1,1,0,1,0,0,1,0,0,1,1,1,0,1]) ?_
    refine ar (id := 11) 4 ?_
    refine sp 43 (.int .i64 v0_8) ?_
    refine sp 44 (.int .i64 (wr ((1 : Int) + y1_1))) ?_
    refine sp 45 (.int .i64 (wr ((wr ((1 : Int) + y1_1)) - (1 : Int)))) ?_
    refine sp 46 (.bool (decide (v0_8 = (wr ((wr ((1 : Int) + y1_1)) - (1 : Int)))))) ?_
    refine ops_end ?_
    refine ae [(0, .int .i64 (wr ((1 : Int) + y1_1))), (1, .int .i64 y2_2), (2, .int .i64 v), (7, .slice v0_7a (List.length v0_7x) v0_7c), (8, .int .i64 v0_8), (9, .pointer (some ⟨b7_0, 0, none⟩)), (10, .int .i64 (v0_8 + (1 : Int))), (11, .int .i64 (v0_8 - (1 : Int))), (46, .bool (decide (v0_8 = (wr ((wr ((1 : Int) + y1_1)) - (1 : Int))))))] ?_
    refine at_then_normal ?_
    rcases Bool.eq_false_or_eq_true (decide (v0_8 = (wr ((wr ((1 : Int) + y1_1)) - (1 : Int))))) with h2 | h2
    ·replace H := bifT H h2
     refine at_true (t := decide (v0_8 = (wr ((wr ((1 : Int) + y1_1)) - (1 : Int))))) (x := C12 [1,1,1,1,0,1,0,0,1,0,0,1,1,1,0,1,0]) (y := C12 [1,1,1,1,0,1,0,0,1,0,0,1,1,1,0,1,1]) (o := .tmp 46) (by kernel_rfl) (by kernel_rfl) (by kernel_rfl) h2 ?_
     refine ar (id := 12) 1 ?_
     refine sp 10 (.int .i64 (-1)) ?_
     refine ops_end ?_
     refine ae [(0, .int .i64 (wr ((1 : Int) + y1_1))), (1, .int .i64 y2_2), (2, .int .i64 v), (7, .slice v0_7a (List.length v0_7x) v0_7c), (8, .int .i64 v0_8), (9, .pointer (some ⟨b7_0, 0, none⟩)), (10, .int .i64 (-1)), (11, .int .i64 (v0_8 - (1 : Int)))] ?_
     refine at_round_normal ?_
     exact at_join_mk [(0, .int .i64 (wr ((1 : Int) + y1_1))), (1, .int .i64 y2_2), (2, .int .i64 v), (7, .slice v0_7a (List.length v0_7x) v0_7c), (8, .int .i64 v0_8), (9, .pointer (some ⟨b7_0, 0, none⟩)), (10, .int .i64 (-1)), (11, .int .i64 (v0_8 - (1 : Int)))] ((CacheA b7_0 y7_0) :: (PtrsX v0_7r v0_7a v0_7c v0_7x) :: Γ) ⟨by kernel_rfl, by kernel_rfl, by kernel_rfl, by kernel_rfl, by kernel_rfl, by kernel_rfl, by kernel_rfl, by kernel_rfl, trivial⟩ (fun w hw => (Sat.less (.take .here (.take .here .refl)) hw)) ⟨(-1), H, rfl, rfl⟩
    ·replace H := bifF H h2
     refine at_false (t := decide (v0_8 = (wr ((wr ((1 : Int) + y1_1)) - (1 : Int))))) (x := C12 [1,1,1,1,0,1,0,0,1,0,0,1,1,1,0,1,0]) (y := C12 [1,1,1,1,0,1,0,0,1,0,0,1,1,1,0,1,1]) (o := .tmp 46) (by kernel_rfl) (by kernel_rfl) (by kernel_rfl) h2 ?_
     refine at_skip (by kernel_rfl) ?_
     refine at_round_normal ?_
     exact at_join_mk [(0, .int .i64 (wr ((1 : Int) + y1_1))), (1, .int .i64 y2_2), (2, .int .i64 v), (7, .slice v0_7a (List.length v0_7x) v0_7c), (8, .int .i64 v0_8), (9, .pointer (some ⟨b7_0, 0, none⟩)), (10, .int .i64 (v0_8 + (1 : Int))), (11, .int .i64 (v0_8 - (1 : Int)))] ((CacheA b7_0 y7_0) :: (PtrsX v0_7r v0_7a v0_7c v0_7x) :: Γ) ⟨by kernel_rfl, by kernel_rfl, by kernel_rfl, by kernel_rfl, by kernel_rfl, by kernel_rfl, by kernel_rfl, by kernel_rfl, trivial⟩ (fun w hw => (Sat.less (.take .here (.take .here .refl)) hw)) ⟨v0_8 + (1 : Int), H, rfl, rfl⟩
 ·replace H := bifF H h1
  refine at_false (t := decide (v0_8 < (wr ((1 : Int) + y1_1)))) (x := C12 [1,1,1,1,0,1,0,0,0,1,0]) (y := C12 [1,1,1,1,0,1,0,0,0,1,1]) (o := .tmp 33) (by kernel_rfl) (by kernel_rfl) (by kernel_rfl) h1 ?_
  refine at_exit (i := 0) (by kernel_rfl) ?_
  refine at_then_exit ?_
  refine at_then_exit ?_
  rw [rolloutRingS_k0] at H
  refine ae [(0, .int .i64 (wr ((1 : Int) + y1_1))), (1, .int .i64 y2_2), (2, .int .i64 v), (7, .slice v0_7a (List.length v0_7x) v0_7c), (8, .int .i64 v0_8)] ?_
  refine At.conv (Γ' := (PtrsX v0_7r v0_7a v0_7c v0_7x) :: Γ) (fun w hw => (Sat.less (.take .here .refl) hw)) ?_
  refine at_in_here ?_
  refine at_then_normal ?_
  refine aq (x := C12 [1,1,1,1,1,0]) (y := C12 [1,1,1,1,1,1]) ?_
  refine ar (id := 15) 1 ?_
  refine sp 12 (.int .i64 (1)) ?_
  refine ops_end ?_
  refine ae [(0, .int .i64 (wr ((1 : Int) + y1_1))), (1, .int .i64 y2_2), (2, .int .i64 v), (7, .slice v0_7a (List.length v0_7x) v0_7c), (12, .int .i64 (1))] ?_
  refine at_then_normal ?_
  refine at_seq_join (x := C12 [1,1,1,1,1,1,0]) (y := C12 [1,1,1,1,1,1,1]) (fun ff ΔΔ => ∃ (e1_12 : Int), rolloutRingS_j1 y2_2 v0_7x v y1_1 e1_12 = some y ∧ ff = [(0, .int .i64 (wr ((1 : Int) + y1_1))), (1, .int .i64 y2_2), (2, .int .i64 v), (7, .slice v0_7a (List.length v0_7x) v0_7c), (12, .int .i64 e1_12)] ∧ (PtrsX v0_7r v0_7a v0_7c v0_7x) :: Γ = ΔΔ) (by kernel_rfl) ?_ ?_
  ·rintro _ _ ⟨e1_12, H, rfl, rfl⟩
   rw [rolloutRingS_j1] at H
   refine at_seq_join (x := C12 [1,1,1,1,1,1,1,0]) (y := C12 [1,1,1,1,1,1,1,1]) (fun ff ΔΔ => ∃ (e2_7x : List CacheS) (e2_7a : Option Addr) (e2_7c : Nat) (e2_7r : List (List Value)) (b18_16 : Nat) (y18_12 : DealS × Bool × CacheS) (a18_12_00 : Option Addr) (c18_12_00 : Nat), rolloutRingS_j2 y2_2 y1_1 v y18_12 e2_7x = some y ∧ ff = [(0, .int .i64 (wr ((1 : Int) + y1_1))), (1, .int .i64 y2_2), (2, .int .i64 v), (7, .slice e2_7a (List.length e2_7x) e2_7c), (13, .pointer (some ⟨b18_16, 0, none⟩)), (14, .bool y18_12.2.1)] ∧ (PtrsX e2_7r e2_7a e2_7c e2_7x) :: (Asn.own b18_16 (.cells #[.int .i64 y18_12.1.kind, .int .i64 y18_12.1.line, .int .i64 y18_12.1.id, .int .i64 y18_12.1.step, .int .i64 y18_12.1.state, .int .i64 y18_12.1.head, .slice a18_12_00 (List.length y18_12.1.data) c18_12_00, .int .i64 y18_12.1.next, .int .i64 y18_12.1.told] 35 (0, 0))) :: (ImmI a18_12_00 y18_12.1.data) :: Γ = ΔΔ) (by kernel_rfl) ?_ ?_
   ·rintro _ _ ⟨e2_7x, e2_7a, e2_7c, e2_7r, b18_16, y18_12, a18_12_00, c18_12_00, H, rfl, rfl⟩
    rw [rolloutRingS_j2] at H
    refine aq (x := C12 [1,1,1,1,1,1,1,1,0]) (y := C12 [1,1,1,1,1,1,1,1,1]) ?_
    refine aq (x := C12 [1,1,1,1,1,1,1,1,0,0]) (y := C12 [1,1,1,1,1,1,1,1,0,1]) ?_
    refine ar (id := 19) 1 ?_
    refine sp 15 (.int .i64 (0)) ?_
    refine ops_end ?_
    refine ae [(0, .int .i64 (wr ((1 : Int) + y1_1))), (1, .int .i64 y2_2), (2, .int .i64 v), (7, .slice e2_7a (List.length e2_7x) e2_7c), (13, .pointer (some ⟨b18_16, 0, none⟩)), (14, .bool y18_12.2.1), (15, .int .i64 (0))] ?_
    refine at_then_normal ?_
    refine at_block (i := 2) (x := C12 [1,1,1,1,1,1,1,1,0,1,0]) (by kernel_rfl) ?_
    refine At.conv (Γ' := (PtrsX e2_7r e2_7a e2_7c e2_7x) :: (ImmI a18_12_00 y18_12.1.data) :: (Asn.own b18_16 (.cells #[.int .i64 y18_12.1.kind, .int .i64 y18_12.1.line, .int .i64 y18_12.1.id, .int .i64 y18_12.1.step, .int .i64 y18_12.1.state, .int .i64 y18_12.1.head, .slice a18_12_00 (List.length y18_12.1.data) c18_12_00, .int .i64 y18_12.1.next, .int .i64 y18_12.1.told] 35 (0, 0))) :: Γ) (fun w hw => (Sat.less (.take .here (.take (.there .here) (.take .here .refl))) hw)) ?_
    refine at_loopR (x := C12 [1,1,1,1,1,1,1,1,0,1,0,0]) (fun mm ff ΔΔ => ∃ (fuel : Nat) (v3_7x : List CacheS) (v3_14 : Bool) (v3_15 : Int) (v3_b18_16_0 : Int) (v3_b18_16_1 : Int) (v3_b18_16_2 : Int) (v3_b18_16_3 : Int) (v3_b18_16_4 : Int) (v3_b18_16_5 : Int) (v3_b18_16_6x : List Int) (v3_b18_16_7 : Int) (v3_b18_16_8 : Int) (v3_7a : Option Addr) (v3_7c : Nat) (v3_7r : List (List Value)) (v3_b18_16_6a : Option Addr) (v3_b18_16_6c : Nat), rolloutRingS_l3 y2_2 y1_1 (rolloutRingS_k3 y2_2 y1_1 v) fuel v3_7x v3_14 v3_15 v3_b18_16_0 v3_b18_16_1 v3_b18_16_2 v3_b18_16_3 v3_b18_16_4 v3_b18_16_5 v3_b18_16_6x v3_b18_16_7 v3_b18_16_8 = some y ∧ fuel = mm ∧ ff = [(0, .int .i64 (wr ((1 : Int) + y1_1))), (1, .int .i64 y2_2), (2, .int .i64 v), (7, .slice v3_7a (List.length v3_7x) v3_7c), (13, .pointer (some ⟨b18_16, 0, none⟩)), (14, .bool v3_14), (15, .int .i64 v3_15)] ∧ (PtrsX v3_7r v3_7a v3_7c v3_7x) :: (ImmI v3_b18_16_6a v3_b18_16_6x) :: (Asn.own b18_16 (.cells #[.int .i64 v3_b18_16_0, .int .i64 v3_b18_16_1, .int .i64 v3_b18_16_2, .int .i64 v3_b18_16_3, .int .i64 v3_b18_16_4, .int .i64 v3_b18_16_5, .slice v3_b18_16_6a (List.length v3_b18_16_6x) v3_b18_16_6c, .int .i64 v3_b18_16_7, .int .i64 v3_b18_16_8] 35 (0, 0))) :: Γ = ΔΔ) (64) (by kernel_rfl) [(0, .int .i64 (wr ((1 : Int) + y1_1))), (1, .int .i64 y2_2), (2, .int .i64 v), (7, .slice e2_7a (List.length e2_7x) e2_7c), (13, .pointer (some ⟨b18_16, 0, none⟩)), (14, .bool y18_12.2.1), (15, .int .i64 0)] ⟨by kernel_rfl, by kernel_rfl, by kernel_rfl, by kernel_rfl, by kernel_rfl, by kernel_rfl, by kernel_rfl, trivial⟩ ⟨64, e2_7x, y18_12.2.1, 0, y18_12.1.kind, y18_12.1.line, y18_12.1.id, y18_12.1.step, y18_12.1.state, y18_12.1.head, y18_12.1.data, y18_12.1.next, y18_12.1.told, e2_7a, e2_7c, e2_7r, a18_12_00, c18_12_00, H, rfl, rfl, rfl⟩ ?_
    rintro _ _ _ ⟨fuel2, v3_7x, v3_14, v3_15, v3_b18_16_0, v3_b18_16_1, v3_b18_16_2, v3_b18_16_3, v3_b18_16_4, v3_b18_16_5, v3_b18_16_6x, v3_b18_16_7, v3_b18_16_8, v3_7a, v3_7c, v3_7r, v3_b18_16_6a, v3_b18_16_6c, H, rfl, rfl, rfl⟩
    rcases fuel2 with _ | fuel2
    ·exact (noneE H).elim
    rw [rolloutRingS_l3] at H
    refine aq (x := C12 [1,1,1,1,1,1,1,1,0,1,0,0,0]) (y := C12 [1,1,1,1,1,1,1,1,0,1,0,0,1]) ?_
    refine at_seq_join (x := C12 [1,1,1,1,1,1,1,1,0,1,0,0,0,0]) (y := C12 [1,1,1,1,1,1,1,1,0,1,0,0,0,1]) (fun ff ΔΔ => ∃ (e8_83 : Bool), rolloutRingS_j8 v3_b18_16_0 v3_b18_16_1 v3_b18_16_2 v3_b18_16_3 v3_b18_16_4 v3_b18_16_5 v3_b18_16_6x v3_b18_16_7 v3_b18_16_8 y2_2 v3_15 v3_7x (rolloutRingS_l3 y2_2 y1_1 (rolloutRingS_k3 y2_2 y1_1 v) fuel2) y1_1 (rolloutRingS_k3 y2_2 y1_1 v) v3_14 e8_83 = some y ∧ ff = [(0, .int .i64 (wr ((1 : Int) + y1_1))), (1, .int .i64 y2_2), (2, .int .i64 v), (7, .slice v3_7a (List.length v3_7x) v3_7c), (13, .pointer (some ⟨b18_16, 0, none⟩)), (14, .bool v3_14), (15, .int .i64 v3_15), (83, .bool e8_83)] ∧ (PtrsX v3_7r v3_7a v3_7c v3_7x) :: (ImmI v3_b18_16_6a v3_b18_16_6x) :: (Asn.own b18_16 (.cells #[.int .i64 v3_b18_16_0, .int .i64 v3_b18_16_1, .int .i64 v3_b18_16_2, .int .i64 v3_b18_16_3, .int .i64 v3_b18_16_4, .int .i64 v3_b18_16_5, .slice v3_b18_16_6a (List.length v3_b18_16_6x) v3_b18_16_6c, .int .i64 v3_b18_16_7, .int .i64 v3_b18_16_8] 35 (0, 0))) :: Γ = ΔΔ) (by kernel_rfl) ?_ ?_
    ·rintro _ _ ⟨e8_83, H, rfl, rfl⟩
     rw [rolloutRingS_j8] at H
     rcases Bool.eq_false_or_eq_true (e8_83) with h3 | h3
     ·replace H := bifT H h3
      refine at_true (t := e8_83) (x := C12 [1,1,1,1,1,1,1,1,0,1,0,0,0,1,0]) (y := C12 [1,1,1,1,1,1,1,1,0,1,0,0,0,1,1]) (o := .tmp 83) (by kernel_rfl) (by kernel_rfl) (by kernel_rfl) h3 ?_
      refine at_skip (by kernel_rfl) ?_
      refine at_then_normal ?_
      refine aq (x := C12 [1,1,1,1,1,1,1,1,0,1,0,0,1,0]) (y := C12 [1,1,1,1,1,1,1,1,0,1,0,0,1,1]) ?_
      refine at_block (i := 3) (x := C12 [1,1,1,1,1,1,1,1,0,1,0,0,1,0,0]) (by kernel_rfl) ?_
      refine aq (x := C12 [1,1,1,1,1,1,1,1,0,1,0,0,1,0,0,0]) (y := C12 [1,1,1,1,1,1,1,1,0,1,0,0,1,0,0,1]) ?_
      refine ar (id := 22) 5 ?_
      refine sl 86 (.agg #[.int .i64 v3_b18_16_0, .int .i64 v3_b18_16_1, .int .i64 v3_b18_16_2, .int .i64 v3_b18_16_3, .int .i64 v3_b18_16_4, .int .i64 v3_b18_16_5, .slice v3_b18_16_6a (List.length v3_b18_16_6x) v3_b18_16_6c, .int .i64 v3_b18_16_7, .int .i64 v3_b18_16_8]) (loadN (off := 0) (vs := [.int .i64 v3_b18_16_0, .int .i64 v3_b18_16_1, .int .i64 v3_b18_16_2, .int .i64 v3_b18_16_3, .int .i64 v3_b18_16_4, .int .i64 v3_b18_16_5, .slice v3_b18_16_6a (List.length v3_b18_16_6x) v3_b18_16_6c, .int .i64 v3_b18_16_7, .int .i64 v3_b18_16_8]) 9 (fun _ => by kernel_rfl) (holds_own (.there (.there .here))) rfl (by exact ⟨rfl, rfl, rfl, rfl, rfl, rfl, rfl, rfl, rfl, trivial⟩)) ?_
      refine sp 87 (.int .i64 y2_2) ?_
      obtain ⟨y22_2, hy22_2, H⟩ := bindE H
      refine s_call 88 26 #[.agg #[.int .i64 v3_b18_16_0, .int .i64 v3_b18_16_1, .int .i64 v3_b18_16_2, .int .i64 v3_b18_16_3, .int .i64 v3_b18_16_4, .int .i64 v3_b18_16_5, .slice v3_b18_16_6a (List.length v3_b18_16_6x) v3_b18_16_6c, .int .i64 v3_b18_16_7, .int .i64 v3_b18_16_8], .int .i64 y2_2, .int .i64 (0)] (by kernel_rfl) (by kernel_rfl) (fun _ => by kernel_rfl) (DAskF_tr v3_b18_16_6a v3_b18_16_6c (⟨v3_b18_16_0, v3_b18_16_1, v3_b18_16_2, v3_b18_16_3, v3_b18_16_4, v3_b18_16_5, v3_b18_16_6x, v3_b18_16_7, v3_b18_16_8⟩ : DealS) y2_2 (0 : Int) (ImmR.reads (k := 1) (.there .here)) y22_2 hy22_2) ?_
      rintro _ _ ⟨a22_2_00, c22_2_00, rfl, rfl⟩
      refine s_step 16 (by kernel_rfl) (by kernel_rfl) (st_new (T := 40) (cells := #[.int .i64 (0), .int .i64 (0), .int .i64 (0), .int .i64 (0), .int .i64 (0), .int .i64 (0), .int .i64 (0), .bool false, .slice none 0 0]) (fun a => .pointer (some a)) (fun _ => by kernel_rfl)) ?_
      rintro _ _ ⟨b22_3, rfl, rfl⟩
      refine s_do (by kernel_rfl) (by kernel_rfl) (st_store (off := 0) (vs := [.int .i64 y22_2.kind, .int .i64 y22_2.src, .int .i64 y22_2.dst, .int .i64 y22_2.id, .int .i64 y22_2.line, .int .i64 y22_2.ptr, .int .i64 y22_2.state, .bool y22_2.flag, .slice a22_2_00 (List.length y22_2.data) c22_2_00]) (c' := #[.int .i64 y22_2.kind, .int .i64 y22_2.src, .int .i64 y22_2.dst, .int .i64 y22_2.id, .int .i64 y22_2.line, .int .i64 y22_2.ptr, .int .i64 y22_2.state, .bool y22_2.flag, .slice a22_2_00 (List.length y22_2.data) c22_2_00]) (fun _ => by kernel_rfl) .here (by kernel_rfl) (by kernel_rfl) (by kernel_rfl)) ?_
      rintro _ _ ⟨rfl, rfl⟩
      refine ops_end ?_
      refine ae [(0, .int .i64 (wr ((1 : Int) + y1_1))), (1, .int .i64 y2_2), (2, .int .i64 v), (7, .slice v3_7a (List.length v3_7x) v3_7c), (13, .pointer (some ⟨b18_16, 0, none⟩)), (15, .int .i64 v3_15), (16, .pointer (some ⟨b22_3, 0, none⟩))] ?_
      refine at_then_normal ?_
      refine aq (x := C12 [1,1,1,1,1,1,1,1,0,1,0,0,1,0,0,1,0]) (y := C12 [1,1,1,1,1,1,1,1,0,1,0,0,1,0,0,1,1]) ?_
      refine at_seq_join (x := C12 [1,1,1,1,1,1,1,1,0,1,0,0,1,0,0,1,0,0]) (y := C12 [1,1,1,1,1,1,1,1,0,1,0,0,1,0,0,1,0,1]) (fun ff ΔΔ => ∃ (e9_107 : Bool), rolloutRingS_j9 y22_2 v3_7x y2_2 v3_b18_16_0 v3_b18_16_1 v3_b18_16_2 v3_b18_16_3 v3_b18_16_4 v3_b18_16_5 v3_b18_16_6x v3_b18_16_7 v3_b18_16_8 v3_15 (rolloutRingS_l3 y2_2 y1_1 (rolloutRingS_k3 y2_2 y1_1 v) fuel2) e9_107 = some y ∧ ff = [(0, .int .i64 (wr ((1 : Int) + y1_1))), (1, .int .i64 y2_2), (2, .int .i64 v), (7, .slice v3_7a (List.length v3_7x) v3_7c), (13, .pointer (some ⟨b18_16, 0, none⟩)), (15, .int .i64 v3_15), (16, .pointer (some ⟨b22_3, 0, none⟩)), (107, .bool e9_107)] ∧ (Asn.own b22_3 (.cells #[.int .i64 y22_2.kind, .int .i64 y22_2.src, .int .i64 y22_2.dst, .int .i64 y22_2.id, .int .i64 y22_2.line, .int .i64 y22_2.ptr, .int .i64 y22_2.state, .bool y22_2.flag, .slice a22_2_00 (List.length y22_2.data) c22_2_00] 40 (0, 0))) :: (IntsA a22_2_00 c22_2_00 y22_2.data) :: (PtrsX v3_7r v3_7a v3_7c v3_7x) :: (ImmI v3_b18_16_6a v3_b18_16_6x) :: (Asn.own b18_16 (.cells #[.int .i64 v3_b18_16_0, .int .i64 v3_b18_16_1, .int .i64 v3_b18_16_2, .int .i64 v3_b18_16_3, .int .i64 v3_b18_16_4, .int .i64 v3_b18_16_5, .slice v3_b18_16_6a (List.length v3_b18_16_6x) v3_b18_16_6c, .int .i64 v3_b18_16_7, .int .i64 v3_b18_16_8] 35 (0, 0))) :: Γ = ΔΔ) (by kernel_rfl) ?_ ?_
      ·rintro _ _ ⟨e9_107, H, rfl, rfl⟩
       rw [rolloutRingS_j9] at H
       rcases Bool.eq_false_or_eq_true (e9_107) with h4 | h4
       ·replace H := bifT H h4
        refine at_true (t := e9_107) (x := C12 [1,1,1,1,1,1,1,1,0,1,0,0,1,0,0,1,0,1,0]) (y := C12 [1,1,1,1,1,1,1,1,0,1,0,0,1,0,0,1,0,1,1]) (o := .tmp 107) (by kernel_rfl) (by kernel_rfl) (by kernel_rfl) h4 ?_
        refine aq (x := C12 [1,1,1,1,1,1,1,1,0,1,0,0,1,0,0,1,0,1,0,0]) (y := C12 [1,1,1,1,1,1,1,1,0,1,0,0,1,0,0,1,0,1,0,1]) ?_
        refine ar (id := 24) 1 ?_
        refine sp 6 (.bool false) ?_
        refine ops_end ?_
        refine ae [(6, .bool false)] ?_
        refine at_then_normal ?_
        refine at_ret (by kernel_rfl) ?_
        refine at_then_ret ?_
        refine at_in_ret ?_
        refine at_then_ret ?_
        refine at_then_ret ?_
        refine at_in_ret ?_
        refine at_then_ret ?_
        obtain rfl := someE H
        refine at_backR [.bool false] (Γ) (rs := [.tmp 6]) (by kernel_rfl) (.cons (.tmp (by kernel_rfl)) .nil) (fun w hw => (Sat.less (.drop .here (.drop .here (.drop .here (.drop .here (.drop .here .refl))))) hw)) ?_
        exact ⟨rfl, rfl⟩
       ·replace H := bifF H h4
        refine at_false (t := e9_107) (x := C12 [1,1,1,1,1,1,1,1,0,1,0,0,1,0,0,1,0,1,0]) (y := C12 [1,1,1,1,1,1,1,1,0,1,0,0,1,0,0,1,0,1,1]) (o := .tmp 107) (by kernel_rfl) (by kernel_rfl) (by kernel_rfl) h4 ?_
        refine at_skip (by kernel_rfl) ?_
        refine at_then_normal ?_
        refine at_seq_join (x := C12 [1,1,1,1,1,1,1,1,0,1,0,0,1,0,0,1,1,0]) (y := C12 [1,1,1,1,1,1,1,1,0,1,0,0,1,0,0,1,1,1]) (fun ff ΔΔ => ∃ (e10_7x : List CacheS) (e10_7a : Option Addr) (e10_7c : Nat) (e10_7r : List (List Value)) (b25_10 : Nat) (y25_6 : PktS × Int × CacheS) (a25_6_00 : Option Addr) (c25_6_00 : Nat), rolloutRingS_j10 y25_6 y2_2 v3_b18_16_0 v3_b18_16_1 v3_b18_16_2 v3_b18_16_3 v3_b18_16_4 v3_b18_16_5 v3_b18_16_6x v3_b18_16_7 v3_b18_16_8 v3_15 (rolloutRingS_l3 y2_2 y1_1 (rolloutRingS_k3 y2_2 y1_1 v) fuel2) e10_7x = some y ∧ ff = [(0, .int .i64 (wr ((1 : Int) + y1_1))), (1, .int .i64 y2_2), (2, .int .i64 v), (7, .slice e10_7a (List.length e10_7x) e10_7c), (13, .pointer (some ⟨b18_16, 0, none⟩)), (15, .int .i64 v3_15), (17, .pointer (some ⟨b25_10, 0, none⟩)), (18, .int .i64 y25_6.2.1)] ∧ (PtrsX e10_7r e10_7a e10_7c e10_7x) :: (Asn.own b25_10 (.cells #[.int .i64 y25_6.1.kind, .int .i64 y25_6.1.src, .int .i64 y25_6.1.dst, .int .i64 y25_6.1.id, .int .i64 y25_6.1.line, .int .i64 y25_6.1.ptr, .int .i64 y25_6.1.state, .bool y25_6.1.flag, .slice a25_6_00 (List.length y25_6.1.data) c25_6_00] 40 (0, 0))) :: (IntsA a25_6_00 c25_6_00 y25_6.1.data) :: (ImmI v3_b18_16_6a v3_b18_16_6x) :: (Asn.own b18_16 (.cells #[.int .i64 v3_b18_16_0, .int .i64 v3_b18_16_1, .int .i64 v3_b18_16_2, .int .i64 v3_b18_16_3, .int .i64 v3_b18_16_4, .int .i64 v3_b18_16_5, .slice v3_b18_16_6a (List.length v3_b18_16_6x) v3_b18_16_6c, .int .i64 v3_b18_16_7, .int .i64 v3_b18_16_8] 35 (0, 0))) :: Γ = ΔΔ) (by kernel_rfl) ?_ ?_
        ·rintro _ _ ⟨e10_7x, e10_7a, e10_7c, e10_7r, b25_10, y25_6, a25_6_00, c25_6_00, H, rfl, rfl⟩
         rw [rolloutRingS_j10] at H
         refine aq (x := C12 [1,1,1,1,1,1,1,1,0,1,0,0,1,0,0,1,1,1,0]) (y := C12 [1,1,1,1,1,1,1,1,0,1,0,0,1,0,0,1,1,1,1]) ?_
         refine aq (x := C12 [1,1,1,1,1,1,1,1,0,1,0,0,1,0,0,1,1,1,0,0]) (y := C12 [1,1,1,1,1,1,1,1,0,1,0,0,1,0,0,1,1,1,0,1]) ?_
         refine ar (id := 26) 2 ?_
         refine sp 118 (.int .i64 y25_6.2.1) ?_
         refine sp 119 (.bool (!(decide (y25_6.2.1 = (0 : Int))))) ?_
         refine ops_end ?_
         refine ae [(0, .int .i64 (wr ((1 : Int) + y1_1))), (1, .int .i64 y2_2), (2, .int .i64 v), (7, .slice e10_7a (List.length e10_7x) e10_7c), (13, .pointer (some ⟨b18_16, 0, none⟩)), (15, .int .i64 v3_15), (17, .pointer (some ⟨b25_10, 0, none⟩)), (119, .bool (!(decide (y25_6.2.1 = (0 : Int)))))] ?_
         refine at_then_normal ?_
         rcases Bool.eq_false_or_eq_true (!(decide (y25_6.2.1 = (0 : Int)))) with h5 | h5
         ·replace H := bifT H h5
          refine at_true (t := !(decide (y25_6.2.1 = (0 : Int)))) (x := C12 [1,1,1,1,1,1,1,1,0,1,0,0,1,0,0,1,1,1,0,1,0]) (y := C12 [1,1,1,1,1,1,1,1,0,1,0,0,1,0,0,1,1,1,0,1,1]) (o := .tmp 119) (by kernel_rfl) (by kernel_rfl) (by kernel_rfl) h5 ?_
          refine aq (x := C12 [1,1,1,1,1,1,1,1,0,1,0,0,1,0,0,1,1,1,0,1,0,0]) (y := C12 [1,1,1,1,1,1,1,1,0,1,0,0,1,0,0,1,1,1,0,1,0,1]) ?_
          refine ar (id := 27) 1 ?_
          refine sp 6 (.bool false) ?_
          refine ops_end ?_
          refine ae [(6, .bool false)] ?_
          refine at_then_normal ?_
          refine at_ret (by kernel_rfl) ?_
          refine at_then_ret ?_
          refine at_in_ret ?_
          refine at_then_ret ?_
          refine at_then_ret ?_
          refine at_in_ret ?_
          refine at_then_ret ?_
          obtain rfl := someE H
          refine at_backR [.bool false] (Γ) (rs := [.tmp 6]) (by kernel_rfl) (.cons (.tmp (by kernel_rfl)) .nil) (fun w hw => (Sat.less (.drop .here (.drop .here (.drop .here (.drop .here (.drop .here .refl))))) hw)) ?_
          exact ⟨rfl, rfl⟩
         ·replace H := bifF H h5
          refine at_false (t := !(decide (y25_6.2.1 = (0 : Int)))) (x := C12 [1,1,1,1,1,1,1,1,0,1,0,0,1,0,0,1,1,1,0,1,0]) (y := C12 [1,1,1,1,1,1,1,1,0,1,0,0,1,0,0,1,1,1,0,1,1]) (o := .tmp 119) (by kernel_rfl) (by kernel_rfl) (by kernel_rfl) h5 ?_
          refine at_skip (by kernel_rfl) ?_
          refine at_then_normal ?_
          refine at_region_draw (id := 28) (by kernel_rfl) (by kernel_rfl) ?_
          refine dl 0 121 (.agg #[.int .i64 v3_b18_16_0, .int .i64 v3_b18_16_1, .int .i64 v3_b18_16_2, .int .i64 v3_b18_16_3, .int .i64 v3_b18_16_4, .int .i64 v3_b18_16_5, .slice v3_b18_16_6a (List.length v3_b18_16_6x) v3_b18_16_6c, .int .i64 v3_b18_16_7, .int .i64 v3_b18_16_8]) (loadN (off := 0) (vs := [.int .i64 v3_b18_16_0, .int .i64 v3_b18_16_1, .int .i64 v3_b18_16_2, .int .i64 v3_b18_16_3, .int .i64 v3_b18_16_4, .int .i64 v3_b18_16_5, .slice v3_b18_16_6a (List.length v3_b18_16_6x) v3_b18_16_6c, .int .i64 v3_b18_16_7, .int .i64 v3_b18_16_8]) 9 (fun _ => by kernel_rfl) (holds_own (.there (.there (.there (.there .here))))) rfl (by exact ⟨rfl, rfl, rfl, rfl, rfl, rfl, rfl, rfl, rfl, trivial⟩)) ?_
          refine dp 1 122 (.int .i64 y2_2) ?_
          refine dp 2 123 (.slice e10_7a (List.length e10_7x) e10_7c) ?_
          refine dp 3 124 (.int .i64 y2_2) ?_
          obtain ⟨hc28_4_0, H⟩ := chkE H
          refine ptr_at_draw .here (by have := hc28_4_0; omega) ?_
          intro bb1 oo1 ha1
          refine d_pure 4 125 (.pointer (some ⟨bb1, oo1 + (((y2_2).toNat) * 1 + 0), none⟩)) (by kernel_rfl) (by kernel_rfl) (by kernel_rfl) (index_at (t := 60) (sz := 1) (E := 22) (a := e10_7a) (m := (List.length e10_7x)) (c := e10_7c) (b := bb1) (off := oo1) (i := (y2_2).toNat) (tinfo 22) (fun _ => by kernel_rfl) (by kernel_rfl) (by kernel_rfl) (by kernel_rfl) ha1 (idx_cast hc28_4_0) (idx_nat hc28_4_0) rfl) ?_
          refine ptr_get_draw .here hc28_4_0 ?_
          intro pb28_5 hr28_5
          refine dl 5 126 (.pointer (some ⟨pb28_5, 0, none⟩)) (load1_at (off := oo1 + ((y2_2).toNat * 1 + 0)) (v := .pointer (some ⟨pb28_5, 0, none⟩)) (fun _ => by kernel_rfl) rfl (ptr_cell (i := y2_2) .here ha1 hr28_5)) ?_
          refine dl 6 127 (.agg #[.int .i64 y25_6.1.kind, .int .i64 y25_6.1.src, .int .i64 y25_6.1.dst, .int .i64 y25_6.1.id, .int .i64 y25_6.1.line, .int .i64 y25_6.1.ptr, .int .i64 y25_6.1.state, .bool y25_6.1.flag, .slice a25_6_00 (List.length y25_6.1.data) c25_6_00]) (loadN (off := 0) (vs := [.int .i64 y25_6.1.kind, .int .i64 y25_6.1.src, .int .i64 y25_6.1.dst, .int .i64 y25_6.1.id, .int .i64 y25_6.1.line, .int .i64 y25_6.1.ptr, .int .i64 y25_6.1.state, .bool y25_6.1.flag, .slice a25_6_00 (List.length y25_6.1.data) c25_6_00]) 9 (fun _ => by kernel_rfl) (holds_own (.there .here)) rfl (by exact ⟨rfl, rfl, rfl, rfl, rfl, rfl, rfl, rfl, rfl, trivial⟩)) ?_
          refine Draw.convS (Γ' := (CacheA pb28_5 (nthC e10_7x y2_2)) :: (HoleX e10_7r e10_7a e10_7c e10_7x y2_2) :: (Asn.own b25_10 (.cells #[.int .i64 y25_6.1.kind, .int .i64 y25_6.1.src, .int .i64 y25_6.1.dst, .int .i64 y25_6.1.id, .int .i64 y25_6.1.line, .int .i64 y25_6.1.ptr, .int .i64 y25_6.1.state, .bool y25_6.1.flag, .slice a25_6_00 (List.length y25_6.1.data) c25_6_00] 40 (0, 0))) :: (IntsA a25_6_00 c25_6_00 y25_6.1.data) :: (ImmI v3_b18_16_6a v3_b18_16_6x) :: (Asn.own b18_16 (.cells #[.int .i64 v3_b18_16_0, .int .i64 v3_b18_16_1, .int .i64 v3_b18_16_2, .int .i64 v3_b18_16_3, .int .i64 v3_b18_16_4, .int .i64 v3_b18_16_5, .slice v3_b18_16_6a (List.length v3_b18_16_6x) v3_b18_16_6c, .int .i64 v3_b18_16_7, .int .i64 v3_b18_16_8] 35 (0, 0))) :: Γ) (fun w hw => PtrsX.take (i := y2_2) .here hr28_5 hw) (stable_cons 6 127 (.agg #[.int .i64 y25_6.1.kind, .int .i64 y25_6.1.src, .int .i64 y25_6.1.dst, .int .i64 y25_6.1.id, .int .i64 y25_6.1.line, .int .i64 y25_6.1.ptr, .int .i64 y25_6.1.state, .bool y25_6.1.flag, .slice a25_6_00 (List.length y25_6.1.data) c25_6_00]) (by kernel_rfl) (by kernel_rfl) (by kernel_rfl) (loadN (off := 0) (vs := [.int .i64 y25_6.1.kind, .int .i64 y25_6.1.src, .int .i64 y25_6.1.dst, .int .i64 y25_6.1.id, .int .i64 y25_6.1.line, .int .i64 y25_6.1.ptr, .int .i64 y25_6.1.state, .bool y25_6.1.flag, .slice a25_6_00 (List.length y25_6.1.data) c25_6_00]) 9 (fun _ => by kernel_rfl) (holds_own (.there (.there .here))) rfl (by exact ⟨rfl, rfl, rfl, rfl, rfl, rfl, rfl, rfl, rfl, trivial⟩)) (stable_cons 5 126 (.pointer (some ⟨pb28_5, 0, none⟩)) (by kernel_rfl) (by kernel_rfl) (by kernel_rfl) (load1_at (off := oo1 + ((y2_2).toNat * 1 + 0)) (v := .pointer (some ⟨pb28_5, 0, none⟩)) (fun _ => by kernel_rfl) rfl (hole_cell (i := y2_2) (.there .here) ha1 hr28_5)) (stable_cons 0 121 (.agg #[.int .i64 v3_b18_16_0, .int .i64 v3_b18_16_1, .int .i64 v3_b18_16_2, .int .i64 v3_b18_16_3, .int .i64 v3_b18_16_4, .int .i64 v3_b18_16_5, .slice v3_b18_16_6a (List.length v3_b18_16_6x) v3_b18_16_6c, .int .i64 v3_b18_16_7, .int .i64 v3_b18_16_8]) (by kernel_rfl) (by kernel_rfl) (by kernel_rfl) (loadN (off := 0) (vs := [.int .i64 v3_b18_16_0, .int .i64 v3_b18_16_1, .int .i64 v3_b18_16_2, .int .i64 v3_b18_16_3, .int .i64 v3_b18_16_4, .int .i64 v3_b18_16_5, .slice v3_b18_16_6a (List.length v3_b18_16_6x) v3_b18_16_6c, .int .i64 v3_b18_16_7, .int .i64 v3_b18_16_8]) 9 (fun _ => by kernel_rfl) (holds_own (.there (.there (.there (.there (.there .here)))))) rfl (by exact ⟨rfl, rfl, rfl, rfl, rfl, rfl, rfl, rfl, rfl, trivial⟩)) stable_nil))) ?_
          obtain ⟨y28_7, hy28_7, H⟩ := bindE H
          refine d_call 7 128 [0, 1, 5, 6, 4, 2, 3] [] [] 30 #[.agg #[.int .i64 v3_b18_16_0, .int .i64 v3_b18_16_1, .int .i64 v3_b18_16_2, .int .i64 v3_b18_16_3, .int .i64 v3_b18_16_4, .int .i64 v3_b18_16_5, .slice v3_b18_16_6a (List.length v3_b18_16_6x) v3_b18_16_6c, .int .i64 v3_b18_16_7, .int .i64 v3_b18_16_8], .int .i64 y2_2, .pointer (some ⟨pb28_5, 0, none⟩), .agg #[.int .i64 y25_6.1.kind, .int .i64 y25_6.1.src, .int .i64 y25_6.1.dst, .int .i64 y25_6.1.id, .int .i64 y25_6.1.line, .int .i64 y25_6.1.ptr, .int .i64 y25_6.1.state, .bool y25_6.1.flag, .slice a25_6_00 (List.length y25_6.1.data) c25_6_00]] (by kernel_rfl) (by kernel_rfl) (by kernel_rfl) (fun _ => by kernel_rfl) (Tr.conv (Γ' := (ImmI v3_b18_16_6a v3_b18_16_6x) :: (CacheA pb28_5 (nthC e10_7x y2_2)) :: (ImmI v3_b18_16_6a v3_b18_16_6x) :: (HoleX e10_7r e10_7a e10_7c e10_7x y2_2) :: (Asn.own b25_10 (.cells #[.int .i64 y25_6.1.kind, .int .i64 y25_6.1.src, .int .i64 y25_6.1.dst, .int .i64 y25_6.1.id, .int .i64 y25_6.1.line, .int .i64 y25_6.1.ptr, .int .i64 y25_6.1.state, .bool y25_6.1.flag, .slice a25_6_00 (List.length y25_6.1.data) c25_6_00] 40 (0, 0))) :: (IntsA a25_6_00 c25_6_00 y25_6.1.data) :: (Asn.own b18_16 (.cells #[.int .i64 v3_b18_16_0, .int .i64 v3_b18_16_1, .int .i64 v3_b18_16_2, .int .i64 v3_b18_16_3, .int .i64 v3_b18_16_4, .int .i64 v3_b18_16_5, .slice v3_b18_16_6a (List.length v3_b18_16_6x) v3_b18_16_6c, .int .i64 v3_b18_16_7, .int .i64 v3_b18_16_8] 35 (0, 0))) :: Γ) (fun w hw => (Sat.less (.take .here (.take (.there .here) (.take .here (.take .here (.take .here (.take .here (.take .here .refl))))))) (ImmR.dup (Sat.less (.take (.there (.there (.there (.there .here)))) (.take .here (.take .here (.take .here (.take .here (.take .here .refl)))))) hw)))) (RNextF_tr v3_b18_16_6a v3_b18_16_6c (⟨v3_b18_16_0, v3_b18_16_1, v3_b18_16_2, v3_b18_16_3, v3_b18_16_4, v3_b18_16_5, v3_b18_16_6x, v3_b18_16_7, v3_b18_16_8⟩ : DealS) y2_2 pb28_5 (nthC e10_7x y2_2) a25_6_00 c25_6_00 y25_6.1 (RowsA.reads (k := 1) (.there (.there (.there .here)))) y28_7 hy28_7)) ?_
          rintro _ _ ⟨a28_7_00, c28_7_00, rfl, rfl⟩
          refine ⟨stable_nil, ?_⟩
          obtain ⟨cs28_7, hcs28_7, H⟩ := letE H
          refine Draw.convS (Γ' := (PtrsX e10_7r e10_7a e10_7c cs28_7) :: (ImmI a28_7_00 y28_7.1.data) :: (ImmI v3_b18_16_6a v3_b18_16_6x) :: (Asn.own b25_10 (.cells #[.int .i64 y25_6.1.kind, .int .i64 y25_6.1.src, .int .i64 y25_6.1.dst, .int .i64 y25_6.1.id, .int .i64 y25_6.1.line, .int .i64 y25_6.1.ptr, .int .i64 y25_6.1.state, .bool y25_6.1.flag, .slice a25_6_00 (List.length y25_6.1.data) c25_6_00] 40 (0, 0))) :: (IntsA a25_6_00 c25_6_00 y25_6.1.data) :: (Asn.own b18_16 (.cells #[.int .i64 v3_b18_16_0, .int .i64 v3_b18_16_1, .int .i64 v3_b18_16_2, .int .i64 v3_b18_16_3, .int .i64 v3_b18_16_4, .int .i64 v3_b18_16_5, .slice v3_b18_16_6a (List.length v3_b18_16_6x) v3_b18_16_6c, .int .i64 v3_b18_16_7, .int .i64 v3_b18_16_8] 35 (0, 0))) :: Γ) (fun w hw => by rw [← hcs28_7]; exact PtrsX.put (i := y2_2) hr28_5 (Sat.less (.take (.there .here) (.take (.there (.there .here)) (.take .here (.take .here (.take .here (.take .here (.take .here .refl))))))) hw)) stable_nil ?_
          have hncs28_7 : List.length e10_7x = List.length cs28_7 := by rw [← hcs28_7, setC_len]
          try rw [hncs28_7]
          refine dp 8 120 (.tuple #[.agg #[.int .i64 y28_7.1.kind, .int .i64 y28_7.1.line, .int .i64 y28_7.1.id, .int .i64 y28_7.1.step, .int .i64 y28_7.1.state, .int .i64 y28_7.1.head, .slice a28_7_00 (List.length y28_7.1.data) c28_7_00, .int .i64 y28_7.1.next, .int .i64 y28_7.1.told], .bool y28_7.2.1]) ?_
          refine dp 9 129 (.agg #[.int .i64 y28_7.1.kind, .int .i64 y28_7.1.line, .int .i64 y28_7.1.id, .int .i64 y28_7.1.step, .int .i64 y28_7.1.state, .int .i64 y28_7.1.head, .slice a28_7_00 (List.length y28_7.1.data) c28_7_00, .int .i64 y28_7.1.next, .int .i64 y28_7.1.told]) ?_
          refine dp 10 130 (.bool y28_7.2.1) ?_
          refine d_do 11 [9, 7, 0, 1, 2, 3, 4, 5, 6, 8] [10] [] (by kernel_rfl) (by kernel_rfl) (by kernel_rfl) (st_store (off := 0) (vs := [.int .i64 y28_7.1.kind, .int .i64 y28_7.1.line, .int .i64 y28_7.1.id, .int .i64 y28_7.1.step, .int .i64 y28_7.1.state, .int .i64 y28_7.1.head, .slice a28_7_00 (List.length y28_7.1.data) c28_7_00, .int .i64 y28_7.1.next, .int .i64 y28_7.1.told]) (c' := #[.int .i64 y28_7.1.kind, .int .i64 y28_7.1.line, .int .i64 y28_7.1.id, .int .i64 y28_7.1.step, .int .i64 y28_7.1.state, .int .i64 y28_7.1.head, .slice a28_7_00 (List.length y28_7.1.data) c28_7_00, .int .i64 y28_7.1.next, .int .i64 y28_7.1.told]) (fun _ => by kernel_rfl) (.there (.there (.there (.there (.there .here))))) (by kernel_rfl) (by kernel_rfl) (by kernel_rfl)) ?_
          rintro _ _ ⟨rfl, rfl⟩
          refine ⟨stable_nil, ?_⟩
          refine dp 12 14 (.bool y28_7.2.1) ?_
          refine draw_end (by kernel_rfl) ?_
          refine ae [(0, .int .i64 (wr ((1 : Int) + y1_1))), (1, .int .i64 y2_2), (2, .int .i64 v), (7, .slice e10_7a (List.length cs28_7) e10_7c), (13, .pointer (some ⟨b18_16, 0, none⟩)), (14, .bool y28_7.2.1), (15, .int .i64 v3_15)] ?_
          refine at_in_normal ?_
          refine at_then_normal ?_
          refine ar (id := 21) 3 ?_
          refine sp 84 (.int .i64 v3_15) ?_
          obtain ⟨hc21_1_0, H⟩ := chkE H
          refine sr 85 (.int .i64 (v3_15 + (1 : Int))) (run_eq (v := .int .i64 (IntKind.i64.wrap (v3_15 + (1 : Int)))) (fun _ => by kernel_rfl) (by rw [inR.wrap hc21_1_0])) ?_
          refine sp 15 (.int .i64 (v3_15 + (1 : Int))) ?_
          refine ops_end ?_
          refine ae [(0, .int .i64 (wr ((1 : Int) + y1_1))), (1, .int .i64 y2_2), (2, .int .i64 v), (7, .slice e10_7a (List.length cs28_7) e10_7c), (13, .pointer (some ⟨b18_16, 0, none⟩)), (14, .bool y28_7.2.1), (15, .int .i64 (v3_15 + (1 : Int)))] ?_
          refine at_round_normal ?_
          exact at_roundR fuel2 [(0, .int .i64 (wr ((1 : Int) + y1_1))), (1, .int .i64 y2_2), (2, .int .i64 v), (7, .slice e10_7a (List.length cs28_7) e10_7c), (13, .pointer (some ⟨b18_16, 0, none⟩)), (14, .bool y28_7.2.1), (15, .int .i64 (v3_15 + (1 : Int)))] ((PtrsX e10_7r e10_7a e10_7c cs28_7) :: (ImmI a28_7_00 y28_7.1.data) :: (Asn.own b18_16 (.cells #[.int .i64 y28_7.1.kind, .int .i64 y28_7.1.line, .int .i64 y28_7.1.id, .int .i64 y28_7.1.step, .int .i64 y28_7.1.state, .int .i64 y28_7.1.head, .slice a28_7_00 (List.length y28_7.1.data) c28_7_00, .int .i64 y28_7.1.next, .int .i64 y28_7.1.told] 35 (0, 0))) :: Γ) (Nat.lt_succ_self _) ⟨by kernel_rfl, by kernel_rfl, by kernel_rfl, by kernel_rfl, by kernel_rfl, by kernel_rfl, by kernel_rfl, trivial⟩ (fun w hw => (Sat.less (.take (.there .here) (.take (.there .here) (.take .here (.drop .here (.drop .here (.drop .here .refl)))))) hw)) ⟨fuel2, cs28_7, y28_7.2.1, v3_15 + (1 : Int), y28_7.1.kind, y28_7.1.line, y28_7.1.id, y28_7.1.step, y28_7.1.state, y28_7.1.head, y28_7.1.data, y28_7.1.next, y28_7.1.told, e10_7a, e10_7c, e10_7r, a28_7_00, c28_7_00, H, rfl, rfl, rfl⟩
        ·refine at_region_draw (id := 25) (by kernel_rfl) (by kernel_rfl) ?_
         refine dp 0 109 (.slice v3_7a (List.length v3_7x) v3_7c) ?_
         refine dp 1 110 (.pointer (some ⟨b22_3, 2, none⟩)) ?_
         refine dl 2 111 (.int .i64 y22_2.dst) (load1 (off := 2) (fun _ => by kernel_rfl) (holds_own .here) (by kernel_rfl)) ?_
         obtain ⟨hc25_3_0, H⟩ := chkE H
         refine ptr_at_draw (.there (.there .here)) (by have := hc25_3_0; omega) ?_
         intro bb2 oo2 ha2
         refine d_pure 3 112 (.pointer (some ⟨bb2, oo2 + (((y22_2.dst).toNat) * 1 + 0), none⟩)) (by kernel_rfl) (by kernel_rfl) (by kernel_rfl) (index_at (t := 60) (sz := 1) (E := 22) (a := v3_7a) (m := (List.length v3_7x)) (c := v3_7c) (b := bb2) (off := oo2) (i := (y22_2.dst).toNat) (tinfo 22) (fun _ => by kernel_rfl) (by kernel_rfl) (by kernel_rfl) (by kernel_rfl) ha2 (idx_cast hc25_3_0) (idx_nat hc25_3_0) rfl) ?_
         refine ptr_get_draw (.there (.there .here)) hc25_3_0 ?_
         intro pb25_4 hr25_4
         refine dl 4 113 (.pointer (some ⟨pb25_4, 0, none⟩)) (load1_at (off := oo2 + ((y22_2.dst).toNat * 1 + 0)) (v := .pointer (some ⟨pb25_4, 0, none⟩)) (fun _ => by kernel_rfl) rfl (ptr_cell (i := y22_2.dst) (.there (.there .here)) ha2 hr25_4)) ?_
         refine dl 5 114 (.agg #[.int .i64 y22_2.kind, .int .i64 y22_2.src, .int .i64 y22_2.dst, .int .i64 y22_2.id, .int .i64 y22_2.line, .int .i64 y22_2.ptr, .int .i64 y22_2.state, .bool y22_2.flag, .slice a22_2_00 (List.length y22_2.data) c22_2_00]) (loadN (off := 0) (vs := [.int .i64 y22_2.kind, .int .i64 y22_2.src, .int .i64 y22_2.dst, .int .i64 y22_2.id, .int .i64 y22_2.line, .int .i64 y22_2.ptr, .int .i64 y22_2.state, .bool y22_2.flag, .slice a22_2_00 (List.length y22_2.data) c22_2_00]) 9 (fun _ => by kernel_rfl) (holds_own .here) rfl (by exact ⟨rfl, rfl, rfl, rfl, rfl, rfl, rfl, rfl, rfl, trivial⟩)) ?_
         refine draw_turns 6 [10] (by kernel_rfl) (turns_cons ?_ (turns_cons ?_ turns_nil))
         ·obtain ⟨y25_6, hy25_6, H⟩ := bindE H
          refine t_call 6 115 [4, 5, 3, 0, 2, 1] [] [] 33 #[.pointer (some ⟨pb25_4, 0, none⟩), .agg #[.int .i64 y22_2.kind, .int .i64 y22_2.src, .int .i64 y22_2.dst, .int .i64 y22_2.id, .int .i64 y22_2.line, .int .i64 y22_2.ptr, .int .i64 y22_2.state, .bool y22_2.flag, .slice a22_2_00 (List.length y22_2.data) c22_2_00]] (by kernel_rfl) (by kernel_rfl) (by kernel_rfl) (fun _ => by kernel_rfl) (Tr.conv (Γ' := (CacheA pb25_4 (nthC v3_7x y22_2.dst)) :: (HoleX v3_7r v3_7a v3_7c v3_7x y22_2.dst) :: (Asn.own b22_3 (.cells #[.int .i64 y22_2.kind, .int .i64 y22_2.src, .int .i64 y22_2.dst, .int .i64 y22_2.id, .int .i64 y22_2.line, .int .i64 y22_2.ptr, .int .i64 y22_2.state, .bool y22_2.flag, .slice a22_2_00 (List.length y22_2.data) c22_2_00] 40 (0, 0))) :: (IntsA a22_2_00 c22_2_00 y22_2.data) :: (ImmI v3_b18_16_6a v3_b18_16_6x) :: (Asn.own b18_16 (.cells #[.int .i64 v3_b18_16_0, .int .i64 v3_b18_16_1, .int .i64 v3_b18_16_2, .int .i64 v3_b18_16_3, .int .i64 v3_b18_16_4, .int .i64 v3_b18_16_5, .slice v3_b18_16_6a (List.length v3_b18_16_6x) v3_b18_16_6c, .int .i64 v3_b18_16_7, .int .i64 v3_b18_16_8] 35 (0, 0))) :: Γ) (fun w hw => PtrsX.take (i := y22_2.dst) (.there (.there .here)) hr25_4 hw) (SHandleF_tr pb25_4 (nthC v3_7x y22_2.dst) a22_2_00 c22_2_00 y22_2 (RowsA.reads (k := 1) (.there (.there .here))) y25_6 hy25_6)) ?_
          rintro _ _ ⟨a25_6_00, c25_6_00, rfl, rfl⟩
          refine ⟨stable_nil, ?_⟩
          obtain ⟨cs25_6, hcs25_6, H⟩ := letE H
          refine Draw.convS (Γ' := (PtrsX v3_7r v3_7a v3_7c cs25_6) :: (IntsA a25_6_00 c25_6_00 y25_6.1.data) :: (Asn.own b22_3 (.cells #[.int .i64 y22_2.kind, .int .i64 y22_2.src, .int .i64 y22_2.dst, .int .i64 y22_2.id, .int .i64 y22_2.line, .int .i64 y22_2.ptr, .int .i64 y22_2.state, .bool y22_2.flag, .slice a22_2_00 (List.length y22_2.data) c22_2_00] 40 (0, 0))) :: (IntsA a22_2_00 c22_2_00 y22_2.data) :: (ImmI v3_b18_16_6a v3_b18_16_6x) :: (Asn.own b18_16 (.cells #[.int .i64 v3_b18_16_0, .int .i64 v3_b18_16_1, .int .i64 v3_b18_16_2, .int .i64 v3_b18_16_3, .int .i64 v3_b18_16_4, .int .i64 v3_b18_16_5, .slice v3_b18_16_6a (List.length v3_b18_16_6x) v3_b18_16_6c, .int .i64 v3_b18_16_7, .int .i64 v3_b18_16_8] 35 (0, 0))) :: Γ) (fun w hw => by rw [← hcs25_6]; exact PtrsX.put (i := y22_2.dst) hr25_4 (Sat.less (.take (.there .here) (.take (.there .here) (.take .here (.take .here (.take .here (.take .here (.take .here .refl))))))) hw)) stable_nil ?_
          have hncs25_6 : List.length v3_7x = List.length cs25_6 := by rw [← hcs25_6, setC_len]
          try rw [hncs25_6]
          refine dp 7 108 (.tuple #[.agg #[.int .i64 y25_6.1.kind, .int .i64 y25_6.1.src, .int .i64 y25_6.1.dst, .int .i64 y25_6.1.id, .int .i64 y25_6.1.line, .int .i64 y25_6.1.ptr, .int .i64 y25_6.1.state, .bool y25_6.1.flag, .slice a25_6_00 (List.length y25_6.1.data) c25_6_00], .int .i64 y25_6.2.1]) ?_
          refine dp 8 116 (.agg #[.int .i64 y25_6.1.kind, .int .i64 y25_6.1.src, .int .i64 y25_6.1.dst, .int .i64 y25_6.1.id, .int .i64 y25_6.1.line, .int .i64 y25_6.1.ptr, .int .i64 y25_6.1.state, .bool y25_6.1.flag, .slice a25_6_00 (List.length y25_6.1.data) c25_6_00]) ?_
          refine dp 9 117 (.int .i64 y25_6.2.1) ?_
          refine d_step 10 17 [] [9, 8, 7] [] (by kernel_rfl) (by kernel_rfl) (by kernel_rfl) (st_new (T := 40) (cells := #[.int .i64 (0), .int .i64 (0), .int .i64 (0), .int .i64 (0), .int .i64 (0), .int .i64 (0), .int .i64 (0), .bool false, .slice none 0 0]) (fun a => .pointer (some a)) (fun _ => by kernel_rfl)) ?_
          rintro _ _ ⟨b25_10, rfl, rfl⟩
          refine ⟨stable_nil, ?_⟩
          refine d_do 11 [10, 8, 6, 0, 1, 2, 3, 4, 5, 7] [9] [] (by kernel_rfl) (by kernel_rfl) (by kernel_rfl) (st_store (off := 0) (vs := [.int .i64 y25_6.1.kind, .int .i64 y25_6.1.src, .int .i64 y25_6.1.dst, .int .i64 y25_6.1.id, .int .i64 y25_6.1.line, .int .i64 y25_6.1.ptr, .int .i64 y25_6.1.state, .bool y25_6.1.flag, .slice a25_6_00 (List.length y25_6.1.data) c25_6_00]) (c' := #[.int .i64 y25_6.1.kind, .int .i64 y25_6.1.src, .int .i64 y25_6.1.dst, .int .i64 y25_6.1.id, .int .i64 y25_6.1.line, .int .i64 y25_6.1.ptr, .int .i64 y25_6.1.state, .bool y25_6.1.flag, .slice a25_6_00 (List.length y25_6.1.data) c25_6_00]) (fun _ => by kernel_rfl) .here (by kernel_rfl) (by kernel_rfl) (by kernel_rfl)) ?_
          rintro _ _ ⟨rfl, rfl⟩
          refine ⟨stable_nil, ?_⟩
          refine dp 12 18 (.int .i64 y25_6.2.1) ?_
          refine draw_end (by kernel_rfl) ?_
          refine ae [(0, .int .i64 (wr ((1 : Int) + y1_1))), (1, .int .i64 y2_2), (2, .int .i64 v), (7, .slice v3_7a (List.length cs25_6) v3_7c), (13, .pointer (some ⟨b18_16, 0, none⟩)), (15, .int .i64 v3_15), (17, .pointer (some ⟨b25_10, 0, none⟩)), (18, .int .i64 y25_6.2.1)] ?_
          refine at_round_normal ?_
          exact at_join_mk [(0, .int .i64 (wr ((1 : Int) + y1_1))), (1, .int .i64 y2_2), (2, .int .i64 v), (7, .slice v3_7a (List.length cs25_6) v3_7c), (13, .pointer (some ⟨b18_16, 0, none⟩)), (15, .int .i64 v3_15), (17, .pointer (some ⟨b25_10, 0, none⟩)), (18, .int .i64 y25_6.2.1)] ((PtrsX v3_7r v3_7a v3_7c cs25_6) :: (Asn.own b25_10 (.cells #[.int .i64 y25_6.1.kind, .int .i64 y25_6.1.src, .int .i64 y25_6.1.dst, .int .i64 y25_6.1.id, .int .i64 y25_6.1.line, .int .i64 y25_6.1.ptr, .int .i64 y25_6.1.state, .bool y25_6.1.flag, .slice a25_6_00 (List.length y25_6.1.data) c25_6_00] 40 (0, 0))) :: (IntsA a25_6_00 c25_6_00 y25_6.1.data) :: (ImmI v3_b18_16_6a v3_b18_16_6x) :: (Asn.own b18_16 (.cells #[.int .i64 v3_b18_16_0, .int .i64 v3_b18_16_1, .int .i64 v3_b18_16_2, .int .i64 v3_b18_16_3, .int .i64 v3_b18_16_4, .int .i64 v3_b18_16_5, .slice v3_b18_16_6a (List.length v3_b18_16_6x) v3_b18_16_6c, .int .i64 v3_b18_16_7, .int .i64 v3_b18_16_8] 35 (0, 0))) :: Γ) ⟨by kernel_rfl, by kernel_rfl, by kernel_rfl, by kernel_rfl, by kernel_rfl, by kernel_rfl, by kernel_rfl, by kernel_rfl, trivial⟩ (fun w hw => (Sat.less (.take (.there .here) (.take .here (.take .here (.take (.there (.there .here)) (.take (.there (.there .here)) (.drop .here (.drop .here .refl))))))) hw)) ⟨cs25_6, v3_7a, v3_7c, v3_7r, b25_10, y25_6, a25_6_00, c25_6_00, H, rfl, rfl⟩
         ·refine t_step 10 17 [] [3, 1, 0] [5, 4, 2] (by kernel_rfl) (by kernel_rfl) (by kernel_rfl) (st_new (T := 40) (cells := #[.int .i64 (0), .int .i64 (0), .int .i64 (0), .int .i64 (0), .int .i64 (0), .int .i64 (0), .int .i64 (0), .bool false, .slice none 0 0]) (fun a => .pointer (some a)) (fun _ => by kernel_rfl)) ?_
          rintro _ _ ⟨b25_10, rfl, rfl⟩
          refine ⟨(stable_cons 5 114 (.agg #[.int .i64 y22_2.kind, .int .i64 y22_2.src, .int .i64 y22_2.dst, .int .i64 y22_2.id, .int .i64 y22_2.line, .int .i64 y22_2.ptr, .int .i64 y22_2.state, .bool y22_2.flag, .slice a22_2_00 (List.length y22_2.data) c22_2_00]) (by kernel_rfl) (by kernel_rfl) (by kernel_rfl) (loadN (off := 0) (vs := [.int .i64 y22_2.kind, .int .i64 y22_2.src, .int .i64 y22_2.dst, .int .i64 y22_2.id, .int .i64 y22_2.line, .int .i64 y22_2.ptr, .int .i64 y22_2.state, .bool y22_2.flag, .slice a22_2_00 (List.length y22_2.data) c22_2_00]) 9 (fun _ => by kernel_rfl) (holds_own (.there .here)) rfl (by exact ⟨rfl, rfl, rfl, rfl, rfl, rfl, rfl, rfl, rfl, trivial⟩)) (stable_cons 4 113 (.pointer (some ⟨pb25_4, 0, none⟩)) (by kernel_rfl) (by kernel_rfl) (by kernel_rfl) (load1_at (off := oo2 + ((y22_2.dst).toNat * 1 + 0)) (v := .pointer (some ⟨pb25_4, 0, none⟩)) (fun _ => by kernel_rfl) rfl (ptr_cell (i := y22_2.dst) (.there (.there (.there .here))) ha2 hr25_4)) (stable_cons 2 111 (.int .i64 y22_2.dst) (by kernel_rfl) (by kernel_rfl) (by kernel_rfl) (load1 (off := 2) (fun _ => by kernel_rfl) (holds_own (.there .here)) (by kernel_rfl)) stable_nil))), ?_⟩
          refine Draw.convS (Γ' := (CacheA pb25_4 (nthC v3_7x y22_2.dst)) :: (HoleX v3_7r v3_7a v3_7c v3_7x y22_2.dst) :: (Asn.own b25_10 (.cells #[.int .i64 (0), .int .i64 (0), .int .i64 (0), .int .i64 (0), .int .i64 (0), .int .i64 (0), .int .i64 (0), .bool false, .slice none 0 0] 40 (0, 0))) :: (Asn.own b22_3 (.cells #[.int .i64 y22_2.kind, .int .i64 y22_2.src, .int .i64 y22_2.dst, .int .i64 y22_2.id, .int .i64 y22_2.line, .int .i64 y22_2.ptr, .int .i64 y22_2.state, .bool y22_2.flag, .slice a22_2_00 (List.length y22_2.data) c22_2_00] 40 (0, 0))) :: (IntsA a22_2_00 c22_2_00 y22_2.data) :: (ImmI v3_b18_16_6a v3_b18_16_6x) :: (Asn.own b18_16 (.cells #[.int .i64 v3_b18_16_0, .int .i64 v3_b18_16_1, .int .i64 v3_b18_16_2, .int .i64 v3_b18_16_3, .int .i64 v3_b18_16_4, .int .i64 v3_b18_16_5, .slice v3_b18_16_6a (List.length v3_b18_16_6x) v3_b18_16_6c, .int .i64 v3_b18_16_7, .int .i64 v3_b18_16_8] 35 (0, 0))) :: Γ) (fun w hw => PtrsX.take (i := y22_2.dst) (.there (.there (.there .here))) hr25_4 hw) (stable_cons 5 114 (.agg #[.int .i64 y22_2.kind, .int .i64 y22_2.src, .int .i64 y22_2.dst, .int .i64 y22_2.id, .int .i64 y22_2.line, .int .i64 y22_2.ptr, .int .i64 y22_2.state, .bool y22_2.flag, .slice a22_2_00 (List.length y22_2.data) c22_2_00]) (by kernel_rfl) (by kernel_rfl) (by kernel_rfl) (loadN (off := 0) (vs := [.int .i64 y22_2.kind, .int .i64 y22_2.src, .int .i64 y22_2.dst, .int .i64 y22_2.id, .int .i64 y22_2.line, .int .i64 y22_2.ptr, .int .i64 y22_2.state, .bool y22_2.flag, .slice a22_2_00 (List.length y22_2.data) c22_2_00]) 9 (fun _ => by kernel_rfl) (holds_own (.there (.there (.there .here)))) rfl (by exact ⟨rfl, rfl, rfl, rfl, rfl, rfl, rfl, rfl, rfl, trivial⟩)) (stable_cons 4 113 (.pointer (some ⟨pb25_4, 0, none⟩)) (by kernel_rfl) (by kernel_rfl) (by kernel_rfl) (load1_at (off := oo2 + ((y22_2.dst).toNat * 1 + 0)) (v := .pointer (some ⟨pb25_4, 0, none⟩)) (fun _ => by kernel_rfl) rfl (hole_cell (i := y22_2.dst) (.there .here) ha2 hr25_4)) (stable_cons 2 111 (.int .i64 y22_2.dst) (by kernel_rfl) (by kernel_rfl) (by kernel_rfl) (load1 (off := 2) (fun _ => by kernel_rfl) (holds_own (.there (.there (.there .here)))) (by kernel_rfl)) stable_nil))) ?_
          obtain ⟨y25_6, hy25_6, H⟩ := bindE H
          refine d_call 6 115 [4, 5, 3, 0, 2, 1] [] [] 33 #[.pointer (some ⟨pb25_4, 0, none⟩), .agg #[.int .i64 y22_2.kind, .int .i64 y22_2.src, .int .i64 y22_2.dst, .int .i64 y22_2.id, .int .i64 y22_2.line, .int .i64 y22_2.ptr, .int .i64 y22_2.state, .bool y22_2.flag, .slice a22_2_00 (List.length y22_2.data) c22_2_00]] (by kernel_rfl) (by kernel_rfl) (by kernel_rfl) (fun _ => by kernel_rfl) (SHandleF_tr pb25_4 (nthC v3_7x y22_2.dst) a22_2_00 c22_2_00 y22_2 (RowsA.reads (k := 1) (.there (.there (.there .here)))) y25_6 hy25_6) ?_
          rintro _ _ ⟨a25_6_00, c25_6_00, rfl, rfl⟩
          refine ⟨stable_nil, ?_⟩
          obtain ⟨cs25_6, hcs25_6, H⟩ := letE H
          refine Draw.convS (Γ' := (PtrsX v3_7r v3_7a v3_7c cs25_6) :: (IntsA a25_6_00 c25_6_00 y25_6.1.data) :: (Asn.own b25_10 (.cells #[.int .i64 (0), .int .i64 (0), .int .i64 (0), .int .i64 (0), .int .i64 (0), .int .i64 (0), .int .i64 (0), .bool false, .slice none 0 0] 40 (0, 0))) :: (Asn.own b22_3 (.cells #[.int .i64 y22_2.kind, .int .i64 y22_2.src, .int .i64 y22_2.dst, .int .i64 y22_2.id, .int .i64 y22_2.line, .int .i64 y22_2.ptr, .int .i64 y22_2.state, .bool y22_2.flag, .slice a22_2_00 (List.length y22_2.data) c22_2_00] 40 (0, 0))) :: (IntsA a22_2_00 c22_2_00 y22_2.data) :: (ImmI v3_b18_16_6a v3_b18_16_6x) :: (Asn.own b18_16 (.cells #[.int .i64 v3_b18_16_0, .int .i64 v3_b18_16_1, .int .i64 v3_b18_16_2, .int .i64 v3_b18_16_3, .int .i64 v3_b18_16_4, .int .i64 v3_b18_16_5, .slice v3_b18_16_6a (List.length v3_b18_16_6x) v3_b18_16_6c, .int .i64 v3_b18_16_7, .int .i64 v3_b18_16_8] 35 (0, 0))) :: Γ) (fun w hw => by rw [← hcs25_6]; exact PtrsX.put (i := y22_2.dst) hr25_4 (Sat.less (.take (.there .here) (.take (.there .here) (.take .here (.take .here (.take .here (.take .here (.take .here (.take .here .refl)))))))) hw)) stable_nil ?_
          have hncs25_6 : List.length v3_7x = List.length cs25_6 := by rw [← hcs25_6, setC_len]
          try rw [hncs25_6]
          refine dp 7 108 (.tuple #[.agg #[.int .i64 y25_6.1.kind, .int .i64 y25_6.1.src, .int .i64 y25_6.1.dst, .int .i64 y25_6.1.id, .int .i64 y25_6.1.line, .int .i64 y25_6.1.ptr, .int .i64 y25_6.1.state, .bool y25_6.1.flag, .slice a25_6_00 (List.length y25_6.1.data) c25_6_00], .int .i64 y25_6.2.1]) ?_
          refine dp 8 116 (.agg #[.int .i64 y25_6.1.kind, .int .i64 y25_6.1.src, .int .i64 y25_6.1.dst, .int .i64 y25_6.1.id, .int .i64 y25_6.1.line, .int .i64 y25_6.1.ptr, .int .i64 y25_6.1.state, .bool y25_6.1.flag, .slice a25_6_00 (List.length y25_6.1.data) c25_6_00]) ?_
          refine dp 9 117 (.int .i64 y25_6.2.1) ?_
          refine d_do 11 [10, 8, 6, 0, 1, 2, 3, 4, 5, 7] [9] [] (by kernel_rfl) (by kernel_rfl) (by kernel_rfl) (st_store (off := 0) (vs := [.int .i64 y25_6.1.kind, .int .i64 y25_6.1.src, .int .i64 y25_6.1.dst, .int .i64 y25_6.1.id, .int .i64 y25_6.1.line, .int .i64 y25_6.1.ptr, .int .i64 y25_6.1.state, .bool y25_6.1.flag, .slice a25_6_00 (List.length y25_6.1.data) c25_6_00]) (c' := #[.int .i64 y25_6.1.kind, .int .i64 y25_6.1.src, .int .i64 y25_6.1.dst, .int .i64 y25_6.1.id, .int .i64 y25_6.1.line, .int .i64 y25_6.1.ptr, .int .i64 y25_6.1.state, .bool y25_6.1.flag, .slice a25_6_00 (List.length y25_6.1.data) c25_6_00]) (fun _ => by kernel_rfl) (.there (.there .here)) (by kernel_rfl) (by kernel_rfl) (by kernel_rfl)) ?_
          rintro _ _ ⟨rfl, rfl⟩
          refine ⟨stable_nil, ?_⟩
          refine dp 12 18 (.int .i64 y25_6.2.1) ?_
          refine draw_end (by kernel_rfl) ?_
          refine ae [(0, .int .i64 (wr ((1 : Int) + y1_1))), (1, .int .i64 y2_2), (2, .int .i64 v), (7, .slice v3_7a (List.length cs25_6) v3_7c), (13, .pointer (some ⟨b18_16, 0, none⟩)), (15, .int .i64 v3_15), (17, .pointer (some ⟨b25_10, 0, none⟩)), (18, .int .i64 y25_6.2.1)] ?_
          refine at_round_normal ?_
          exact at_join_mk [(0, .int .i64 (wr ((1 : Int) + y1_1))), (1, .int .i64 y2_2), (2, .int .i64 v), (7, .slice v3_7a (List.length cs25_6) v3_7c), (13, .pointer (some ⟨b18_16, 0, none⟩)), (15, .int .i64 v3_15), (17, .pointer (some ⟨b25_10, 0, none⟩)), (18, .int .i64 y25_6.2.1)] ((PtrsX v3_7r v3_7a v3_7c cs25_6) :: (Asn.own b25_10 (.cells #[.int .i64 y25_6.1.kind, .int .i64 y25_6.1.src, .int .i64 y25_6.1.dst, .int .i64 y25_6.1.id, .int .i64 y25_6.1.line, .int .i64 y25_6.1.ptr, .int .i64 y25_6.1.state, .bool y25_6.1.flag, .slice a25_6_00 (List.length y25_6.1.data) c25_6_00] 40 (0, 0))) :: (IntsA a25_6_00 c25_6_00 y25_6.1.data) :: (ImmI v3_b18_16_6a v3_b18_16_6x) :: (Asn.own b18_16 (.cells #[.int .i64 v3_b18_16_0, .int .i64 v3_b18_16_1, .int .i64 v3_b18_16_2, .int .i64 v3_b18_16_3, .int .i64 v3_b18_16_4, .int .i64 v3_b18_16_5, .slice v3_b18_16_6a (List.length v3_b18_16_6x) v3_b18_16_6c, .int .i64 v3_b18_16_7, .int .i64 v3_b18_16_8] 35 (0, 0))) :: Γ) ⟨by kernel_rfl, by kernel_rfl, by kernel_rfl, by kernel_rfl, by kernel_rfl, by kernel_rfl, by kernel_rfl, by kernel_rfl, trivial⟩ (fun w hw => (Sat.less (.take (.there .here) (.take .here (.take .here (.take (.there (.there .here)) (.take (.there (.there .here)) (.drop .here (.drop .here .refl))))))) hw)) ⟨cs25_6, v3_7a, v3_7c, v3_7r, b25_10, y25_6, a25_6_00, c25_6_00, H, rfl, rfl⟩
      ·refine ar (id := 23) 19 ?_
       refine sp 89 (.int .i64 v3_15) ?_
       refine sp 90 (.bool (decide ((2 : Int) < v3_15))) ?_
       rcases Bool.eq_false_or_eq_true (decide ((2 : Int) < v3_15)) with h6 | h6
       ·replace H := bifT H h6
        refine sr 91 (.bool true) (run_eq (v := .bool (decide ((2 : Int) < v3_15))) (fun _ => by kernel_rfl) (congrArg Value.bool h6)) ?_
        refine sa 92 ?_
        refine sa 93 ?_
        refine sa 94 ?_
        refine sp 95 (.bool true) ?_
        refine sp 96 (.bool true) ?_
        refine sa 97 ?_
        refine sa 98 ?_
        refine sa 99 ?_
        refine sa 100 ?_
        refine sp 101 (.bool true) ?_
        refine sp 102 (.bool true) ?_
        refine sa 103 ?_
        refine sa 104 ?_
        refine sa 105 ?_
        refine sa 106 ?_
        refine sp 107 (.bool true) ?_
        refine ops_end ?_
        refine ae [(0, .int .i64 (wr ((1 : Int) + y1_1))), (1, .int .i64 y2_2), (2, .int .i64 v), (7, .slice v3_7a (List.length v3_7x) v3_7c), (13, .pointer (some ⟨b18_16, 0, none⟩)), (15, .int .i64 v3_15), (16, .pointer (some ⟨b22_3, 0, none⟩)), (107, .bool true)] ?_
        refine at_round_normal ?_
        exact at_join_mk [(0, .int .i64 (wr ((1 : Int) + y1_1))), (1, .int .i64 y2_2), (2, .int .i64 v), (7, .slice v3_7a (List.length v3_7x) v3_7c), (13, .pointer (some ⟨b18_16, 0, none⟩)), (15, .int .i64 v3_15), (16, .pointer (some ⟨b22_3, 0, none⟩)), (107, .bool true)] ((Asn.own b22_3 (.cells #[.int .i64 y22_2.kind, .int .i64 y22_2.src, .int .i64 y22_2.dst, .int .i64 y22_2.id, .int .i64 y22_2.line, .int .i64 y22_2.ptr, .int .i64 y22_2.state, .bool y22_2.flag, .slice a22_2_00 (List.length y22_2.data) c22_2_00] 40 (0, 0))) :: (IntsA a22_2_00 c22_2_00 y22_2.data) :: (PtrsX v3_7r v3_7a v3_7c v3_7x) :: (ImmI v3_b18_16_6a v3_b18_16_6x) :: (Asn.own b18_16 (.cells #[.int .i64 v3_b18_16_0, .int .i64 v3_b18_16_1, .int .i64 v3_b18_16_2, .int .i64 v3_b18_16_3, .int .i64 v3_b18_16_4, .int .i64 v3_b18_16_5, .slice v3_b18_16_6a (List.length v3_b18_16_6x) v3_b18_16_6c, .int .i64 v3_b18_16_7, .int .i64 v3_b18_16_8] 35 (0, 0))) :: Γ) ⟨by kernel_rfl, by kernel_rfl, by kernel_rfl, by kernel_rfl, by kernel_rfl, by kernel_rfl, by kernel_rfl, by kernel_rfl, trivial⟩ (fun w hw => (Sat.less (.take .here (.take .here (.take .here (.take .here (.take .here .refl))))) hw)) ⟨true, H, rfl, rfl⟩
       ·replace H := bifF H h6
        refine sr 91 (.bool false) (run_eq (v := .bool (decide ((2 : Int) < v3_15))) (fun _ => by kernel_rfl) (congrArg Value.bool h6)) ?_
        refine sp 92 (.pointer (some ⟨b22_3, 2, none⟩)) ?_
        refine sl 93 (.int .i64 y22_2.dst) (load1 (off := 2) (fun _ => by kernel_rfl) (holds_own .here) (by kernel_rfl)) ?_
        refine sp 94 (.bool (decide (y22_2.dst < (0 : Int)))) ?_
        refine sp 95 (.bool (decide (y22_2.dst < (0 : Int)))) ?_
        rcases Bool.eq_false_or_eq_true (decide (y22_2.dst < (0 : Int))) with h7 | h7
        ·replace H := bifT H h7
         refine sr 96 (.bool true) (run_eq (v := .bool (decide (y22_2.dst < (0 : Int)))) (fun _ => by kernel_rfl) (congrArg Value.bool h7)) ?_
         refine sa 97 ?_
         refine sa 98 ?_
         refine sa 99 ?_
         refine sa 100 ?_
         refine sp 101 (.bool true) ?_
         refine sp 102 (.bool true) ?_
         refine sa 103 ?_
         refine sa 104 ?_
         refine sa 105 ?_
         refine sa 106 ?_
         refine sp 107 (.bool true) ?_
         refine ops_end ?_
         refine ae [(0, .int .i64 (wr ((1 : Int) + y1_1))), (1, .int .i64 y2_2), (2, .int .i64 v), (7, .slice v3_7a (List.length v3_7x) v3_7c), (13, .pointer (some ⟨b18_16, 0, none⟩)), (15, .int .i64 v3_15), (16, .pointer (some ⟨b22_3, 0, none⟩)), (107, .bool true)] ?_
         refine at_round_normal ?_
         exact at_join_mk [(0, .int .i64 (wr ((1 : Int) + y1_1))), (1, .int .i64 y2_2), (2, .int .i64 v), (7, .slice v3_7a (List.length v3_7x) v3_7c), (13, .pointer (some ⟨b18_16, 0, none⟩)), (15, .int .i64 v3_15), (16, .pointer (some ⟨b22_3, 0, none⟩)), (107, .bool true)] ((Asn.own b22_3 (.cells #[.int .i64 y22_2.kind, .int .i64 y22_2.src, .int .i64 y22_2.dst, .int .i64 y22_2.id, .int .i64 y22_2.line, .int .i64 y22_2.ptr, .int .i64 y22_2.state, .bool y22_2.flag, .slice a22_2_00 (List.length y22_2.data) c22_2_00] 40 (0, 0))) :: (IntsA a22_2_00 c22_2_00 y22_2.data) :: (PtrsX v3_7r v3_7a v3_7c v3_7x) :: (ImmI v3_b18_16_6a v3_b18_16_6x) :: (Asn.own b18_16 (.cells #[.int .i64 v3_b18_16_0, .int .i64 v3_b18_16_1, .int .i64 v3_b18_16_2, .int .i64 v3_b18_16_3, .int .i64 v3_b18_16_4, .int .i64 v3_b18_16_5, .slice v3_b18_16_6a (List.length v3_b18_16_6x) v3_b18_16_6c, .int .i64 v3_b18_16_7, .int .i64 v3_b18_16_8] 35 (0, 0))) :: Γ) ⟨by kernel_rfl, by kernel_rfl, by kernel_rfl, by kernel_rfl, by kernel_rfl, by kernel_rfl, by kernel_rfl, by kernel_rfl, trivial⟩ (fun w hw => (Sat.less (.take .here (.take .here (.take .here (.take .here (.take .here .refl))))) hw)) ⟨true, H, rfl, rfl⟩
        ·replace H := bifF H h7
         refine sr 96 (.bool false) (run_eq (v := .bool (decide (y22_2.dst < (0 : Int)))) (fun _ => by kernel_rfl) (congrArg Value.bool h7)) ?_
         refine sp 97 (.pointer (some ⟨b22_3, 2, none⟩)) ?_
         refine sl 98 (.int .i64 y22_2.dst) (load1 (off := 2) (fun _ => by kernel_rfl) (holds_own .here) (by kernel_rfl)) ?_
         refine sp 99 (.int .i64 (wr ((1 : Int) + y1_1))) ?_
         refine sp 100 (.bool (decide ((wr ((1 : Int) + y1_1)) ≤ y22_2.dst))) ?_
         refine sp 101 (.bool (decide ((wr ((1 : Int) + y1_1)) ≤ y22_2.dst))) ?_
         rcases Bool.eq_false_or_eq_true (decide ((wr ((1 : Int) + y1_1)) ≤ y22_2.dst)) with h8 | h8
         ·replace H := bifT H h8
          refine sr 102 (.bool true) (run_eq (v := .bool (decide ((wr ((1 : Int) + y1_1)) ≤ y22_2.dst))) (fun _ => by kernel_rfl) (congrArg Value.bool h8)) ?_
          refine sa 103 ?_
          refine sa 104 ?_
          refine sa 105 ?_
          refine sa 106 ?_
          refine sp 107 (.bool true) ?_
          refine ops_end ?_
          refine ae [(0, .int .i64 (wr ((1 : Int) + y1_1))), (1, .int .i64 y2_2), (2, .int .i64 v), (7, .slice v3_7a (List.length v3_7x) v3_7c), (13, .pointer (some ⟨b18_16, 0, none⟩)), (15, .int .i64 v3_15), (16, .pointer (some ⟨b22_3, 0, none⟩)), (107, .bool true)] ?_
          refine at_round_normal ?_
          exact at_join_mk [(0, .int .i64 (wr ((1 : Int) + y1_1))), (1, .int .i64 y2_2), (2, .int .i64 v), (7, .slice v3_7a (List.length v3_7x) v3_7c), (13, .pointer (some ⟨b18_16, 0, none⟩)), (15, .int .i64 v3_15), (16, .pointer (some ⟨b22_3, 0, none⟩)), (107, .bool true)] ((Asn.own b22_3 (.cells #[.int .i64 y22_2.kind, .int .i64 y22_2.src, .int .i64 y22_2.dst, .int .i64 y22_2.id, .int .i64 y22_2.line, .int .i64 y22_2.ptr, .int .i64 y22_2.state, .bool y22_2.flag, .slice a22_2_00 (List.length y22_2.data) c22_2_00] 40 (0, 0))) :: (IntsA a22_2_00 c22_2_00 y22_2.data) :: (PtrsX v3_7r v3_7a v3_7c v3_7x) :: (ImmI v3_b18_16_6a v3_b18_16_6x) :: (Asn.own b18_16 (.cells #[.int .i64 v3_b18_16_0, .int .i64 v3_b18_16_1, .int .i64 v3_b18_16_2, .int .i64 v3_b18_16_3, .int .i64 v3_b18_16_4, .int .i64 v3_b18_16_5, .slice v3_b18_16_6a (List.length v3_b18_16_6x) v3_b18_16_6c, .int .i64 v3_b18_16_7, .int .i64 v3_b18_16_8] 35 (0, 0))) :: Γ) ⟨by kernel_rfl, by kernel_rfl, by kernel_rfl, by kernel_rfl, by kernel_rfl, by kernel_rfl, by kernel_rfl, by kernel_rfl, trivial⟩ (fun w hw => (Sat.less (.take .here (.take .here (.take .here (.take .here (.take .here .refl))))) hw)) ⟨true, H, rfl, rfl⟩
         ·replace H := bifF H h8
          refine sr 102 (.bool false) (run_eq (v := .bool (decide ((wr ((1 : Int) + y1_1)) ≤ y22_2.dst))) (fun _ => by kernel_rfl) (congrArg Value.bool h8)) ?_
          refine sp 103 (.pointer (some ⟨b22_3, 2, none⟩)) ?_
          refine sl 104 (.int .i64 y22_2.dst) (load1 (off := 2) (fun _ => by kernel_rfl) (holds_own .here) (by kernel_rfl)) ?_
          refine sp 105 (.int .i64 y2_2) ?_
          refine sp 106 (.bool (decide (y22_2.dst = y2_2))) ?_
          refine sp 107 (.bool (decide (y22_2.dst = y2_2))) ?_
          refine ops_end ?_
          refine ae [(0, .int .i64 (wr ((1 : Int) + y1_1))), (1, .int .i64 y2_2), (2, .int .i64 v), (7, .slice v3_7a (List.length v3_7x) v3_7c), (13, .pointer (some ⟨b18_16, 0, none⟩)), (15, .int .i64 v3_15), (16, .pointer (some ⟨b22_3, 0, none⟩)), (107, .bool (decide (y22_2.dst = y2_2)))] ?_
          refine at_round_normal ?_
          exact at_join_mk [(0, .int .i64 (wr ((1 : Int) + y1_1))), (1, .int .i64 y2_2), (2, .int .i64 v), (7, .slice v3_7a (List.length v3_7x) v3_7c), (13, .pointer (some ⟨b18_16, 0, none⟩)), (15, .int .i64 v3_15), (16, .pointer (some ⟨b22_3, 0, none⟩)), (107, .bool (decide (y22_2.dst = y2_2)))] ((Asn.own b22_3 (.cells #[.int .i64 y22_2.kind, .int .i64 y22_2.src, .int .i64 y22_2.dst, .int .i64 y22_2.id, .int .i64 y22_2.line, .int .i64 y22_2.ptr, .int .i64 y22_2.state, .bool y22_2.flag, .slice a22_2_00 (List.length y22_2.data) c22_2_00] 40 (0, 0))) :: (IntsA a22_2_00 c22_2_00 y22_2.data) :: (PtrsX v3_7r v3_7a v3_7c v3_7x) :: (ImmI v3_b18_16_6a v3_b18_16_6x) :: (Asn.own b18_16 (.cells #[.int .i64 v3_b18_16_0, .int .i64 v3_b18_16_1, .int .i64 v3_b18_16_2, .int .i64 v3_b18_16_3, .int .i64 v3_b18_16_4, .int .i64 v3_b18_16_5, .slice v3_b18_16_6a (List.length v3_b18_16_6x) v3_b18_16_6c, .int .i64 v3_b18_16_7, .int .i64 v3_b18_16_8] 35 (0, 0))) :: Γ) ⟨by kernel_rfl, by kernel_rfl, by kernel_rfl, by kernel_rfl, by kernel_rfl, by kernel_rfl, by kernel_rfl, by kernel_rfl, trivial⟩ (fun w hw => (Sat.less (.take .here (.take .here (.take .here (.take .here (.take .here .refl))))) hw)) ⟨decide (y22_2.dst = y2_2), H, rfl, rfl⟩
     ·replace H := bifF H h3
      refine at_false (t := e8_83) (x := C12 [1,1,1,1,1,1,1,1,0,1,0,0,0,1,0]) (y := C12 [1,1,1,1,1,1,1,1,0,1,0,0,0,1,1]) (o := .tmp 83) (by kernel_rfl) (by kernel_rfl) (by kernel_rfl) h3 ?_
      refine at_exit (i := 2) (by kernel_rfl) ?_
      refine at_then_exit ?_
      refine at_then_exit ?_
      rw [rolloutRingS_k3] at H
      refine ae [(0, .int .i64 (wr ((1 : Int) + y1_1))), (1, .int .i64 y2_2), (2, .int .i64 v), (7, .slice v3_7a (List.length v3_7x) v3_7c), (13, .pointer (some ⟨b18_16, 0, none⟩)), (14, .bool v3_14), (15, .int .i64 v3_15)] ?_
      refine At.conv (Γ' := (PtrsX v3_7r v3_7a v3_7c v3_7x) :: (ImmI v3_b18_16_6a v3_b18_16_6x) :: (Asn.own b18_16 (.cells #[.int .i64 v3_b18_16_0, .int .i64 v3_b18_16_1, .int .i64 v3_b18_16_2, .int .i64 v3_b18_16_3, .int .i64 v3_b18_16_4, .int .i64 v3_b18_16_5, .slice v3_b18_16_6a (List.length v3_b18_16_6x) v3_b18_16_6c, .int .i64 v3_b18_16_7, .int .i64 v3_b18_16_8] 35 (0, 0))) :: Γ) (fun w hw => (Sat.less (.take .here (.take .here (.take .here .refl))) hw)) ?_
      refine at_in_here ?_
      refine at_then_normal ?_
      refine aq (x := C12 [1,1,1,1,1,1,1,1,1,0]) (y := C12 [1,1,1,1,1,1,1,1,1,1]) ?_
      refine ar (id := 29) 5 ?_
      refine sl 131 (.agg #[.int .i64 v3_b18_16_0, .int .i64 v3_b18_16_1, .int .i64 v3_b18_16_2, .int .i64 v3_b18_16_3, .int .i64 v3_b18_16_4, .int .i64 v3_b18_16_5, .slice v3_b18_16_6a (List.length v3_b18_16_6x) v3_b18_16_6c, .int .i64 v3_b18_16_7, .int .i64 v3_b18_16_8]) (loadN (off := 0) (vs := [.int .i64 v3_b18_16_0, .int .i64 v3_b18_16_1, .int .i64 v3_b18_16_2, .int .i64 v3_b18_16_3, .int .i64 v3_b18_16_4, .int .i64 v3_b18_16_5, .slice v3_b18_16_6a (List.length v3_b18_16_6x) v3_b18_16_6c, .int .i64 v3_b18_16_7, .int .i64 v3_b18_16_8]) 9 (fun _ => by kernel_rfl) (holds_own (.there (.there .here))) rfl (by exact ⟨rfl, rfl, rfl, rfl, rfl, rfl, rfl, rfl, rfl, trivial⟩)) ?_
      refine sp 132 (.int .i64 y2_2) ?_
      obtain ⟨y29_2, hy29_2, H⟩ := bindE H
      refine s_call 133 26 #[.agg #[.int .i64 v3_b18_16_0, .int .i64 v3_b18_16_1, .int .i64 v3_b18_16_2, .int .i64 v3_b18_16_3, .int .i64 v3_b18_16_4, .int .i64 v3_b18_16_5, .slice v3_b18_16_6a (List.length v3_b18_16_6x) v3_b18_16_6c, .int .i64 v3_b18_16_7, .int .i64 v3_b18_16_8], .int .i64 y2_2, .int .i64 (0)] (by kernel_rfl) (by kernel_rfl) (fun _ => by kernel_rfl) (DAskF_tr v3_b18_16_6a v3_b18_16_6c (⟨v3_b18_16_0, v3_b18_16_1, v3_b18_16_2, v3_b18_16_3, v3_b18_16_4, v3_b18_16_5, v3_b18_16_6x, v3_b18_16_7, v3_b18_16_8⟩ : DealS) y2_2 (0 : Int) (ImmR.reads (k := 1) (.there .here)) y29_2 hy29_2) ?_
      rintro _ _ ⟨a29_2_00, c29_2_00, rfl, rfl⟩
      refine s_step 19 (by kernel_rfl) (by kernel_rfl) (st_new (T := 40) (cells := #[.int .i64 (0), .int .i64 (0), .int .i64 (0), .int .i64 (0), .int .i64 (0), .int .i64 (0), .int .i64 (0), .bool false, .slice none 0 0]) (fun a => .pointer (some a)) (fun _ => by kernel_rfl)) ?_
      rintro _ _ ⟨b29_3, rfl, rfl⟩
      refine s_do (by kernel_rfl) (by kernel_rfl) (st_store (off := 0) (vs := [.int .i64 y29_2.kind, .int .i64 y29_2.src, .int .i64 y29_2.dst, .int .i64 y29_2.id, .int .i64 y29_2.line, .int .i64 y29_2.ptr, .int .i64 y29_2.state, .bool y29_2.flag, .slice a29_2_00 (List.length y29_2.data) c29_2_00]) (c' := #[.int .i64 y29_2.kind, .int .i64 y29_2.src, .int .i64 y29_2.dst, .int .i64 y29_2.id, .int .i64 y29_2.line, .int .i64 y29_2.ptr, .int .i64 y29_2.state, .bool y29_2.flag, .slice a29_2_00 (List.length y29_2.data) c29_2_00]) (fun _ => by kernel_rfl) .here (by kernel_rfl) (by kernel_rfl) (by kernel_rfl)) ?_
      rintro _ _ ⟨rfl, rfl⟩
      refine ops_end ?_
      refine ae [(0, .int .i64 (wr ((1 : Int) + y1_1))), (1, .int .i64 y2_2), (2, .int .i64 v), (7, .slice v3_7a (List.length v3_7x) v3_7c), (14, .bool v3_14), (19, .pointer (some ⟨b29_3, 0, none⟩))] ?_
      refine at_then_normal ?_
      refine at_seq_join (x := C12 [1,1,1,1,1,1,1,1,1,1,0]) (y := C12 [1,1,1,1,1,1,1,1,1,1,1]) (fun ff ΔΔ => rolloutRingS_j4 y1_1 y2_2 v3_7x v y29_2 = some y ∧ ff = [(0, .int .i64 (wr ((1 : Int) + y1_1))), (1, .int .i64 y2_2), (2, .int .i64 v), (7, .slice v3_7a (List.length v3_7x) v3_7c), (19, .pointer (some ⟨b29_3, 0, none⟩))] ∧ (Asn.own b29_3 (.cells #[.int .i64 y29_2.kind, .int .i64 y29_2.src, .int .i64 y29_2.dst, .int .i64 y29_2.id, .int .i64 y29_2.line, .int .i64 y29_2.ptr, .int .i64 y29_2.state, .bool y29_2.flag, .slice a29_2_00 (List.length y29_2.data) c29_2_00] 40 (0, 0))) :: (IntsA a29_2_00 c29_2_00 y29_2.data) :: (PtrsX v3_7r v3_7a v3_7c v3_7x) :: Γ = ΔΔ) (by kernel_rfl) ?_ ?_
      ·rintro _ _ ⟨H, rfl, rfl⟩
       rw [rolloutRingS_j4] at H
       refine aq (x := C12 [1,1,1,1,1,1,1,1,1,1,1,0]) (y := C12 [1,1,1,1,1,1,1,1,1,1,1,1]) ?_
       refine aq (x := C12 [1,1,1,1,1,1,1,1,1,1,1,0,0]) (y := C12 [1,1,1,1,1,1,1,1,1,1,1,0,1]) ?_
       refine ar (id := 32) 2 ?_
       refine sp 184 (.int .i64 (wr ((1 : Int) + y1_1))) ?_
       refine sp 185 (.bool (decide ((wr ((1 : Int) + y1_1)) = (1 : Int)))) ?_
       refine ops_end ?_
       refine ae [(0, .int .i64 (wr ((1 : Int) + y1_1))), (1, .int .i64 y2_2), (2, .int .i64 v), (7, .slice v3_7a (List.length v3_7x) v3_7c), (19, .pointer (some ⟨b29_3, 0, none⟩)), (185, .bool (decide ((wr ((1 : Int) + y1_1)) = (1 : Int))))] ?_
       refine at_then_normal ?_
       rcases Bool.eq_false_or_eq_true (decide ((wr ((1 : Int) + y1_1)) = (1 : Int))) with h9 | h9
       ·replace H := bifT H h9
        refine at_true (t := decide ((wr ((1 : Int) + y1_1)) = (1 : Int))) (x := C12 [1,1,1,1,1,1,1,1,1,1,1,0,1,0]) (y := C12 [1,1,1,1,1,1,1,1,1,1,1,0,1,1]) (o := .tmp 185) (by kernel_rfl) (by kernel_rfl) (by kernel_rfl) h9 ?_
        refine aq (x := C12 [1,1,1,1,1,1,1,1,1,1,1,0,1,0,0]) (y := C12 [1,1,1,1,1,1,1,1,1,1,1,0,1,0,1]) ?_
        refine ar (id := 33) 2 ?_
        obtain ⟨y33_0, hy33_0, H⟩ := bindE H
        refine s_call 186 31 #[] (by kernel_rfl) (by kernel_rfl) (fun _ => by kernel_rfl) (W16F_tr  y33_0 hy33_0) ?_
        rintro _ _ ⟨rfl, rfl⟩
        refine sp 6 (.bool y33_0) ?_
        refine ops_end ?_
        refine ae [(6, .bool y33_0)] ?_
        refine at_then_normal ?_
        refine at_ret (by kernel_rfl) ?_
        refine at_then_ret ?_
        obtain rfl := someE H
        refine at_backR [.bool y33_0] (Γ) (rs := [.tmp 6]) (by kernel_rfl) (.cons (.tmp (by kernel_rfl)) .nil) (fun w hw => (Sat.less (.drop .here (.drop .here (.drop .here .refl))) hw)) ?_
        exact ⟨rfl, rfl⟩
       ·replace H := bifF H h9
        refine at_false (t := decide ((wr ((1 : Int) + y1_1)) = (1 : Int))) (x := C12 [1,1,1,1,1,1,1,1,1,1,1,0,1,0]) (y := C12 [1,1,1,1,1,1,1,1,1,1,1,0,1,1]) (o := .tmp 185) (by kernel_rfl) (by kernel_rfl) (by kernel_rfl) h9 ?_
        refine at_skip (by kernel_rfl) ?_
        refine at_then_normal ?_
        refine aq (x := C12 [1,1,1,1,1,1,1,1,1,1,1,1,0]) (y := C12 [1,1,1,1,1,1,1,1,1,1,1,1,1]) ?_
        refine at_region_draw (id := 34) (by kernel_rfl) (by kernel_rfl) ?_
        refine dp 0 187 (.pointer (some ⟨b29_3, 5, none⟩)) ?_
        refine dl 1 188 (.int .i64 y29_2.ptr) (load1 (off := 5) (fun _ => by kernel_rfl) (holds_own .here) (by kernel_rfl)) ?_
        refine dp 2 20 (.int .i64 (-1)) ?_
        refine dp 3 21 (.int .i64 y29_2.ptr) ?_
        refine draw_end (by kernel_rfl) ?_
        refine ae [(0, .int .i64 (wr ((1 : Int) + y1_1))), (1, .int .i64 y2_2), (2, .int .i64 v), (7, .slice v3_7a (List.length v3_7x) v3_7c), (19, .pointer (some ⟨b29_3, 0, none⟩)), (20, .int .i64 (-1)), (21, .int .i64 y29_2.ptr)] ?_
        refine at_then_normal ?_
        refine aq (x := C12 [1,1,1,1,1,1,1,1,1,1,1,1,1,0]) (y := C12 [1,1,1,1,1,1,1,1,1,1,1,1,1,1]) ?_
        refine aq (x := C12 [1,1,1,1,1,1,1,1,1,1,1,1,1,0,0]) (y := C12 [1,1,1,1,1,1,1,1,1,1,1,1,1,0,1]) ?_
        refine ar (id := 35) 1 ?_
        refine sp 22 (.int .i64 (0)) ?_
        refine ops_end ?_
        refine ae [(0, .int .i64 (wr ((1 : Int) + y1_1))), (1, .int .i64 y2_2), (2, .int .i64 v), (7, .slice v3_7a (List.length v3_7x) v3_7c), (19, .pointer (some ⟨b29_3, 0, none⟩)), (20, .int .i64 (-1)), (21, .int .i64 y29_2.ptr), (22, .int .i64 (0))] ?_
        refine at_then_normal ?_
        refine at_block (i := 4) (x := C12 [1,1,1,1,1,1,1,1,1,1,1,1,1,0,1,0]) (by kernel_rfl) ?_
        refine At.conv (Γ' := (Asn.own b29_3 (.cells #[.int .i64 y29_2.kind, .int .i64 y29_2.src, .int .i64 y29_2.dst, .int .i64 y29_2.id, .int .i64 y29_2.line, .int .i64 y29_2.ptr, .int .i64 y29_2.state, .bool y29_2.flag, .slice a29_2_00 (List.length y29_2.data) c29_2_00] 40 (0, 0))) :: (IntsA a29_2_00 c29_2_00 y29_2.data) :: (PtrsX v3_7r v3_7a v3_7c v3_7x) :: Γ) (fun w hw => (Sat.less (.take .here (.take .here (.take .here .refl))) hw)) ?_
        refine at_loopR (x := C12 [1,1,1,1,1,1,1,1,1,1,1,1,1,0,1,0,0]) (fun mm ff ΔΔ => ∃ (fuel : Nat) (v5_20 : Int) (v5_21 : Int) (v5_22 : Int), rolloutRingS_l5 y1_1 y2_2 v3_7x v (rolloutRingS_k5 y29_2) fuel v5_20 v5_21 v5_22 = some y ∧ fuel = mm ∧ ff = [(0, .int .i64 (wr ((1 : Int) + y1_1))), (1, .int .i64 y2_2), (2, .int .i64 v), (7, .slice v3_7a (List.length v3_7x) v3_7c), (19, .pointer (some ⟨b29_3, 0, none⟩)), (20, .int .i64 v5_20), (21, .int .i64 v5_21), (22, .int .i64 v5_22)] ∧ (Asn.own b29_3 (.cells #[.int .i64 y29_2.kind, .int .i64 y29_2.src, .int .i64 y29_2.dst, .int .i64 y29_2.id, .int .i64 y29_2.line, .int .i64 y29_2.ptr, .int .i64 y29_2.state, .bool y29_2.flag, .slice a29_2_00 (List.length y29_2.data) c29_2_00] 40 (0, 0))) :: (IntsA a29_2_00 c29_2_00 y29_2.data) :: (PtrsX v3_7r v3_7a v3_7c v3_7x) :: Γ = ΔΔ) (64) (by kernel_rfl) [(0, .int .i64 (wr ((1 : Int) + y1_1))), (1, .int .i64 y2_2), (2, .int .i64 v), (7, .slice v3_7a (List.length v3_7x) v3_7c), (19, .pointer (some ⟨b29_3, 0, none⟩)), (20, .int .i64 (-1)), (21, .int .i64 y29_2.ptr), (22, .int .i64 0)] ⟨by kernel_rfl, by kernel_rfl, by kernel_rfl, by kernel_rfl, by kernel_rfl, by kernel_rfl, by kernel_rfl, by kernel_rfl, trivial⟩ ⟨64, (-1), y29_2.ptr, 0, H, rfl, rfl, rfl⟩ ?_
        rintro _ _ _ ⟨fuel3, v5_20, v5_21, v5_22, H, rfl, rfl, rfl⟩
        rcases fuel3 with _ | fuel3
        ·exact (noneE H).elim
        rw [rolloutRingS_l5] at H
        refine aq (x := C12 [1,1,1,1,1,1,1,1,1,1,1,1,1,0,1,0,0,0]) (y := C12 [1,1,1,1,1,1,1,1,1,1,1,1,1,0,1,0,0,1]) ?_
        refine aq (x := C12 [1,1,1,1,1,1,1,1,1,1,1,1,1,0,1,0,0,0,0]) (y := C12 [1,1,1,1,1,1,1,1,1,1,1,1,1,0,1,0,0,0,1]) ?_
        refine ar (id := 36) 3 ?_
        refine sp 189 (.int .i64 v5_22) ?_
        refine sp 190 (.int .i64 (wr ((1 : Int) + y1_1))) ?_
        refine sp 191 (.bool (decide (v5_22 < (wr ((1 : Int) + y1_1))))) ?_
        refine ops_end ?_
        refine ae [(0, .int .i64 (wr ((1 : Int) + y1_1))), (1, .int .i64 y2_2), (2, .int .i64 v), (7, .slice v3_7a (List.length v3_7x) v3_7c), (19, .pointer (some ⟨b29_3, 0, none⟩)), (20, .int .i64 v5_20), (21, .int .i64 v5_21), (22, .int .i64 v5_22), (191, .bool (decide (v5_22 < (wr ((1 : Int) + y1_1)))))] ?_
        refine at_then_normal ?_
        rcases Bool.eq_false_or_eq_true (decide (v5_22 < (wr ((1 : Int) + y1_1)))) with h10 | h10
        ·replace H := bifT H h10
         refine at_true (t := decide (v5_22 < (wr ((1 : Int) + y1_1)))) (x := C12 [1,1,1,1,1,1,1,1,1,1,1,1,1,0,1,0,0,0,1,0]) (y := C12 [1,1,1,1,1,1,1,1,1,1,1,1,1,0,1,0,0,0,1,1]) (o := .tmp 191) (by kernel_rfl) (by kernel_rfl) (by kernel_rfl) h10 ?_
         refine at_skip (by kernel_rfl) ?_
         refine at_then_normal ?_
         refine at_seq_join (x := C12 [1,1,1,1,1,1,1,1,1,1,1,1,1,0,1,0,0,1,0]) (y := C12 [1,1,1,1,1,1,1,1,1,1,1,1,1,0,1,0,0,1,1]) (fun ff ΔΔ => ∃ (e6_20 : Int) (e6_21 : Int), rolloutRingS_j6 v5_22 (rolloutRingS_l5 y1_1 y2_2 v3_7x v (rolloutRingS_k5 y29_2) fuel3) e6_20 e6_21 = some y ∧ ff = [(0, .int .i64 (wr ((1 : Int) + y1_1))), (1, .int .i64 y2_2), (2, .int .i64 v), (7, .slice v3_7a (List.length v3_7x) v3_7c), (19, .pointer (some ⟨b29_3, 0, none⟩)), (20, .int .i64 e6_20), (21, .int .i64 e6_21), (22, .int .i64 v5_22)] ∧ (Asn.own b29_3 (.cells #[.int .i64 y29_2.kind, .int .i64 y29_2.src, .int .i64 y29_2.dst, .int .i64 y29_2.id, .int .i64 y29_2.line, .int .i64 y29_2.ptr, .int .i64 y29_2.state, .bool y29_2.flag, .slice a29_2_00 (List.length y29_2.data) c29_2_00] 40 (0, 0))) :: (IntsA a29_2_00 c29_2_00 y29_2.data) :: (PtrsX v3_7r v3_7a v3_7c v3_7x) :: Γ = ΔΔ) (by kernel_rfl) ?_ ?_
         ·rintro _ _ ⟨e6_20, e6_21, H, rfl, rfl⟩
          rw [rolloutRingS_j6] at H
          refine ar (id := 37) 3 ?_
          refine sp 192 (.int .i64 v5_22) ?_
          obtain ⟨hc37_1_0, H⟩ := chkE H
          refine sr 193 (.int .i64 (v5_22 + (1 : Int))) (run_eq (v := .int .i64 (IntKind.i64.wrap (v5_22 + (1 : Int)))) (fun _ => by kernel_rfl) (by rw [inR.wrap hc37_1_0])) ?_
          refine sp 22 (.int .i64 (v5_22 + (1 : Int))) ?_
          refine ops_end ?_
          refine ae [(0, .int .i64 (wr ((1 : Int) + y1_1))), (1, .int .i64 y2_2), (2, .int .i64 v), (7, .slice v3_7a (List.length v3_7x) v3_7c), (19, .pointer (some ⟨b29_3, 0, none⟩)), (20, .int .i64 e6_20), (21, .int .i64 e6_21), (22, .int .i64 (v5_22 + (1 : Int)))] ?_
          refine at_round_normal ?_
          exact at_roundR fuel3 [(0, .int .i64 (wr ((1 : Int) + y1_1))), (1, .int .i64 y2_2), (2, .int .i64 v), (7, .slice v3_7a (List.length v3_7x) v3_7c), (19, .pointer (some ⟨b29_3, 0, none⟩)), (20, .int .i64 e6_20), (21, .int .i64 e6_21), (22, .int .i64 (v5_22 + (1 : Int)))] ((Asn.own b29_3 (.cells #[.int .i64 y29_2.kind, .int .i64 y29_2.src, .int .i64 y29_2.dst, .int .i64 y29_2.id, .int .i64 y29_2.line, .int .i64 y29_2.ptr, .int .i64 y29_2.state, .bool y29_2.flag, .slice a29_2_00 (List.length y29_2.data) c29_2_00] 40 (0, 0))) :: (IntsA a29_2_00 c29_2_00 y29_2.data) :: (PtrsX v3_7r v3_7a v3_7c v3_7x) :: Γ) (Nat.lt_succ_self _) ⟨by kernel_rfl, by kernel_rfl, by kernel_rfl, by kernel_rfl, by kernel_rfl, by kernel_rfl, by kernel_rfl, by kernel_rfl, trivial⟩ (fun w hw => (Sat.less (.take .here (.take .here (.take .here .refl))) hw)) ⟨fuel3, e6_20, e6_21, v5_22 + (1 : Int), H, rfl, rfl, rfl⟩
         ·refine at_block (i := 5) (x := C12 [1,1,1,1,1,1,1,1,1,1,1,1,1,0,1,0,0,1,0,0]) (by kernel_rfl) ?_
          refine aq (x := C12 [1,1,1,1,1,1,1,1,1,1,1,1,1,0,1,0,0,1,0,0,0]) (y := C12 [1,1,1,1,1,1,1,1,1,1,1,1,1,0,1,0,0,1,0,0,1]) ?_
          refine aq (x := C12 [1,1,1,1,1,1,1,1,1,1,1,1,1,0,1,0,0,1,0,0,0,0]) (y := C12 [1,1,1,1,1,1,1,1,1,1,1,1,1,0,1,0,0,1,0,0,0,1]) ?_
          refine ar (id := 38) 3 ?_
          refine sp 194 (.int .i64 v5_22) ?_
          refine sp 195 (.int .i64 y2_2) ?_
          refine sp 196 (.bool (decide (v5_22 = y2_2))) ?_
          refine ops_end ?_
          refine ae [(0, .int .i64 (wr ((1 : Int) + y1_1))), (1, .int .i64 y2_2), (2, .int .i64 v), (7, .slice v3_7a (List.length v3_7x) v3_7c), (19, .pointer (some ⟨b29_3, 0, none⟩)), (20, .int .i64 v5_20), (21, .int .i64 v5_21), (22, .int .i64 v5_22), (196, .bool (decide (v5_22 = y2_2)))] ?_
          refine at_then_normal ?_
          rcases Bool.eq_false_or_eq_true (decide (v5_22 = y2_2)) with h11 | h11
          ·replace H := bifT H h11
           refine at_true (t := decide (v5_22 = y2_2)) (x := C12 [1,1,1,1,1,1,1,1,1,1,1,1,1,0,1,0,0,1,0,0,0,1,0]) (y := C12 [1,1,1,1,1,1,1,1,1,1,1,1,1,0,1,0,0,1,0,0,0,1,1]) (o := .tmp 196) (by kernel_rfl) (by kernel_rfl) (by kernel_rfl) h11 ?_
           refine at_exit (i := 5) (by kernel_rfl) ?_
           refine at_then_exit ?_
           refine at_in_here ?_
           refine at_round_normal ?_
           exact at_join_mk [(0, .int .i64 (wr ((1 : Int) + y1_1))), (1, .int .i64 y2_2), (2, .int .i64 v), (7, .slice v3_7a (List.length v3_7x) v3_7c), (19, .pointer (some ⟨b29_3, 0, none⟩)), (20, .int .i64 v5_20), (21, .int .i64 v5_21), (22, .int .i64 v5_22)] ((Asn.own b29_3 (.cells #[.int .i64 y29_2.kind, .int .i64 y29_2.src, .int .i64 y29_2.dst, .int .i64 y29_2.id, .int .i64 y29_2.line, .int .i64 y29_2.ptr, .int .i64 y29_2.state, .bool y29_2.flag, .slice a29_2_00 (List.length y29_2.data) c29_2_00] 40 (0, 0))) :: (IntsA a29_2_00 c29_2_00 y29_2.data) :: (PtrsX v3_7r v3_7a v3_7c v3_7x) :: Γ) ⟨by kernel_rfl, by kernel_rfl, by kernel_rfl, by kernel_rfl, by kernel_rfl, by kernel_rfl, by kernel_rfl, by kernel_rfl, trivial⟩ (fun w hw => (Sat.less (.take .here (.take .here (.take .here .refl))) hw)) ⟨v5_20, v5_21, H, rfl, rfl⟩
          ·replace H := bifF H h11
           refine at_false (t := decide (v5_22 = y2_2)) (x := C12 [1,1,1,1,1,1,1,1,1,1,1,1,1,0,1,0,0,1,0,0,0,1,0]) (y := C12 [1,1,1,1,1,1,1,1,1,1,1,1,1,0,1,0,0,1,0,0,0,1,1]) (o := .tmp 196) (by kernel_rfl) (by kernel_rfl) (by kernel_rfl) h11 ?_
           refine at_skip (by kernel_rfl) ?_
           refine at_then_normal ?_
           refine aq (x := C12 [1,1,1,1,1,1,1,1,1,1,1,1,1,0,1,0,0,1,0,0,1,0]) (y := C12 [1,1,1,1,1,1,1,1,1,1,1,1,1,0,1,0,0,1,0,0,1,1]) ?_
           refine ar (id := 39) 11 ?_
           refine sp 198 (.slice v3_7a (List.length v3_7x) v3_7c) ?_
           refine sp 199 (.int .i64 v5_22) ?_
           obtain ⟨hc39_2_0, H⟩ := chkE H
           refine ptr_at (.there (.there .here)) (by have := hc39_2_0; omega) ?_
           intro bb3 oo3 ha3
           refine sr 200 (.pointer (some ⟨bb3, oo3 + (((v5_22).toNat) * 1 + 0), none⟩)) (index_at (t := 60) (sz := 1) (E := 22) (a := v3_7a) (m := (List.length v3_7x)) (c := v3_7c) (b := bb3) (off := oo3) (i := (v5_22).toNat) (tinfo 22) (fun _ => by kernel_rfl) (by kernel_rfl) (by kernel_rfl) (by kernel_rfl) ha3 (idx_cast hc39_2_0) (idx_nat hc39_2_0) rfl) ?_
           refine ptr_get (.there (.there .here)) hc39_2_0 ?_
           intro pb39_3 hr39_3
           refine sl 201 (.pointer (some ⟨pb39_3, 0, none⟩)) (load1_at (off := oo3 + ((v5_22).toNat * 1 + 0)) (v := .pointer (some ⟨pb39_3, 0, none⟩)) (fun _ => by kernel_rfl) rfl (ptr_cell (i := v5_22) (.there (.there .here)) ha3 hr39_3)) ?_
           refine At.conv (Γ' := (CacheA pb39_3 (nthC v3_7x v5_22)) :: (HoleX v3_7r v3_7a v3_7c v3_7x v5_22) :: (Asn.own b29_3 (.cells #[.int .i64 y29_2.kind, .int .i64 y29_2.src, .int .i64 y29_2.dst, .int .i64 y29_2.id, .int .i64 y29_2.line, .int .i64 y29_2.ptr, .int .i64 y29_2.state, .bool y29_2.flag, .slice a29_2_00 (List.length y29_2.data) c29_2_00] 40 (0, 0))) :: (IntsA a29_2_00 c29_2_00 y29_2.data) :: Γ) (fun w hw => PtrsX.take (i := v5_22) (.there (.there .here)) hr39_3 hw) ?_
           obtain ⟨y39_4, hy39_4, H⟩ := bindE H
           refine s_call 202 18 #[.pointer (some ⟨pb39_3, 0, none⟩), .int .i64 (0)] (by kernel_rfl) (by kernel_rfl) (fun _ => by kernel_rfl) (FindF_tr pb39_3 (nthC v3_7x v5_22) (0 : Int) y39_4 hy39_4) ?_
           rintro _ _ ⟨a39_4_00, c39_4_00, rfl, rfl⟩
           refine At.conv (Γ' := (PtrsX v3_7r v3_7a v3_7c v3_7x) :: (IntsA a39_4_00 c39_4_00 y39_4.1.data) :: (Asn.own b29_3 (.cells #[.int .i64 y29_2.kind, .int .i64 y29_2.src, .int .i64 y29_2.dst, .int .i64 y29_2.id, .int .i64 y29_2.line, .int .i64 y29_2.ptr, .int .i64 y29_2.state, .bool y29_2.flag, .slice a29_2_00 (List.length y29_2.data) c29_2_00] 40 (0, 0))) :: (IntsA a29_2_00 c29_2_00 y29_2.data) :: Γ) (fun w hw => PtrsX.back (i := v5_22) hr39_3 (Sat.less (.take (.there .here) (.take (.there .here) (.take .here (.take .here (.take .here .refl))))) hw)) ?_
           refine sp 197 (.tuple #[.agg #[.int .i64 y39_4.1.fwd, .int .i64 y39_4.1.back, .int .i64 y39_4.1.line, .int .i64 y39_4.1.used, .bool y39_4.1.dirty, .slice a39_4_00 (List.length y39_4.1.data) c39_4_00], .bool y39_4.2]) ?_
           refine sp 203 (.agg #[.int .i64 y39_4.1.fwd, .int .i64 y39_4.1.back, .int .i64 y39_4.1.line, .int .i64 y39_4.1.used, .bool y39_4.1.dirty, .slice a39_4_00 (List.length y39_4.1.data) c39_4_00]) ?_
           refine sp 204 (.bool y39_4.2) ?_
           refine s_step 23 (by kernel_rfl) (by kernel_rfl) (st_new (T := 32) (cells := #[.int .i64 (0), .int .i64 (0), .int .i64 (0), .int .i64 (0), .bool false, .slice none 0 0]) (fun a => .pointer (some a)) (fun _ => by kernel_rfl)) ?_
           rintro _ _ ⟨b39_8, rfl, rfl⟩
           refine s_do (by kernel_rfl) (by kernel_rfl) (st_store (off := 0) (vs := [.int .i64 y39_4.1.fwd, .int .i64 y39_4.1.back, .int .i64 y39_4.1.line, .int .i64 y39_4.1.used, .bool y39_4.1.dirty, .slice a39_4_00 (List.length y39_4.1.data) c39_4_00]) (c' := #[.int .i64 y39_4.1.fwd, .int .i64 y39_4.1.back, .int .i64 y39_4.1.line, .int .i64 y39_4.1.used, .bool y39_4.1.dirty, .slice a39_4_00 (List.length y39_4.1.data) c39_4_00]) (fun _ => by kernel_rfl) .here (by kernel_rfl) (by kernel_rfl) (by kernel_rfl)) ?_
           rintro _ _ ⟨rfl, rfl⟩
           refine sp 24 (.bool y39_4.2) ?_
           refine ops_end ?_
           refine ae [(0, .int .i64 (wr ((1 : Int) + y1_1))), (1, .int .i64 y2_2), (2, .int .i64 v), (7, .slice v3_7a (List.length v3_7x) v3_7c), (19, .pointer (some ⟨b29_3, 0, none⟩)), (20, .int .i64 v5_20), (21, .int .i64 v5_21), (22, .int .i64 v5_22), (23, .pointer (some ⟨b39_8, 0, none⟩)), (24, .bool y39_4.2)] ?_
           refine at_then_normal ?_
           refine aq (x := C12 [1,1,1,1,1,1,1,1,1,1,1,1,1,0,1,0,0,1,0,0,1,1,0]) (y := C12 [1,1,1,1,1,1,1,1,1,1,1,1,1,0,1,0,0,1,0,0,1,1,1]) ?_
           refine at_seq_join (x := C12 [1,1,1,1,1,1,1,1,1,1,1,1,1,0,1,0,0,1,0,0,1,1,0,0]) (y := C12 [1,1,1,1,1,1,1,1,1,1,1,1,1,0,1,0,0,1,0,0,1,1,0,1]) (fun ff ΔΔ => ∃ (e7_224 : Bool), rolloutRingS_j7 v5_22 (rolloutRingS_l5 y1_1 y2_2 v3_7x v (rolloutRingS_k5 y29_2) fuel3) y39_4 e7_224 = some y ∧ ff = [(0, .int .i64 (wr ((1 : Int) + y1_1))), (1, .int .i64 y2_2), (2, .int .i64 v), (7, .slice v3_7a (List.length v3_7x) v3_7c), (19, .pointer (some ⟨b29_3, 0, none⟩)), (22, .int .i64 v5_22), (23, .pointer (some ⟨b39_8, 0, none⟩)), (224, .bool e7_224)] ∧ (Asn.own b39_8 (.cells #[.int .i64 y39_4.1.fwd, .int .i64 y39_4.1.back, .int .i64 y39_4.1.line, .int .i64 y39_4.1.used, .bool y39_4.1.dirty, .slice a39_4_00 (List.length y39_4.1.data) c39_4_00] 32 (0, 0))) :: (PtrsX v3_7r v3_7a v3_7c v3_7x) :: (IntsA a39_4_00 c39_4_00 y39_4.1.data) :: (Asn.own b29_3 (.cells #[.int .i64 y29_2.kind, .int .i64 y29_2.src, .int .i64 y29_2.dst, .int .i64 y29_2.id, .int .i64 y29_2.line, .int .i64 y29_2.ptr, .int .i64 y29_2.state, .bool y29_2.flag, .slice a29_2_00 (List.length y29_2.data) c29_2_00] 40 (0, 0))) :: (IntsA a29_2_00 c29_2_00 y29_2.data) :: Γ = ΔΔ) (by kernel_rfl) ?_ ?_
           ·rintro _ _ ⟨e7_224, H, rfl, rfl⟩
            rw [rolloutRingS_j7] at H
            rcases Bool.eq_false_or_eq_true (e7_224) with h12 | h12
            ·replace H := bifT H h12
             refine at_true (t := e7_224) (x := C12 [1,1,1,1,1,1,1,1,1,1,1,1,1,0,1,0,0,1,0,0,1,1,0,1,0]) (y := C12 [1,1,1,1,1,1,1,1,1,1,1,1,1,0,1,0,0,1,0,0,1,1,0,1,1]) (o := .tmp 224) (by kernel_rfl) (by kernel_rfl) (by kernel_rfl) h12 ?_
             refine aq (x := C12 [1,1,1,1,1,1,1,1,1,1,1,1,1,0,1,0,0,1,0,0,1,1,0,1,0,0]) (y := C12 [1,1,1,1,1,1,1,1,1,1,1,1,1,0,1,0,0,1,0,0,1,1,0,1,0,1]) ?_
             refine ar (id := 41) 1 ?_
             refine sp 6 (.bool false) ?_
             refine ops_end ?_
             refine ae [(6, .bool false)] ?_
             refine at_then_normal ?_
             refine at_ret (by kernel_rfl) ?_
             refine at_then_ret ?_
             refine at_in_ret ?_
             refine at_then_ret ?_
             refine at_then_ret ?_
             refine at_in_ret ?_
             refine at_then_ret ?_
             obtain rfl := someE H
             refine at_backR [.bool false] (Γ) (rs := [.tmp 6]) (by kernel_rfl) (.cons (.tmp (by kernel_rfl)) .nil) (fun w hw => (Sat.less (.drop .here (.drop .here (.drop .here (.drop .here (.drop .here .refl))))) hw)) ?_
             exact ⟨rfl, rfl⟩
            ·replace H := bifF H h12
             refine at_false (t := e7_224) (x := C12 [1,1,1,1,1,1,1,1,1,1,1,1,1,0,1,0,0,1,0,0,1,1,0,1,0]) (y := C12 [1,1,1,1,1,1,1,1,1,1,1,1,1,0,1,0,0,1,0,0,1,1,0,1,1]) (o := .tmp 224) (by kernel_rfl) (by kernel_rfl) (by kernel_rfl) h12 ?_
             refine at_skip (by kernel_rfl) ?_
             refine at_then_normal ?_
             refine at_region_draw (id := 42) (by kernel_rfl) (by kernel_rfl) ?_
             refine dp 0 225 (.int .i64 v5_22) ?_
             refine dp 1 226 (.pointer (some ⟨b39_8, 0, none⟩)) ?_
             refine dp 2 227 (.pointer (some ⟨b39_8, 0, none⟩)) ?_
             refine dl 3 228 (.int .i64 y39_4.1.fwd) (load1 (off := 0) (fun _ => by kernel_rfl) (holds_own .here) (by kernel_rfl)) ?_
             refine dp 4 20 (.int .i64 v5_22) ?_
             refine dp 5 21 (.int .i64 y39_4.1.fwd) ?_
             refine draw_end (by kernel_rfl) ?_
             refine ae [(0, .int .i64 (wr ((1 : Int) + y1_1))), (1, .int .i64 y2_2), (2, .int .i64 v), (7, .slice v3_7a (List.length v3_7x) v3_7c), (19, .pointer (some ⟨b29_3, 0, none⟩)), (20, .int .i64 v5_22), (21, .int .i64 y39_4.1.fwd), (22, .int .i64 v5_22)] ?_
             refine at_in_normal ?_
             refine at_round_normal ?_
             exact at_join_mk [(0, .int .i64 (wr ((1 : Int) + y1_1))), (1, .int .i64 y2_2), (2, .int .i64 v), (7, .slice v3_7a (List.length v3_7x) v3_7c), (19, .pointer (some ⟨b29_3, 0, none⟩)), (20, .int .i64 v5_22), (21, .int .i64 y39_4.1.fwd), (22, .int .i64 v5_22)] ((Asn.own b29_3 (.cells #[.int .i64 y29_2.kind, .int .i64 y29_2.src, .int .i64 y29_2.dst, .int .i64 y29_2.id, .int .i64 y29_2.line, .int .i64 y29_2.ptr, .int .i64 y29_2.state, .bool y29_2.flag, .slice a29_2_00 (List.length y29_2.data) c29_2_00] 40 (0, 0))) :: (IntsA a29_2_00 c29_2_00 y29_2.data) :: (PtrsX v3_7r v3_7a v3_7c v3_7x) :: Γ) ⟨by kernel_rfl, by kernel_rfl, by kernel_rfl, by kernel_rfl, by kernel_rfl, by kernel_rfl, by kernel_rfl, by kernel_rfl, trivial⟩ (fun w hw => (Sat.less (.take (.there (.there (.there .here))) (.take (.there (.there (.there .here))) (.take (.there .here) (.drop .here (.drop .here .refl))))) hw)) ⟨v5_22, y39_4.1.fwd, H, rfl, rfl⟩
           ·refine ar (id := 40) 20 ?_
            refine sp 205 (.bool y39_4.2) ?_
            refine sp 206 (.bool !y39_4.2) ?_
            rcases Bool.eq_false_or_eq_true (!y39_4.2) with h13 | h13
            ·replace H := bifT H h13
             refine sr 207 (.bool true) (run_eq (v := .bool (!y39_4.2)) (fun _ => by kernel_rfl) (congrArg Value.bool h13)) ?_
             refine sa 208 ?_
             refine sa 209 ?_
             refine sa 210 ?_
             refine sp 211 (.bool true) ?_
             refine sp 212 (.bool true) ?_
             refine sa 213 ?_
             refine sa 214 ?_
             refine sa 215 ?_
             refine sa 216 ?_
             refine sa 217 ?_
             refine sp 218 (.bool true) ?_
             refine sp 219 (.bool true) ?_
             refine sa 220 ?_
             refine sa 221 ?_
             refine sa 222 ?_
             refine sa 223 ?_
             refine sp 224 (.bool true) ?_
             refine ops_end ?_
             refine ae [(0, .int .i64 (wr ((1 : Int) + y1_1))), (1, .int .i64 y2_2), (2, .int .i64 v), (7, .slice v3_7a (List.length v3_7x) v3_7c), (19, .pointer (some ⟨b29_3, 0, none⟩)), (22, .int .i64 v5_22), (23, .pointer (some ⟨b39_8, 0, none⟩)), (224, .bool true)] ?_
             refine at_round_normal ?_
             exact at_join_mk [(0, .int .i64 (wr ((1 : Int) + y1_1))), (1, .int .i64 y2_2), (2, .int .i64 v), (7, .slice v3_7a (List.length v3_7x) v3_7c), (19, .pointer (some ⟨b29_3, 0, none⟩)), (22, .int .i64 v5_22), (23, .pointer (some ⟨b39_8, 0, none⟩)), (224, .bool true)] ((Asn.own b39_8 (.cells #[.int .i64 y39_4.1.fwd, .int .i64 y39_4.1.back, .int .i64 y39_4.1.line, .int .i64 y39_4.1.used, .bool y39_4.1.dirty, .slice a39_4_00 (List.length y39_4.1.data) c39_4_00] 32 (0, 0))) :: (PtrsX v3_7r v3_7a v3_7c v3_7x) :: (IntsA a39_4_00 c39_4_00 y39_4.1.data) :: (Asn.own b29_3 (.cells #[.int .i64 y29_2.kind, .int .i64 y29_2.src, .int .i64 y29_2.dst, .int .i64 y29_2.id, .int .i64 y29_2.line, .int .i64 y29_2.ptr, .int .i64 y29_2.state, .bool y29_2.flag, .slice a29_2_00 (List.length y29_2.data) c29_2_00] 40 (0, 0))) :: (IntsA a29_2_00 c29_2_00 y29_2.data) :: Γ) ⟨by kernel_rfl, by kernel_rfl, by kernel_rfl, by kernel_rfl, by kernel_rfl, by kernel_rfl, by kernel_rfl, by kernel_rfl, trivial⟩ (fun w hw => (Sat.less (.take .here (.take .here (.take .here (.take .here (.take .here .refl))))) hw)) ⟨true, H, rfl, rfl⟩
            ·replace H := bifF H h13
             refine sr 207 (.bool false) (run_eq (v := .bool (!y39_4.2)) (fun _ => by kernel_rfl) (congrArg Value.bool h13)) ?_
             refine sp 208 (.int .i64 v5_21) ?_
             refine sp 209 (.int .i64 v5_22) ?_
             refine sp 210 (.bool (!(decide (v5_21 = v5_22)))) ?_
             refine sp 211 (.bool (!(decide (v5_21 = v5_22)))) ?_
             rcases Bool.eq_false_or_eq_true (!(decide (v5_21 = v5_22))) with h14 | h14
             ·replace H := bifT H h14
              refine sr 212 (.bool true) (run_eq (v := .bool (!(decide (v5_21 = v5_22)))) (fun _ => by kernel_rfl) (congrArg Value.bool h14)) ?_
              refine sa 213 ?_
              refine sa 214 ?_
              refine sa 215 ?_
              refine sa 216 ?_
              refine sa 217 ?_
              refine sp 218 (.bool true) ?_
              refine sp 219 (.bool true) ?_
              refine sa 220 ?_
              refine sa 221 ?_
              refine sa 222 ?_
              refine sa 223 ?_
              refine sp 224 (.bool true) ?_
              refine ops_end ?_
              refine ae [(0, .int .i64 (wr ((1 : Int) + y1_1))), (1, .int .i64 y2_2), (2, .int .i64 v), (7, .slice v3_7a (List.length v3_7x) v3_7c), (19, .pointer (some ⟨b29_3, 0, none⟩)), (22, .int .i64 v5_22), (23, .pointer (some ⟨b39_8, 0, none⟩)), (224, .bool true)] ?_
              refine at_round_normal ?_
              exact at_join_mk [(0, .int .i64 (wr ((1 : Int) + y1_1))), (1, .int .i64 y2_2), (2, .int .i64 v), (7, .slice v3_7a (List.length v3_7x) v3_7c), (19, .pointer (some ⟨b29_3, 0, none⟩)), (22, .int .i64 v5_22), (23, .pointer (some ⟨b39_8, 0, none⟩)), (224, .bool true)] ((Asn.own b39_8 (.cells #[.int .i64 y39_4.1.fwd, .int .i64 y39_4.1.back, .int .i64 y39_4.1.line, .int .i64 y39_4.1.used, .bool y39_4.1.dirty, .slice a39_4_00 (List.length y39_4.1.data) c39_4_00] 32 (0, 0))) :: (PtrsX v3_7r v3_7a v3_7c v3_7x) :: (IntsA a39_4_00 c39_4_00 y39_4.1.data) :: (Asn.own b29_3 (.cells #[.int .i64 y29_2.kind, .int .i64 y29_2.src, .int .i64 y29_2.dst, .int .i64 y29_2.id, .int .i64 y29_2.line, .int .i64 y29_2.ptr, .int .i64 y29_2.state, .bool y29_2.flag, .slice a29_2_00 (List.length y29_2.data) c29_2_00] 40 (0, 0))) :: (IntsA a29_2_00 c29_2_00 y29_2.data) :: Γ) ⟨by kernel_rfl, by kernel_rfl, by kernel_rfl, by kernel_rfl, by kernel_rfl, by kernel_rfl, by kernel_rfl, by kernel_rfl, trivial⟩ (fun w hw => (Sat.less (.take .here (.take .here (.take .here (.take .here (.take .here .refl))))) hw)) ⟨true, H, rfl, rfl⟩
             ·replace H := bifF H h14
              refine sr 212 (.bool false) (run_eq (v := .bool (!(decide (v5_21 = v5_22)))) (fun _ => by kernel_rfl) (congrArg Value.bool h14)) ?_
              refine sp 213 (.pointer (some ⟨b39_8, 0, none⟩)) ?_
              refine sp 214 (.pointer (some ⟨b39_8, 1, none⟩)) ?_
              refine sl 215 (.int .i64 y39_4.1.back) (load1 (off := 1) (fun _ => by kernel_rfl) (holds_own .here) (by kernel_rfl)) ?_
              refine sp 216 (.int .i64 v5_20) ?_
              refine sp 217 (.bool (!(decide (y39_4.1.back = v5_20)))) ?_
              refine sp 218 (.bool (!(decide (y39_4.1.back = v5_20)))) ?_
              rcases Bool.eq_false_or_eq_true (!(decide (y39_4.1.back = v5_20))) with h15 | h15
              ·replace H := bifT H h15
               refine sr 219 (.bool true) (run_eq (v := .bool (!(decide (y39_4.1.back = v5_20)))) (fun _ => by kernel_rfl) (congrArg Value.bool h15)) ?_
               refine sa 220 ?_
               refine sa 221 ?_
               refine sa 222 ?_
               refine sa 223 ?_
               refine sp 224 (.bool true) ?_
               refine ops_end ?_
               refine ae [(0, .int .i64 (wr ((1 : Int) + y1_1))), (1, .int .i64 y2_2), (2, .int .i64 v), (7, .slice v3_7a (List.length v3_7x) v3_7c), (19, .pointer (some ⟨b29_3, 0, none⟩)), (22, .int .i64 v5_22), (23, .pointer (some ⟨b39_8, 0, none⟩)), (224, .bool true)] ?_
               refine at_round_normal ?_
               exact at_join_mk [(0, .int .i64 (wr ((1 : Int) + y1_1))), (1, .int .i64 y2_2), (2, .int .i64 v), (7, .slice v3_7a (List.length v3_7x) v3_7c), (19, .pointer (some ⟨b29_3, 0, none⟩)), (22, .int .i64 v5_22), (23, .pointer (some ⟨b39_8, 0, none⟩)), (224, .bool true)] ((Asn.own b39_8 (.cells #[.int .i64 y39_4.1.fwd, .int .i64 y39_4.1.back, .int .i64 y39_4.1.line, .int .i64 y39_4.1.used, .bool y39_4.1.dirty, .slice a39_4_00 (List.length y39_4.1.data) c39_4_00] 32 (0, 0))) :: (PtrsX v3_7r v3_7a v3_7c v3_7x) :: (IntsA a39_4_00 c39_4_00 y39_4.1.data) :: (Asn.own b29_3 (.cells #[.int .i64 y29_2.kind, .int .i64 y29_2.src, .int .i64 y29_2.dst, .int .i64 y29_2.id, .int .i64 y29_2.line, .int .i64 y29_2.ptr, .int .i64 y29_2.state, .bool y29_2.flag, .slice a29_2_00 (List.length y29_2.data) c29_2_00] 40 (0, 0))) :: (IntsA a29_2_00 c29_2_00 y29_2.data) :: Γ) ⟨by kernel_rfl, by kernel_rfl, by kernel_rfl, by kernel_rfl, by kernel_rfl, by kernel_rfl, by kernel_rfl, by kernel_rfl, trivial⟩ (fun w hw => (Sat.less (.take .here (.take .here (.take .here (.take .here (.take .here .refl))))) hw)) ⟨true, H, rfl, rfl⟩
              ·replace H := bifF H h15
               refine sr 219 (.bool false) (run_eq (v := .bool (!(decide (y39_4.1.back = v5_20)))) (fun _ => by kernel_rfl) (congrArg Value.bool h15)) ?_
               refine sl 220 (.agg #[.int .i64 y39_4.1.fwd, .int .i64 y39_4.1.back, .int .i64 y39_4.1.line, .int .i64 y39_4.1.used, .bool y39_4.1.dirty, .slice a39_4_00 (List.length y39_4.1.data) c39_4_00]) (loadN (off := 0) (vs := [.int .i64 y39_4.1.fwd, .int .i64 y39_4.1.back, .int .i64 y39_4.1.line, .int .i64 y39_4.1.used, .bool y39_4.1.dirty, .slice a39_4_00 (List.length y39_4.1.data) c39_4_00]) 6 (fun _ => by kernel_rfl) (holds_own .here) rfl (by exact ⟨rfl, rfl, rfl, rfl, rfl, rfl, trivial⟩)) ?_
               obtain ⟨y40_16, hy40_16, H⟩ := bindE H
               refine s_call 221 20 #[.agg #[.int .i64 y39_4.1.fwd, .int .i64 y39_4.1.back, .int .i64 y39_4.1.line, .int .i64 y39_4.1.used, .bool y39_4.1.dirty, .slice a39_4_00 (List.length y39_4.1.data) c39_4_00], .int .i64 (0)] (by kernel_rfl) (by kernel_rfl) (fun _ => by kernel_rfl) (EWordF_tr a39_4_00 c39_4_00 y39_4.1 (0 : Int) (RowsA.reads (k := 1) (.there (.there .here))) y40_16 hy40_16) ?_
               rintro _ _ ⟨rfl, rfl⟩
               refine sp 222 (.int .i64 v) ?_
               refine sp 223 (.bool (!(decide (y40_16 = v)))) ?_
               refine sp 224 (.bool (!(decide (y40_16 = v)))) ?_
               refine ops_end ?_
               refine ae [(0, .int .i64 (wr ((1 : Int) + y1_1))), (1, .int .i64 y2_2), (2, .int .i64 v), (7, .slice v3_7a (List.length v3_7x) v3_7c), (19, .pointer (some ⟨b29_3, 0, none⟩)), (22, .int .i64 v5_22), (23, .pointer (some ⟨b39_8, 0, none⟩)), (224, .bool (!(decide (y40_16 = v))))] ?_
               refine at_round_normal ?_
               exact at_join_mk [(0, .int .i64 (wr ((1 : Int) + y1_1))), (1, .int .i64 y2_2), (2, .int .i64 v), (7, .slice v3_7a (List.length v3_7x) v3_7c), (19, .pointer (some ⟨b29_3, 0, none⟩)), (22, .int .i64 v5_22), (23, .pointer (some ⟨b39_8, 0, none⟩)), (224, .bool (!(decide (y40_16 = v))))] ((Asn.own b39_8 (.cells #[.int .i64 y39_4.1.fwd, .int .i64 y39_4.1.back, .int .i64 y39_4.1.line, .int .i64 y39_4.1.used, .bool y39_4.1.dirty, .slice a39_4_00 (List.length y39_4.1.data) c39_4_00] 32 (0, 0))) :: (PtrsX v3_7r v3_7a v3_7c v3_7x) :: (IntsA a39_4_00 c39_4_00 y39_4.1.data) :: (Asn.own b29_3 (.cells #[.int .i64 y29_2.kind, .int .i64 y29_2.src, .int .i64 y29_2.dst, .int .i64 y29_2.id, .int .i64 y29_2.line, .int .i64 y29_2.ptr, .int .i64 y29_2.state, .bool y29_2.flag, .slice a29_2_00 (List.length y29_2.data) c29_2_00] 40 (0, 0))) :: (IntsA a29_2_00 c29_2_00 y29_2.data) :: Γ) ⟨by kernel_rfl, by kernel_rfl, by kernel_rfl, by kernel_rfl, by kernel_rfl, by kernel_rfl, by kernel_rfl, by kernel_rfl, trivial⟩ (fun w hw => (Sat.less (.take .here (.take .here (.take .here (.take .here (.take .here .refl))))) hw)) ⟨!(decide (y40_16 = v)), H, rfl, rfl⟩
        ·replace H := bifF H h10
         refine at_false (t := decide (v5_22 < (wr ((1 : Int) + y1_1)))) (x := C12 [1,1,1,1,1,1,1,1,1,1,1,1,1,0,1,0,0,0,1,0]) (y := C12 [1,1,1,1,1,1,1,1,1,1,1,1,1,0,1,0,0,0,1,1]) (o := .tmp 191) (by kernel_rfl) (by kernel_rfl) (by kernel_rfl) h10 ?_
         refine at_exit (i := 4) (by kernel_rfl) ?_
         refine at_then_exit ?_
         refine at_then_exit ?_
         rw [rolloutRingS_k5] at H
         refine ae [(0, .int .i64 (wr ((1 : Int) + y1_1))), (1, .int .i64 y2_2), (2, .int .i64 v), (7, .slice v3_7a (List.length v3_7x) v3_7c), (19, .pointer (some ⟨b29_3, 0, none⟩)), (20, .int .i64 v5_20), (21, .int .i64 v5_21), (22, .int .i64 v5_22)] ?_
         refine At.conv (Γ' := (Asn.own b29_3 (.cells #[.int .i64 y29_2.kind, .int .i64 y29_2.src, .int .i64 y29_2.dst, .int .i64 y29_2.id, .int .i64 y29_2.line, .int .i64 y29_2.ptr, .int .i64 y29_2.state, .bool y29_2.flag, .slice a29_2_00 (List.length y29_2.data) c29_2_00] 40 (0, 0))) :: (IntsA a29_2_00 c29_2_00 y29_2.data) :: (PtrsX v3_7r v3_7a v3_7c v3_7x) :: Γ) (fun w hw => (Sat.less (.take .here (.take .here (.take .here .refl))) hw)) ?_
         refine at_in_here ?_
         refine at_then_normal ?_
         refine aq (x := C12 [1,1,1,1,1,1,1,1,1,1,1,1,1,1,0]) (y := C12 [1,1,1,1,1,1,1,1,1,1,1,1,1,1,1]) ?_
         refine ar (id := 43) 11 ?_
         refine sp 229 (.int .i64 v5_21) ?_
         refine sp 230 (.bool (decide (v5_21 = ((-1) : Int)))) ?_
         rcases Bool.eq_false_or_eq_true (decide (v5_21 = ((-1) : Int))) with h16 | h16
         ·replace H := bifT H h16
          refine sr 231 (.bool true) (run_eq (v := .bool (decide (v5_21 = ((-1) : Int)))) (fun _ => by kernel_rfl) (congrArg Value.bool h16)) ?_
          refine sp 232 (.pointer (some ⟨b29_3, 6, none⟩)) ?_
          refine sl 233 (.int .i64 y29_2.state) (load1 (off := 6) (fun _ => by kernel_rfl) (holds_own .here) (by kernel_rfl)) ?_
          refine sp 234 (.bool (decide (y29_2.state = (1 : Int)))) ?_
          refine sp 235 (.bool (decide (y29_2.state = (1 : Int)))) ?_
          rcases Bool.eq_false_or_eq_true (decide (y29_2.state = (1 : Int))) with h17 | h17
          ·replace H := bifT H h17
           refine sr 236 (.bool true) (run_eq (v := .bool (decide (y29_2.state = (1 : Int)))) (fun _ => by kernel_rfl) (congrArg Value.bool h17)) ?_
           obtain ⟨y43_8, hy43_8, H⟩ := bindE H
           refine s_call 237 31 #[] (by kernel_rfl) (by kernel_rfl) (fun _ => by kernel_rfl) (W16F_tr  y43_8 hy43_8) ?_
           rintro _ _ ⟨rfl, rfl⟩
           refine sp 238 (.bool y43_8) ?_
           refine sp 6 (.bool y43_8) ?_
           refine ops_end ?_
           refine ae [(6, .bool y43_8)] ?_
           refine at_then_normal ?_
           refine at_ret (by kernel_rfl) ?_
           obtain rfl := someE H
           refine at_backR [.bool y43_8] (Γ) (rs := [.tmp 6]) (by kernel_rfl) (.cons (.tmp (by kernel_rfl)) .nil) (fun w hw => (Sat.less (.drop .here (.drop .here (.drop .here .refl))) hw)) ?_
           exact ⟨rfl, rfl⟩
          ·replace H := bifF H h17
           refine sr 236 (.bool false) (run_eq (v := .bool (decide (y29_2.state = (1 : Int)))) (fun _ => by kernel_rfl) (congrArg Value.bool h17)) ?_
           refine sa 237 ?_
           refine sp 238 (.bool false) ?_
           refine sp 6 (.bool false) ?_
           refine ops_end ?_
           refine ae [(6, .bool false)] ?_
           refine at_then_normal ?_
           refine at_ret (by kernel_rfl) ?_
           obtain rfl := someE H
           refine at_backR [.bool false] (Γ) (rs := [.tmp 6]) (by kernel_rfl) (.cons (.tmp (by kernel_rfl)) .nil) (fun w hw => (Sat.less (.drop .here (.drop .here (.drop .here .refl))) hw)) ?_
           exact ⟨rfl, rfl⟩
         ·replace H := bifF H h16
          refine sr 231 (.bool false) (run_eq (v := .bool (decide (v5_21 = ((-1) : Int)))) (fun _ => by kernel_rfl) (congrArg Value.bool h16)) ?_
          refine sa 232 ?_
          refine sa 233 ?_
          refine sa 234 ?_
          refine sp 235 (.bool false) ?_
          refine sp 236 (.bool false) ?_
          refine sa 237 ?_
          refine sp 238 (.bool false) ?_
          refine sp 6 (.bool false) ?_
          refine ops_end ?_
          refine ae [(6, .bool false)] ?_
          refine at_then_normal ?_
          refine at_ret (by kernel_rfl) ?_
          obtain rfl := someE H
          refine at_backR [.bool false] (Γ) (rs := [.tmp 6]) (by kernel_rfl) (.cons (.tmp (by kernel_rfl)) .nil) (fun w hw => (Sat.less (.drop .here (.drop .here (.drop .here .refl))) hw)) ?_
          exact ⟨rfl, rfl⟩
      ·refine aq (x := C12 [1,1,1,1,1,1,1,1,1,1,0,0]) (y := C12 [1,1,1,1,1,1,1,1,1,1,0,1]) ?_
       refine ar (id := 30) 50 ?_
       refine sp 134 (.bool v3_14) ?_
       refine sp 135 (.bool !v3_14) ?_
       rcases Bool.eq_false_or_eq_true (!v3_14) with h18 | h18
       ·replace H := bifT H h18
        refine sr 136 (.bool true) (run_eq (v := .bool (!v3_14)) (fun _ => by kernel_rfl) (congrArg Value.bool h18)) ?_
        refine sa 137 ?_
        refine sa 138 ?_
        refine sa 139 ?_
        refine sa 140 ?_
        refine sa 141 ?_
        refine sa 142 ?_
        refine sp 143 (.bool true) ?_
        refine sp 144 (.bool true) ?_
        refine sa 145 ?_
        refine sa 146 ?_
        refine sa 147 ?_
        refine sp 148 (.bool true) ?_
        refine sp 149 (.bool true) ?_
        refine sa 150 ?_
        refine sa 151 ?_
        refine sa 152 ?_
        refine sa 153 ?_
        refine sa 154 ?_
        refine sp 155 (.bool true) ?_
        refine sp 156 (.bool true) ?_
        refine sa 157 ?_
        refine sa 158 ?_
        refine sa 159 ?_
        refine sa 160 ?_
        refine sa 161 ?_
        refine sa 162 ?_
        refine sa 163 ?_
        refine sa 164 ?_
        refine sa 165 ?_
        refine sa 166 ?_
        refine sa 167 ?_
        refine sa 168 ?_
        refine sa 169 ?_
        refine sa 170 ?_
        refine sa 171 ?_
        refine sa 172 ?_
        refine sa 173 ?_
        refine sa 174 ?_
        refine sa 175 ?_
        refine sa 176 ?_
        refine sa 177 ?_
        refine sa 178 ?_
        refine sa 179 ?_
        refine sa 180 ?_
        refine sa 181 ?_
        refine sa 182 ?_
        refine sp 183 (.bool true) ?_
        refine ops_end ?_
        refine ae [(0, .int .i64 (wr ((1 : Int) + y1_1))), (1, .int .i64 y2_2), (2, .int .i64 v), (7, .slice v3_7a (List.length v3_7x) v3_7c), (19, .pointer (some ⟨b29_3, 0, none⟩)), (183, .bool true)] ?_
        refine at_then_normal ?_
        refine at_true (t := true) (x := C12 [1,1,1,1,1,1,1,1,1,1,0,1,0]) (y := C12 [1,1,1,1,1,1,1,1,1,1,0,1,1]) (o := .tmp 183) (by kernel_rfl) (by kernel_rfl) (by kernel_rfl) rfl ?_
        refine aq (x := C12 [1,1,1,1,1,1,1,1,1,1,0,1,0,0]) (y := C12 [1,1,1,1,1,1,1,1,1,1,0,1,0,1]) ?_
        refine ar (id := 31) 1 ?_
        refine sp 6 (.bool false) ?_
        refine ops_end ?_
        refine ae [(6, .bool false)] ?_
        refine at_then_normal ?_
        refine at_ret (by kernel_rfl) ?_
        refine at_then_ret ?_
        obtain rfl := someE H
        refine at_backR [.bool false] (Γ) (rs := [.tmp 6]) (by kernel_rfl) (.cons (.tmp (by kernel_rfl)) .nil) (fun w hw => (Sat.less (.drop .here (.drop .here (.drop .here (.drop .here (.drop .here .refl))))) hw)) ?_
        exact ⟨rfl, rfl⟩
       ·replace H := bifF H h18
        refine sr 136 (.bool false) (run_eq (v := .bool (!v3_14)) (fun _ => by kernel_rfl) (congrArg Value.bool h18)) ?_
        refine sp 137 (.slice v3_7a (List.length v3_7x) v3_7c) ?_
        refine sp 138 (.int .i64 y2_2) ?_
        obtain ⟨hc30_5_0, H⟩ := chkE H
        refine ptr_at (.there (.there .here)) (by have := hc30_5_0; omega) ?_
        intro bb4 oo4 ha4
        refine sr 139 (.pointer (some ⟨bb4, oo4 + (((y2_2).toNat) * 1 + 0), none⟩)) (index_at (t := 60) (sz := 1) (E := 22) (a := v3_7a) (m := (List.length v3_7x)) (c := v3_7c) (b := bb4) (off := oo4) (i := (y2_2).toNat) (tinfo 22) (fun _ => by kernel_rfl) (by kernel_rfl) (by kernel_rfl) (by kernel_rfl) ha4 (idx_cast hc30_5_0) (idx_nat hc30_5_0) rfl) ?_
        refine ptr_get (.there (.there .here)) hc30_5_0 ?_
        intro pb30_6 hr30_6
        refine sl 140 (.pointer (some ⟨pb30_6, 0, none⟩)) (load1_at (off := oo4 + ((y2_2).toNat * 1 + 0)) (v := .pointer (some ⟨pb30_6, 0, none⟩)) (fun _ => by kernel_rfl) rfl (ptr_cell (i := y2_2) (.there (.there .here)) ha4 hr30_6)) ?_
        refine At.conv (Γ' := (CacheA pb30_6 (nthC v3_7x y2_2)) :: (HoleX v3_7r v3_7a v3_7c v3_7x y2_2) :: (Asn.own b29_3 (.cells #[.int .i64 y29_2.kind, .int .i64 y29_2.src, .int .i64 y29_2.dst, .int .i64 y29_2.id, .int .i64 y29_2.line, .int .i64 y29_2.ptr, .int .i64 y29_2.state, .bool y29_2.flag, .slice a29_2_00 (List.length y29_2.data) c29_2_00] 40 (0, 0))) :: (IntsA a29_2_00 c29_2_00 y29_2.data) :: (ImmI v3_b18_16_6a v3_b18_16_6x) :: (Asn.own b18_16 (.cells #[.int .i64 v3_b18_16_0, .int .i64 v3_b18_16_1, .int .i64 v3_b18_16_2, .int .i64 v3_b18_16_3, .int .i64 v3_b18_16_4, .int .i64 v3_b18_16_5, .slice v3_b18_16_6a (List.length v3_b18_16_6x) v3_b18_16_6c, .int .i64 v3_b18_16_7, .int .i64 v3_b18_16_8] 35 (0, 0))) :: Γ) (fun w hw => PtrsX.take (i := y2_2) (.there (.there .here)) hr30_6 hw) ?_
        obtain ⟨y30_7, hy30_7, H⟩ := letE H
        refine s_call 141 23 #[.pointer (some ⟨pb30_6, 0, none⟩)] (by kernel_rfl) (by kernel_rfl) (fun _ => by kernel_rfl) (LenF_tr pb30_6 (nthC v3_7x y2_2) y30_7 hy30_7) ?_
        rintro _ _ ⟨rfl, rfl⟩
        refine At.conv (Γ' := (PtrsX v3_7r v3_7a v3_7c v3_7x) :: (Asn.own b29_3 (.cells #[.int .i64 y29_2.kind, .int .i64 y29_2.src, .int .i64 y29_2.dst, .int .i64 y29_2.id, .int .i64 y29_2.line, .int .i64 y29_2.ptr, .int .i64 y29_2.state, .bool y29_2.flag, .slice a29_2_00 (List.length y29_2.data) c29_2_00] 40 (0, 0))) :: (IntsA a29_2_00 c29_2_00 y29_2.data) :: (ImmI v3_b18_16_6a v3_b18_16_6x) :: (Asn.own b18_16 (.cells #[.int .i64 v3_b18_16_0, .int .i64 v3_b18_16_1, .int .i64 v3_b18_16_2, .int .i64 v3_b18_16_3, .int .i64 v3_b18_16_4, .int .i64 v3_b18_16_5, .slice v3_b18_16_6a (List.length v3_b18_16_6x) v3_b18_16_6c, .int .i64 v3_b18_16_7, .int .i64 v3_b18_16_8] 35 (0, 0))) :: Γ) (fun w hw => PtrsX.back (i := y2_2) hr30_6 (Sat.less (.take .here (.take .here (.take .here (.take .here (.take .here (.take .here .refl)))))) hw)) ?_
        refine sp 142 (.bool (!(decide (y30_7 = (0 : Int))))) ?_
        refine sp 143 (.bool (!(decide (y30_7 = (0 : Int))))) ?_
        rcases Bool.eq_false_or_eq_true (!(decide (y30_7 = (0 : Int)))) with h19 | h19
        ·replace H := bifT H h19
         refine sr 144 (.bool true) (run_eq (v := .bool (!(decide (y30_7 = (0 : Int))))) (fun _ => by kernel_rfl) (congrArg Value.bool h19)) ?_
         refine sa 145 ?_
         refine sa 146 ?_
         refine sa 147 ?_
         refine sp 148 (.bool true) ?_
         refine sp 149 (.bool true) ?_
         refine sa 150 ?_
         refine sa 151 ?_
         refine sa 152 ?_
         refine sa 153 ?_
         refine sa 154 ?_
         refine sp 155 (.bool true) ?_
         refine sp 156 (.bool true) ?_
         refine sa 157 ?_
         refine sa 158 ?_
         refine sa 159 ?_
         refine sa 160 ?_
         refine sa 161 ?_
         refine sa 162 ?_
         refine sa 163 ?_
         refine sa 164 ?_
         refine sa 165 ?_
         refine sa 166 ?_
         refine sa 167 ?_
         refine sa 168 ?_
         refine sa 169 ?_
         refine sa 170 ?_
         refine sa 171 ?_
         refine sa 172 ?_
         refine sa 173 ?_
         refine sa 174 ?_
         refine sa 175 ?_
         refine sa 176 ?_
         refine sa 177 ?_
         refine sa 178 ?_
         refine sa 179 ?_
         refine sa 180 ?_
         refine sa 181 ?_
         refine sa 182 ?_
         refine sp 183 (.bool true) ?_
         refine ops_end ?_
         refine ae [(0, .int .i64 (wr ((1 : Int) + y1_1))), (1, .int .i64 y2_2), (2, .int .i64 v), (7, .slice v3_7a (List.length v3_7x) v3_7c), (19, .pointer (some ⟨b29_3, 0, none⟩)), (183, .bool true)] ?_
         refine at_then_normal ?_
         refine at_true (t := true) (x := C12 [1,1,1,1,1,1,1,1,1,1,0,1,0]) (y := C12 [1,1,1,1,1,1,1,1,1,1,0,1,1]) (o := .tmp 183) (by kernel_rfl) (by kernel_rfl) (by kernel_rfl) rfl ?_
         refine aq (x := C12 [1,1,1,1,1,1,1,1,1,1,0,1,0,0]) (y := C12 [1,1,1,1,1,1,1,1,1,1,0,1,0,1]) ?_
         refine ar (id := 31) 1 ?_
         refine sp 6 (.bool false) ?_
         refine ops_end ?_
         refine ae [(6, .bool false)] ?_
         refine at_then_normal ?_
         refine at_ret (by kernel_rfl) ?_
         refine at_then_ret ?_
         obtain rfl := someE H
         refine at_backR [.bool false] (Γ) (rs := [.tmp 6]) (by kernel_rfl) (.cons (.tmp (by kernel_rfl)) .nil) (fun w hw => (Sat.less (.drop .here (.drop .here (.drop .here (.drop .here (.drop .here .refl))))) hw)) ?_
         exact ⟨rfl, rfl⟩
        ·replace H := bifF H h19
         refine sr 144 (.bool false) (run_eq (v := .bool (!(decide (y30_7 = (0 : Int))))) (fun _ => by kernel_rfl) (congrArg Value.bool h19)) ?_
         refine sp 145 (.pointer (some ⟨b29_3, 0, none⟩)) ?_
         refine sl 146 (.int .i64 y29_2.kind) (load1 (off := 0) (fun _ => by kernel_rfl) (holds_own (.there .here)) (by kernel_rfl)) ?_
         refine sp 147 (.bool (!(decide (y29_2.kind = (2 : Int))))) ?_
         refine sp 148 (.bool (!(decide (y29_2.kind = (2 : Int))))) ?_
         rcases Bool.eq_false_or_eq_true (!(decide (y29_2.kind = (2 : Int)))) with h20 | h20
         ·replace H := bifT H h20
          refine sr 149 (.bool true) (run_eq (v := .bool (!(decide (y29_2.kind = (2 : Int))))) (fun _ => by kernel_rfl) (congrArg Value.bool h20)) ?_
          refine sa 150 ?_
          refine sa 151 ?_
          refine sa 152 ?_
          refine sa 153 ?_
          refine sa 154 ?_
          refine sp 155 (.bool true) ?_
          refine sp 156 (.bool true) ?_
          refine sa 157 ?_
          refine sa 158 ?_
          refine sa 159 ?_
          refine sa 160 ?_
          refine sa 161 ?_
          refine sa 162 ?_
          refine sa 163 ?_
          refine sa 164 ?_
          refine sa 165 ?_
          refine sa 166 ?_
          refine sa 167 ?_
          refine sa 168 ?_
          refine sa 169 ?_
          refine sa 170 ?_
          refine sa 171 ?_
          refine sa 172 ?_
          refine sa 173 ?_
          refine sa 174 ?_
          refine sa 175 ?_
          refine sa 176 ?_
          refine sa 177 ?_
          refine sa 178 ?_
          refine sa 179 ?_
          refine sa 180 ?_
          refine sa 181 ?_
          refine sa 182 ?_
          refine sp 183 (.bool true) ?_
          refine ops_end ?_
          refine ae [(0, .int .i64 (wr ((1 : Int) + y1_1))), (1, .int .i64 y2_2), (2, .int .i64 v), (7, .slice v3_7a (List.length v3_7x) v3_7c), (19, .pointer (some ⟨b29_3, 0, none⟩)), (183, .bool true)] ?_
          refine at_then_normal ?_
          refine at_true (t := true) (x := C12 [1,1,1,1,1,1,1,1,1,1,0,1,0]) (y := C12 [1,1,1,1,1,1,1,1,1,1,0,1,1]) (o := .tmp 183) (by kernel_rfl) (by kernel_rfl) (by kernel_rfl) rfl ?_
          refine aq (x := C12 [1,1,1,1,1,1,1,1,1,1,0,1,0,0]) (y := C12 [1,1,1,1,1,1,1,1,1,1,0,1,0,1]) ?_
          refine ar (id := 31) 1 ?_
          refine sp 6 (.bool false) ?_
          refine ops_end ?_
          refine ae [(6, .bool false)] ?_
          refine at_then_normal ?_
          refine at_ret (by kernel_rfl) ?_
          refine at_then_ret ?_
          obtain rfl := someE H
          refine at_backR [.bool false] (Γ) (rs := [.tmp 6]) (by kernel_rfl) (.cons (.tmp (by kernel_rfl)) .nil) (fun w hw => (Sat.less (.drop .here (.drop .here (.drop .here (.drop .here (.drop .here .refl))))) hw)) ?_
          exact ⟨rfl, rfl⟩
         ·replace H := bifF H h20
          refine sr 149 (.bool false) (run_eq (v := .bool (!(decide (y29_2.kind = (2 : Int))))) (fun _ => by kernel_rfl) (congrArg Value.bool h20)) ?_
          refine sp 150 (.pointer (some ⟨b29_3, 7, none⟩)) ?_
          refine sl 151 (.bool y29_2.flag) (load1 (off := 7) (fun _ => by kernel_rfl) (holds_own (.there .here)) (by kernel_rfl)) ?_
          refine sp 152 (.int .i64 (wr ((1 : Int) + y1_1))) ?_
          refine sp 153 (.bool (decide ((wr ((1 : Int) + y1_1)) = (1 : Int)))) ?_
          refine sp 154 (.bool (!(y29_2.flag == (decide ((wr ((1 : Int) + y1_1)) = (1 : Int)))))) ?_
          refine sp 155 (.bool (!(y29_2.flag == (decide ((wr ((1 : Int) + y1_1)) = (1 : Int)))))) ?_
          rcases Bool.eq_false_or_eq_true (!(y29_2.flag == (decide ((wr ((1 : Int) + y1_1)) = (1 : Int))))) with h21 | h21
          ·replace H := bifT H h21
           refine sr 156 (.bool true) (run_eq (v := .bool (!(y29_2.flag == (decide ((wr ((1 : Int) + y1_1)) = (1 : Int)))))) (fun _ => by kernel_rfl) (congrArg Value.bool h21)) ?_
           refine sa 157 ?_
           refine sa 158 ?_
           refine sa 159 ?_
           refine sa 160 ?_
           refine sa 161 ?_
           refine sa 162 ?_
           refine sa 163 ?_
           refine sa 164 ?_
           refine sa 165 ?_
           refine sa 166 ?_
           refine sa 167 ?_
           refine sa 168 ?_
           refine sa 169 ?_
           refine sa 170 ?_
           refine sa 171 ?_
           refine sa 172 ?_
           refine sa 173 ?_
           refine sa 174 ?_
           refine sa 175 ?_
           refine sa 176 ?_
           refine sa 177 ?_
           refine sa 178 ?_
           refine sa 179 ?_
           refine sa 180 ?_
           refine sa 181 ?_
           refine sa 182 ?_
           refine sp 183 (.bool true) ?_
           refine ops_end ?_
           refine ae [(0, .int .i64 (wr ((1 : Int) + y1_1))), (1, .int .i64 y2_2), (2, .int .i64 v), (7, .slice v3_7a (List.length v3_7x) v3_7c), (19, .pointer (some ⟨b29_3, 0, none⟩)), (183, .bool true)] ?_
           refine at_then_normal ?_
           refine at_true (t := true) (x := C12 [1,1,1,1,1,1,1,1,1,1,0,1,0]) (y := C12 [1,1,1,1,1,1,1,1,1,1,0,1,1]) (o := .tmp 183) (by kernel_rfl) (by kernel_rfl) (by kernel_rfl) rfl ?_
           refine aq (x := C12 [1,1,1,1,1,1,1,1,1,1,0,1,0,0]) (y := C12 [1,1,1,1,1,1,1,1,1,1,0,1,0,1]) ?_
           refine ar (id := 31) 1 ?_
           refine sp 6 (.bool false) ?_
           refine ops_end ?_
           refine ae [(6, .bool false)] ?_
           refine at_then_normal ?_
           refine at_ret (by kernel_rfl) ?_
           refine at_then_ret ?_
           obtain rfl := someE H
           refine at_backR [.bool false] (Γ) (rs := [.tmp 6]) (by kernel_rfl) (.cons (.tmp (by kernel_rfl)) .nil) (fun w hw => (Sat.less (.drop .here (.drop .here (.drop .here (.drop .here (.drop .here .refl))))) hw)) ?_
           exact ⟨rfl, rfl⟩
          ·replace H := bifF H h21
           refine sr 156 (.bool false) (run_eq (v := .bool (!(y29_2.flag == (decide ((wr ((1 : Int) + y1_1)) = (1 : Int)))))) (fun _ => by kernel_rfl) (congrArg Value.bool h21)) ?_
           refine sp 157 (.int .i64 (wr ((1 : Int) + y1_1))) ?_
           refine sp 158 (.bool (decide ((wr ((1 : Int) + y1_1)) = (1 : Int)))) ?_
           rcases Bool.eq_false_or_eq_true (decide ((wr ((1 : Int) + y1_1)) = (1 : Int))) with h22 | h22
           ·replace H := bifT H h22
            refine sr 159 (.bool true) (run_eq (v := .bool (decide ((wr ((1 : Int) + y1_1)) = (1 : Int)))) (fun _ => by kernel_rfl) (congrArg Value.bool h22)) ?_
            refine sp 160 (.pointer (some ⟨b29_3, 8, none⟩)) ?_
            refine sl 161 (.slice a29_2_00 (List.length y29_2.data) c29_2_00) (load1 (off := 8) (fun _ => by kernel_rfl) (holds_own (.there .here)) (by kernel_rfl)) ?_
            refine sp 162 (.int .i64 (((List.length y29_2.data) : Nat) : Int)) ?_
            refine sp 163 (.bool (!(decide ((((List.length y29_2.data) : Nat) : Int) = (1 : Int))))) ?_
            rcases Bool.eq_false_or_eq_true (!(decide ((((List.length y29_2.data) : Nat) : Int) = (1 : Int)))) with h23 | h23
            ·replace H := bifT H h23
             refine sr 164 (.bool true) (run_eq (v := .bool (!(decide ((((List.length y29_2.data) : Nat) : Int) = (1 : Int))))) (fun _ => by kernel_rfl) (congrArg Value.bool h23)) ?_
             refine sa 165 ?_
             refine sa 166 ?_
             refine sa 167 ?_
             refine sa 168 ?_
             refine sa 169 ?_
             refine sa 170 ?_
             refine sp 171 (.bool true) ?_
             refine sp 172 (.bool true) ?_
             refine sa 173 ?_
             refine sa 174 ?_
             refine sa 175 ?_
             refine sp 176 (.bool true) ?_
             refine sp 177 (.bool true) ?_
             refine sa 178 ?_
             refine sa 179 ?_
             refine sa 180 ?_
             refine sp 181 (.bool true) ?_
             refine sp 182 (.bool true) ?_
             refine sp 183 (.bool true) ?_
             refine ops_end ?_
             refine ae [(0, .int .i64 (wr ((1 : Int) + y1_1))), (1, .int .i64 y2_2), (2, .int .i64 v), (7, .slice v3_7a (List.length v3_7x) v3_7c), (19, .pointer (some ⟨b29_3, 0, none⟩)), (183, .bool true)] ?_
             refine at_then_normal ?_
             refine at_true (t := true) (x := C12 [1,1,1,1,1,1,1,1,1,1,0,1,0]) (y := C12 [1,1,1,1,1,1,1,1,1,1,0,1,1]) (o := .tmp 183) (by kernel_rfl) (by kernel_rfl) (by kernel_rfl) rfl ?_
             refine aq (x := C12 [1,1,1,1,1,1,1,1,1,1,0,1,0,0]) (y := C12 [1,1,1,1,1,1,1,1,1,1,0,1,0,1]) ?_
             refine ar (id := 31) 1 ?_
             refine sp 6 (.bool false) ?_
             refine ops_end ?_
             refine ae [(6, .bool false)] ?_
             refine at_then_normal ?_
             refine at_ret (by kernel_rfl) ?_
             refine at_then_ret ?_
             obtain rfl := someE H
             refine at_backR [.bool false] (Γ) (rs := [.tmp 6]) (by kernel_rfl) (.cons (.tmp (by kernel_rfl)) .nil) (fun w hw => (Sat.less (.drop .here (.drop .here (.drop .here (.drop .here (.drop .here .refl))))) hw)) ?_
             exact ⟨rfl, rfl⟩
            ·replace H := bifF H h23
             refine sr 164 (.bool false) (run_eq (v := .bool (!(decide ((((List.length y29_2.data) : Nat) : Int) = (1 : Int))))) (fun _ => by kernel_rfl) (congrArg Value.bool h23)) ?_
             refine sp 165 (.pointer (some ⟨b29_3, 8, none⟩)) ?_
             refine sl 166 (.slice a29_2_00 (List.length y29_2.data) c29_2_00) (load1 (off := 8) (fun _ => by kernel_rfl) (holds_own (.there .here)) (by kernel_rfl)) ?_
             obtain ⟨hc30_33_0, H⟩ := chkE H
             refine rows_at (.there (.there .here)) (by have := hc30_33_0; simp only [ints_length]; omega) ?_
             intro bb5 oo5 ha5
             refine sr 167 (.pointer (some ⟨bb5, oo5 + (((0 : Int)).toNat * 1 + 0), none⟩)) (index_at (t := 30) (sz := 1) (E := 3) (a := a29_2_00) (m := (List.length y29_2.data)) (c := c29_2_00) (b := bb5) (off := oo5) (i := ((0 : Int)).toNat) (tinfo 3) (fun _ => by kernel_rfl) (by kernel_rfl) (by kernel_rfl) (by kernel_rfl) ha5 (idx_cast hc30_33_0) (idx_nat hc30_33_0) rfl) ?_
             refine sl 168 (.int .i64 (nth y29_2.data (0 : Int))) (load1_at (off := oo5 + (((0 : Int)).toNat * 1 + 0)) (v := .int .i64 (nth y29_2.data (0 : Int))) (fun _ => by kernel_rfl) rfl (reads_cell (k := 1) (RowsA.reads (k := 1) (.there (.there .here))) (ints_rows _) ha5 (nth_row hc30_33_0) (show [(.int .i64 (nth y29_2.data (0 : Int)) : Value)][0]? = some _ from rfl))) ?_
             refine sp 169 (.int .i64 v) ?_
             refine sp 170 (.bool (!(decide ((nth y29_2.data (0 : Int)) = v)))) ?_
             refine sp 171 (.bool (!(decide ((nth y29_2.data (0 : Int)) = v)))) ?_
             rcases Bool.eq_false_or_eq_true (!(decide ((nth y29_2.data (0 : Int)) = v))) with h24 | h24
             ·replace H := bifT H h24
              refine sr 172 (.bool true) (run_eq (v := .bool (!(decide ((nth y29_2.data (0 : Int)) = v)))) (fun _ => by kernel_rfl) (congrArg Value.bool h24)) ?_
              refine sa 173 ?_
              refine sa 174 ?_
              refine sa 175 ?_
              refine sp 176 (.bool true) ?_
              refine sp 177 (.bool true) ?_
              refine sa 178 ?_
              refine sa 179 ?_
              refine sa 180 ?_
              refine sp 181 (.bool true) ?_
              refine sp 182 (.bool true) ?_
              refine sp 183 (.bool true) ?_
              refine ops_end ?_
              refine ae [(0, .int .i64 (wr ((1 : Int) + y1_1))), (1, .int .i64 y2_2), (2, .int .i64 v), (7, .slice v3_7a (List.length v3_7x) v3_7c), (19, .pointer (some ⟨b29_3, 0, none⟩)), (183, .bool true)] ?_
              refine at_then_normal ?_
              refine at_true (t := true) (x := C12 [1,1,1,1,1,1,1,1,1,1,0,1,0]) (y := C12 [1,1,1,1,1,1,1,1,1,1,0,1,1]) (o := .tmp 183) (by kernel_rfl) (by kernel_rfl) (by kernel_rfl) rfl ?_
              refine aq (x := C12 [1,1,1,1,1,1,1,1,1,1,0,1,0,0]) (y := C12 [1,1,1,1,1,1,1,1,1,1,0,1,0,1]) ?_
              refine ar (id := 31) 1 ?_
              refine sp 6 (.bool false) ?_
              refine ops_end ?_
              refine ae [(6, .bool false)] ?_
              refine at_then_normal ?_
              refine at_ret (by kernel_rfl) ?_
              refine at_then_ret ?_
              obtain rfl := someE H
              refine at_backR [.bool false] (Γ) (rs := [.tmp 6]) (by kernel_rfl) (.cons (.tmp (by kernel_rfl)) .nil) (fun w hw => (Sat.less (.drop .here (.drop .here (.drop .here (.drop .here (.drop .here .refl))))) hw)) ?_
              exact ⟨rfl, rfl⟩
             ·replace H := bifF H h24
              refine sr 172 (.bool false) (run_eq (v := .bool (!(decide ((nth y29_2.data (0 : Int)) = v)))) (fun _ => by kernel_rfl) (congrArg Value.bool h24)) ?_
              refine sp 173 (.pointer (some ⟨b29_3, 6, none⟩)) ?_
              refine sl 174 (.int .i64 y29_2.state) (load1 (off := 6) (fun _ => by kernel_rfl) (holds_own (.there .here)) (by kernel_rfl)) ?_
              refine sp 175 (.bool (!(decide (y29_2.state = (0 : Int))))) ?_
              refine sp 176 (.bool (!(decide (y29_2.state = (0 : Int))))) ?_
              rcases Bool.eq_false_or_eq_true (!(decide (y29_2.state = (0 : Int)))) with h25 | h25
              ·replace H := bifT H h25
               refine sr 177 (.bool true) (run_eq (v := .bool (!(decide (y29_2.state = (0 : Int))))) (fun _ => by kernel_rfl) (congrArg Value.bool h25)) ?_
               refine sa 178 ?_
               refine sa 179 ?_
               refine sa 180 ?_
               refine sp 181 (.bool true) ?_
               refine sp 182 (.bool true) ?_
               refine sp 183 (.bool true) ?_
               refine ops_end ?_
               refine ae [(0, .int .i64 (wr ((1 : Int) + y1_1))), (1, .int .i64 y2_2), (2, .int .i64 v), (7, .slice v3_7a (List.length v3_7x) v3_7c), (19, .pointer (some ⟨b29_3, 0, none⟩)), (183, .bool true)] ?_
               refine at_then_normal ?_
               refine at_true (t := true) (x := C12 [1,1,1,1,1,1,1,1,1,1,0,1,0]) (y := C12 [1,1,1,1,1,1,1,1,1,1,0,1,1]) (o := .tmp 183) (by kernel_rfl) (by kernel_rfl) (by kernel_rfl) rfl ?_
               refine aq (x := C12 [1,1,1,1,1,1,1,1,1,1,0,1,0,0]) (y := C12 [1,1,1,1,1,1,1,1,1,1,0,1,0,1]) ?_
               refine ar (id := 31) 1 ?_
               refine sp 6 (.bool false) ?_
               refine ops_end ?_
               refine ae [(6, .bool false)] ?_
               refine at_then_normal ?_
               refine at_ret (by kernel_rfl) ?_
               refine at_then_ret ?_
               obtain rfl := someE H
               refine at_backR [.bool false] (Γ) (rs := [.tmp 6]) (by kernel_rfl) (.cons (.tmp (by kernel_rfl)) .nil) (fun w hw => (Sat.less (.drop .here (.drop .here (.drop .here (.drop .here (.drop .here .refl))))) hw)) ?_
               exact ⟨rfl, rfl⟩
              ·replace H := bifF H h25
               refine sr 177 (.bool false) (run_eq (v := .bool (!(decide (y29_2.state = (0 : Int))))) (fun _ => by kernel_rfl) (congrArg Value.bool h25)) ?_
               refine sp 178 (.pointer (some ⟨b29_3, 5, none⟩)) ?_
               refine sl 179 (.int .i64 y29_2.ptr) (load1 (off := 5) (fun _ => by kernel_rfl) (holds_own (.there .here)) (by kernel_rfl)) ?_
               refine sp 180 (.bool (!(decide (y29_2.ptr = ((-1) : Int))))) ?_
               refine sp 181 (.bool (!(decide (y29_2.ptr = ((-1) : Int))))) ?_
               refine sp 182 (.bool (!(decide (y29_2.ptr = ((-1) : Int))))) ?_
               refine sp 183 (.bool (!(decide (y29_2.ptr = ((-1) : Int))))) ?_
               refine ops_end ?_
               refine ae [(0, .int .i64 (wr ((1 : Int) + y1_1))), (1, .int .i64 y2_2), (2, .int .i64 v), (7, .slice v3_7a (List.length v3_7x) v3_7c), (19, .pointer (some ⟨b29_3, 0, none⟩)), (183, .bool (!(decide (y29_2.ptr = ((-1) : Int)))))] ?_
               refine at_then_normal ?_
               rcases Bool.eq_false_or_eq_true (!(decide (y29_2.ptr = ((-1) : Int)))) with h26 | h26
               ·replace H := bifT H h26
                refine at_true (t := !(decide (y29_2.ptr = ((-1) : Int)))) (x := C12 [1,1,1,1,1,1,1,1,1,1,0,1,0]) (y := C12 [1,1,1,1,1,1,1,1,1,1,0,1,1]) (o := .tmp 183) (by kernel_rfl) (by kernel_rfl) (by kernel_rfl) h26 ?_
                refine aq (x := C12 [1,1,1,1,1,1,1,1,1,1,0,1,0,0]) (y := C12 [1,1,1,1,1,1,1,1,1,1,0,1,0,1]) ?_
                refine ar (id := 31) 1 ?_
                refine sp 6 (.bool false) ?_
                refine ops_end ?_
                refine ae [(6, .bool false)] ?_
                refine at_then_normal ?_
                refine at_ret (by kernel_rfl) ?_
                refine at_then_ret ?_
                obtain rfl := someE H
                refine at_backR [.bool false] (Γ) (rs := [.tmp 6]) (by kernel_rfl) (.cons (.tmp (by kernel_rfl)) .nil) (fun w hw => (Sat.less (.drop .here (.drop .here (.drop .here (.drop .here (.drop .here .refl))))) hw)) ?_
                exact ⟨rfl, rfl⟩
               ·replace H := bifF H h26
                refine at_false (t := !(decide (y29_2.ptr = ((-1) : Int)))) (x := C12 [1,1,1,1,1,1,1,1,1,1,0,1,0]) (y := C12 [1,1,1,1,1,1,1,1,1,1,0,1,1]) (o := .tmp 183) (by kernel_rfl) (by kernel_rfl) (by kernel_rfl) h26 ?_
                refine at_skip (by kernel_rfl) ?_
                refine at_round_normal ?_
                exact at_join_mk [(0, .int .i64 (wr ((1 : Int) + y1_1))), (1, .int .i64 y2_2), (2, .int .i64 v), (7, .slice v3_7a (List.length v3_7x) v3_7c), (19, .pointer (some ⟨b29_3, 0, none⟩))] ((Asn.own b29_3 (.cells #[.int .i64 y29_2.kind, .int .i64 y29_2.src, .int .i64 y29_2.dst, .int .i64 y29_2.id, .int .i64 y29_2.line, .int .i64 y29_2.ptr, .int .i64 y29_2.state, .bool y29_2.flag, .slice a29_2_00 (List.length y29_2.data) c29_2_00] 40 (0, 0))) :: (IntsA a29_2_00 c29_2_00 y29_2.data) :: (PtrsX v3_7r v3_7a v3_7c v3_7x) :: Γ) ⟨by kernel_rfl, by kernel_rfl, by kernel_rfl, by kernel_rfl, by kernel_rfl, trivial⟩ (fun w hw => (Sat.less (.take (.there .here) (.take (.there .here) (.take .here (.drop .here (.drop .here .refl))))) hw)) ⟨H, rfl, rfl⟩
           ·replace H := bifF H h22
            refine sr 159 (.bool false) (run_eq (v := .bool (decide ((wr ((1 : Int) + y1_1)) = (1 : Int)))) (fun _ => by kernel_rfl) (congrArg Value.bool h22)) ?_
            refine sa 160 ?_
            refine sa 161 ?_
            refine sa 162 ?_
            refine sa 163 ?_
            refine sa 164 ?_
            refine sa 165 ?_
            refine sa 166 ?_
            refine sa 167 ?_
            refine sa 168 ?_
            refine sa 169 ?_
            refine sa 170 ?_
            refine sa 171 ?_
            refine sa 172 ?_
            refine sa 173 ?_
            refine sa 174 ?_
            refine sa 175 ?_
            refine sa 176 ?_
            refine sa 177 ?_
            refine sa 178 ?_
            refine sa 179 ?_
            refine sa 180 ?_
            refine sa 181 ?_
            refine sp 182 (.bool false) ?_
            refine sp 183 (.bool false) ?_
            refine ops_end ?_
            refine ae [(0, .int .i64 (wr ((1 : Int) + y1_1))), (1, .int .i64 y2_2), (2, .int .i64 v), (7, .slice v3_7a (List.length v3_7x) v3_7c), (19, .pointer (some ⟨b29_3, 0, none⟩)), (183, .bool false)] ?_
            refine at_then_normal ?_
            refine at_false (t := false) (x := C12 [1,1,1,1,1,1,1,1,1,1,0,1,0]) (y := C12 [1,1,1,1,1,1,1,1,1,1,0,1,1]) (o := .tmp 183) (by kernel_rfl) (by kernel_rfl) (by kernel_rfl) rfl ?_
            refine at_skip (by kernel_rfl) ?_
            refine at_round_normal ?_
            exact at_join_mk [(0, .int .i64 (wr ((1 : Int) + y1_1))), (1, .int .i64 y2_2), (2, .int .i64 v), (7, .slice v3_7a (List.length v3_7x) v3_7c), (19, .pointer (some ⟨b29_3, 0, none⟩))] ((Asn.own b29_3 (.cells #[.int .i64 y29_2.kind, .int .i64 y29_2.src, .int .i64 y29_2.dst, .int .i64 y29_2.id, .int .i64 y29_2.line, .int .i64 y29_2.ptr, .int .i64 y29_2.state, .bool y29_2.flag, .slice a29_2_00 (List.length y29_2.data) c29_2_00] 40 (0, 0))) :: (IntsA a29_2_00 c29_2_00 y29_2.data) :: (PtrsX v3_7r v3_7a v3_7c v3_7x) :: Γ) ⟨by kernel_rfl, by kernel_rfl, by kernel_rfl, by kernel_rfl, by kernel_rfl, trivial⟩ (fun w hw => (Sat.less (.take (.there .here) (.take (.there .here) (.take .here (.drop .here (.drop .here .refl))))) hw)) ⟨H, rfl, rfl⟩
    ·refine ar (id := 20) 6 ?_
     refine sp 78 (.bool v3_14) ?_
     rcases Bool.eq_false_or_eq_true (v3_14) with h27 | h27
     ·replace H := bifT H h27
      refine sr 79 (.bool true) (run_eq (v := .bool (v3_14)) (fun _ => by kernel_rfl) (congrArg Value.bool h27)) ?_
      refine sp 80 (.pointer (some ⟨b18_16, 3, none⟩)) ?_
      refine sl 81 (.int .i64 v3_b18_16_3) (load1 (off := 3) (fun _ => by kernel_rfl) (holds_own (.there (.there .here))) (by kernel_rfl)) ?_
      refine sp 82 (.bool (!(decide (v3_b18_16_3 = (6 : Int))))) ?_
      refine sp 83 (.bool (!(decide (v3_b18_16_3 = (6 : Int))))) ?_
      refine ops_end ?_
      refine ae [(0, .int .i64 (wr ((1 : Int) + y1_1))), (1, .int .i64 y2_2), (2, .int .i64 v), (7, .slice v3_7a (List.length v3_7x) v3_7c), (13, .pointer (some ⟨b18_16, 0, none⟩)), (14, .bool v3_14), (15, .int .i64 v3_15), (83, .bool (!(decide (v3_b18_16_3 = (6 : Int)))))] ?_
      refine at_round_normal ?_
      exact at_join_mk [(0, .int .i64 (wr ((1 : Int) + y1_1))), (1, .int .i64 y2_2), (2, .int .i64 v), (7, .slice v3_7a (List.length v3_7x) v3_7c), (13, .pointer (some ⟨b18_16, 0, none⟩)), (14, .bool v3_14), (15, .int .i64 v3_15), (83, .bool (!(decide (v3_b18_16_3 = (6 : Int)))))] ((PtrsX v3_7r v3_7a v3_7c v3_7x) :: (ImmI v3_b18_16_6a v3_b18_16_6x) :: (Asn.own b18_16 (.cells #[.int .i64 v3_b18_16_0, .int .i64 v3_b18_16_1, .int .i64 v3_b18_16_2, .int .i64 v3_b18_16_3, .int .i64 v3_b18_16_4, .int .i64 v3_b18_16_5, .slice v3_b18_16_6a (List.length v3_b18_16_6x) v3_b18_16_6c, .int .i64 v3_b18_16_7, .int .i64 v3_b18_16_8] 35 (0, 0))) :: Γ) ⟨by kernel_rfl, by kernel_rfl, by kernel_rfl, by kernel_rfl, by kernel_rfl, by kernel_rfl, by kernel_rfl, by kernel_rfl, trivial⟩ (fun w hw => (Sat.less (.take .here (.take .here (.take .here .refl))) hw)) ⟨!(decide (v3_b18_16_3 = (6 : Int))), H, rfl, rfl⟩
     ·replace H := bifF H h27
      refine sr 79 (.bool false) (run_eq (v := .bool (v3_14)) (fun _ => by kernel_rfl) (congrArg Value.bool h27)) ?_
      refine sa 80 ?_
      refine sa 81 ?_
      refine sa 82 ?_
      refine sp 83 (.bool false) ?_
      refine ops_end ?_
      refine ae [(0, .int .i64 (wr ((1 : Int) + y1_1))), (1, .int .i64 y2_2), (2, .int .i64 v), (7, .slice v3_7a (List.length v3_7x) v3_7c), (13, .pointer (some ⟨b18_16, 0, none⟩)), (14, .bool v3_14), (15, .int .i64 v3_15), (83, .bool false)] ?_
      refine at_round_normal ?_
      exact at_join_mk [(0, .int .i64 (wr ((1 : Int) + y1_1))), (1, .int .i64 y2_2), (2, .int .i64 v), (7, .slice v3_7a (List.length v3_7x) v3_7c), (13, .pointer (some ⟨b18_16, 0, none⟩)), (14, .bool v3_14), (15, .int .i64 v3_15), (83, .bool false)] ((PtrsX v3_7r v3_7a v3_7c v3_7x) :: (ImmI v3_b18_16_6a v3_b18_16_6x) :: (Asn.own b18_16 (.cells #[.int .i64 v3_b18_16_0, .int .i64 v3_b18_16_1, .int .i64 v3_b18_16_2, .int .i64 v3_b18_16_3, .int .i64 v3_b18_16_4, .int .i64 v3_b18_16_5, .slice v3_b18_16_6a (List.length v3_b18_16_6x) v3_b18_16_6c, .int .i64 v3_b18_16_7, .int .i64 v3_b18_16_8] 35 (0, 0))) :: Γ) ⟨by kernel_rfl, by kernel_rfl, by kernel_rfl, by kernel_rfl, by kernel_rfl, by kernel_rfl, by kernel_rfl, by kernel_rfl, trivial⟩ (fun w hw => (Sat.less (.take .here (.take .here (.take .here .refl))) hw)) ⟨false, H, rfl, rfl⟩
   ·refine at_region_draw (id := 18) (by kernel_rfl) (by kernel_rfl) ?_
    refine dp 1 64 (.int .i64 y2_2) ?_
    refine dp 2 65 (.slice v0_7a (List.length v0_7x) v0_7c) ?_
    refine dp 3 66 (.int .i64 y2_2) ?_
    obtain ⟨hc18_4_0, H⟩ := chkE H
    refine ptr_at_draw .here (by have := hc18_4_0; omega) ?_
    intro bb6 oo6 ha6
    refine d_pure 4 67 (.pointer (some ⟨bb6, oo6 + (((y2_2).toNat) * 1 + 0), none⟩)) (by kernel_rfl) (by kernel_rfl) (by kernel_rfl) (index_at (t := 60) (sz := 1) (E := 22) (a := v0_7a) (m := (List.length v0_7x)) (c := v0_7c) (b := bb6) (off := oo6) (i := (y2_2).toNat) (tinfo 22) (fun _ => by kernel_rfl) (by kernel_rfl) (by kernel_rfl) (by kernel_rfl) ha6 (idx_cast hc18_4_0) (idx_nat hc18_4_0) rfl) ?_
    refine ptr_get_draw .here hc18_4_0 ?_
    intro pb18_5 hr18_5
    refine dl 5 68 (.pointer (some ⟨pb18_5, 0, none⟩)) (load1_at (off := oo6 + ((y2_2).toNat * 1 + 0)) (v := .pointer (some ⟨pb18_5, 0, none⟩)) (fun _ => by kernel_rfl) rfl (ptr_cell (i := y2_2) .here ha6 hr18_5)) ?_
    refine dp 6 69 (.int .i64 y2_2) ?_
    refine dp 7 70 (.int .i64 e1_12) ?_
    refine dp 8 71 (.int .i64 v) ?_
    refine dp 9 72 (.int .i64 (wr (v + (1 : Int)))) ?_
    refine draw_turns 0 [10, 16] (by kernel_rfl) (turns_cons ?_ (turns_cons ?_ (turns_cons ?_ turns_nil)))
    ·obtain ⟨y18_0, hy18_0, H⟩ := bindE H
     refine t_call 0 63 [] [9, 8, 7, 6, 4, 3, 2, 1] [5] 17 #[.int .i64 (3), .int .i64 (0), .int .i64 (0)] (by kernel_rfl) (by kernel_rfl) (by kernel_rfl) (fun _ => by kernel_rfl) (DBeginF_tr (3 : Int) (0 : Int) (0 : Int) y18_0 hy18_0) ?_
     rintro _ _ ⟨a18_0_00, c18_0_00, rfl, rfl⟩
     refine ⟨(stable_cons 5 68 (.pointer (some ⟨pb18_5, 0, none⟩)) (by kernel_rfl) (by kernel_rfl) (by kernel_rfl) (load1_at (off := oo6 + ((y2_2).toNat * 1 + 0)) (v := .pointer (some ⟨pb18_5, 0, none⟩)) (fun _ => by kernel_rfl) rfl (ptr_cell (i := y2_2) (.there .here) ha6 hr18_5)) stable_nil), ?_⟩
     refine draw_turns 10 [16] (by kernel_rfl) (turns_cons ?_ (turns_cons ?_ turns_nil))
     ·obtain ⟨l18_10, hl18_10, H⟩ := letE H
      refine t_step 10 73 [9, 8] [7, 6, 4, 3, 2, 1] [5] (by kernel_rfl) (by kernel_rfl) (by kernel_rfl) (st_new_ints (T := 3) (xs := l18_10) 1 hl18_10 (fun _ => by kernel_rfl) (by kernel_rfl)) ?_
      rintro _ _ ⟨b18_10, rfl, rfl⟩
      refine ⟨(stable_cons 5 68 (.pointer (some ⟨pb18_5, 0, none⟩)) (by kernel_rfl) (by kernel_rfl) (by kernel_rfl) (load1_at (off := oo6 + ((y2_2).toNat * 1 + 0)) (v := .pointer (some ⟨pb18_5, 0, none⟩)) (fun _ => by kernel_rfl) rfl (ptr_cell (i := y2_2) (.there (.there .here)) ha6 hr18_5)) stable_nil), ?_⟩
      refine dp 11 74 (.agg #[.int .i64 (7), .int .i64 (0), .int .i64 y2_2, .int .i64 (0), .int .i64 (0), .int .i64 (0), .int .i64 e1_12, .bool false, .slice (some ⟨b18_10, 0, none⟩) (List.length l18_10) 1]) ?_
      refine draw_turns 12 [16] (by kernel_rfl) (turns_cons ?_ (turns_cons ?_ turns_nil))
      ·obtain ⟨y18_12, hy18_12, H⟩ := bindE H
       refine t_call 12 75 [0, 1, 5, 11, 4, 6, 7, 10, 2, 3, 9, 8] [] [] 30 #[.agg #[.int .i64 y18_0.kind, .int .i64 y18_0.line, .int .i64 y18_0.id, .int .i64 y18_0.step, .int .i64 y18_0.state, .int .i64 y18_0.head, .slice a18_0_00 (List.length y18_0.data) c18_0_00, .int .i64 y18_0.next, .int .i64 y18_0.told], .int .i64 y2_2, .pointer (some ⟨pb18_5, 0, none⟩), .agg #[.int .i64 (7), .int .i64 (0), .int .i64 y2_2, .int .i64 (0), .int .i64 (0), .int .i64 (0), .int .i64 e1_12, .bool false, .slice (some ⟨b18_10, 0, none⟩) (List.length l18_10) 1]] (by kernel_rfl) (by kernel_rfl) (by kernel_rfl) (fun _ => by kernel_rfl) (Tr.conv (Γ' := (CacheA pb18_5 (nthC v0_7x y2_2)) :: (HoleX v0_7r v0_7a v0_7c v0_7x y2_2) :: (IntsA (some ⟨b18_10, 0, none⟩) 1 l18_10) :: (ImmI a18_0_00 y18_0.data) :: Γ) (fun w hw => PtrsX.take (i := y2_2) (.there (.there .here)) hr18_5 hw) (Tr.conv (Γ' := (ImmI a18_0_00 y18_0.data) :: (CacheA pb18_5 (nthC v0_7x y2_2)) :: (ImmI a18_0_00 y18_0.data) :: (HoleX v0_7r v0_7a v0_7c v0_7x y2_2) :: (IntsA (some ⟨b18_10, 0, none⟩) 1 l18_10) :: Γ) (fun w hw => (Sat.less (.take .here (.take (.there .here) (.take .here (.take .here (.take .here .refl))))) (ImmR.dup (Sat.less (.take (.there (.there (.there .here))) (.take .here (.take .here (.take .here .refl)))) hw)))) (RNextF_tr a18_0_00 c18_0_00 y18_0 y2_2 pb18_5 (nthC v0_7x y2_2) (some ⟨b18_10, 0, none⟩) 1 (⟨7, 0, y2_2, 0, 0, 0, e1_12, false, l18_10⟩ : PktS) (RowsA.reads (k := 1) (.there (.there .here))) y18_12 hy18_12))) ?_
       rintro _ _ ⟨a18_12_00, c18_12_00, rfl, rfl⟩
       refine ⟨stable_nil, ?_⟩
       obtain ⟨cs18_12, hcs18_12, H⟩ := letE H
       refine Draw.convS (Γ' := (PtrsX v0_7r v0_7a v0_7c cs18_12) :: (ImmI a18_12_00 y18_12.1.data) :: (ImmI a18_0_00 y18_0.data) :: (IntsA (some ⟨b18_10, 0, none⟩) 1 l18_10) :: Γ) (fun w hw => by rw [← hcs18_12]; exact PtrsX.put (i := y2_2) hr18_5 (Sat.less (.take (.there .here) (.take (.there (.there .here)) (.take .here (.take .here (.take .here .refl))))) hw)) stable_nil ?_
       have hncs18_12 : List.length v0_7x = List.length cs18_12 := by rw [← hcs18_12, setC_len]
       try rw [hncs18_12]
       refine dp 13 62 (.tuple #[.agg #[.int .i64 y18_12.1.kind, .int .i64 y18_12.1.line, .int .i64 y18_12.1.id, .int .i64 y18_12.1.step, .int .i64 y18_12.1.state, .int .i64 y18_12.1.head, .slice a18_12_00 (List.length y18_12.1.data) c18_12_00, .int .i64 y18_12.1.next, .int .i64 y18_12.1.told], .bool y18_12.2.1]) ?_
       refine dp 14 76 (.agg #[.int .i64 y18_12.1.kind, .int .i64 y18_12.1.line, .int .i64 y18_12.1.id, .int .i64 y18_12.1.step, .int .i64 y18_12.1.state, .int .i64 y18_12.1.head, .slice a18_12_00 (List.length y18_12.1.data) c18_12_00, .int .i64 y18_12.1.next, .int .i64 y18_12.1.told]) ?_
       refine dp 15 77 (.bool y18_12.2.1) ?_
       refine d_step 16 13 [] [15, 14, 13] [] (by kernel_rfl) (by kernel_rfl) (by kernel_rfl) (st_new (T := 35) (cells := #[.int .i64 (0), .int .i64 (0), .int .i64 (0), .int .i64 (0), .int .i64 (0), .int .i64 (0), .slice none 0 0, .int .i64 (0), .int .i64 (0)]) (fun a => .pointer (some a)) (fun _ => by kernel_rfl)) ?_
       rintro _ _ ⟨b18_16, rfl, rfl⟩
       refine ⟨stable_nil, ?_⟩
       refine d_do 17 [16, 14, 12, 0, 1, 2, 3, 4, 5, 6, 7, 8, 9, 10, 11, 13] [15] [] (by kernel_rfl) (by kernel_rfl) (by kernel_rfl) (st_store (off := 0) (vs := [.int .i64 y18_12.1.kind, .int .i64 y18_12.1.line, .int .i64 y18_12.1.id, .int .i64 y18_12.1.step, .int .i64 y18_12.1.state, .int .i64 y18_12.1.head, .slice a18_12_00 (List.length y18_12.1.data) c18_12_00, .int .i64 y18_12.1.next, .int .i64 y18_12.1.told]) (c' := #[.int .i64 y18_12.1.kind, .int .i64 y18_12.1.line, .int .i64 y18_12.1.id, .int .i64 y18_12.1.step, .int .i64 y18_12.1.state, .int .i64 y18_12.1.head, .slice a18_12_00 (List.length y18_12.1.data) c18_12_00, .int .i64 y18_12.1.next, .int .i64 y18_12.1.told]) (fun _ => by kernel_rfl) .here (by kernel_rfl) (by kernel_rfl) (by kernel_rfl)) ?_
       rintro _ _ ⟨rfl, rfl⟩
       refine ⟨stable_nil, ?_⟩
       refine dp 18 14 (.bool y18_12.2.1) ?_
       refine draw_end (by kernel_rfl) ?_
       refine ae [(0, .int .i64 (wr ((1 : Int) + y1_1))), (1, .int .i64 y2_2), (2, .int .i64 v), (7, .slice v0_7a (List.length cs18_12) v0_7c), (13, .pointer (some ⟨b18_16, 0, none⟩)), (14, .bool y18_12.2.1)] ?_
       refine at_round_normal ?_
       exact at_join_mk [(0, .int .i64 (wr ((1 : Int) + y1_1))), (1, .int .i64 y2_2), (2, .int .i64 v), (7, .slice v0_7a (List.length cs18_12) v0_7c), (13, .pointer (some ⟨b18_16, 0, none⟩)), (14, .bool y18_12.2.1)] ((PtrsX v0_7r v0_7a v0_7c cs18_12) :: (Asn.own b18_16 (.cells #[.int .i64 y18_12.1.kind, .int .i64 y18_12.1.line, .int .i64 y18_12.1.id, .int .i64 y18_12.1.step, .int .i64 y18_12.1.state, .int .i64 y18_12.1.head, .slice a18_12_00 (List.length y18_12.1.data) c18_12_00, .int .i64 y18_12.1.next, .int .i64 y18_12.1.told] 35 (0, 0))) :: (ImmI a18_12_00 y18_12.1.data) :: Γ) ⟨by kernel_rfl, by kernel_rfl, by kernel_rfl, by kernel_rfl, by kernel_rfl, by kernel_rfl, trivial⟩ (fun w hw => (Sat.less (.take (.there .here) (.take .here (.take .here (.drop .here (.drop .here .refl))))) hw)) ⟨cs18_12, v0_7a, v0_7c, v0_7r, b18_16, y18_12, a18_12_00, c18_12_00, H, rfl, rfl⟩
      ·refine t_step 16 13 [] [11, 7, 6, 4, 3, 2, 1] [5] (by kernel_rfl) (by kernel_rfl) (by kernel_rfl) (st_new (T := 35) (cells := #[.int .i64 (0), .int .i64 (0), .int .i64 (0), .int .i64 (0), .int .i64 (0), .int .i64 (0), .slice none 0 0, .int .i64 (0), .int .i64 (0)]) (fun a => .pointer (some a)) (fun _ => by kernel_rfl)) ?_
       rintro _ _ ⟨b18_16, rfl, rfl⟩
       refine ⟨(stable_cons 5 68 (.pointer (some ⟨pb18_5, 0, none⟩)) (by kernel_rfl) (by kernel_rfl) (by kernel_rfl) (load1_at (off := oo6 + ((y2_2).toNat * 1 + 0)) (v := .pointer (some ⟨pb18_5, 0, none⟩)) (fun _ => by kernel_rfl) rfl (ptr_cell (i := y2_2) (.there (.there (.there .here))) ha6 hr18_5)) stable_nil), ?_⟩
       refine Draw.convS (Γ' := (CacheA pb18_5 (nthC v0_7x y2_2)) :: (HoleX v0_7r v0_7a v0_7c v0_7x y2_2) :: (Asn.own b18_16 (.cells #[.int .i64 (0), .int .i64 (0), .int .i64 (0), .int .i64 (0), .int .i64 (0), .int .i64 (0), .slice none 0 0, .int .i64 (0), .int .i64 (0)] 35 (0, 0))) :: (IntsA (some ⟨b18_10, 0, none⟩) 1 l18_10) :: (ImmI a18_0_00 y18_0.data) :: Γ) (fun w hw => PtrsX.take (i := y2_2) (.there (.there (.there .here))) hr18_5 hw) (stable_cons 5 68 (.pointer (some ⟨pb18_5, 0, none⟩)) (by kernel_rfl) (by kernel_rfl) (by kernel_rfl) (load1_at (off := oo6 + ((y2_2).toNat * 1 + 0)) (v := .pointer (some ⟨pb18_5, 0, none⟩)) (fun _ => by kernel_rfl) rfl (hole_cell (i := y2_2) (.there .here) ha6 hr18_5)) stable_nil) ?_
       obtain ⟨y18_12, hy18_12, H⟩ := bindE H
       refine d_call 12 75 [0, 1, 5, 11, 4, 6, 7, 10, 2, 3, 9, 8] [] [] 30 #[.agg #[.int .i64 y18_0.kind, .int .i64 y18_0.line, .int .i64 y18_0.id, .int .i64 y18_0.step, .int .i64 y18_0.state, .int .i64 y18_0.head, .slice a18_0_00 (List.length y18_0.data) c18_0_00, .int .i64 y18_0.next, .int .i64 y18_0.told], .int .i64 y2_2, .pointer (some ⟨pb18_5, 0, none⟩), .agg #[.int .i64 (7), .int .i64 (0), .int .i64 y2_2, .int .i64 (0), .int .i64 (0), .int .i64 (0), .int .i64 e1_12, .bool false, .slice (some ⟨b18_10, 0, none⟩) (List.length l18_10) 1]] (by kernel_rfl) (by kernel_rfl) (by kernel_rfl) (fun _ => by kernel_rfl) (Tr.conv (Γ' := (ImmI a18_0_00 y18_0.data) :: (CacheA pb18_5 (nthC v0_7x y2_2)) :: (ImmI a18_0_00 y18_0.data) :: (HoleX v0_7r v0_7a v0_7c v0_7x y2_2) :: (Asn.own b18_16 (.cells #[.int .i64 (0), .int .i64 (0), .int .i64 (0), .int .i64 (0), .int .i64 (0), .int .i64 (0), .slice none 0 0, .int .i64 (0), .int .i64 (0)] 35 (0, 0))) :: (IntsA (some ⟨b18_10, 0, none⟩) 1 l18_10) :: Γ) (fun w hw => (Sat.less (.take .here (.take (.there .here) (.take .here (.take .here (.take .here (.take .here .refl)))))) (ImmR.dup (Sat.less (.take (.there (.there (.there (.there .here)))) (.take .here (.take .here (.take .here (.take .here .refl))))) hw)))) (RNextF_tr a18_0_00 c18_0_00 y18_0 y2_2 pb18_5 (nthC v0_7x y2_2) (some ⟨b18_10, 0, none⟩) 1 (⟨7, 0, y2_2, 0, 0, 0, e1_12, false, l18_10⟩ : PktS) (RowsA.reads (k := 1) (.there (.there (.there .here)))) y18_12 hy18_12)) ?_
       rintro _ _ ⟨a18_12_00, c18_12_00, rfl, rfl⟩
       refine ⟨stable_nil, ?_⟩
       obtain ⟨cs18_12, hcs18_12, H⟩ := letE H
       refine Draw.convS (Γ' := (PtrsX v0_7r v0_7a v0_7c cs18_12) :: (ImmI a18_12_00 y18_12.1.data) :: (ImmI a18_0_00 y18_0.data) :: (Asn.own b18_16 (.cells #[.int .i64 (0), .int .i64 (0), .int .i64 (0), .int .i64 (0), .int .i64 (0), .int .i64 (0), .slice none 0 0, .int .i64 (0), .int .i64 (0)] 35 (0, 0))) :: (IntsA (some ⟨b18_10, 0, none⟩) 1 l18_10) :: Γ) (fun w hw => by rw [← hcs18_12]; exact PtrsX.put (i := y2_2) hr18_5 (Sat.less (.take (.there .here) (.take (.there (.there .here)) (.take .here (.take .here (.take .here (.take .here .refl)))))) hw)) stable_nil ?_
       have hncs18_12 : List.length v0_7x = List.length cs18_12 := by rw [← hcs18_12, setC_len]
       try rw [hncs18_12]
       refine dp 13 62 (.tuple #[.agg #[.int .i64 y18_12.1.kind, .int .i64 y18_12.1.line, .int .i64 y18_12.1.id, .int .i64 y18_12.1.step, .int .i64 y18_12.1.state, .int .i64 y18_12.1.head, .slice a18_12_00 (List.length y18_12.1.data) c18_12_00, .int .i64 y18_12.1.next, .int .i64 y18_12.1.told], .bool y18_12.2.1]) ?_
       refine dp 14 76 (.agg #[.int .i64 y18_12.1.kind, .int .i64 y18_12.1.line, .int .i64 y18_12.1.id, .int .i64 y18_12.1.step, .int .i64 y18_12.1.state, .int .i64 y18_12.1.head, .slice a18_12_00 (List.length y18_12.1.data) c18_12_00, .int .i64 y18_12.1.next, .int .i64 y18_12.1.told]) ?_
       refine dp 15 77 (.bool y18_12.2.1) ?_
       refine d_do 17 [16, 14, 12, 0, 1, 2, 3, 4, 5, 6, 7, 8, 9, 10, 11, 13] [15] [] (by kernel_rfl) (by kernel_rfl) (by kernel_rfl) (st_store (off := 0) (vs := [.int .i64 y18_12.1.kind, .int .i64 y18_12.1.line, .int .i64 y18_12.1.id, .int .i64 y18_12.1.step, .int .i64 y18_12.1.state, .int .i64 y18_12.1.head, .slice a18_12_00 (List.length y18_12.1.data) c18_12_00, .int .i64 y18_12.1.next, .int .i64 y18_12.1.told]) (c' := #[.int .i64 y18_12.1.kind, .int .i64 y18_12.1.line, .int .i64 y18_12.1.id, .int .i64 y18_12.1.step, .int .i64 y18_12.1.state, .int .i64 y18_12.1.head, .slice a18_12_00 (List.length y18_12.1.data) c18_12_00, .int .i64 y18_12.1.next, .int .i64 y18_12.1.told]) (fun _ => by kernel_rfl) (.there (.there (.there .here))) (by kernel_rfl) (by kernel_rfl) (by kernel_rfl)) ?_
       rintro _ _ ⟨rfl, rfl⟩
       refine ⟨stable_nil, ?_⟩
       refine dp 18 14 (.bool y18_12.2.1) ?_
       refine draw_end (by kernel_rfl) ?_
       refine ae [(0, .int .i64 (wr ((1 : Int) + y1_1))), (1, .int .i64 y2_2), (2, .int .i64 v), (7, .slice v0_7a (List.length cs18_12) v0_7c), (13, .pointer (some ⟨b18_16, 0, none⟩)), (14, .bool y18_12.2.1)] ?_
       refine at_round_normal ?_
       exact at_join_mk [(0, .int .i64 (wr ((1 : Int) + y1_1))), (1, .int .i64 y2_2), (2, .int .i64 v), (7, .slice v0_7a (List.length cs18_12) v0_7c), (13, .pointer (some ⟨b18_16, 0, none⟩)), (14, .bool y18_12.2.1)] ((PtrsX v0_7r v0_7a v0_7c cs18_12) :: (Asn.own b18_16 (.cells #[.int .i64 y18_12.1.kind, .int .i64 y18_12.1.line, .int .i64 y18_12.1.id, .int .i64 y18_12.1.step, .int .i64 y18_12.1.state, .int .i64 y18_12.1.head, .slice a18_12_00 (List.length y18_12.1.data) c18_12_00, .int .i64 y18_12.1.next, .int .i64 y18_12.1.told] 35 (0, 0))) :: (ImmI a18_12_00 y18_12.1.data) :: Γ) ⟨by kernel_rfl, by kernel_rfl, by kernel_rfl, by kernel_rfl, by kernel_rfl, by kernel_rfl, trivial⟩ (fun w hw => (Sat.less (.take (.there .here) (.take .here (.take .here (.drop .here (.drop .here .refl))))) hw)) ⟨cs18_12, v0_7a, v0_7c, v0_7r, b18_16, y18_12, a18_12_00, c18_12_00, H, rfl, rfl⟩
     ·refine t_step 16 13 [] [9, 8, 7, 6, 4, 3, 2, 1] [5] (by kernel_rfl) (by kernel_rfl) (by kernel_rfl) (st_new (T := 35) (cells := #[.int .i64 (0), .int .i64 (0), .int .i64 (0), .int .i64 (0), .int .i64 (0), .int .i64 (0), .slice none 0 0, .int .i64 (0), .int .i64 (0)]) (fun a => .pointer (some a)) (fun _ => by kernel_rfl)) ?_
      rintro _ _ ⟨b18_16, rfl, rfl⟩
      refine ⟨(stable_cons 5 68 (.pointer (some ⟨pb18_5, 0, none⟩)) (by kernel_rfl) (by kernel_rfl) (by kernel_rfl) (load1_at (off := oo6 + ((y2_2).toNat * 1 + 0)) (v := .pointer (some ⟨pb18_5, 0, none⟩)) (fun _ => by kernel_rfl) rfl (ptr_cell (i := y2_2) (.there (.there .here)) ha6 hr18_5)) stable_nil), ?_⟩
      obtain ⟨l18_10, hl18_10, H⟩ := letE H
      refine d_step 10 73 [9, 8] [7, 6, 4, 3, 2, 1] [5] (by kernel_rfl) (by kernel_rfl) (by kernel_rfl) (st_new_ints (T := 3) (xs := l18_10) 1 hl18_10 (fun _ => by kernel_rfl) (by kernel_rfl)) ?_
      rintro _ _ ⟨b18_10, rfl, rfl⟩
      refine ⟨(stable_cons 5 68 (.pointer (some ⟨pb18_5, 0, none⟩)) (by kernel_rfl) (by kernel_rfl) (by kernel_rfl) (load1_at (off := oo6 + ((y2_2).toNat * 1 + 0)) (v := .pointer (some ⟨pb18_5, 0, none⟩)) (fun _ => by kernel_rfl) rfl (ptr_cell (i := y2_2) (.there (.there (.there .here))) ha6 hr18_5)) stable_nil), ?_⟩
      refine dp 11 74 (.agg #[.int .i64 (7), .int .i64 (0), .int .i64 y2_2, .int .i64 (0), .int .i64 (0), .int .i64 (0), .int .i64 e1_12, .bool false, .slice (some ⟨b18_10, 0, none⟩) (List.length l18_10) 1]) ?_
      refine Draw.convS (Γ' := (CacheA pb18_5 (nthC v0_7x y2_2)) :: (HoleX v0_7r v0_7a v0_7c v0_7x y2_2) :: (IntsA (some ⟨b18_10, 0, none⟩) 1 l18_10) :: (Asn.own b18_16 (.cells #[.int .i64 (0), .int .i64 (0), .int .i64 (0), .int .i64 (0), .int .i64 (0), .int .i64 (0), .slice none 0 0, .int .i64 (0), .int .i64 (0)] 35 (0, 0))) :: (ImmI a18_0_00 y18_0.data) :: Γ) (fun w hw => PtrsX.take (i := y2_2) (.there (.there (.there .here))) hr18_5 hw) (stable_cons 5 68 (.pointer (some ⟨pb18_5, 0, none⟩)) (by kernel_rfl) (by kernel_rfl) (by kernel_rfl) (load1_at (off := oo6 + ((y2_2).toNat * 1 + 0)) (v := .pointer (some ⟨pb18_5, 0, none⟩)) (fun _ => by kernel_rfl) rfl (hole_cell (i := y2_2) (.there .here) ha6 hr18_5)) stable_nil) ?_
      obtain ⟨y18_12, hy18_12, H⟩ := bindE H
      refine d_call 12 75 [0, 1, 5, 11, 4, 6, 7, 10, 2, 3, 9, 8] [] [] 30 #[.agg #[.int .i64 y18_0.kind, .int .i64 y18_0.line, .int .i64 y18_0.id, .int .i64 y18_0.step, .int .i64 y18_0.state, .int .i64 y18_0.head, .slice a18_0_00 (List.length y18_0.data) c18_0_00, .int .i64 y18_0.next, .int .i64 y18_0.told], .int .i64 y2_2, .pointer (some ⟨pb18_5, 0, none⟩), .agg #[.int .i64 (7), .int .i64 (0), .int .i64 y2_2, .int .i64 (0), .int .i64 (0), .int .i64 (0), .int .i64 e1_12, .bool false, .slice (some ⟨b18_10, 0, none⟩) (List.length l18_10) 1]] (by kernel_rfl) (by kernel_rfl) (by kernel_rfl) (fun _ => by kernel_rfl) (Tr.conv (Γ' := (ImmI a18_0_00 y18_0.data) :: (CacheA pb18_5 (nthC v0_7x y2_2)) :: (ImmI a18_0_00 y18_0.data) :: (HoleX v0_7r v0_7a v0_7c v0_7x y2_2) :: (IntsA (some ⟨b18_10, 0, none⟩) 1 l18_10) :: (Asn.own b18_16 (.cells #[.int .i64 (0), .int .i64 (0), .int .i64 (0), .int .i64 (0), .int .i64 (0), .int .i64 (0), .slice none 0 0, .int .i64 (0), .int .i64 (0)] 35 (0, 0))) :: Γ) (fun w hw => (Sat.less (.take .here (.take (.there .here) (.take .here (.take .here (.take .here (.take .here .refl)))))) (ImmR.dup (Sat.less (.take (.there (.there (.there (.there .here)))) (.take .here (.take .here (.take .here (.take .here .refl))))) hw)))) (RNextF_tr a18_0_00 c18_0_00 y18_0 y2_2 pb18_5 (nthC v0_7x y2_2) (some ⟨b18_10, 0, none⟩) 1 (⟨7, 0, y2_2, 0, 0, 0, e1_12, false, l18_10⟩ : PktS) (RowsA.reads (k := 1) (.there (.there .here))) y18_12 hy18_12)) ?_
      rintro _ _ ⟨a18_12_00, c18_12_00, rfl, rfl⟩
      refine ⟨stable_nil, ?_⟩
      obtain ⟨cs18_12, hcs18_12, H⟩ := letE H
      refine Draw.convS (Γ' := (PtrsX v0_7r v0_7a v0_7c cs18_12) :: (ImmI a18_12_00 y18_12.1.data) :: (ImmI a18_0_00 y18_0.data) :: (IntsA (some ⟨b18_10, 0, none⟩) 1 l18_10) :: (Asn.own b18_16 (.cells #[.int .i64 (0), .int .i64 (0), .int .i64 (0), .int .i64 (0), .int .i64 (0), .int .i64 (0), .slice none 0 0, .int .i64 (0), .int .i64 (0)] 35 (0, 0))) :: Γ) (fun w hw => by rw [← hcs18_12]; exact PtrsX.put (i := y2_2) hr18_5 (Sat.less (.take (.there .here) (.take (.there (.there .here)) (.take .here (.take .here (.take .here (.take .here .refl)))))) hw)) stable_nil ?_
      have hncs18_12 : List.length v0_7x = List.length cs18_12 := by rw [← hcs18_12, setC_len]
      try rw [hncs18_12]
      refine dp 13 62 (.tuple #[.agg #[.int .i64 y18_12.1.kind, .int .i64 y18_12.1.line, .int .i64 y18_12.1.id, .int .i64 y18_12.1.step, .int .i64 y18_12.1.state, .int .i64 y18_12.1.head, .slice a18_12_00 (List.length y18_12.1.data) c18_12_00, .int .i64 y18_12.1.next, .int .i64 y18_12.1.told], .bool y18_12.2.1]) ?_
      refine dp 14 76 (.agg #[.int .i64 y18_12.1.kind, .int .i64 y18_12.1.line, .int .i64 y18_12.1.id, .int .i64 y18_12.1.step, .int .i64 y18_12.1.state, .int .i64 y18_12.1.head, .slice a18_12_00 (List.length y18_12.1.data) c18_12_00, .int .i64 y18_12.1.next, .int .i64 y18_12.1.told]) ?_
      refine dp 15 77 (.bool y18_12.2.1) ?_
      refine d_do 17 [16, 14, 12, 0, 1, 2, 3, 4, 5, 6, 7, 8, 9, 10, 11, 13] [15] [] (by kernel_rfl) (by kernel_rfl) (by kernel_rfl) (st_store (off := 0) (vs := [.int .i64 y18_12.1.kind, .int .i64 y18_12.1.line, .int .i64 y18_12.1.id, .int .i64 y18_12.1.step, .int .i64 y18_12.1.state, .int .i64 y18_12.1.head, .slice a18_12_00 (List.length y18_12.1.data) c18_12_00, .int .i64 y18_12.1.next, .int .i64 y18_12.1.told]) (c' := #[.int .i64 y18_12.1.kind, .int .i64 y18_12.1.line, .int .i64 y18_12.1.id, .int .i64 y18_12.1.step, .int .i64 y18_12.1.state, .int .i64 y18_12.1.head, .slice a18_12_00 (List.length y18_12.1.data) c18_12_00, .int .i64 y18_12.1.next, .int .i64 y18_12.1.told]) (fun _ => by kernel_rfl) (.there (.there (.there (.there .here)))) (by kernel_rfl) (by kernel_rfl) (by kernel_rfl)) ?_
      rintro _ _ ⟨rfl, rfl⟩
      refine ⟨stable_nil, ?_⟩
      refine dp 18 14 (.bool y18_12.2.1) ?_
      refine draw_end (by kernel_rfl) ?_
      refine ae [(0, .int .i64 (wr ((1 : Int) + y1_1))), (1, .int .i64 y2_2), (2, .int .i64 v), (7, .slice v0_7a (List.length cs18_12) v0_7c), (13, .pointer (some ⟨b18_16, 0, none⟩)), (14, .bool y18_12.2.1)] ?_
      refine at_round_normal ?_
      exact at_join_mk [(0, .int .i64 (wr ((1 : Int) + y1_1))), (1, .int .i64 y2_2), (2, .int .i64 v), (7, .slice v0_7a (List.length cs18_12) v0_7c), (13, .pointer (some ⟨b18_16, 0, none⟩)), (14, .bool y18_12.2.1)] ((PtrsX v0_7r v0_7a v0_7c cs18_12) :: (Asn.own b18_16 (.cells #[.int .i64 y18_12.1.kind, .int .i64 y18_12.1.line, .int .i64 y18_12.1.id, .int .i64 y18_12.1.step, .int .i64 y18_12.1.state, .int .i64 y18_12.1.head, .slice a18_12_00 (List.length y18_12.1.data) c18_12_00, .int .i64 y18_12.1.next, .int .i64 y18_12.1.told] 35 (0, 0))) :: (ImmI a18_12_00 y18_12.1.data) :: Γ) ⟨by kernel_rfl, by kernel_rfl, by kernel_rfl, by kernel_rfl, by kernel_rfl, by kernel_rfl, trivial⟩ (fun w hw => (Sat.less (.take (.there .here) (.take .here (.take .here (.drop .here (.drop .here .refl))))) hw)) ⟨cs18_12, v0_7a, v0_7c, v0_7r, b18_16, y18_12, a18_12_00, c18_12_00, H, rfl, rfl⟩
    ·obtain ⟨y18_0, hy18_0, H⟩ := bindE H
     obtain ⟨l18_10, hl18_10, H⟩ := letE H
     refine t_step 10 73 [9, 8] [7, 6, 4, 3, 2, 1] [5] (by kernel_rfl) (by kernel_rfl) (by kernel_rfl) (st_new_ints (T := 3) (xs := l18_10) 1 hl18_10 (fun _ => by kernel_rfl) (by kernel_rfl)) ?_
     rintro _ _ ⟨b18_10, rfl, rfl⟩
     refine ⟨(stable_cons 5 68 (.pointer (some ⟨pb18_5, 0, none⟩)) (by kernel_rfl) (by kernel_rfl) (by kernel_rfl) (load1_at (off := oo6 + ((y2_2).toNat * 1 + 0)) (v := .pointer (some ⟨pb18_5, 0, none⟩)) (fun _ => by kernel_rfl) rfl (ptr_cell (i := y2_2) (.there .here) ha6 hr18_5)) stable_nil), ?_⟩
     refine dp 11 74 (.agg #[.int .i64 (7), .int .i64 (0), .int .i64 y2_2, .int .i64 (0), .int .i64 (0), .int .i64 (0), .int .i64 e1_12, .bool false, .slice (some ⟨b18_10, 0, none⟩) (List.length l18_10) 1]) ?_
     refine draw_turns 0 [16] (by kernel_rfl) (turns_cons ?_ (turns_cons ?_ turns_nil))
     ·refine t_call 0 63 [] [11, 7, 6, 4, 3, 2, 1] [5] 17 #[.int .i64 (3), .int .i64 (0), .int .i64 (0)] (by kernel_rfl) (by kernel_rfl) (by kernel_rfl) (fun _ => by kernel_rfl) (DBeginF_tr (3 : Int) (0 : Int) (0 : Int) y18_0 hy18_0) ?_
      rintro _ _ ⟨a18_0_00, c18_0_00, rfl, rfl⟩
      refine ⟨(stable_cons 5 68 (.pointer (some ⟨pb18_5, 0, none⟩)) (by kernel_rfl) (by kernel_rfl) (by kernel_rfl) (load1_at (off := oo6 + ((y2_2).toNat * 1 + 0)) (v := .pointer (some ⟨pb18_5, 0, none⟩)) (fun _ => by kernel_rfl) rfl (ptr_cell (i := y2_2) (.there (.there .here)) ha6 hr18_5)) stable_nil), ?_⟩
      refine draw_turns 12 [16] (by kernel_rfl) (turns_cons ?_ (turns_cons ?_ turns_nil))
      ·obtain ⟨y18_12, hy18_12, H⟩ := bindE H
       refine t_call 12 75 [0, 1, 5, 11, 4, 6, 7, 10, 2, 3, 9, 8] [] [] 30 #[.agg #[.int .i64 y18_0.kind, .int .i64 y18_0.line, .int .i64 y18_0.id, .int .i64 y18_0.step, .int .i64 y18_0.state, .int .i64 y18_0.head, .slice a18_0_00 (List.length y18_0.data) c18_0_00, .int .i64 y18_0.next, .int .i64 y18_0.told], .int .i64 y2_2, .pointer (some ⟨pb18_5, 0, none⟩), .agg #[.int .i64 (7), .int .i64 (0), .int .i64 y2_2, .int .i64 (0), .int .i64 (0), .int .i64 (0), .int .i64 e1_12, .bool false, .slice (some ⟨b18_10, 0, none⟩) (List.length l18_10) 1]] (by kernel_rfl) (by kernel_rfl) (by kernel_rfl) (fun _ => by kernel_rfl) (Tr.conv (Γ' := (CacheA pb18_5 (nthC v0_7x y2_2)) :: (HoleX v0_7r v0_7a v0_7c v0_7x y2_2) :: (ImmI a18_0_00 y18_0.data) :: (IntsA (some ⟨b18_10, 0, none⟩) 1 l18_10) :: Γ) (fun w hw => PtrsX.take (i := y2_2) (.there (.there .here)) hr18_5 hw) (Tr.conv (Γ' := (ImmI a18_0_00 y18_0.data) :: (CacheA pb18_5 (nthC v0_7x y2_2)) :: (ImmI a18_0_00 y18_0.data) :: (HoleX v0_7r v0_7a v0_7c v0_7x y2_2) :: (IntsA (some ⟨b18_10, 0, none⟩) 1 l18_10) :: Γ) (fun w hw => (Sat.less (.take .here (.take (.there .here) (.take .here (.take .here (.take .here .refl))))) (ImmR.dup (Sat.less (.take (.there (.there .here)) (.take .here (.take .here (.take .here .refl)))) hw)))) (RNextF_tr a18_0_00 c18_0_00 y18_0 y2_2 pb18_5 (nthC v0_7x y2_2) (some ⟨b18_10, 0, none⟩) 1 (⟨7, 0, y2_2, 0, 0, 0, e1_12, false, l18_10⟩ : PktS) (RowsA.reads (k := 1) (.there (.there .here))) y18_12 hy18_12))) ?_
       rintro _ _ ⟨a18_12_00, c18_12_00, rfl, rfl⟩
       refine ⟨stable_nil, ?_⟩
       obtain ⟨cs18_12, hcs18_12, H⟩ := letE H
       refine Draw.convS (Γ' := (PtrsX v0_7r v0_7a v0_7c cs18_12) :: (ImmI a18_12_00 y18_12.1.data) :: (ImmI a18_0_00 y18_0.data) :: (IntsA (some ⟨b18_10, 0, none⟩) 1 l18_10) :: Γ) (fun w hw => by rw [← hcs18_12]; exact PtrsX.put (i := y2_2) hr18_5 (Sat.less (.take (.there .here) (.take (.there (.there .here)) (.take .here (.take .here (.take .here .refl))))) hw)) stable_nil ?_
       have hncs18_12 : List.length v0_7x = List.length cs18_12 := by rw [← hcs18_12, setC_len]
       try rw [hncs18_12]
       refine dp 13 62 (.tuple #[.agg #[.int .i64 y18_12.1.kind, .int .i64 y18_12.1.line, .int .i64 y18_12.1.id, .int .i64 y18_12.1.step, .int .i64 y18_12.1.state, .int .i64 y18_12.1.head, .slice a18_12_00 (List.length y18_12.1.data) c18_12_00, .int .i64 y18_12.1.next, .int .i64 y18_12.1.told], .bool y18_12.2.1]) ?_
       refine dp 14 76 (.agg #[.int .i64 y18_12.1.kind, .int .i64 y18_12.1.line, .int .i64 y18_12.1.id, .int .i64 y18_12.1.step, .int .i64 y18_12.1.state, .int .i64 y18_12.1.head, .slice a18_12_00 (List.length y18_12.1.data) c18_12_00, .int .i64 y18_12.1.next, .int .i64 y18_12.1.told]) ?_
       refine dp 15 77 (.bool y18_12.2.1) ?_
       refine d_step 16 13 [] [15, 14, 13] [] (by kernel_rfl) (by kernel_rfl) (by kernel_rfl) (st_new (T := 35) (cells := #[.int .i64 (0), .int .i64 (0), .int .i64 (0), .int .i64 (0), .int .i64 (0), .int .i64 (0), .slice none 0 0, .int .i64 (0), .int .i64 (0)]) (fun a => .pointer (some a)) (fun _ => by kernel_rfl)) ?_
       rintro _ _ ⟨b18_16, rfl, rfl⟩
       refine ⟨stable_nil, ?_⟩
       refine d_do 17 [16, 14, 12, 0, 1, 2, 3, 4, 5, 6, 7, 8, 9, 10, 11, 13] [15] [] (by kernel_rfl) (by kernel_rfl) (by kernel_rfl) (st_store (off := 0) (vs := [.int .i64 y18_12.1.kind, .int .i64 y18_12.1.line, .int .i64 y18_12.1.id, .int .i64 y18_12.1.step, .int .i64 y18_12.1.state, .int .i64 y18_12.1.head, .slice a18_12_00 (List.length y18_12.1.data) c18_12_00, .int .i64 y18_12.1.next, .int .i64 y18_12.1.told]) (c' := #[.int .i64 y18_12.1.kind, .int .i64 y18_12.1.line, .int .i64 y18_12.1.id, .int .i64 y18_12.1.step, .int .i64 y18_12.1.state, .int .i64 y18_12.1.head, .slice a18_12_00 (List.length y18_12.1.data) c18_12_00, .int .i64 y18_12.1.next, .int .i64 y18_12.1.told]) (fun _ => by kernel_rfl) .here (by kernel_rfl) (by kernel_rfl) (by kernel_rfl)) ?_
       rintro _ _ ⟨rfl, rfl⟩
       refine ⟨stable_nil, ?_⟩
       refine dp 18 14 (.bool y18_12.2.1) ?_
       refine draw_end (by kernel_rfl) ?_
       refine ae [(0, .int .i64 (wr ((1 : Int) + y1_1))), (1, .int .i64 y2_2), (2, .int .i64 v), (7, .slice v0_7a (List.length cs18_12) v0_7c), (13, .pointer (some ⟨b18_16, 0, none⟩)), (14, .bool y18_12.2.1)] ?_
       refine at_round_normal ?_
       exact at_join_mk [(0, .int .i64 (wr ((1 : Int) + y1_1))), (1, .int .i64 y2_2), (2, .int .i64 v), (7, .slice v0_7a (List.length cs18_12) v0_7c), (13, .pointer (some ⟨b18_16, 0, none⟩)), (14, .bool y18_12.2.1)] ((PtrsX v0_7r v0_7a v0_7c cs18_12) :: (Asn.own b18_16 (.cells #[.int .i64 y18_12.1.kind, .int .i64 y18_12.1.line, .int .i64 y18_12.1.id, .int .i64 y18_12.1.step, .int .i64 y18_12.1.state, .int .i64 y18_12.1.head, .slice a18_12_00 (List.length y18_12.1.data) c18_12_00, .int .i64 y18_12.1.next, .int .i64 y18_12.1.told] 35 (0, 0))) :: (ImmI a18_12_00 y18_12.1.data) :: Γ) ⟨by kernel_rfl, by kernel_rfl, by kernel_rfl, by kernel_rfl, by kernel_rfl, by kernel_rfl, trivial⟩ (fun w hw => (Sat.less (.take (.there .here) (.take .here (.take .here (.drop .here (.drop .here .refl))))) hw)) ⟨cs18_12, v0_7a, v0_7c, v0_7r, b18_16, y18_12, a18_12_00, c18_12_00, H, rfl, rfl⟩
      ·refine t_step 16 13 [] [11, 7, 6, 4, 3, 2, 1] [5] (by kernel_rfl) (by kernel_rfl) (by kernel_rfl) (st_new (T := 35) (cells := #[.int .i64 (0), .int .i64 (0), .int .i64 (0), .int .i64 (0), .int .i64 (0), .int .i64 (0), .slice none 0 0, .int .i64 (0), .int .i64 (0)]) (fun a => .pointer (some a)) (fun _ => by kernel_rfl)) ?_
       rintro _ _ ⟨b18_16, rfl, rfl⟩
       refine ⟨(stable_cons 5 68 (.pointer (some ⟨pb18_5, 0, none⟩)) (by kernel_rfl) (by kernel_rfl) (by kernel_rfl) (load1_at (off := oo6 + ((y2_2).toNat * 1 + 0)) (v := .pointer (some ⟨pb18_5, 0, none⟩)) (fun _ => by kernel_rfl) rfl (ptr_cell (i := y2_2) (.there (.there (.there .here))) ha6 hr18_5)) stable_nil), ?_⟩
       refine Draw.convS (Γ' := (CacheA pb18_5 (nthC v0_7x y2_2)) :: (HoleX v0_7r v0_7a v0_7c v0_7x y2_2) :: (Asn.own b18_16 (.cells #[.int .i64 (0), .int .i64 (0), .int .i64 (0), .int .i64 (0), .int .i64 (0), .int .i64 (0), .slice none 0 0, .int .i64 (0), .int .i64 (0)] 35 (0, 0))) :: (ImmI a18_0_00 y18_0.data) :: (IntsA (some ⟨b18_10, 0, none⟩) 1 l18_10) :: Γ) (fun w hw => PtrsX.take (i := y2_2) (.there (.there (.there .here))) hr18_5 hw) (stable_cons 5 68 (.pointer (some ⟨pb18_5, 0, none⟩)) (by kernel_rfl) (by kernel_rfl) (by kernel_rfl) (load1_at (off := oo6 + ((y2_2).toNat * 1 + 0)) (v := .pointer (some ⟨pb18_5, 0, none⟩)) (fun _ => by kernel_rfl) rfl (hole_cell (i := y2_2) (.there .here) ha6 hr18_5)) stable_nil) ?_
       obtain ⟨y18_12, hy18_12, H⟩ := bindE H
       refine d_call 12 75 [0, 1, 5, 11, 4, 6, 7, 10, 2, 3, 9, 8] [] [] 30 #[.agg #[.int .i64 y18_0.kind, .int .i64 y18_0.line, .int .i64 y18_0.id, .int .i64 y18_0.step, .int .i64 y18_0.state, .int .i64 y18_0.head, .slice a18_0_00 (List.length y18_0.data) c18_0_00, .int .i64 y18_0.next, .int .i64 y18_0.told], .int .i64 y2_2, .pointer (some ⟨pb18_5, 0, none⟩), .agg #[.int .i64 (7), .int .i64 (0), .int .i64 y2_2, .int .i64 (0), .int .i64 (0), .int .i64 (0), .int .i64 e1_12, .bool false, .slice (some ⟨b18_10, 0, none⟩) (List.length l18_10) 1]] (by kernel_rfl) (by kernel_rfl) (by kernel_rfl) (fun _ => by kernel_rfl) (Tr.conv (Γ' := (ImmI a18_0_00 y18_0.data) :: (CacheA pb18_5 (nthC v0_7x y2_2)) :: (ImmI a18_0_00 y18_0.data) :: (HoleX v0_7r v0_7a v0_7c v0_7x y2_2) :: (Asn.own b18_16 (.cells #[.int .i64 (0), .int .i64 (0), .int .i64 (0), .int .i64 (0), .int .i64 (0), .int .i64 (0), .slice none 0 0, .int .i64 (0), .int .i64 (0)] 35 (0, 0))) :: (IntsA (some ⟨b18_10, 0, none⟩) 1 l18_10) :: Γ) (fun w hw => (Sat.less (.take .here (.take (.there .here) (.take .here (.take .here (.take .here (.take .here .refl)))))) (ImmR.dup (Sat.less (.take (.there (.there (.there .here))) (.take .here (.take .here (.take .here (.take .here .refl))))) hw)))) (RNextF_tr a18_0_00 c18_0_00 y18_0 y2_2 pb18_5 (nthC v0_7x y2_2) (some ⟨b18_10, 0, none⟩) 1 (⟨7, 0, y2_2, 0, 0, 0, e1_12, false, l18_10⟩ : PktS) (RowsA.reads (k := 1) (.there (.there (.there .here)))) y18_12 hy18_12)) ?_
       rintro _ _ ⟨a18_12_00, c18_12_00, rfl, rfl⟩
       refine ⟨stable_nil, ?_⟩
       obtain ⟨cs18_12, hcs18_12, H⟩ := letE H
       refine Draw.convS (Γ' := (PtrsX v0_7r v0_7a v0_7c cs18_12) :: (ImmI a18_12_00 y18_12.1.data) :: (ImmI a18_0_00 y18_0.data) :: (Asn.own b18_16 (.cells #[.int .i64 (0), .int .i64 (0), .int .i64 (0), .int .i64 (0), .int .i64 (0), .int .i64 (0), .slice none 0 0, .int .i64 (0), .int .i64 (0)] 35 (0, 0))) :: (IntsA (some ⟨b18_10, 0, none⟩) 1 l18_10) :: Γ) (fun w hw => by rw [← hcs18_12]; exact PtrsX.put (i := y2_2) hr18_5 (Sat.less (.take (.there .here) (.take (.there (.there .here)) (.take .here (.take .here (.take .here (.take .here .refl)))))) hw)) stable_nil ?_
       have hncs18_12 : List.length v0_7x = List.length cs18_12 := by rw [← hcs18_12, setC_len]
       try rw [hncs18_12]
       refine dp 13 62 (.tuple #[.agg #[.int .i64 y18_12.1.kind, .int .i64 y18_12.1.line, .int .i64 y18_12.1.id, .int .i64 y18_12.1.step, .int .i64 y18_12.1.state, .int .i64 y18_12.1.head, .slice a18_12_00 (List.length y18_12.1.data) c18_12_00, .int .i64 y18_12.1.next, .int .i64 y18_12.1.told], .bool y18_12.2.1]) ?_
       refine dp 14 76 (.agg #[.int .i64 y18_12.1.kind, .int .i64 y18_12.1.line, .int .i64 y18_12.1.id, .int .i64 y18_12.1.step, .int .i64 y18_12.1.state, .int .i64 y18_12.1.head, .slice a18_12_00 (List.length y18_12.1.data) c18_12_00, .int .i64 y18_12.1.next, .int .i64 y18_12.1.told]) ?_
       refine dp 15 77 (.bool y18_12.2.1) ?_
       refine d_do 17 [16, 14, 12, 0, 1, 2, 3, 4, 5, 6, 7, 8, 9, 10, 11, 13] [15] [] (by kernel_rfl) (by kernel_rfl) (by kernel_rfl) (st_store (off := 0) (vs := [.int .i64 y18_12.1.kind, .int .i64 y18_12.1.line, .int .i64 y18_12.1.id, .int .i64 y18_12.1.step, .int .i64 y18_12.1.state, .int .i64 y18_12.1.head, .slice a18_12_00 (List.length y18_12.1.data) c18_12_00, .int .i64 y18_12.1.next, .int .i64 y18_12.1.told]) (c' := #[.int .i64 y18_12.1.kind, .int .i64 y18_12.1.line, .int .i64 y18_12.1.id, .int .i64 y18_12.1.step, .int .i64 y18_12.1.state, .int .i64 y18_12.1.head, .slice a18_12_00 (List.length y18_12.1.data) c18_12_00, .int .i64 y18_12.1.next, .int .i64 y18_12.1.told]) (fun _ => by kernel_rfl) (.there (.there (.there .here))) (by kernel_rfl) (by kernel_rfl) (by kernel_rfl)) ?_
       rintro _ _ ⟨rfl, rfl⟩
       refine ⟨stable_nil, ?_⟩
       refine dp 18 14 (.bool y18_12.2.1) ?_
       refine draw_end (by kernel_rfl) ?_
       refine ae [(0, .int .i64 (wr ((1 : Int) + y1_1))), (1, .int .i64 y2_2), (2, .int .i64 v), (7, .slice v0_7a (List.length cs18_12) v0_7c), (13, .pointer (some ⟨b18_16, 0, none⟩)), (14, .bool y18_12.2.1)] ?_
       refine at_round_normal ?_
       exact at_join_mk [(0, .int .i64 (wr ((1 : Int) + y1_1))), (1, .int .i64 y2_2), (2, .int .i64 v), (7, .slice v0_7a (List.length cs18_12) v0_7c), (13, .pointer (some ⟨b18_16, 0, none⟩)), (14, .bool y18_12.2.1)] ((PtrsX v0_7r v0_7a v0_7c cs18_12) :: (Asn.own b18_16 (.cells #[.int .i64 y18_12.1.kind, .int .i64 y18_12.1.line, .int .i64 y18_12.1.id, .int .i64 y18_12.1.step, .int .i64 y18_12.1.state, .int .i64 y18_12.1.head, .slice a18_12_00 (List.length y18_12.1.data) c18_12_00, .int .i64 y18_12.1.next, .int .i64 y18_12.1.told] 35 (0, 0))) :: (ImmI a18_12_00 y18_12.1.data) :: Γ) ⟨by kernel_rfl, by kernel_rfl, by kernel_rfl, by kernel_rfl, by kernel_rfl, by kernel_rfl, trivial⟩ (fun w hw => (Sat.less (.take (.there .here) (.take .here (.take .here (.drop .here (.drop .here .refl))))) hw)) ⟨cs18_12, v0_7a, v0_7c, v0_7r, b18_16, y18_12, a18_12_00, c18_12_00, H, rfl, rfl⟩
     ·refine t_step 16 13 [] [11, 7, 6, 4, 3, 2, 1] [5] (by kernel_rfl) (by kernel_rfl) (by kernel_rfl) (st_new (T := 35) (cells := #[.int .i64 (0), .int .i64 (0), .int .i64 (0), .int .i64 (0), .int .i64 (0), .int .i64 (0), .slice none 0 0, .int .i64 (0), .int .i64 (0)]) (fun a => .pointer (some a)) (fun _ => by kernel_rfl)) ?_
      rintro _ _ ⟨b18_16, rfl, rfl⟩
      refine ⟨(stable_cons 5 68 (.pointer (some ⟨pb18_5, 0, none⟩)) (by kernel_rfl) (by kernel_rfl) (by kernel_rfl) (load1_at (off := oo6 + ((y2_2).toNat * 1 + 0)) (v := .pointer (some ⟨pb18_5, 0, none⟩)) (fun _ => by kernel_rfl) rfl (ptr_cell (i := y2_2) (.there (.there .here)) ha6 hr18_5)) stable_nil), ?_⟩
      refine d_call 0 63 [] [11, 7, 6, 4, 3, 2, 1] [5] 17 #[.int .i64 (3), .int .i64 (0), .int .i64 (0)] (by kernel_rfl) (by kernel_rfl) (by kernel_rfl) (fun _ => by kernel_rfl) (DBeginF_tr (3 : Int) (0 : Int) (0 : Int) y18_0 hy18_0) ?_
      rintro _ _ ⟨a18_0_00, c18_0_00, rfl, rfl⟩
      refine ⟨(stable_cons 5 68 (.pointer (some ⟨pb18_5, 0, none⟩)) (by kernel_rfl) (by kernel_rfl) (by kernel_rfl) (load1_at (off := oo6 + ((y2_2).toNat * 1 + 0)) (v := .pointer (some ⟨pb18_5, 0, none⟩)) (fun _ => by kernel_rfl) rfl (ptr_cell (i := y2_2) (.there (.there (.there .here))) ha6 hr18_5)) stable_nil), ?_⟩
      refine Draw.convS (Γ' := (CacheA pb18_5 (nthC v0_7x y2_2)) :: (HoleX v0_7r v0_7a v0_7c v0_7x y2_2) :: (ImmI a18_0_00 y18_0.data) :: (Asn.own b18_16 (.cells #[.int .i64 (0), .int .i64 (0), .int .i64 (0), .int .i64 (0), .int .i64 (0), .int .i64 (0), .slice none 0 0, .int .i64 (0), .int .i64 (0)] 35 (0, 0))) :: (IntsA (some ⟨b18_10, 0, none⟩) 1 l18_10) :: Γ) (fun w hw => PtrsX.take (i := y2_2) (.there (.there (.there .here))) hr18_5 hw) (stable_cons 5 68 (.pointer (some ⟨pb18_5, 0, none⟩)) (by kernel_rfl) (by kernel_rfl) (by kernel_rfl) (load1_at (off := oo6 + ((y2_2).toNat * 1 + 0)) (v := .pointer (some ⟨pb18_5, 0, none⟩)) (fun _ => by kernel_rfl) rfl (hole_cell (i := y2_2) (.there .here) ha6 hr18_5)) stable_nil) ?_
      obtain ⟨y18_12, hy18_12, H⟩ := bindE H
      refine d_call 12 75 [0, 1, 5, 11, 4, 6, 7, 10, 2, 3, 9, 8] [] [] 30 #[.agg #[.int .i64 y18_0.kind, .int .i64 y18_0.line, .int .i64 y18_0.id, .int .i64 y18_0.step, .int .i64 y18_0.state, .int .i64 y18_0.head, .slice a18_0_00 (List.length y18_0.data) c18_0_00, .int .i64 y18_0.next, .int .i64 y18_0.told], .int .i64 y2_2, .pointer (some ⟨pb18_5, 0, none⟩), .agg #[.int .i64 (7), .int .i64 (0), .int .i64 y2_2, .int .i64 (0), .int .i64 (0), .int .i64 (0), .int .i64 e1_12, .bool false, .slice (some ⟨b18_10, 0, none⟩) (List.length l18_10) 1]] (by kernel_rfl) (by kernel_rfl) (by kernel_rfl) (fun _ => by kernel_rfl) (Tr.conv (Γ' := (ImmI a18_0_00 y18_0.data) :: (CacheA pb18_5 (nthC v0_7x y2_2)) :: (ImmI a18_0_00 y18_0.data) :: (HoleX v0_7r v0_7a v0_7c v0_7x y2_2) :: (Asn.own b18_16 (.cells #[.int .i64 (0), .int .i64 (0), .int .i64 (0), .int .i64 (0), .int .i64 (0), .int .i64 (0), .slice none 0 0, .int .i64 (0), .int .i64 (0)] 35 (0, 0))) :: (IntsA (some ⟨b18_10, 0, none⟩) 1 l18_10) :: Γ) (fun w hw => (Sat.less (.take .here (.take (.there .here) (.take .here (.take .here (.take .here (.take .here .refl)))))) (ImmR.dup (Sat.less (.take (.there (.there .here)) (.take .here (.take .here (.take .here (.take .here .refl))))) hw)))) (RNextF_tr a18_0_00 c18_0_00 y18_0 y2_2 pb18_5 (nthC v0_7x y2_2) (some ⟨b18_10, 0, none⟩) 1 (⟨7, 0, y2_2, 0, 0, 0, e1_12, false, l18_10⟩ : PktS) (RowsA.reads (k := 1) (.there (.there (.there .here)))) y18_12 hy18_12)) ?_
      rintro _ _ ⟨a18_12_00, c18_12_00, rfl, rfl⟩
      refine ⟨stable_nil, ?_⟩
      obtain ⟨cs18_12, hcs18_12, H⟩ := letE H
      refine Draw.convS (Γ' := (PtrsX v0_7r v0_7a v0_7c cs18_12) :: (ImmI a18_12_00 y18_12.1.data) :: (ImmI a18_0_00 y18_0.data) :: (Asn.own b18_16 (.cells #[.int .i64 (0), .int .i64 (0), .int .i64 (0), .int .i64 (0), .int .i64 (0), .int .i64 (0), .slice none 0 0, .int .i64 (0), .int .i64 (0)] 35 (0, 0))) :: (IntsA (some ⟨b18_10, 0, none⟩) 1 l18_10) :: Γ) (fun w hw => by rw [← hcs18_12]; exact PtrsX.put (i := y2_2) hr18_5 (Sat.less (.take (.there .here) (.take (.there (.there .here)) (.take .here (.take .here (.take .here (.take .here .refl)))))) hw)) stable_nil ?_
      have hncs18_12 : List.length v0_7x = List.length cs18_12 := by rw [← hcs18_12, setC_len]
      try rw [hncs18_12]
      refine dp 13 62 (.tuple #[.agg #[.int .i64 y18_12.1.kind, .int .i64 y18_12.1.line, .int .i64 y18_12.1.id, .int .i64 y18_12.1.step, .int .i64 y18_12.1.state, .int .i64 y18_12.1.head, .slice a18_12_00 (List.length y18_12.1.data) c18_12_00, .int .i64 y18_12.1.next, .int .i64 y18_12.1.told], .bool y18_12.2.1]) ?_
      refine dp 14 76 (.agg #[.int .i64 y18_12.1.kind, .int .i64 y18_12.1.line, .int .i64 y18_12.1.id, .int .i64 y18_12.1.step, .int .i64 y18_12.1.state, .int .i64 y18_12.1.head, .slice a18_12_00 (List.length y18_12.1.data) c18_12_00, .int .i64 y18_12.1.next, .int .i64 y18_12.1.told]) ?_
      refine dp 15 77 (.bool y18_12.2.1) ?_
      refine d_do 17 [16, 14, 12, 0, 1, 2, 3, 4, 5, 6, 7, 8, 9, 10, 11, 13] [15] [] (by kernel_rfl) (by kernel_rfl) (by kernel_rfl) (st_store (off := 0) (vs := [.int .i64 y18_12.1.kind, .int .i64 y18_12.1.line, .int .i64 y18_12.1.id, .int .i64 y18_12.1.step, .int .i64 y18_12.1.state, .int .i64 y18_12.1.head, .slice a18_12_00 (List.length y18_12.1.data) c18_12_00, .int .i64 y18_12.1.next, .int .i64 y18_12.1.told]) (c' := #[.int .i64 y18_12.1.kind, .int .i64 y18_12.1.line, .int .i64 y18_12.1.id, .int .i64 y18_12.1.step, .int .i64 y18_12.1.state, .int .i64 y18_12.1.head, .slice a18_12_00 (List.length y18_12.1.data) c18_12_00, .int .i64 y18_12.1.next, .int .i64 y18_12.1.told]) (fun _ => by kernel_rfl) (.there (.there (.there .here))) (by kernel_rfl) (by kernel_rfl) (by kernel_rfl)) ?_
      rintro _ _ ⟨rfl, rfl⟩
      refine ⟨stable_nil, ?_⟩
      refine dp 18 14 (.bool y18_12.2.1) ?_
      refine draw_end (by kernel_rfl) ?_
      refine ae [(0, .int .i64 (wr ((1 : Int) + y1_1))), (1, .int .i64 y2_2), (2, .int .i64 v), (7, .slice v0_7a (List.length cs18_12) v0_7c), (13, .pointer (some ⟨b18_16, 0, none⟩)), (14, .bool y18_12.2.1)] ?_
      refine at_round_normal ?_
      exact at_join_mk [(0, .int .i64 (wr ((1 : Int) + y1_1))), (1, .int .i64 y2_2), (2, .int .i64 v), (7, .slice v0_7a (List.length cs18_12) v0_7c), (13, .pointer (some ⟨b18_16, 0, none⟩)), (14, .bool y18_12.2.1)] ((PtrsX v0_7r v0_7a v0_7c cs18_12) :: (Asn.own b18_16 (.cells #[.int .i64 y18_12.1.kind, .int .i64 y18_12.1.line, .int .i64 y18_12.1.id, .int .i64 y18_12.1.step, .int .i64 y18_12.1.state, .int .i64 y18_12.1.head, .slice a18_12_00 (List.length y18_12.1.data) c18_12_00, .int .i64 y18_12.1.next, .int .i64 y18_12.1.told] 35 (0, 0))) :: (ImmI a18_12_00 y18_12.1.data) :: Γ) ⟨by kernel_rfl, by kernel_rfl, by kernel_rfl, by kernel_rfl, by kernel_rfl, by kernel_rfl, trivial⟩ (fun w hw => (Sat.less (.take (.there .here) (.take .here (.take .here (.drop .here (.drop .here .refl))))) hw)) ⟨cs18_12, v0_7a, v0_7c, v0_7r, b18_16, y18_12, a18_12_00, c18_12_00, H, rfl, rfl⟩
    ·refine t_step 16 13 [] [9, 8, 7, 6, 4, 3, 2, 1] [5] (by kernel_rfl) (by kernel_rfl) (by kernel_rfl) (st_new (T := 35) (cells := #[.int .i64 (0), .int .i64 (0), .int .i64 (0), .int .i64 (0), .int .i64 (0), .int .i64 (0), .slice none 0 0, .int .i64 (0), .int .i64 (0)]) (fun a => .pointer (some a)) (fun _ => by kernel_rfl)) ?_
     rintro _ _ ⟨b18_16, rfl, rfl⟩
     refine ⟨(stable_cons 5 68 (.pointer (some ⟨pb18_5, 0, none⟩)) (by kernel_rfl) (by kernel_rfl) (by kernel_rfl) (load1_at (off := oo6 + ((y2_2).toNat * 1 + 0)) (v := .pointer (some ⟨pb18_5, 0, none⟩)) (fun _ => by kernel_rfl) rfl (ptr_cell (i := y2_2) (.there .here) ha6 hr18_5)) stable_nil), ?_⟩
     refine draw_turns 0 [10] (by kernel_rfl) (turns_cons ?_ (turns_cons ?_ turns_nil))
     ·obtain ⟨y18_0, hy18_0, H⟩ := bindE H
      refine t_call 0 63 [] [9, 8, 7, 6, 4, 3, 2, 1] [5] 17 #[.int .i64 (3), .int .i64 (0), .int .i64 (0)] (by kernel_rfl) (by kernel_rfl) (by kernel_rfl) (fun _ => by kernel_rfl) (DBeginF_tr (3 : Int) (0 : Int) (0 : Int) y18_0 hy18_0) ?_
      rintro _ _ ⟨a18_0_00, c18_0_00, rfl, rfl⟩
      refine ⟨(stable_cons 5 68 (.pointer (some ⟨pb18_5, 0, none⟩)) (by kernel_rfl) (by kernel_rfl) (by kernel_rfl) (load1_at (off := oo6 + ((y2_2).toNat * 1 + 0)) (v := .pointer (some ⟨pb18_5, 0, none⟩)) (fun _ => by kernel_rfl) rfl (ptr_cell (i := y2_2) (.there (.there .here)) ha6 hr18_5)) stable_nil), ?_⟩
      obtain ⟨l18_10, hl18_10, H⟩ := letE H
      refine d_step 10 73 [9, 8] [7, 6, 4, 3, 2, 1] [5] (by kernel_rfl) (by kernel_rfl) (by kernel_rfl) (st_new_ints (T := 3) (xs := l18_10) 1 hl18_10 (fun _ => by kernel_rfl) (by kernel_rfl)) ?_
      rintro _ _ ⟨b18_10, rfl, rfl⟩
      refine ⟨(stable_cons 5 68 (.pointer (some ⟨pb18_5, 0, none⟩)) (by kernel_rfl) (by kernel_rfl) (by kernel_rfl) (load1_at (off := oo6 + ((y2_2).toNat * 1 + 0)) (v := .pointer (some ⟨pb18_5, 0, none⟩)) (fun _ => by kernel_rfl) rfl (ptr_cell (i := y2_2) (.there (.there (.there .here))) ha6 hr18_5)) stable_nil), ?_⟩
      refine dp 11 74 (.agg #[.int .i64 (7), .int .i64 (0), .int .i64 y2_2, .int .i64 (0), .int .i64 (0), .int .i64 (0), .int .i64 e1_12, .bool false, .slice (some ⟨b18_10, 0, none⟩) (List.length l18_10) 1]) ?_
      refine Draw.convS (Γ' := (CacheA pb18_5 (nthC v0_7x y2_2)) :: (HoleX v0_7r v0_7a v0_7c v0_7x y2_2) :: (IntsA (some ⟨b18_10, 0, none⟩) 1 l18_10) :: (ImmI a18_0_00 y18_0.data) :: (Asn.own b18_16 (.cells #[.int .i64 (0), .int .i64 (0), .int .i64 (0), .int .i64 (0), .int .i64 (0), .int .i64 (0), .slice none 0 0, .int .i64 (0), .int .i64 (0)] 35 (0, 0))) :: Γ) (fun w hw => PtrsX.take (i := y2_2) (.there (.there (.there .here))) hr18_5 hw) (stable_cons 5 68 (.pointer (some ⟨pb18_5, 0, none⟩)) (by kernel_rfl) (by kernel_rfl) (by kernel_rfl) (load1_at (off := oo6 + ((y2_2).toNat * 1 + 0)) (v := .pointer (some ⟨pb18_5, 0, none⟩)) (fun _ => by kernel_rfl) rfl (hole_cell (i := y2_2) (.there .here) ha6 hr18_5)) stable_nil) ?_
      obtain ⟨y18_12, hy18_12, H⟩ := bindE H
      refine d_call 12 75 [0, 1, 5, 11, 4, 6, 7, 10, 2, 3, 9, 8] [] [] 30 #[.agg #[.int .i64 y18_0.kind, .int .i64 y18_0.line, .int .i64 y18_0.id, .int .i64 y18_0.step, .int .i64 y18_0.state, .int .i64 y18_0.head, .slice a18_0_00 (List.length y18_0.data) c18_0_00, .int .i64 y18_0.next, .int .i64 y18_0.told], .int .i64 y2_2, .pointer (some ⟨pb18_5, 0, none⟩), .agg #[.int .i64 (7), .int .i64 (0), .int .i64 y2_2, .int .i64 (0), .int .i64 (0), .int .i64 (0), .int .i64 e1_12, .bool false, .slice (some ⟨b18_10, 0, none⟩) (List.length l18_10) 1]] (by kernel_rfl) (by kernel_rfl) (by kernel_rfl) (fun _ => by kernel_rfl) (Tr.conv (Γ' := (ImmI a18_0_00 y18_0.data) :: (CacheA pb18_5 (nthC v0_7x y2_2)) :: (ImmI a18_0_00 y18_0.data) :: (HoleX v0_7r v0_7a v0_7c v0_7x y2_2) :: (IntsA (some ⟨b18_10, 0, none⟩) 1 l18_10) :: (Asn.own b18_16 (.cells #[.int .i64 (0), .int .i64 (0), .int .i64 (0), .int .i64 (0), .int .i64 (0), .int .i64 (0), .slice none 0 0, .int .i64 (0), .int .i64 (0)] 35 (0, 0))) :: Γ) (fun w hw => (Sat.less (.take .here (.take (.there .here) (.take .here (.take .here (.take .here (.take .here .refl)))))) (ImmR.dup (Sat.less (.take (.there (.there (.there .here))) (.take .here (.take .here (.take .here (.take .here .refl))))) hw)))) (RNextF_tr a18_0_00 c18_0_00 y18_0 y2_2 pb18_5 (nthC v0_7x y2_2) (some ⟨b18_10, 0, none⟩) 1 (⟨7, 0, y2_2, 0, 0, 0, e1_12, false, l18_10⟩ : PktS) (RowsA.reads (k := 1) (.there (.there .here))) y18_12 hy18_12)) ?_
      rintro _ _ ⟨a18_12_00, c18_12_00, rfl, rfl⟩
      refine ⟨stable_nil, ?_⟩
      obtain ⟨cs18_12, hcs18_12, H⟩ := letE H
      refine Draw.convS (Γ' := (PtrsX v0_7r v0_7a v0_7c cs18_12) :: (ImmI a18_12_00 y18_12.1.data) :: (ImmI a18_0_00 y18_0.data) :: (IntsA (some ⟨b18_10, 0, none⟩) 1 l18_10) :: (Asn.own b18_16 (.cells #[.int .i64 (0), .int .i64 (0), .int .i64 (0), .int .i64 (0), .int .i64 (0), .int .i64 (0), .slice none 0 0, .int .i64 (0), .int .i64 (0)] 35 (0, 0))) :: Γ) (fun w hw => by rw [← hcs18_12]; exact PtrsX.put (i := y2_2) hr18_5 (Sat.less (.take (.there .here) (.take (.there (.there .here)) (.take .here (.take .here (.take .here (.take .here .refl)))))) hw)) stable_nil ?_
      have hncs18_12 : List.length v0_7x = List.length cs18_12 := by rw [← hcs18_12, setC_len]
      try rw [hncs18_12]
      refine dp 13 62 (.tuple #[.agg #[.int .i64 y18_12.1.kind, .int .i64 y18_12.1.line, .int .i64 y18_12.1.id, .int .i64 y18_12.1.step, .int .i64 y18_12.1.state, .int .i64 y18_12.1.head, .slice a18_12_00 (List.length y18_12.1.data) c18_12_00, .int .i64 y18_12.1.next, .int .i64 y18_12.1.told], .bool y18_12.2.1]) ?_
      refine dp 14 76 (.agg #[.int .i64 y18_12.1.kind, .int .i64 y18_12.1.line, .int .i64 y18_12.1.id, .int .i64 y18_12.1.step, .int .i64 y18_12.1.state, .int .i64 y18_12.1.head, .slice a18_12_00 (List.length y18_12.1.data) c18_12_00, .int .i64 y18_12.1.next, .int .i64 y18_12.1.told]) ?_
      refine dp 15 77 (.bool y18_12.2.1) ?_
      refine d_do 17 [16, 14, 12, 0, 1, 2, 3, 4, 5, 6, 7, 8, 9, 10, 11, 13] [15] [] (by kernel_rfl) (by kernel_rfl) (by kernel_rfl) (st_store (off := 0) (vs := [.int .i64 y18_12.1.kind, .int .i64 y18_12.1.line, .int .i64 y18_12.1.id, .int .i64 y18_12.1.step, .int .i64 y18_12.1.state, .int .i64 y18_12.1.head, .slice a18_12_00 (List.length y18_12.1.data) c18_12_00, .int .i64 y18_12.1.next, .int .i64 y18_12.1.told]) (c' := #[.int .i64 y18_12.1.kind, .int .i64 y18_12.1.line, .int .i64 y18_12.1.id, .int .i64 y18_12.1.step, .int .i64 y18_12.1.state, .int .i64 y18_12.1.head, .slice a18_12_00 (List.length y18_12.1.data) c18_12_00, .int .i64 y18_12.1.next, .int .i64 y18_12.1.told]) (fun _ => by kernel_rfl) (.there (.there (.there (.there .here)))) (by kernel_rfl) (by kernel_rfl) (by kernel_rfl)) ?_
      rintro _ _ ⟨rfl, rfl⟩
      refine ⟨stable_nil, ?_⟩
      refine dp 18 14 (.bool y18_12.2.1) ?_
      refine draw_end (by kernel_rfl) ?_
      refine ae [(0, .int .i64 (wr ((1 : Int) + y1_1))), (1, .int .i64 y2_2), (2, .int .i64 v), (7, .slice v0_7a (List.length cs18_12) v0_7c), (13, .pointer (some ⟨b18_16, 0, none⟩)), (14, .bool y18_12.2.1)] ?_
      refine at_round_normal ?_
      exact at_join_mk [(0, .int .i64 (wr ((1 : Int) + y1_1))), (1, .int .i64 y2_2), (2, .int .i64 v), (7, .slice v0_7a (List.length cs18_12) v0_7c), (13, .pointer (some ⟨b18_16, 0, none⟩)), (14, .bool y18_12.2.1)] ((PtrsX v0_7r v0_7a v0_7c cs18_12) :: (Asn.own b18_16 (.cells #[.int .i64 y18_12.1.kind, .int .i64 y18_12.1.line, .int .i64 y18_12.1.id, .int .i64 y18_12.1.step, .int .i64 y18_12.1.state, .int .i64 y18_12.1.head, .slice a18_12_00 (List.length y18_12.1.data) c18_12_00, .int .i64 y18_12.1.next, .int .i64 y18_12.1.told] 35 (0, 0))) :: (ImmI a18_12_00 y18_12.1.data) :: Γ) ⟨by kernel_rfl, by kernel_rfl, by kernel_rfl, by kernel_rfl, by kernel_rfl, by kernel_rfl, trivial⟩ (fun w hw => (Sat.less (.take (.there .here) (.take .here (.take .here (.drop .here (.drop .here .refl))))) hw)) ⟨cs18_12, v0_7a, v0_7c, v0_7r, b18_16, y18_12, a18_12_00, c18_12_00, H, rfl, rfl⟩
     ·obtain ⟨y18_0, hy18_0, H⟩ := bindE H
      obtain ⟨l18_10, hl18_10, H⟩ := letE H
      refine t_step 10 73 [9, 8] [7, 6, 4, 3, 2, 1] [5] (by kernel_rfl) (by kernel_rfl) (by kernel_rfl) (st_new_ints (T := 3) (xs := l18_10) 1 hl18_10 (fun _ => by kernel_rfl) (by kernel_rfl)) ?_
      rintro _ _ ⟨b18_10, rfl, rfl⟩
      refine ⟨(stable_cons 5 68 (.pointer (some ⟨pb18_5, 0, none⟩)) (by kernel_rfl) (by kernel_rfl) (by kernel_rfl) (load1_at (off := oo6 + ((y2_2).toNat * 1 + 0)) (v := .pointer (some ⟨pb18_5, 0, none⟩)) (fun _ => by kernel_rfl) rfl (ptr_cell (i := y2_2) (.there (.there .here)) ha6 hr18_5)) stable_nil), ?_⟩
      refine dp 11 74 (.agg #[.int .i64 (7), .int .i64 (0), .int .i64 y2_2, .int .i64 (0), .int .i64 (0), .int .i64 (0), .int .i64 e1_12, .bool false, .slice (some ⟨b18_10, 0, none⟩) (List.length l18_10) 1]) ?_
      refine d_call 0 63 [] [11, 7, 6, 4, 3, 2, 1] [5] 17 #[.int .i64 (3), .int .i64 (0), .int .i64 (0)] (by kernel_rfl) (by kernel_rfl) (by kernel_rfl) (fun _ => by kernel_rfl) (DBeginF_tr (3 : Int) (0 : Int) (0 : Int) y18_0 hy18_0) ?_
      rintro _ _ ⟨a18_0_00, c18_0_00, rfl, rfl⟩
      refine ⟨(stable_cons 5 68 (.pointer (some ⟨pb18_5, 0, none⟩)) (by kernel_rfl) (by kernel_rfl) (by kernel_rfl) (load1_at (off := oo6 + ((y2_2).toNat * 1 + 0)) (v := .pointer (some ⟨pb18_5, 0, none⟩)) (fun _ => by kernel_rfl) rfl (ptr_cell (i := y2_2) (.there (.there (.there .here))) ha6 hr18_5)) stable_nil), ?_⟩
      refine Draw.convS (Γ' := (CacheA pb18_5 (nthC v0_7x y2_2)) :: (HoleX v0_7r v0_7a v0_7c v0_7x y2_2) :: (ImmI a18_0_00 y18_0.data) :: (IntsA (some ⟨b18_10, 0, none⟩) 1 l18_10) :: (Asn.own b18_16 (.cells #[.int .i64 (0), .int .i64 (0), .int .i64 (0), .int .i64 (0), .int .i64 (0), .int .i64 (0), .slice none 0 0, .int .i64 (0), .int .i64 (0)] 35 (0, 0))) :: Γ) (fun w hw => PtrsX.take (i := y2_2) (.there (.there (.there .here))) hr18_5 hw) (stable_cons 5 68 (.pointer (some ⟨pb18_5, 0, none⟩)) (by kernel_rfl) (by kernel_rfl) (by kernel_rfl) (load1_at (off := oo6 + ((y2_2).toNat * 1 + 0)) (v := .pointer (some ⟨pb18_5, 0, none⟩)) (fun _ => by kernel_rfl) rfl (hole_cell (i := y2_2) (.there .here) ha6 hr18_5)) stable_nil) ?_
      obtain ⟨y18_12, hy18_12, H⟩ := bindE H
      refine d_call 12 75 [0, 1, 5, 11, 4, 6, 7, 10, 2, 3, 9, 8] [] [] 30 #[.agg #[.int .i64 y18_0.kind, .int .i64 y18_0.line, .int .i64 y18_0.id, .int .i64 y18_0.step, .int .i64 y18_0.state, .int .i64 y18_0.head, .slice a18_0_00 (List.length y18_0.data) c18_0_00, .int .i64 y18_0.next, .int .i64 y18_0.told], .int .i64 y2_2, .pointer (some ⟨pb18_5, 0, none⟩), .agg #[.int .i64 (7), .int .i64 (0), .int .i64 y2_2, .int .i64 (0), .int .i64 (0), .int .i64 (0), .int .i64 e1_12, .bool false, .slice (some ⟨b18_10, 0, none⟩) (List.length l18_10) 1]] (by kernel_rfl) (by kernel_rfl) (by kernel_rfl) (fun _ => by kernel_rfl) (Tr.conv (Γ' := (ImmI a18_0_00 y18_0.data) :: (CacheA pb18_5 (nthC v0_7x y2_2)) :: (ImmI a18_0_00 y18_0.data) :: (HoleX v0_7r v0_7a v0_7c v0_7x y2_2) :: (IntsA (some ⟨b18_10, 0, none⟩) 1 l18_10) :: (Asn.own b18_16 (.cells #[.int .i64 (0), .int .i64 (0), .int .i64 (0), .int .i64 (0), .int .i64 (0), .int .i64 (0), .slice none 0 0, .int .i64 (0), .int .i64 (0)] 35 (0, 0))) :: Γ) (fun w hw => (Sat.less (.take .here (.take (.there .here) (.take .here (.take .here (.take .here (.take .here .refl)))))) (ImmR.dup (Sat.less (.take (.there (.there .here)) (.take .here (.take .here (.take .here (.take .here .refl))))) hw)))) (RNextF_tr a18_0_00 c18_0_00 y18_0 y2_2 pb18_5 (nthC v0_7x y2_2) (some ⟨b18_10, 0, none⟩) 1 (⟨7, 0, y2_2, 0, 0, 0, e1_12, false, l18_10⟩ : PktS) (RowsA.reads (k := 1) (.there (.there .here))) y18_12 hy18_12)) ?_
      rintro _ _ ⟨a18_12_00, c18_12_00, rfl, rfl⟩
      refine ⟨stable_nil, ?_⟩
      obtain ⟨cs18_12, hcs18_12, H⟩ := letE H
      refine Draw.convS (Γ' := (PtrsX v0_7r v0_7a v0_7c cs18_12) :: (ImmI a18_12_00 y18_12.1.data) :: (ImmI a18_0_00 y18_0.data) :: (IntsA (some ⟨b18_10, 0, none⟩) 1 l18_10) :: (Asn.own b18_16 (.cells #[.int .i64 (0), .int .i64 (0), .int .i64 (0), .int .i64 (0), .int .i64 (0), .int .i64 (0), .slice none 0 0, .int .i64 (0), .int .i64 (0)] 35 (0, 0))) :: Γ) (fun w hw => by rw [← hcs18_12]; exact PtrsX.put (i := y2_2) hr18_5 (Sat.less (.take (.there .here) (.take (.there (.there .here)) (.take .here (.take .here (.take .here (.take .here .refl)))))) hw)) stable_nil ?_
      have hncs18_12 : List.length v0_7x = List.length cs18_12 := by rw [← hcs18_12, setC_len]
      try rw [hncs18_12]
      refine dp 13 62 (.tuple #[.agg #[.int .i64 y18_12.1.kind, .int .i64 y18_12.1.line, .int .i64 y18_12.1.id, .int .i64 y18_12.1.step, .int .i64 y18_12.1.state, .int .i64 y18_12.1.head, .slice a18_12_00 (List.length y18_12.1.data) c18_12_00, .int .i64 y18_12.1.next, .int .i64 y18_12.1.told], .bool y18_12.2.1]) ?_
      refine dp 14 76 (.agg #[.int .i64 y18_12.1.kind, .int .i64 y18_12.1.line, .int .i64 y18_12.1.id, .int .i64 y18_12.1.step, .int .i64 y18_12.1.state, .int .i64 y18_12.1.head, .slice a18_12_00 (List.length y18_12.1.data) c18_12_00, .int .i64 y18_12.1.next, .int .i64 y18_12.1.told]) ?_
      refine dp 15 77 (.bool y18_12.2.1) ?_
      refine d_do 17 [16, 14, 12, 0, 1, 2, 3, 4, 5, 6, 7, 8, 9, 10, 11, 13] [15] [] (by kernel_rfl) (by kernel_rfl) (by kernel_rfl) (st_store (off := 0) (vs := [.int .i64 y18_12.1.kind, .int .i64 y18_12.1.line, .int .i64 y18_12.1.id, .int .i64 y18_12.1.step, .int .i64 y18_12.1.state, .int .i64 y18_12.1.head, .slice a18_12_00 (List.length y18_12.1.data) c18_12_00, .int .i64 y18_12.1.next, .int .i64 y18_12.1.told]) (c' := #[.int .i64 y18_12.1.kind, .int .i64 y18_12.1.line, .int .i64 y18_12.1.id, .int .i64 y18_12.1.step, .int .i64 y18_12.1.state, .int .i64 y18_12.1.head, .slice a18_12_00 (List.length y18_12.1.data) c18_12_00, .int .i64 y18_12.1.next, .int .i64 y18_12.1.told]) (fun _ => by kernel_rfl) (.there (.there (.there (.there .here)))) (by kernel_rfl) (by kernel_rfl) (by kernel_rfl)) ?_
      rintro _ _ ⟨rfl, rfl⟩
      refine ⟨stable_nil, ?_⟩
      refine dp 18 14 (.bool y18_12.2.1) ?_
      refine draw_end (by kernel_rfl) ?_
      refine ae [(0, .int .i64 (wr ((1 : Int) + y1_1))), (1, .int .i64 y2_2), (2, .int .i64 v), (7, .slice v0_7a (List.length cs18_12) v0_7c), (13, .pointer (some ⟨b18_16, 0, none⟩)), (14, .bool y18_12.2.1)] ?_
      refine at_round_normal ?_
      exact at_join_mk [(0, .int .i64 (wr ((1 : Int) + y1_1))), (1, .int .i64 y2_2), (2, .int .i64 v), (7, .slice v0_7a (List.length cs18_12) v0_7c), (13, .pointer (some ⟨b18_16, 0, none⟩)), (14, .bool y18_12.2.1)] ((PtrsX v0_7r v0_7a v0_7c cs18_12) :: (Asn.own b18_16 (.cells #[.int .i64 y18_12.1.kind, .int .i64 y18_12.1.line, .int .i64 y18_12.1.id, .int .i64 y18_12.1.step, .int .i64 y18_12.1.state, .int .i64 y18_12.1.head, .slice a18_12_00 (List.length y18_12.1.data) c18_12_00, .int .i64 y18_12.1.next, .int .i64 y18_12.1.told] 35 (0, 0))) :: (ImmI a18_12_00 y18_12.1.data) :: Γ) ⟨by kernel_rfl, by kernel_rfl, by kernel_rfl, by kernel_rfl, by kernel_rfl, by kernel_rfl, trivial⟩ (fun w hw => (Sat.less (.take (.there .here) (.take .here (.take .here (.drop .here (.drop .here .refl))))) hw)) ⟨cs18_12, v0_7a, v0_7c, v0_7r, b18_16, y18_12, a18_12_00, c18_12_00, H, rfl, rfl⟩
  ·refine aq (x := C12 [1,1,1,1,1,1,0,0]) (y := C12 [1,1,1,1,1,1,0,1]) ?_
   refine ar (id := 16) 2 ?_
   refine sp 60 (.int .i64 (wr ((1 : Int) + y1_1))) ?_
   refine sp 61 (.bool (decide ((wr ((1 : Int) + y1_1)) = (1 : Int)))) ?_
   refine ops_end ?_
   refine ae [(0, .int .i64 (wr ((1 : Int) + y1_1))), (1, .int .i64 y2_2), (2, .int .i64 v), (7, .slice v0_7a (List.length v0_7x) v0_7c), (12, .int .i64 (1)), (61, .bool (decide ((wr ((1 : Int) + y1_1)) = (1 : Int))))] ?_
   refine at_then_normal ?_
   rcases Bool.eq_false_or_eq_true (decide ((wr ((1 : Int) + y1_1)) = (1 : Int))) with h28 | h28
   ·replace H := bifT H h28
    refine at_true (t := decide ((wr ((1 : Int) + y1_1)) = (1 : Int))) (x := C12 [1,1,1,1,1,1,0,1,0]) (y := C12 [1,1,1,1,1,1,0,1,1]) (o := .tmp 61) (by kernel_rfl) (by kernel_rfl) (by kernel_rfl) h28 ?_
    refine ar (id := 17) 1 ?_
    refine sp 12 (.int .i64 (2)) ?_
    refine ops_end ?_
    refine ae [(0, .int .i64 (wr ((1 : Int) + y1_1))), (1, .int .i64 y2_2), (2, .int .i64 v), (7, .slice v0_7a (List.length v0_7x) v0_7c), (12, .int .i64 (2))] ?_
    refine at_round_normal ?_
    exact at_join_mk [(0, .int .i64 (wr ((1 : Int) + y1_1))), (1, .int .i64 y2_2), (2, .int .i64 v), (7, .slice v0_7a (List.length v0_7x) v0_7c), (12, .int .i64 2)] ((PtrsX v0_7r v0_7a v0_7c v0_7x) :: Γ) ⟨by kernel_rfl, by kernel_rfl, by kernel_rfl, by kernel_rfl, by kernel_rfl, trivial⟩ (fun w hw => (Sat.less (.take .here .refl) hw)) ⟨2, H, rfl, rfl⟩
   ·replace H := bifF H h28
    refine at_false (t := decide ((wr ((1 : Int) + y1_1)) = (1 : Int))) (x := C12 [1,1,1,1,1,1,0,1,0]) (y := C12 [1,1,1,1,1,1,0,1,1]) (o := .tmp 61) (by kernel_rfl) (by kernel_rfl) (by kernel_rfl) h28 ?_
    refine at_skip (by kernel_rfl) ?_
    refine at_round_normal ?_
    exact at_join_mk [(0, .int .i64 (wr ((1 : Int) + y1_1))), (1, .int .i64 y2_2), (2, .int .i64 v), (7, .slice v0_7a (List.length v0_7x) v0_7c), (12, .int .i64 1)] ((PtrsX v0_7r v0_7a v0_7c v0_7x) :: Γ) ⟨by kernel_rfl, by kernel_rfl, by kernel_rfl, by kernel_rfl, by kernel_rfl, trivial⟩ (fun w hw => (Sat.less (.take .here .refl) hw)) ⟨1, H, rfl, rfl⟩
end Go.Proofs.Ytlnjnkbnppnbkaa
