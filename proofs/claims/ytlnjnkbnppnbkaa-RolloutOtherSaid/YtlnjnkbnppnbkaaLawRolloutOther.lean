/- The law RolloutOther: its walk. -/
import Derived.Test.YtlnjnkbnppnbkaaPdB
import Derived.Test.YtlnjnkbnppnbkaaKsA
import Derived.Test.YtlnjnkbnppnbkaaRoA
namespace Go.Proofs.Ytlnjnkbnppnbkaa
open Go Go.RowKit
set_option linter.unusedVariables false
set_option linter.unusedSimpArgs false
def rolloutOtherS_j3 (v0_7 : Int) (r0 : Int → CacheS → Option (Bool)) (e3_90 : Bool) (e3_b1_0 : CacheS) : Option (Bool) :=
  chk (inR (v0_7 + (1 : Int))) (r0 (v0_7 + (1 : Int)) e3_b1_0)
def rolloutOtherS_k2 (l6_0 : List Int) (y6_2 : Int) (y5_0 : DealS) (v0_7 : Int) (l11_2 : List Int) (r0 : Int → CacheS → Option (Bool)) (e2_57 : Int) (e2_b1_0 : CacheS) (e2_58 : Bool) : Option (Bool) :=
  (bif decide ((nth l6_0 y6_2) = (2 : Int)) then (rnextS (⟨y5_0.kind, y5_0.line, y5_0.id, nth l6_0 y6_2, y5_0.state, 3, y5_0.data, 3, y5_0.told⟩ : DealS) (2 : Int) e2_b1_0 (⟨v0_7, 0, 0, 0, 1, 0, 0, false, l11_2⟩ : PktS)).bind fun y27_3 => (bif y27_3.2.1 then some false else rolloutOtherS_j3 v0_7 r0 true y27_3.2.2) else (bif decide ((nth l6_0 y6_2) = (3 : Int)) then (rnextS (⟨y5_0.kind, y5_0.line, y5_0.id, nth l6_0 y6_2, y5_0.state, 3, y5_0.data, 3, y5_0.told⟩ : DealS) (2 : Int) e2_b1_0 (⟨v0_7, 0, 0, 0, 1, 0, 0, false, l11_2⟩ : PktS)).bind fun y27_3 => (bif y27_3.2.1 then some false else rolloutOtherS_j3 v0_7 r0 true y27_3.2.2) else (bif decide ((nth l6_0 y6_2) = (0 : Int)) then (rnextS (⟨y5_0.kind, y5_0.line, y5_0.id, nth l6_0 y6_2, y5_0.state, 3, y5_0.data, 3, y5_0.told⟩ : DealS) (2 : Int) e2_b1_0 (⟨v0_7, 0, 0, 0, 1, 0, 0, false, l11_2⟩ : PktS)).bind fun y27_3 => (bif y27_3.2.1 then some false else rolloutOtherS_j3 v0_7 r0 true y27_3.2.2) else (bif decide ((nth l6_0 y6_2) = (7 : Int)) then (rnextS (⟨y5_0.kind, y5_0.line, y5_0.id, nth l6_0 y6_2, y5_0.state, 3, y5_0.data, 3, y5_0.told⟩ : DealS) (2 : Int) e2_b1_0 (⟨v0_7, 0, 0, 0, 1, 0, 0, false, l11_2⟩ : PktS)).bind fun y27_3 => (bif y27_3.2.1 then some false else rolloutOtherS_j3 v0_7 r0 (decide ((nth l6_0 y6_2) = (7 : Int))) y27_3.2.2) else rolloutOtherS_j3 v0_7 r0 (decide ((nth l6_0 y6_2) = (7 : Int))) e2_b1_0))))
def rolloutOtherS_l2 (l17_0 : List Int) (y5_0 : DealS) (l6_0 : List Int) (y6_2 : Int) (v0_7 : Int) (l11_2 : List Int) (k2 : Int → CacheS → Bool → Option (Bool)) : Nat → Int → CacheS → Option (Bool)
  | 0 => fun _ _ => none
  | m + 1 => fun v2_57 v2_b1_0 => (bif decide (v2_57 < (((List.length l17_0) : Nat) : Int)) then chk (0 ≤ v2_57 ∧ v2_57 < ((l17_0.length : Nat) : Int)) ((rnextS (⟨nth l17_0 v2_57, y5_0.line, y5_0.id, nth l6_0 y6_2, y5_0.state, 3, y5_0.data, 3, y5_0.told⟩ : DealS) (2 : Int) v2_b1_0 (⟨v0_7, 0, 0, 0, 1, 0, 0, false, l11_2⟩ : PktS)).bind fun y22_3 => (bif y22_3.2.1 then some false else chk (inR (v2_57 + (1 : Int))) ((rolloutOtherS_l2 l17_0 y5_0 l6_0 y6_2 v0_7 l11_2 k2 m) (v2_57 + (1 : Int)) y22_3.2.2))) else k2 v2_57 v2_b1_0 (decide (v2_57 < (((List.length l17_0) : Nat) : Int))))
def rolloutOtherS_k0 (v : Int) (e0_7 : Int) (e0_b1_0 : CacheS) : Option (Bool) :=
  (findS e0_b1_0 (1 : Int)).bind fun y30_1 => (bif y30_1.2 then (bif decide (y30_1.1.fwd = (0 : Int)) then (bif decide (y30_1.1.back = (3 : Int)) then (ewordS y30_1.1 (0 : Int)).bind fun y31_15 => (bif decide (y31_15 = v) then letP (lenC e0_b1_0) fun y31_21 => (bif decide (y31_21 = (1 : Int)) then (wakes16S).bind fun y31_25 => some y31_25 else some false) else some false) else some false) else some false) else some false)
def rolloutOtherS_l0 (v : Int) (y5_0 : DealS) (l6_0 : List Int) (y6_2 : Int) (k0 : Int → CacheS → Option (Bool)) : Nat → Int → CacheS → Option (Bool)
  | 0 => fun _ _ => none
  | m + 1 => fun v0_7 v0_b1_0 => (bif decide (v0_7 ≤ (10 : Int)) then letP ([v] : List Int) fun l11_2 => (rnextS (⟨y5_0.kind, y5_0.line, y5_0.id, nth l6_0 y6_2, y5_0.state, 3, y5_0.data, 3, y5_0.told⟩ : DealS) (2 : Int) v0_b1_0 (⟨v0_7, 0, 0, 1, 1, 0, 0, false, l11_2⟩ : PktS)).bind fun y13_3 => (bif y13_3.2.1 then some false else letP ([0, 1, 2, 4] : List Int) fun l17_0 => rolloutOtherS_l2 l17_0 y5_0 l6_0 y6_2 v0_7 l11_2 (rolloutOtherS_k2 l6_0 y6_2 y5_0 v0_7 l11_2 (rolloutOtherS_l0 v y5_0 l6_0 y6_2 k0 m)) 64 0 y13_3.2.2) else k0 v0_7 v0_b1_0)
def rolloutOtherS (v : Int) (step : Int) : Option (Bool) :=
  letP (newC (1 : Int) (2 : Int)) fun y1_0 => letP ([v] : List Int) fun l4_2 => (enewS (1 : Int) (0 : Int) (3 : Int) false l4_2).bind fun y4_3 => (putS y1_0 y4_3).bind fun y4_4 => (dbeginS (3 : Int) (1 : Int) (0 : Int)).bind fun y5_0 => letP ([1, 2, 3, 4, 5, 6, 0, 7] : List Int) fun l6_0 => (withinS step (8 : Int)).bind fun y6_2 => chk (0 ≤ y6_2 ∧ y6_2 < ((l6_0.length : Nat) : Int)) (rolloutOtherS_l0 v y5_0 l6_0 y6_2 (rolloutOtherS_k0 v) 64 0 y4_4.2)
noncomputable def C10 (p : List Nat) : Code := codeAt (bodyOf Try.f10) p
set_option maxRecDepth 100000 in
set_option maxHeartbeats 8000000 in
theorem RolloutOtherF_tr {W0 : World} {Γ : List Asn} (v : Int) (step : Int)  (y : Bool) (H : rolloutOtherS v step = some y) : Tr Try.prog 10 #[.int .i64 v, .int .i64 step] W0 (Γ) (fun r Δ => r = .bool y ∧ Δ = Γ) := by
  unfold rolloutOtherS at H
  refine Tr.enter (fn := Try.f10) (c := C10 []) (args := [.int .i64 v, .int .i64 step]) 131 Try.func10 (by kernel_rfl) (by kernel_rfl) ?_
  refine At.env [(0, .int .i64 v), (1, .int .i64 step)] ⟨by kernel_rfl, by kernel_rfl, trivial⟩ ?_
  refine at_seq (x := C10 [0]) (y := C10 [1]) (by kernel_rfl) ?_
  refine at_region (id := 0) 1 (by kernel_rfl) (by kernel_rfl) ?_
  refine s_pure 4 (.bool false) (by kernel_rfl) (by kernel_rfl) (fun _ => by kernel_rfl) ?_
  refine ops_end ?_
  refine At.env [(0, .int .i64 v), (1, .int .i64 step), (4, .bool false)] ⟨by kernel_rfl, by kernel_rfl, by kernel_rfl, trivial⟩ ?_
  refine at_then_normal ?_
  refine at_seq (x := C10 [1, 0]) (y := C10 [1, 1]) (by kernel_rfl) ?_
  refine at_region (id := 1) 2 (by kernel_rfl) (by kernel_rfl) ?_
  obtain ⟨y1_0, hy1_0, H⟩ := letE H
  refine s_call 20 32 #[.int .i64 (1), .int .i64 (2)] (by kernel_rfl) (by kernel_rfl) (fun _ => by kernel_rfl) (NewF_tr (1 : Int) (2 : Int) y1_0 hy1_0) ?_
  rintro _ _ ⟨b1_0, rfl, rfl⟩
  refine s_pure 5 (.pointer (some ⟨b1_0, 0, none⟩)) (by kernel_rfl) (by kernel_rfl) (fun _ => by kernel_rfl) ?_
  refine ops_end ?_
  refine At.env [(0, .int .i64 v), (1, .int .i64 step), (4, .bool false), (5, .pointer (some ⟨b1_0, 0, none⟩))] ⟨by kernel_rfl, by kernel_rfl, by kernel_rfl, by kernel_rfl, trivial⟩ ?_
  refine at_then_normal ?_
  refine at_seq (x := C10 [1, 1, 0]) (y := C10 [1, 1, 1]) (by kernel_rfl) ?_
  refine at_seq (x := C10 [1, 1, 0, 0]) (y := C10 [1, 1, 0, 1]) (by kernel_rfl) ?_
  refine at_region (id := 2) 2 (by kernel_rfl) (by kernel_rfl) ?_
  refine s_pure 21 (.pointer (some ⟨b1_0, 0, none⟩)) (by kernel_rfl) (by kernel_rfl) (fun _ => by kernel_rfl) ?_
  refine s_pure 22 (.bool false) (by kernel_rfl) (by kernel_rfl) (fun _ => by kernel_rfl) ?_
  refine ops_end ?_
  refine At.env [(0, .int .i64 v), (1, .int .i64 step), (4, .bool false), (5, .pointer (some ⟨b1_0, 0, none⟩)), (22, .bool false)] ⟨by kernel_rfl, by kernel_rfl, by kernel_rfl, by kernel_rfl, by kernel_rfl, trivial⟩ ?_
  refine at_then_normal ?_
  refine at_false (t := false) (x := C10 [1, 1, 0, 1, 0]) (y := C10 [1, 1, 0, 1, 1]) (o := .tmp 22) (by kernel_rfl) (by kernel_rfl) (by kernel_rfl) rfl ?_
  refine at_skip (by kernel_rfl) ?_
  refine at_then_normal ?_
  refine at_seq (x := C10 [1, 1, 1, 0]) (y := C10 [1, 1, 1, 1]) (by kernel_rfl) ?_
  refine at_region (id := 4) 5 (by kernel_rfl) (by kernel_rfl) ?_
  refine s_pure 23 (.pointer (some ⟨b1_0, 0, none⟩)) (by kernel_rfl) (by kernel_rfl) (fun _ => by kernel_rfl) ?_
  refine s_pure 24 (.int .i64 v) (by kernel_rfl) (by kernel_rfl) (fun _ => by kernel_rfl) ?_
  obtain ⟨l4_2, hl4_2, H⟩ := letE H
  refine s_step 25 (by kernel_rfl) (by kernel_rfl) (st_new_ints (T := 3) (xs := l4_2) 1 hl4_2 (fun _ => by kernel_rfl) (by kernel_rfl)) ?_
  rintro _ _ ⟨b4_2, rfl, rfl⟩
  obtain ⟨y4_3, hy4_3, H⟩ := bindE H
  refine s_call 26 15 #[.int .i64 (1), .int .i64 (0), .int .i64 (3), .bool false, .slice (some ⟨b4_2, 0, none⟩) (List.length l4_2) 1] (by kernel_rfl) (by kernel_rfl) (fun _ => by kernel_rfl) (ENewF_tr (1 : Int) (0 : Int) (3 : Int) false (some ⟨b4_2, 0, none⟩) 1 l4_2 (RowsA.reads (k := 1) .here) y4_3 hy4_3) ?_
  rintro _ _ ⟨a4_3_00, c4_3_00, rfl, rfl⟩
  obtain ⟨y4_4, hy4_4, H⟩ := bindE H
  refine s_call 27 14 #[.pointer (some ⟨b1_0, 0, none⟩), .agg #[.int .i64 y4_3.fwd, .int .i64 y4_3.back, .int .i64 y4_3.line, .int .i64 y4_3.used, .bool y4_3.dirty, .slice a4_3_00 (List.length y4_3.data) c4_3_00]] (by kernel_rfl) (by kernel_rfl) (fun _ => by kernel_rfl) (Tr.conv (Γ' := (CacheA b1_0 y1_0) :: (IntsA a4_3_00 c4_3_00 y4_3.data) :: (IntsA (some ⟨b4_2, 0, none⟩) 1 l4_2) :: Γ) (fun w hw => (Sat.less (.take (.there (.there .here)) (.take .here (.take .here .refl))) hw)) (PutF_tr b1_0 y1_0 a4_3_00 c4_3_00 y4_3 (RowsA.reads (k := 1) .here) y4_4 hy4_4)) ?_
  rintro _ _ ⟨rfl, rfl⟩
  refine ops_end ?_
  refine At.env [(0, .int .i64 v), (1, .int .i64 step), (4, .bool false), (5, .pointer (some ⟨b1_0, 0, none⟩)), (22, .bool false)] ⟨by kernel_rfl, by kernel_rfl, by kernel_rfl, by kernel_rfl, by kernel_rfl, trivial⟩ ?_
  refine at_then_normal ?_
  refine at_seq (x := C10 [1, 1, 1, 1, 0]) (y := C10 [1, 1, 1, 1, 1]) (by kernel_rfl) ?_
  refine at_region (id := 5) 3 (by kernel_rfl) (by kernel_rfl) ?_
  obtain ⟨y5_0, hy5_0, H⟩ := bindE H
  refine s_call 28 17 #[.int .i64 (3), .int .i64 (1), .int .i64 (0)] (by kernel_rfl) (by kernel_rfl) (fun _ => by kernel_rfl) (DBeginF_tr (3 : Int) (1 : Int) (0 : Int) y5_0 hy5_0) ?_
  rintro _ _ ⟨a5_0_00, c5_0_00, rfl, rfl⟩
  refine s_step 6 (by kernel_rfl) (by kernel_rfl) (st_new (T := 35) (cells := #[.int .i64 (0), .int .i64 (0), .int .i64 (0), .int .i64 (0), .int .i64 (0), .int .i64 (0), .slice none 0 0, .int .i64 (0), .int .i64 (0)]) (fun a => .pointer (some a)) (fun _ => by kernel_rfl)) ?_
  rintro _ _ ⟨b5_1, rfl, rfl⟩
  refine s_do (by kernel_rfl) (by kernel_rfl) (st_store (off := 0) (vs := [.int .i64 y5_0.kind, .int .i64 y5_0.line, .int .i64 y5_0.id, .int .i64 y5_0.step, .int .i64 y5_0.state, .int .i64 y5_0.head, .slice a5_0_00 (List.length y5_0.data) c5_0_00, .int .i64 y5_0.next, .int .i64 y5_0.told]) (c' := #[.int .i64 y5_0.kind, .int .i64 y5_0.line, .int .i64 y5_0.id, .int .i64 y5_0.step, .int .i64 y5_0.state, .int .i64 y5_0.head, .slice a5_0_00 (List.length y5_0.data) c5_0_00, .int .i64 y5_0.next, .int .i64 y5_0.told]) (fun _ => by kernel_rfl) .here (by kernel_rfl) (by kernel_rfl) (by kernel_rfl)) ?_
  rintro _ _ ⟨rfl, rfl⟩
  refine ops_end ?_
  refine At.env [(0, .int .i64 v), (1, .int .i64 step), (4, .bool false), (5, .pointer (some ⟨b1_0, 0, none⟩)), (6, .pointer (some ⟨b5_1, 0, none⟩)), (22, .bool false)] ⟨by kernel_rfl, by kernel_rfl, by kernel_rfl, by kernel_rfl, by kernel_rfl, by kernel_rfl, trivial⟩ ?_
  refine at_then_normal ?_
  refine at_seq (x := C10 [1, 1, 1, 1, 1, 0]) (y := C10 [1, 1, 1, 1, 1, 1]) (by kernel_rfl) ?_
  refine at_region (id := 6) 7 (by kernel_rfl) (by kernel_rfl) ?_
  obtain ⟨l6_0, hl6_0, H⟩ := letE H
  refine s_step 29 (by kernel_rfl) (by kernel_rfl) (st_new_ints (T := 3) (xs := l6_0) 8 hl6_0 (fun _ => by kernel_rfl) (by kernel_rfl)) ?_
  rintro _ _ ⟨b6_0, rfl, rfl⟩
  refine s_pure 30 (.int .i64 step) (by kernel_rfl) (by kernel_rfl) (fun _ => by kernel_rfl) ?_
  obtain ⟨y6_2, hy6_2, H⟩ := bindE H
  refine s_quiet 31 (.int .i64 y6_2) 22 #[.int .i64 step, .int .i64 (8)] (by kernel_rfl) (by kernel_rfl) (fun _ => by kernel_rfl) (WithinF_tr step (8 : Int) y6_2 hy6_2) ?_
  obtain ⟨hc6_3_0, H⟩ := chkE H
  refine rows_at .here (by have := hc6_3_0; simp only [ints_length]; omega) ?_
  intro bb1 oo1 ha1
  refine s_pure 32 (.pointer (some ⟨bb1, oo1 + ((y6_2).toNat * 1 + 0), none⟩)) (by kernel_rfl) (by kernel_rfl) (index_at (t := 30) (sz := 1) (E := 3) (a := some ⟨b6_0, 0, none⟩) (m := (List.length l6_0)) (c := 8) (b := bb1) (off := oo1) (i := (y6_2).toNat) (tinfo 3) (fun _ => by kernel_rfl) (by kernel_rfl) (by kernel_rfl) (by kernel_rfl) ha1 (idx_cast hc6_3_0) (idx_nat hc6_3_0) rfl) ?_
  refine s_load 33 (.int .i64 (nth l6_0 y6_2)) (by kernel_rfl) (by kernel_rfl) (load1_at (off := oo1 + ((y6_2).toNat * 1 + 0)) (v := .int .i64 (nth l6_0 y6_2)) (fun _ => by kernel_rfl) rfl (reads_cell (k := 1) (RowsA.reads (k := 1) .here) (ints_rows _) ha1 (nth_row hc6_3_0) (show [(.int .i64 (nth l6_0 y6_2) : Value)][0]? = some _ from rfl))) ?_
  refine s_pure 34 (.pointer (some ⟨b5_1, 3, none⟩)) (by kernel_rfl) (by kernel_rfl) (fun _ => by kernel_rfl) ?_
  refine s_do (by kernel_rfl) (by kernel_rfl) (st_store (off := 3) (vs := [.int .i64 (nth l6_0 y6_2)]) (c' := #[.int .i64 y5_0.kind, .int .i64 y5_0.line, .int .i64 y5_0.id, .int .i64 (nth l6_0 y6_2), .int .i64 y5_0.state, .int .i64 y5_0.head, .slice a5_0_00 (List.length y5_0.data) c5_0_00, .int .i64 y5_0.next, .int .i64 y5_0.told]) (fun _ => by kernel_rfl) (.there .here) (by kernel_rfl) (by kernel_rfl) (by kernel_rfl)) ?_
  rintro _ _ ⟨rfl, rfl⟩
  refine ops_end ?_
  refine At.env [(0, .int .i64 v), (1, .int .i64 step), (4, .bool false), (5, .pointer (some ⟨b1_0, 0, none⟩)), (6, .pointer (some ⟨b5_1, 0, none⟩)), (22, .bool false)] ⟨by kernel_rfl, by kernel_rfl, by kernel_rfl, by kernel_rfl, by kernel_rfl, by kernel_rfl, trivial⟩ ?_
  refine at_then_normal ?_
  refine at_seq (x := C10 [1, 1, 1, 1, 1, 1, 0]) (y := C10 [1, 1, 1, 1, 1, 1, 1]) (by kernel_rfl) ?_
  refine at_region (id := 7) 4 (by kernel_rfl) (by kernel_rfl) ?_
  refine s_pure 35 (.pointer (some ⟨b5_1, 7, none⟩)) (by kernel_rfl) (by kernel_rfl) (fun _ => by kernel_rfl) ?_
  refine s_do (by kernel_rfl) (by kernel_rfl) (st_store (off := 7) (vs := [.int .i64 (3)]) (c' := #[.int .i64 y5_0.kind, .int .i64 y5_0.line, .int .i64 y5_0.id, .int .i64 (nth l6_0 y6_2), .int .i64 y5_0.state, .int .i64 y5_0.head, .slice a5_0_00 (List.length y5_0.data) c5_0_00, .int .i64 (3), .int .i64 y5_0.told]) (fun _ => by kernel_rfl) .here (by kernel_rfl) (by kernel_rfl) (by kernel_rfl)) ?_
  rintro _ _ ⟨rfl, rfl⟩
  refine s_pure 36 (.pointer (some ⟨b5_1, 5, none⟩)) (by kernel_rfl) (by kernel_rfl) (fun _ => by kernel_rfl) ?_
  refine s_do (by kernel_rfl) (by kernel_rfl) (st_store (off := 5) (vs := [.int .i64 (3)]) (c' := #[.int .i64 y5_0.kind, .int .i64 y5_0.line, .int .i64 y5_0.id, .int .i64 (nth l6_0 y6_2), .int .i64 y5_0.state, .int .i64 (3), .slice a5_0_00 (List.length y5_0.data) c5_0_00, .int .i64 (3), .int .i64 y5_0.told]) (fun _ => by kernel_rfl) .here (by kernel_rfl) (by kernel_rfl) (by kernel_rfl)) ?_
  rintro _ _ ⟨rfl, rfl⟩
  refine ops_end ?_
  refine At.env [(0, .int .i64 v), (1, .int .i64 step), (4, .bool false), (5, .pointer (some ⟨b1_0, 0, none⟩)), (6, .pointer (some ⟨b5_1, 0, none⟩)), (22, .bool false)] ⟨by kernel_rfl, by kernel_rfl, by kernel_rfl, by kernel_rfl, by kernel_rfl, by kernel_rfl, trivial⟩ ?_
  refine at_then_normal ?_
  refine at_seq (x := C10 [1, 1, 1, 1, 1, 1, 1, 0]) (y := C10 [1, 1, 1, 1, 1, 1, 1, 1]) (by kernel_rfl) ?_
  refine at_seq (x := C10 [1, 1, 1, 1, 1, 1, 1, 0, 0]) (y := C10 [1, 1, 1, 1, 1, 1, 1, 0, 1]) (by kernel_rfl) ?_
  refine at_region (id := 8) 1 (by kernel_rfl) (by kernel_rfl) ?_
  refine s_pure 7 (.int .i64 (0)) (by kernel_rfl) (by kernel_rfl) (fun _ => by kernel_rfl) ?_
  refine ops_end ?_
  refine At.env [(0, .int .i64 v), (1, .int .i64 step), (4, .bool false), (5, .pointer (some ⟨b1_0, 0, none⟩)), (6, .pointer (some ⟨b5_1, 0, none⟩)), (7, .int .i64 (0)), (22, .bool false)] ⟨by kernel_rfl, by kernel_rfl, by kernel_rfl, by kernel_rfl, by kernel_rfl, by kernel_rfl, by kernel_rfl, trivial⟩ ?_
  refine at_then_normal ?_
  refine at_block (i := 0) (x := C10 [1, 1, 1, 1, 1, 1, 1, 0, 1, 0]) (by kernel_rfl) ?_
  refine At.conv (Γ' := (Asn.own b5_1 (.cells #[.int .i64 y5_0.kind, .int .i64 y5_0.line, .int .i64 y5_0.id, .int .i64 (nth l6_0 y6_2), .int .i64 y5_0.state, .int .i64 (3), .slice a5_0_00 (List.length y5_0.data) c5_0_00, .int .i64 (3), .int .i64 y5_0.told] 35 (0, 0))) :: (ImmI a5_0_00 y5_0.data) :: (CacheA b1_0 y4_4.2) :: Γ) (fun w hw => (Sat.less (.take .here (.take (.there .here) (.take (.there .here) (.drop .here (.drop .here (.drop .here .refl)))))) hw)) ?_
  refine at_loopR (x := C10 [1, 1, 1, 1, 1, 1, 1, 0, 1, 0, 0]) (fun mm ff ΔΔ => ∃ (fuel : Nat) (v0_7 : Int) (v0_b1_0 : CacheS), rolloutOtherS_l0 v y5_0 l6_0 y6_2 (rolloutOtherS_k0 v) fuel v0_7 v0_b1_0 = some y ∧ fuel = mm ∧ ff = [(0, .int .i64 v), (4, .bool false), (5, .pointer (some ⟨b1_0, 0, none⟩)), (6, .pointer (some ⟨b5_1, 0, none⟩)), (7, .int .i64 v0_7)] ∧ (Asn.own b5_1 (.cells #[.int .i64 y5_0.kind, .int .i64 y5_0.line, .int .i64 y5_0.id, .int .i64 (nth l6_0 y6_2), .int .i64 y5_0.state, .int .i64 (3), .slice a5_0_00 (List.length y5_0.data) c5_0_00, .int .i64 (3), .int .i64 y5_0.told] 35 (0, 0))) :: (ImmI a5_0_00 y5_0.data) :: (CacheA b1_0 v0_b1_0) :: Γ = ΔΔ) (64) (by kernel_rfl) [(0, .int .i64 v), (4, .bool false), (5, .pointer (some ⟨b1_0, 0, none⟩)), (6, .pointer (some ⟨b5_1, 0, none⟩)), (7, .int .i64 0)] ⟨by kernel_rfl, by kernel_rfl, by kernel_rfl, by kernel_rfl, by kernel_rfl, trivial⟩ ⟨64, 0, y4_4.2, H, rfl, rfl, rfl⟩ ?_
  rintro _ _ _ ⟨fuel1, v0_7, v0_b1_0, H, rfl, rfl, rfl⟩
  rcases fuel1 with _ | fuel1
  · exact (noneE H).elim
  rw [rolloutOtherS_l0] at H
  refine at_seq (x := C10 [1, 1, 1, 1, 1, 1, 1, 0, 1, 0, 0, 0]) (y := C10 [1, 1, 1, 1, 1, 1, 1, 0, 1, 0, 0, 1]) (by kernel_rfl) ?_
  refine at_seq (x := C10 [1, 1, 1, 1, 1, 1, 1, 0, 1, 0, 0, 0, 0]) (y := C10 [1, 1, 1, 1, 1, 1, 1, 0, 1, 0, 0, 0, 1]) (by kernel_rfl) ?_
  refine at_region (id := 9) 2 (by kernel_rfl) (by kernel_rfl) ?_
  refine s_pure 37 (.int .i64 v0_7) (by kernel_rfl) (by kernel_rfl) (fun _ => by kernel_rfl) ?_
  refine s_pure 38 (.bool (decide (v0_7 ≤ (10 : Int)))) (by kernel_rfl) (by kernel_rfl) (fun _ => by kernel_rfl) ?_
  refine ops_end ?_
  refine At.env [(0, .int .i64 v), (4, .bool false), (5, .pointer (some ⟨b1_0, 0, none⟩)), (6, .pointer (some ⟨b5_1, 0, none⟩)), (7, .int .i64 v0_7), (38, .bool (decide (v0_7 ≤ (10 : Int))))] ⟨by kernel_rfl, by kernel_rfl, by kernel_rfl, by kernel_rfl, by kernel_rfl, by kernel_rfl, trivial⟩ ?_
  refine at_then_normal ?_
  rcases Bool.eq_false_or_eq_true (decide (v0_7 ≤ (10 : Int))) with h1 | h1
  · replace H := bifT H h1
    refine at_true (t := decide (v0_7 ≤ (10 : Int))) (x := C10 [1, 1, 1, 1, 1, 1, 1, 0, 1, 0, 0, 0, 1, 0]) (y := C10 [1, 1, 1, 1, 1, 1, 1, 0, 1, 0, 0, 0, 1, 1]) (o := .tmp 38) (by kernel_rfl) (by kernel_rfl) (by kernel_rfl) h1 ?_
    refine at_skip (by kernel_rfl) ?_
    refine at_then_normal ?_
    refine at_seq_join (x := C10 [1, 1, 1, 1, 1, 1, 1, 0, 1, 0, 0, 1, 0]) (y := C10 [1, 1, 1, 1, 1, 1, 1, 0, 1, 0, 0, 1, 1]) (fun ff ΔΔ => ∃ (e3_90 : Bool) (e3_b1_0 : CacheS) (b11_4 : Nat) (y13_3 : DealS × Bool × CacheS) (b17_0 : Nat) (l17_0 : List Int) (e2_57 : Int) (e2_58 : Bool) (b11_2 : Nat) (l11_2 : List Int), rolloutOtherS_j3 v0_7 (rolloutOtherS_l0 v y5_0 l6_0 y6_2 (rolloutOtherS_k0 v) fuel1) e3_90 e3_b1_0 = some y ∧ ff = [(0, .int .i64 v), (4, .bool false), (5, .pointer (some ⟨b1_0, 0, none⟩)), (6, .pointer (some ⟨b5_1, 0, none⟩)), (7, .int .i64 v0_7), (8, .pointer (some ⟨b11_4, 0, none⟩)), (10, .bool y13_3.2.1), (38, .bool (decide (v0_7 ≤ (10 : Int)))), (53, .bool y13_3.2.1), (55, .slice (some ⟨b17_0, 0, none⟩) (List.length l17_0) 4), (56, .int .i64 (((List.length l17_0) : Nat) : Int)), (57, .int .i64 e2_57), (58, .bool e2_58), (90, .bool e3_90)] ∧ (IntsA (some ⟨b17_0, 0, none⟩) 4 l17_0) :: (Asn.own b11_4 (.cells #[.int .i64 v0_7, .int .i64 (0), .int .i64 (0), .int .i64 (0), .int .i64 (1), .int .i64 (0), .int .i64 (0), .bool false, .slice (some ⟨b11_2, 0, none⟩) (List.length l11_2) 1] 40 (0, 0))) :: (IntsA (some ⟨b11_2, 0, none⟩) 1 l11_2) :: (Asn.own b5_1 (.cells #[.int .i64 y5_0.kind, .int .i64 y5_0.line, .int .i64 y5_0.id, .int .i64 (nth l6_0 y6_2), .int .i64 y5_0.state, .int .i64 (3), .slice a5_0_00 (List.length y5_0.data) c5_0_00, .int .i64 (3), .int .i64 y5_0.told] 35 (0, 0))) :: (ImmI a5_0_00 y5_0.data) :: (CacheA b1_0 e3_b1_0) :: Γ = ΔΔ) (by kernel_rfl) ?_ ?_
    · rintro _ _ ⟨e3_90, e3_b1_0, b11_4, y13_3, b17_0, l17_0, e2_57, e2_58, b11_2, l11_2, H, rfl, rfl⟩
      rw [rolloutOtherS_j3] at H
      refine at_region (id := 10) 3 (by kernel_rfl) (by kernel_rfl) ?_
      refine s_pure 39 (.int .i64 v0_7) (by kernel_rfl) (by kernel_rfl) (fun _ => by kernel_rfl) ?_
      obtain ⟨hc10_1_0, H⟩ := chkE H
      refine s_pure 40 (.int .i64 (v0_7 + (1 : Int))) (by kernel_rfl) (by kernel_rfl) (run_eq (v := .int .i64 (IntKind.i64.wrap (v0_7 + (1 : Int)))) (fun _ => by kernel_rfl) (by rw [inR.wrap hc10_1_0])) ?_
      refine s_pure 7 (.int .i64 (v0_7 + (1 : Int))) (by kernel_rfl) (by kernel_rfl) (fun _ => by kernel_rfl) ?_
      refine ops_end ?_
      refine At.env [(0, .int .i64 v), (4, .bool false), (5, .pointer (some ⟨b1_0, 0, none⟩)), (6, .pointer (some ⟨b5_1, 0, none⟩)), (7, .int .i64 (v0_7 + (1 : Int))), (8, .pointer (some ⟨b11_4, 0, none⟩)), (10, .bool y13_3.2.1), (38, .bool (decide (v0_7 ≤ (10 : Int)))), (53, .bool y13_3.2.1), (55, .slice (some ⟨b17_0, 0, none⟩) (List.length l17_0) 4), (56, .int .i64 (((List.length l17_0) : Nat) : Int)), (57, .int .i64 e2_57), (58, .bool e2_58), (90, .bool e3_90)] ⟨by kernel_rfl, by kernel_rfl, by kernel_rfl, by kernel_rfl, by kernel_rfl, by kernel_rfl, by kernel_rfl, by kernel_rfl, by kernel_rfl, by kernel_rfl, by kernel_rfl, by kernel_rfl, by kernel_rfl, by kernel_rfl, trivial⟩ ?_
      refine at_round_normal ?_
      exact at_roundR fuel1 [(0, .int .i64 v), (4, .bool false), (5, .pointer (some ⟨b1_0, 0, none⟩)), (6, .pointer (some ⟨b5_1, 0, none⟩)), (7, .int .i64 (v0_7 + (1 : Int)))] ((Asn.own b5_1 (.cells #[.int .i64 y5_0.kind, .int .i64 y5_0.line, .int .i64 y5_0.id, .int .i64 (nth l6_0 y6_2), .int .i64 y5_0.state, .int .i64 (3), .slice a5_0_00 (List.length y5_0.data) c5_0_00, .int .i64 (3), .int .i64 y5_0.told] 35 (0, 0))) :: (ImmI a5_0_00 y5_0.data) :: (CacheA b1_0 e3_b1_0) :: Γ) (Nat.lt_succ_self _) ⟨by kernel_rfl, by kernel_rfl, by kernel_rfl, by kernel_rfl, by kernel_rfl, trivial⟩ (fun w hw => (Sat.less (.take (.there (.there (.there .here))) (.take (.there (.there (.there .here))) (.take (.there (.there (.there .here))) (.drop .here (.drop .here (.drop .here .refl)))))) hw)) ⟨fuel1, v0_7 + (1 : Int), e3_b1_0, H, rfl, rfl, rfl⟩
    · refine at_block (i := 1) (x := C10 [1, 1, 1, 1, 1, 1, 1, 0, 1, 0, 0, 1, 0, 0]) (by kernel_rfl) ?_
      refine at_seq (x := C10 [1, 1, 1, 1, 1, 1, 1, 0, 1, 0, 0, 1, 0, 0, 0]) (y := C10 [1, 1, 1, 1, 1, 1, 1, 0, 1, 0, 0, 1, 0, 0, 1]) (by kernel_rfl) ?_
      refine at_region (id := 11) 6 (by kernel_rfl) (by kernel_rfl) ?_
      refine s_pure 41 (.int .i64 v0_7) (by kernel_rfl) (by kernel_rfl) (fun _ => by kernel_rfl) ?_
      refine s_pure 42 (.int .i64 v) (by kernel_rfl) (by kernel_rfl) (fun _ => by kernel_rfl) ?_
      obtain ⟨l11_2, hl11_2, H⟩ := letE H
      refine s_step 43 (by kernel_rfl) (by kernel_rfl) (st_new_ints (T := 3) (xs := l11_2) 1 hl11_2 (fun _ => by kernel_rfl) (by kernel_rfl)) ?_
      rintro _ _ ⟨b11_2, rfl, rfl⟩
      refine s_pure 44 (.agg #[.int .i64 v0_7, .int .i64 (0), .int .i64 (0), .int .i64 (0), .int .i64 (1), .int .i64 (0), .int .i64 (0), .bool false, .slice (some ⟨b11_2, 0, none⟩) (List.length l11_2) 1]) (by kernel_rfl) (by kernel_rfl) (fun _ => by kernel_rfl) ?_
      refine s_step 8 (by kernel_rfl) (by kernel_rfl) (st_new (T := 40) (cells := #[.int .i64 (0), .int .i64 (0), .int .i64 (0), .int .i64 (0), .int .i64 (0), .int .i64 (0), .int .i64 (0), .bool false, .slice none 0 0]) (fun a => .pointer (some a)) (fun _ => by kernel_rfl)) ?_
      rintro _ _ ⟨b11_4, rfl, rfl⟩
      refine s_do (by kernel_rfl) (by kernel_rfl) (st_store (off := 0) (vs := [.int .i64 v0_7, .int .i64 (0), .int .i64 (0), .int .i64 (0), .int .i64 (1), .int .i64 (0), .int .i64 (0), .bool false, .slice (some ⟨b11_2, 0, none⟩) (List.length l11_2) 1]) (c' := #[.int .i64 v0_7, .int .i64 (0), .int .i64 (0), .int .i64 (0), .int .i64 (1), .int .i64 (0), .int .i64 (0), .bool false, .slice (some ⟨b11_2, 0, none⟩) (List.length l11_2) 1]) (fun _ => by kernel_rfl) .here (by kernel_rfl) (by kernel_rfl) (by kernel_rfl)) ?_
      rintro _ _ ⟨rfl, rfl⟩
      refine ops_end ?_
      refine At.env [(0, .int .i64 v), (4, .bool false), (5, .pointer (some ⟨b1_0, 0, none⟩)), (6, .pointer (some ⟨b5_1, 0, none⟩)), (7, .int .i64 v0_7), (8, .pointer (some ⟨b11_4, 0, none⟩)), (38, .bool (decide (v0_7 ≤ (10 : Int))))] ⟨by kernel_rfl, by kernel_rfl, by kernel_rfl, by kernel_rfl, by kernel_rfl, by kernel_rfl, by kernel_rfl, trivial⟩ ?_
      refine at_then_normal ?_
      refine at_seq (x := C10 [1, 1, 1, 1, 1, 1, 1, 0, 1, 0, 0, 1, 0, 0, 1, 0]) (y := C10 [1, 1, 1, 1, 1, 1, 1, 0, 1, 0, 0, 1, 0, 0, 1, 1]) (by kernel_rfl) ?_
      refine at_region (id := 12) 2 (by kernel_rfl) (by kernel_rfl) ?_
      refine s_pure 45 (.pointer (some ⟨b11_4, 3, none⟩)) (by kernel_rfl) (by kernel_rfl) (fun _ => by kernel_rfl) ?_
      refine s_do (by kernel_rfl) (by kernel_rfl) (st_store (off := 3) (vs := [.int .i64 (1)]) (c' := #[.int .i64 v0_7, .int .i64 (0), .int .i64 (0), .int .i64 (1), .int .i64 (1), .int .i64 (0), .int .i64 (0), .bool false, .slice (some ⟨b11_2, 0, none⟩) (List.length l11_2) 1]) (fun _ => by kernel_rfl) .here (by kernel_rfl) (by kernel_rfl) (by kernel_rfl)) ?_
      rintro _ _ ⟨rfl, rfl⟩
      refine ops_end ?_
      refine At.env [(0, .int .i64 v), (4, .bool false), (5, .pointer (some ⟨b1_0, 0, none⟩)), (6, .pointer (some ⟨b5_1, 0, none⟩)), (7, .int .i64 v0_7), (8, .pointer (some ⟨b11_4, 0, none⟩)), (38, .bool (decide (v0_7 ≤ (10 : Int))))] ⟨by kernel_rfl, by kernel_rfl, by kernel_rfl, by kernel_rfl, by kernel_rfl, by kernel_rfl, by kernel_rfl, trivial⟩ ?_
      refine at_then_normal ?_
      refine at_seq (x := C10 [1, 1, 1, 1, 1, 1, 1, 0, 1, 0, 0, 1, 0, 0, 1, 1, 0]) (y := C10 [1, 1, 1, 1, 1, 1, 1, 0, 1, 0, 0, 1, 0, 0, 1, 1, 1]) (by kernel_rfl) ?_
      refine at_seq (x := C10 [1, 1, 1, 1, 1, 1, 1, 0, 1, 0, 0, 1, 0, 0, 1, 1, 0, 0]) (y := C10 [1, 1, 1, 1, 1, 1, 1, 0, 1, 0, 0, 1, 0, 0, 1, 1, 0, 1]) (by kernel_rfl) ?_
      refine at_region (id := 13) 10 (by kernel_rfl) (by kernel_rfl) ?_
      refine s_load 47 (.agg #[.int .i64 y5_0.kind, .int .i64 y5_0.line, .int .i64 y5_0.id, .int .i64 (nth l6_0 y6_2), .int .i64 y5_0.state, .int .i64 (3), .slice a5_0_00 (List.length y5_0.data) c5_0_00, .int .i64 (3), .int .i64 y5_0.told]) (by kernel_rfl) (by kernel_rfl) (loadN (off := 0) (vs := [.int .i64 y5_0.kind, .int .i64 y5_0.line, .int .i64 y5_0.id, .int .i64 (nth l6_0 y6_2), .int .i64 y5_0.state, .int .i64 (3), .slice a5_0_00 (List.length y5_0.data) c5_0_00, .int .i64 (3), .int .i64 y5_0.told]) 9 (fun _ => by kernel_rfl) (holds_own (.there (.there .here))) rfl (by exact ⟨rfl, rfl, rfl, rfl, rfl, rfl, rfl, rfl, rfl, trivial⟩)) ?_
      refine s_pure 48 (.pointer (some ⟨b1_0, 0, none⟩)) (by kernel_rfl) (by kernel_rfl) (fun _ => by kernel_rfl) ?_
      refine s_load 49 (.agg #[.int .i64 v0_7, .int .i64 (0), .int .i64 (0), .int .i64 (1), .int .i64 (1), .int .i64 (0), .int .i64 (0), .bool false, .slice (some ⟨b11_2, 0, none⟩) (List.length l11_2) 1]) (by kernel_rfl) (by kernel_rfl) (loadN (off := 0) (vs := [.int .i64 v0_7, .int .i64 (0), .int .i64 (0), .int .i64 (1), .int .i64 (1), .int .i64 (0), .int .i64 (0), .bool false, .slice (some ⟨b11_2, 0, none⟩) (List.length l11_2) 1]) 9 (fun _ => by kernel_rfl) (holds_own .here) rfl (by exact ⟨rfl, rfl, rfl, rfl, rfl, rfl, rfl, rfl, rfl, trivial⟩)) ?_
      obtain ⟨y13_3, hy13_3, H⟩ := bindE H
      refine s_call 50 30 #[.agg #[.int .i64 y5_0.kind, .int .i64 y5_0.line, .int .i64 y5_0.id, .int .i64 (nth l6_0 y6_2), .int .i64 y5_0.state, .int .i64 (3), .slice a5_0_00 (List.length y5_0.data) c5_0_00, .int .i64 (3), .int .i64 y5_0.told], .int .i64 (2), .pointer (some ⟨b1_0, 0, none⟩), .agg #[.int .i64 v0_7, .int .i64 (0), .int .i64 (0), .int .i64 (1), .int .i64 (1), .int .i64 (0), .int .i64 (0), .bool false, .slice (some ⟨b11_2, 0, none⟩) (List.length l11_2) 1]] (by kernel_rfl) (by kernel_rfl) (fun _ => by kernel_rfl) (Tr.conv (Γ' := (ImmI a5_0_00 y5_0.data) :: (CacheA b1_0 v0_b1_0) :: (ImmI a5_0_00 y5_0.data) :: (Asn.own b11_4 (.cells #[.int .i64 v0_7, .int .i64 (0), .int .i64 (0), .int .i64 (1), .int .i64 (1), .int .i64 (0), .int .i64 (0), .bool false, .slice (some ⟨b11_2, 0, none⟩) (List.length l11_2) 1] 40 (0, 0))) :: (IntsA (some ⟨b11_2, 0, none⟩) 1 l11_2) :: (Asn.own b5_1 (.cells #[.int .i64 y5_0.kind, .int .i64 y5_0.line, .int .i64 y5_0.id, .int .i64 (nth l6_0 y6_2), .int .i64 y5_0.state, .int .i64 (3), .slice a5_0_00 (List.length y5_0.data) c5_0_00, .int .i64 (3), .int .i64 y5_0.told] 35 (0, 0))) :: Γ) (fun w hw => (Sat.less (.take .here (.take (.there (.there (.there (.there .here)))) (.take .here (.take .here (.take .here (.take .here .refl)))))) (ImmR.dup (Sat.less (.take (.there (.there (.there .here))) (.take .here (.take .here (.take .here (.take .here .refl))))) hw)))) (RNextF_tr a5_0_00 c5_0_00 (⟨y5_0.kind, y5_0.line, y5_0.id, nth l6_0 y6_2, y5_0.state, 3, y5_0.data, 3, y5_0.told⟩ : DealS) (2 : Int) b1_0 v0_b1_0 (some ⟨b11_2, 0, none⟩) 1 (⟨v0_7, 0, 0, 1, 1, 0, 0, false, l11_2⟩ : PktS) (RowsA.reads (k := 1) (.there (.there .here))) y13_3 hy13_3)) ?_
      rintro _ _ ⟨a13_3_00, c13_3_00, rfl, rfl⟩
      refine s_pure 46 (.tuple #[.agg #[.int .i64 y13_3.1.kind, .int .i64 y13_3.1.line, .int .i64 y13_3.1.id, .int .i64 y13_3.1.step, .int .i64 y13_3.1.state, .int .i64 y13_3.1.head, .slice a13_3_00 (List.length y13_3.1.data) c13_3_00, .int .i64 y13_3.1.next, .int .i64 y13_3.1.told], .bool y13_3.2.1]) (by kernel_rfl) (by kernel_rfl) (fun _ => by kernel_rfl) ?_
      refine s_pure 51 (.agg #[.int .i64 y13_3.1.kind, .int .i64 y13_3.1.line, .int .i64 y13_3.1.id, .int .i64 y13_3.1.step, .int .i64 y13_3.1.state, .int .i64 y13_3.1.head, .slice a13_3_00 (List.length y13_3.1.data) c13_3_00, .int .i64 y13_3.1.next, .int .i64 y13_3.1.told]) (by kernel_rfl) (by kernel_rfl) (fun _ => by kernel_rfl) ?_
      refine s_pure 52 (.bool y13_3.2.1) (by kernel_rfl) (by kernel_rfl) (fun _ => by kernel_rfl) ?_
      refine s_step 9 (by kernel_rfl) (by kernel_rfl) (st_new (T := 35) (cells := #[.int .i64 (0), .int .i64 (0), .int .i64 (0), .int .i64 (0), .int .i64 (0), .int .i64 (0), .slice none 0 0, .int .i64 (0), .int .i64 (0)]) (fun a => .pointer (some a)) (fun _ => by kernel_rfl)) ?_
      rintro _ _ ⟨b13_7, rfl, rfl⟩
      refine s_do (by kernel_rfl) (by kernel_rfl) (st_store (off := 0) (vs := [.int .i64 y13_3.1.kind, .int .i64 y13_3.1.line, .int .i64 y13_3.1.id, .int .i64 y13_3.1.step, .int .i64 y13_3.1.state, .int .i64 y13_3.1.head, .slice a13_3_00 (List.length y13_3.1.data) c13_3_00, .int .i64 y13_3.1.next, .int .i64 y13_3.1.told]) (c' := #[.int .i64 y13_3.1.kind, .int .i64 y13_3.1.line, .int .i64 y13_3.1.id, .int .i64 y13_3.1.step, .int .i64 y13_3.1.state, .int .i64 y13_3.1.head, .slice a13_3_00 (List.length y13_3.1.data) c13_3_00, .int .i64 y13_3.1.next, .int .i64 y13_3.1.told]) (fun _ => by kernel_rfl) .here (by kernel_rfl) (by kernel_rfl) (by kernel_rfl)) ?_
      rintro _ _ ⟨rfl, rfl⟩
      refine s_pure 10 (.bool y13_3.2.1) (by kernel_rfl) (by kernel_rfl) (fun _ => by kernel_rfl) ?_
      refine ops_end ?_
      refine At.env [(0, .int .i64 v), (4, .bool false), (5, .pointer (some ⟨b1_0, 0, none⟩)), (6, .pointer (some ⟨b5_1, 0, none⟩)), (7, .int .i64 v0_7), (8, .pointer (some ⟨b11_4, 0, none⟩)), (10, .bool y13_3.2.1), (38, .bool (decide (v0_7 ≤ (10 : Int))))] ⟨by kernel_rfl, by kernel_rfl, by kernel_rfl, by kernel_rfl, by kernel_rfl, by kernel_rfl, by kernel_rfl, by kernel_rfl, trivial⟩ ?_
      refine at_then_normal ?_
      refine at_seq (x := C10 [1, 1, 1, 1, 1, 1, 1, 0, 1, 0, 0, 1, 0, 0, 1, 1, 0, 1, 0]) (y := C10 [1, 1, 1, 1, 1, 1, 1, 0, 1, 0, 0, 1, 0, 0, 1, 1, 0, 1, 1]) (by kernel_rfl) ?_
      refine at_region (id := 14) 1 (by kernel_rfl) (by kernel_rfl) ?_
      refine s_pure 53 (.bool y13_3.2.1) (by kernel_rfl) (by kernel_rfl) (fun _ => by kernel_rfl) ?_
      refine ops_end ?_
      refine At.env [(0, .int .i64 v), (4, .bool false), (5, .pointer (some ⟨b1_0, 0, none⟩)), (6, .pointer (some ⟨b5_1, 0, none⟩)), (7, .int .i64 v0_7), (8, .pointer (some ⟨b11_4, 0, none⟩)), (10, .bool y13_3.2.1), (38, .bool (decide (v0_7 ≤ (10 : Int)))), (53, .bool y13_3.2.1)] ⟨by kernel_rfl, by kernel_rfl, by kernel_rfl, by kernel_rfl, by kernel_rfl, by kernel_rfl, by kernel_rfl, by kernel_rfl, by kernel_rfl, trivial⟩ ?_
      refine at_then_normal ?_
      rcases Bool.eq_false_or_eq_true (y13_3.2.1) with h2 | h2
      · replace H := bifT H h2
        refine at_true (t := y13_3.2.1) (x := C10 [1, 1, 1, 1, 1, 1, 1, 0, 1, 0, 0, 1, 0, 0, 1, 1, 0, 1, 1, 0]) (y := C10 [1, 1, 1, 1, 1, 1, 1, 0, 1, 0, 0, 1, 0, 0, 1, 1, 0, 1, 1, 1]) (o := .tmp 53) (by kernel_rfl) (by kernel_rfl) (by kernel_rfl) h2 ?_
        refine at_seq (x := C10 [1, 1, 1, 1, 1, 1, 1, 0, 1, 0, 0, 1, 0, 0, 1, 1, 0, 1, 1, 0, 0]) (y := C10 [1, 1, 1, 1, 1, 1, 1, 0, 1, 0, 0, 1, 0, 0, 1, 1, 0, 1, 1, 0, 1]) (by kernel_rfl) ?_
        refine at_region (id := 15) 1 (by kernel_rfl) (by kernel_rfl) ?_
        refine s_pure 4 (.bool false) (by kernel_rfl) (by kernel_rfl) (fun _ => by kernel_rfl) ?_
        refine ops_end ?_
        refine At.env [(0, .int .i64 v), (4, .bool false), (5, .pointer (some ⟨b1_0, 0, none⟩)), (6, .pointer (some ⟨b5_1, 0, none⟩)), (7, .int .i64 v0_7), (8, .pointer (some ⟨b11_4, 0, none⟩)), (10, .bool y13_3.2.1), (38, .bool (decide (v0_7 ≤ (10 : Int)))), (53, .bool y13_3.2.1)] ⟨by kernel_rfl, by kernel_rfl, by kernel_rfl, by kernel_rfl, by kernel_rfl, by kernel_rfl, by kernel_rfl, by kernel_rfl, by kernel_rfl, trivial⟩ ?_
        refine at_then_normal ?_
        refine at_ret (by kernel_rfl) ?_
        refine at_then_ret ?_
        refine at_in_ret ?_
        refine at_then_ret ?_
        refine at_then_ret ?_
        refine at_in_ret ?_
        refine at_then_ret ?_
        obtain rfl := someE H
        refine at_backR [.bool false] (Γ) (rs := [.tmp 4]) (by kernel_rfl) (.cons (.tmp (by kernel_rfl)) .nil) (fun w hw => (Sat.less (.drop .here (.drop .here (.drop .here (.drop .here (.drop .here (.drop .here (.drop .here .refl))))))) hw)) ?_
        exact ⟨rfl, rfl⟩
      · replace H := bifF H h2
        refine at_false (t := y13_3.2.1) (x := C10 [1, 1, 1, 1, 1, 1, 1, 0, 1, 0, 0, 1, 0, 0, 1, 1, 0, 1, 1, 0]) (y := C10 [1, 1, 1, 1, 1, 1, 1, 0, 1, 0, 0, 1, 0, 0, 1, 1, 0, 1, 1, 1]) (o := .tmp 53) (by kernel_rfl) (by kernel_rfl) (by kernel_rfl) h2 ?_
        refine at_skip (by kernel_rfl) ?_
        refine at_then_normal ?_
        refine at_seq (x := C10 [1, 1, 1, 1, 1, 1, 1, 0, 1, 0, 0, 1, 0, 0, 1, 1, 1, 0]) (y := C10 [1, 1, 1, 1, 1, 1, 1, 0, 1, 0, 0, 1, 0, 0, 1, 1, 1, 1]) (by kernel_rfl) ?_
        refine at_region (id := 16) 2 (by kernel_rfl) (by kernel_rfl) ?_
        refine s_pure 54 (.pointer (some ⟨b11_4, 3, none⟩)) (by kernel_rfl) (by kernel_rfl) (fun _ => by kernel_rfl) ?_
        refine s_do (by kernel_rfl) (by kernel_rfl) (st_store (off := 3) (vs := [.int .i64 (0)]) (c' := #[.int .i64 v0_7, .int .i64 (0), .int .i64 (0), .int .i64 (0), .int .i64 (1), .int .i64 (0), .int .i64 (0), .bool false, .slice (some ⟨b11_2, 0, none⟩) (List.length l11_2) 1]) (fun _ => by kernel_rfl) (.there (.there (.there (.there .here)))) (by kernel_rfl) (by kernel_rfl) (by kernel_rfl)) ?_
        rintro _ _ ⟨rfl, rfl⟩
        refine ops_end ?_
        refine At.env [(0, .int .i64 v), (4, .bool false), (5, .pointer (some ⟨b1_0, 0, none⟩)), (6, .pointer (some ⟨b5_1, 0, none⟩)), (7, .int .i64 v0_7), (8, .pointer (some ⟨b11_4, 0, none⟩)), (10, .bool y13_3.2.1), (38, .bool (decide (v0_7 ≤ (10 : Int)))), (53, .bool y13_3.2.1)] ⟨by kernel_rfl, by kernel_rfl, by kernel_rfl, by kernel_rfl, by kernel_rfl, by kernel_rfl, by kernel_rfl, by kernel_rfl, by kernel_rfl, trivial⟩ ?_
        refine at_then_normal ?_
        refine at_seq (x := C10 [1, 1, 1, 1, 1, 1, 1, 0, 1, 0, 0, 1, 0, 0, 1, 1, 1, 1, 0]) (y := C10 [1, 1, 1, 1, 1, 1, 1, 0, 1, 0, 0, 1, 0, 0, 1, 1, 1, 1, 1]) (by kernel_rfl) ?_
        refine at_seq (x := C10 [1, 1, 1, 1, 1, 1, 1, 0, 1, 0, 0, 1, 0, 0, 1, 1, 1, 1, 0, 0]) (y := C10 [1, 1, 1, 1, 1, 1, 1, 0, 1, 0, 0, 1, 0, 0, 1, 1, 1, 1, 0, 1]) (by kernel_rfl) ?_
        refine at_region (id := 17) 3 (by kernel_rfl) (by kernel_rfl) ?_
        obtain ⟨l17_0, hl17_0, H⟩ := letE H
        refine s_step 55 (by kernel_rfl) (by kernel_rfl) (st_new_ints (T := 3) (xs := l17_0) 4 hl17_0 (fun _ => by kernel_rfl) (by kernel_rfl)) ?_
        rintro _ _ ⟨b17_0, rfl, rfl⟩
        refine s_pure 56 (.int .i64 (((List.length l17_0) : Nat) : Int)) (by kernel_rfl) (by kernel_rfl) (fun _ => by kernel_rfl) ?_
        refine s_pure 57 (.int .i64 (0)) (by kernel_rfl) (by kernel_rfl) (fun _ => by kernel_rfl) ?_
        refine ops_end ?_
        refine At.env [(0, .int .i64 v), (4, .bool false), (5, .pointer (some ⟨b1_0, 0, none⟩)), (6, .pointer (some ⟨b5_1, 0, none⟩)), (7, .int .i64 v0_7), (8, .pointer (some ⟨b11_4, 0, none⟩)), (10, .bool y13_3.2.1), (38, .bool (decide (v0_7 ≤ (10 : Int)))), (53, .bool y13_3.2.1), (55, .slice (some ⟨b17_0, 0, none⟩) (List.length l17_0) 4), (56, .int .i64 (((List.length l17_0) : Nat) : Int)), (57, .int .i64 (0))] ⟨by kernel_rfl, by kernel_rfl, by kernel_rfl, by kernel_rfl, by kernel_rfl, by kernel_rfl, by kernel_rfl, by kernel_rfl, by kernel_rfl, by kernel_rfl, by kernel_rfl, by kernel_rfl, trivial⟩ ?_
        refine at_then_normal ?_
        refine at_block (i := 2) (x := C10 [1, 1, 1, 1, 1, 1, 1, 0, 1, 0, 0, 1, 0, 0, 1, 1, 1, 1, 0, 1, 0]) (by kernel_rfl) ?_
        refine At.conv (Γ' := (IntsA (some ⟨b17_0, 0, none⟩) 4 l17_0) :: (Asn.own b11_4 (.cells #[.int .i64 v0_7, .int .i64 (0), .int .i64 (0), .int .i64 (0), .int .i64 (1), .int .i64 (0), .int .i64 (0), .bool false, .slice (some ⟨b11_2, 0, none⟩) (List.length l11_2) 1] 40 (0, 0))) :: (CacheA b1_0 y13_3.2.2) :: (ImmI a5_0_00 y5_0.data) :: (IntsA (some ⟨b11_2, 0, none⟩) 1 l11_2) :: (Asn.own b5_1 (.cells #[.int .i64 y5_0.kind, .int .i64 y5_0.line, .int .i64 y5_0.id, .int .i64 (nth l6_0 y6_2), .int .i64 y5_0.state, .int .i64 (3), .slice a5_0_00 (List.length y5_0.data) c5_0_00, .int .i64 (3), .int .i64 y5_0.told] 35 (0, 0))) :: Γ) (fun w hw => (Sat.less (.take .here (.take .here (.take (.there (.there .here)) (.take (.there (.there .here)) (.take (.there (.there .here)) (.take (.there (.there .here)) (.drop .here (.drop .here .refl)))))))) hw)) ?_
        refine at_loopR (x := C10 [1, 1, 1, 1, 1, 1, 1, 0, 1, 0, 0, 1, 0, 0, 1, 1, 1, 1, 0, 1, 0, 0]) (fun mm ff ΔΔ => ∃ (fuel : Nat) (v2_57 : Int) (v2_b1_0 : CacheS), rolloutOtherS_l2 l17_0 y5_0 l6_0 y6_2 v0_7 l11_2 (rolloutOtherS_k2 l6_0 y6_2 y5_0 v0_7 l11_2 (rolloutOtherS_l0 v y5_0 l6_0 y6_2 (rolloutOtherS_k0 v) fuel1)) fuel v2_57 v2_b1_0 = some y ∧ fuel = mm ∧ ff = [(0, .int .i64 v), (4, .bool false), (5, .pointer (some ⟨b1_0, 0, none⟩)), (6, .pointer (some ⟨b5_1, 0, none⟩)), (7, .int .i64 v0_7), (8, .pointer (some ⟨b11_4, 0, none⟩)), (10, .bool y13_3.2.1), (38, .bool (decide (v0_7 ≤ (10 : Int)))), (53, .bool y13_3.2.1), (55, .slice (some ⟨b17_0, 0, none⟩) (List.length l17_0) 4), (56, .int .i64 (((List.length l17_0) : Nat) : Int)), (57, .int .i64 v2_57)] ∧ (IntsA (some ⟨b17_0, 0, none⟩) 4 l17_0) :: (Asn.own b11_4 (.cells #[.int .i64 v0_7, .int .i64 (0), .int .i64 (0), .int .i64 (0), .int .i64 (1), .int .i64 (0), .int .i64 (0), .bool false, .slice (some ⟨b11_2, 0, none⟩) (List.length l11_2) 1] 40 (0, 0))) :: (CacheA b1_0 v2_b1_0) :: (ImmI a5_0_00 y5_0.data) :: (IntsA (some ⟨b11_2, 0, none⟩) 1 l11_2) :: (Asn.own b5_1 (.cells #[.int .i64 y5_0.kind, .int .i64 y5_0.line, .int .i64 y5_0.id, .int .i64 (nth l6_0 y6_2), .int .i64 y5_0.state, .int .i64 (3), .slice a5_0_00 (List.length y5_0.data) c5_0_00, .int .i64 (3), .int .i64 y5_0.told] 35 (0, 0))) :: Γ = ΔΔ) (64) (by kernel_rfl) [(0, .int .i64 v), (4, .bool false), (5, .pointer (some ⟨b1_0, 0, none⟩)), (6, .pointer (some ⟨b5_1, 0, none⟩)), (7, .int .i64 v0_7), (8, .pointer (some ⟨b11_4, 0, none⟩)), (10, .bool y13_3.2.1), (38, .bool (decide (v0_7 ≤ (10 : Int)))), (53, .bool y13_3.2.1), (55, .slice (some ⟨b17_0, 0, none⟩) (List.length l17_0) 4), (56, .int .i64 (((List.length l17_0) : Nat) : Int)), (57, .int .i64 0)] ⟨by kernel_rfl, by kernel_rfl, by kernel_rfl, by kernel_rfl, by kernel_rfl, by kernel_rfl, by kernel_rfl, by kernel_rfl, by kernel_rfl, by kernel_rfl, by kernel_rfl, by kernel_rfl, trivial⟩ ⟨64, 0, y13_3.2.2, H, rfl, rfl, rfl⟩ ?_
        rintro _ _ _ ⟨fuel2, v2_57, v2_b1_0, H, rfl, rfl, rfl⟩
        rcases fuel2 with _ | fuel2
        · exact (noneE H).elim
        rw [rolloutOtherS_l2] at H
        refine at_seq (x := C10 [1, 1, 1, 1, 1, 1, 1, 0, 1, 0, 0, 1, 0, 0, 1, 1, 1, 1, 0, 1, 0, 0, 0]) (y := C10 [1, 1, 1, 1, 1, 1, 1, 0, 1, 0, 0, 1, 0, 0, 1, 1, 1, 1, 0, 1, 0, 0, 1]) (by kernel_rfl) ?_
        refine at_region (id := 18) 1 (by kernel_rfl) (by kernel_rfl) ?_
        refine s_pure 58 (.bool (decide (v2_57 < (((List.length l17_0) : Nat) : Int)))) (by kernel_rfl) (by kernel_rfl) (fun _ => by kernel_rfl) ?_
        refine ops_end ?_
        refine At.env [(0, .int .i64 v), (4, .bool false), (5, .pointer (some ⟨b1_0, 0, none⟩)), (6, .pointer (some ⟨b5_1, 0, none⟩)), (7, .int .i64 v0_7), (8, .pointer (some ⟨b11_4, 0, none⟩)), (10, .bool y13_3.2.1), (38, .bool (decide (v0_7 ≤ (10 : Int)))), (53, .bool y13_3.2.1), (55, .slice (some ⟨b17_0, 0, none⟩) (List.length l17_0) 4), (56, .int .i64 (((List.length l17_0) : Nat) : Int)), (57, .int .i64 v2_57), (58, .bool (decide (v2_57 < (((List.length l17_0) : Nat) : Int))))] ⟨by kernel_rfl, by kernel_rfl, by kernel_rfl, by kernel_rfl, by kernel_rfl, by kernel_rfl, by kernel_rfl, by kernel_rfl, by kernel_rfl, by kernel_rfl, by kernel_rfl, by kernel_rfl, by kernel_rfl, trivial⟩ ?_
        refine at_then_normal ?_
        refine at_seq (x := C10 [1, 1, 1, 1, 1, 1, 1, 0, 1, 0, 0, 1, 0, 0, 1, 1, 1, 1, 0, 1, 0, 0, 1, 0]) (y := C10 [1, 1, 1, 1, 1, 1, 1, 0, 1, 0, 0, 1, 0, 0, 1, 1, 1, 1, 0, 1, 0, 0, 1, 1]) (by kernel_rfl) ?_
        rcases Bool.eq_false_or_eq_true (decide (v2_57 < (((List.length l17_0) : Nat) : Int))) with h3 | h3
        · replace H := bifT H h3
          refine at_true (t := decide (v2_57 < (((List.length l17_0) : Nat) : Int))) (x := C10 [1, 1, 1, 1, 1, 1, 1, 0, 1, 0, 0, 1, 0, 0, 1, 1, 1, 1, 0, 1, 0, 0, 1, 0, 0]) (y := C10 [1, 1, 1, 1, 1, 1, 1, 0, 1, 0, 0, 1, 0, 0, 1, 1, 1, 1, 0, 1, 0, 0, 1, 0, 1]) (o := .tmp 58) (by kernel_rfl) (by kernel_rfl) (by kernel_rfl) h3 ?_
          refine at_skip (by kernel_rfl) ?_
          refine at_then_normal ?_
          refine at_seq (x := C10 [1, 1, 1, 1, 1, 1, 1, 0, 1, 0, 0, 1, 0, 0, 1, 1, 1, 1, 0, 1, 0, 0, 1, 1, 0]) (y := C10 [1, 1, 1, 1, 1, 1, 1, 0, 1, 0, 0, 1, 0, 0, 1, 1, 1, 1, 0, 1, 0, 0, 1, 1, 1]) (by kernel_rfl) ?_
          refine at_block (i := 3) (x := C10 [1, 1, 1, 1, 1, 1, 1, 0, 1, 0, 0, 1, 0, 0, 1, 1, 1, 1, 0, 1, 0, 0, 1, 1, 0, 0]) (by kernel_rfl) ?_
          refine at_seq (x := C10 [1, 1, 1, 1, 1, 1, 1, 0, 1, 0, 0, 1, 0, 0, 1, 1, 1, 1, 0, 1, 0, 0, 1, 1, 0, 0, 0]) (y := C10 [1, 1, 1, 1, 1, 1, 1, 0, 1, 0, 0, 1, 0, 0, 1, 1, 1, 1, 0, 1, 0, 0, 1, 1, 0, 0, 1]) (by kernel_rfl) ?_
          refine at_region (id := 19) 3 (by kernel_rfl) (by kernel_rfl) ?_
          obtain ⟨hc19_0_0, H⟩ := chkE H
          refine rows_at .here (by have := hc19_0_0; simp only [ints_length]; omega) ?_
          intro bb2 oo2 ha2
          refine s_pure 59 (.pointer (some ⟨bb2, oo2 + ((v2_57).toNat * 1 + 0), none⟩)) (by kernel_rfl) (by kernel_rfl) (index_at (t := 30) (sz := 1) (E := 3) (a := some ⟨b17_0, 0, none⟩) (m := (List.length l17_0)) (c := 4) (b := bb2) (off := oo2) (i := (v2_57).toNat) (tinfo 3) (fun _ => by kernel_rfl) (by kernel_rfl) (by kernel_rfl) (by kernel_rfl) ha2 (idx_cast hc19_0_0) (idx_nat hc19_0_0) rfl) ?_
          refine s_load 60 (.int .i64 (nth l17_0 v2_57)) (by kernel_rfl) (by kernel_rfl) (load1_at (off := oo2 + ((v2_57).toNat * 1 + 0)) (v := .int .i64 (nth l17_0 v2_57)) (fun _ => by kernel_rfl) rfl (reads_cell (k := 1) (RowsA.reads (k := 1) .here) (ints_rows _) ha2 (nth_row hc19_0_0) (show [(.int .i64 (nth l17_0 v2_57) : Value)][0]? = some _ from rfl))) ?_
          refine s_pure 12 (.int .i64 (nth l17_0 v2_57)) (by kernel_rfl) (by kernel_rfl) (fun _ => by kernel_rfl) ?_
          refine ops_end ?_
          refine At.env [(0, .int .i64 v), (4, .bool false), (5, .pointer (some ⟨b1_0, 0, none⟩)), (6, .pointer (some ⟨b5_1, 0, none⟩)), (7, .int .i64 v0_7), (8, .pointer (some ⟨b11_4, 0, none⟩)), (10, .bool y13_3.2.1), (12, .int .i64 (nth l17_0 v2_57)), (38, .bool (decide (v0_7 ≤ (10 : Int)))), (53, .bool y13_3.2.1), (55, .slice (some ⟨b17_0, 0, none⟩) (List.length l17_0) 4), (56, .int .i64 (((List.length l17_0) : Nat) : Int)), (57, .int .i64 v2_57), (58, .bool (decide (v2_57 < (((List.length l17_0) : Nat) : Int))))] ⟨by kernel_rfl, by kernel_rfl, by kernel_rfl, by kernel_rfl, by kernel_rfl, by kernel_rfl, by kernel_rfl, by kernel_rfl, by kernel_rfl, by kernel_rfl, by kernel_rfl, by kernel_rfl, by kernel_rfl, by kernel_rfl, trivial⟩ ?_
          refine at_then_normal ?_
          refine at_seq (x := C10 [1, 1, 1, 1, 1, 1, 1, 0, 1, 0, 0, 1, 0, 0, 1, 1, 1, 1, 0, 1, 0, 0, 1, 1, 0, 0, 1, 0]) (y := C10 [1, 1, 1, 1, 1, 1, 1, 0, 1, 0, 0, 1, 0, 0, 1, 1, 1, 1, 0, 1, 0, 0, 1, 1, 0, 0, 1, 1]) (by kernel_rfl) ?_
          refine at_region (id := 20) 3 (by kernel_rfl) (by kernel_rfl) ?_
          refine s_load 61 (.agg #[.int .i64 y5_0.kind, .int .i64 y5_0.line, .int .i64 y5_0.id, .int .i64 (nth l6_0 y6_2), .int .i64 y5_0.state, .int .i64 (3), .slice a5_0_00 (List.length y5_0.data) c5_0_00, .int .i64 (3), .int .i64 y5_0.told]) (by kernel_rfl) (by kernel_rfl) (loadN (off := 0) (vs := [.int .i64 y5_0.kind, .int .i64 y5_0.line, .int .i64 y5_0.id, .int .i64 (nth l6_0 y6_2), .int .i64 y5_0.state, .int .i64 (3), .slice a5_0_00 (List.length y5_0.data) c5_0_00, .int .i64 (3), .int .i64 y5_0.told]) 9 (fun _ => by kernel_rfl) (holds_own (.there (.there (.there (.there (.there .here)))))) rfl (by exact ⟨rfl, rfl, rfl, rfl, rfl, rfl, rfl, rfl, rfl, trivial⟩)) ?_
          refine s_step 13 (by kernel_rfl) (by kernel_rfl) (st_new (T := 35) (cells := #[.int .i64 (0), .int .i64 (0), .int .i64 (0), .int .i64 (0), .int .i64 (0), .int .i64 (0), .slice none 0 0, .int .i64 (0), .int .i64 (0)]) (fun a => .pointer (some a)) (fun _ => by kernel_rfl)) ?_
          rintro _ _ ⟨b20_1, rfl, rfl⟩
          refine s_do (by kernel_rfl) (by kernel_rfl) (st_store (off := 0) (vs := [.int .i64 y5_0.kind, .int .i64 y5_0.line, .int .i64 y5_0.id, .int .i64 (nth l6_0 y6_2), .int .i64 y5_0.state, .int .i64 (3), .slice a5_0_00 (List.length y5_0.data) c5_0_00, .int .i64 (3), .int .i64 y5_0.told]) (c' := #[.int .i64 y5_0.kind, .int .i64 y5_0.line, .int .i64 y5_0.id, .int .i64 (nth l6_0 y6_2), .int .i64 y5_0.state, .int .i64 (3), .slice a5_0_00 (List.length y5_0.data) c5_0_00, .int .i64 (3), .int .i64 y5_0.told]) (fun _ => by kernel_rfl) .here (by kernel_rfl) (by kernel_rfl) (by kernel_rfl)) ?_
          rintro _ _ ⟨rfl, rfl⟩
          refine ops_end ?_
          refine At.env [(0, .int .i64 v), (4, .bool false), (5, .pointer (some ⟨b1_0, 0, none⟩)), (6, .pointer (some ⟨b5_1, 0, none⟩)), (7, .int .i64 v0_7), (8, .pointer (some ⟨b11_4, 0, none⟩)), (10, .bool y13_3.2.1), (12, .int .i64 (nth l17_0 v2_57)), (13, .pointer (some ⟨b20_1, 0, none⟩)), (38, .bool (decide (v0_7 ≤ (10 : Int)))), (53, .bool y13_3.2.1), (55, .slice (some ⟨b17_0, 0, none⟩) (List.length l17_0) 4), (56, .int .i64 (((List.length l17_0) : Nat) : Int)), (57, .int .i64 v2_57), (58, .bool (decide (v2_57 < (((List.length l17_0) : Nat) : Int))))] ⟨by kernel_rfl, by kernel_rfl, by kernel_rfl, by kernel_rfl, by kernel_rfl, by kernel_rfl, by kernel_rfl, by kernel_rfl, by kernel_rfl, by kernel_rfl, by kernel_rfl, by kernel_rfl, by kernel_rfl, by kernel_rfl, by kernel_rfl, trivial⟩ ?_
          refine at_then_normal ?_
          refine at_seq (x := C10 [1, 1, 1, 1, 1, 1, 1, 0, 1, 0, 0, 1, 0, 0, 1, 1, 1, 1, 0, 1, 0, 0, 1, 1, 0, 0, 1, 1, 0]) (y := C10 [1, 1, 1, 1, 1, 1, 1, 0, 1, 0, 0, 1, 0, 0, 1, 1, 1, 1, 0, 1, 0, 0, 1, 1, 0, 0, 1, 1, 1]) (by kernel_rfl) ?_
          refine at_region (id := 21) 3 (by kernel_rfl) (by kernel_rfl) ?_
          refine s_pure 62 (.int .i64 (nth l17_0 v2_57)) (by kernel_rfl) (by kernel_rfl) (fun _ => by kernel_rfl) ?_
          refine s_pure 63 (.pointer (some ⟨b20_1, 0, none⟩)) (by kernel_rfl) (by kernel_rfl) (fun _ => by kernel_rfl) ?_
          refine s_do (by kernel_rfl) (by kernel_rfl) (st_store (off := 0) (vs := [.int .i64 (nth l17_0 v2_57)]) (c' := #[.int .i64 (nth l17_0 v2_57), .int .i64 y5_0.line, .int .i64 y5_0.id, .int .i64 (nth l6_0 y6_2), .int .i64 y5_0.state, .int .i64 (3), .slice a5_0_00 (List.length y5_0.data) c5_0_00, .int .i64 (3), .int .i64 y5_0.told]) (fun _ => by kernel_rfl) .here (by kernel_rfl) (by kernel_rfl) (by kernel_rfl)) ?_
          rintro _ _ ⟨rfl, rfl⟩
          refine ops_end ?_
          refine At.env [(0, .int .i64 v), (4, .bool false), (5, .pointer (some ⟨b1_0, 0, none⟩)), (6, .pointer (some ⟨b5_1, 0, none⟩)), (7, .int .i64 v0_7), (8, .pointer (some ⟨b11_4, 0, none⟩)), (10, .bool y13_3.2.1), (12, .int .i64 (nth l17_0 v2_57)), (13, .pointer (some ⟨b20_1, 0, none⟩)), (38, .bool (decide (v0_7 ≤ (10 : Int)))), (53, .bool y13_3.2.1), (55, .slice (some ⟨b17_0, 0, none⟩) (List.length l17_0) 4), (56, .int .i64 (((List.length l17_0) : Nat) : Int)), (57, .int .i64 v2_57), (58, .bool (decide (v2_57 < (((List.length l17_0) : Nat) : Int))))] ⟨by kernel_rfl, by kernel_rfl, by kernel_rfl, by kernel_rfl, by kernel_rfl, by kernel_rfl, by kernel_rfl, by kernel_rfl, by kernel_rfl, by kernel_rfl, by kernel_rfl, by kernel_rfl, by kernel_rfl, by kernel_rfl, by kernel_rfl, trivial⟩ ?_
          refine at_then_normal ?_
          refine at_seq (x := C10 [1, 1, 1, 1, 1, 1, 1, 0, 1, 0, 0, 1, 0, 0, 1, 1, 1, 1, 0, 1, 0, 0, 1, 1, 0, 0, 1, 1, 1, 0]) (y := C10 [1, 1, 1, 1, 1, 1, 1, 0, 1, 0, 0, 1, 0, 0, 1, 1, 1, 1, 0, 1, 0, 0, 1, 1, 0, 0, 1, 1, 1, 1]) (by kernel_rfl) ?_
          refine at_region (id := 22) 10 (by kernel_rfl) (by kernel_rfl) ?_
          refine s_load 65 (.agg #[.int .i64 (nth l17_0 v2_57), .int .i64 y5_0.line, .int .i64 y5_0.id, .int .i64 (nth l6_0 y6_2), .int .i64 y5_0.state, .int .i64 (3), .slice a5_0_00 (List.length y5_0.data) c5_0_00, .int .i64 (3), .int .i64 y5_0.told]) (by kernel_rfl) (by kernel_rfl) (loadN (off := 0) (vs := [.int .i64 (nth l17_0 v2_57), .int .i64 y5_0.line, .int .i64 y5_0.id, .int .i64 (nth l6_0 y6_2), .int .i64 y5_0.state, .int .i64 (3), .slice a5_0_00 (List.length y5_0.data) c5_0_00, .int .i64 (3), .int .i64 y5_0.told]) 9 (fun _ => by kernel_rfl) (holds_own .here) rfl (by exact ⟨rfl, rfl, rfl, rfl, rfl, rfl, rfl, rfl, rfl, trivial⟩)) ?_
          refine s_pure 66 (.pointer (some ⟨b1_0, 0, none⟩)) (by kernel_rfl) (by kernel_rfl) (fun _ => by kernel_rfl) ?_
          refine s_load 67 (.agg #[.int .i64 v0_7, .int .i64 (0), .int .i64 (0), .int .i64 (0), .int .i64 (1), .int .i64 (0), .int .i64 (0), .bool false, .slice (some ⟨b11_2, 0, none⟩) (List.length l11_2) 1]) (by kernel_rfl) (by kernel_rfl) (loadN (off := 0) (vs := [.int .i64 v0_7, .int .i64 (0), .int .i64 (0), .int .i64 (0), .int .i64 (1), .int .i64 (0), .int .i64 (0), .bool false, .slice (some ⟨b11_2, 0, none⟩) (List.length l11_2) 1]) 9 (fun _ => by kernel_rfl) (holds_own (.there (.there .here))) rfl (by exact ⟨rfl, rfl, rfl, rfl, rfl, rfl, rfl, rfl, rfl, trivial⟩)) ?_
          obtain ⟨y22_3, hy22_3, H⟩ := bindE H
          refine s_call 68 30 #[.agg #[.int .i64 (nth l17_0 v2_57), .int .i64 y5_0.line, .int .i64 y5_0.id, .int .i64 (nth l6_0 y6_2), .int .i64 y5_0.state, .int .i64 (3), .slice a5_0_00 (List.length y5_0.data) c5_0_00, .int .i64 (3), .int .i64 y5_0.told], .int .i64 (2), .pointer (some ⟨b1_0, 0, none⟩), .agg #[.int .i64 v0_7, .int .i64 (0), .int .i64 (0), .int .i64 (0), .int .i64 (1), .int .i64 (0), .int .i64 (0), .bool false, .slice (some ⟨b11_2, 0, none⟩) (List.length l11_2) 1]] (by kernel_rfl) (by kernel_rfl) (fun _ => by kernel_rfl) (Tr.conv (Γ' := (ImmI a5_0_00 y5_0.data) :: (CacheA b1_0 v2_b1_0) :: (ImmI a5_0_00 y5_0.data) :: (Asn.own b20_1 (.cells #[.int .i64 (nth l17_0 v2_57), .int .i64 y5_0.line, .int .i64 y5_0.id, .int .i64 (nth l6_0 y6_2), .int .i64 y5_0.state, .int .i64 (3), .slice a5_0_00 (List.length y5_0.data) c5_0_00, .int .i64 (3), .int .i64 y5_0.told] 35 (0, 0))) :: (IntsA (some ⟨b17_0, 0, none⟩) 4 l17_0) :: (Asn.own b11_4 (.cells #[.int .i64 v0_7, .int .i64 (0), .int .i64 (0), .int .i64 (0), .int .i64 (1), .int .i64 (0), .int .i64 (0), .bool false, .slice (some ⟨b11_2, 0, none⟩) (List.length l11_2) 1] 40 (0, 0))) :: (IntsA (some ⟨b11_2, 0, none⟩) 1 l11_2) :: (Asn.own b5_1 (.cells #[.int .i64 y5_0.kind, .int .i64 y5_0.line, .int .i64 y5_0.id, .int .i64 (nth l6_0 y6_2), .int .i64 y5_0.state, .int .i64 (3), .slice a5_0_00 (List.length y5_0.data) c5_0_00, .int .i64 (3), .int .i64 y5_0.told] 35 (0, 0))) :: Γ) (fun w hw => (Sat.less (.take .here (.take (.there (.there (.there (.there .here)))) (.take .here (.take .here (.take .here (.take .here (.take .here (.take .here .refl)))))))) (ImmR.dup (Sat.less (.take (.there (.there (.there (.there .here)))) (.take .here (.take .here (.take .here (.take .here (.take .here (.take .here .refl))))))) hw)))) (RNextF_tr a5_0_00 c5_0_00 (⟨nth l17_0 v2_57, y5_0.line, y5_0.id, nth l6_0 y6_2, y5_0.state, 3, y5_0.data, 3, y5_0.told⟩ : DealS) (2 : Int) b1_0 v2_b1_0 (some ⟨b11_2, 0, none⟩) 1 (⟨v0_7, 0, 0, 0, 1, 0, 0, false, l11_2⟩ : PktS) (RowsA.reads (k := 1) (.there (.there (.there (.there .here))))) y22_3 hy22_3)) ?_
          rintro _ _ ⟨a22_3_00, c22_3_00, rfl, rfl⟩
          refine s_pure 64 (.tuple #[.agg #[.int .i64 y22_3.1.kind, .int .i64 y22_3.1.line, .int .i64 y22_3.1.id, .int .i64 y22_3.1.step, .int .i64 y22_3.1.state, .int .i64 y22_3.1.head, .slice a22_3_00 (List.length y22_3.1.data) c22_3_00, .int .i64 y22_3.1.next, .int .i64 y22_3.1.told], .bool y22_3.2.1]) (by kernel_rfl) (by kernel_rfl) (fun _ => by kernel_rfl) ?_
          refine s_pure 69 (.agg #[.int .i64 y22_3.1.kind, .int .i64 y22_3.1.line, .int .i64 y22_3.1.id, .int .i64 y22_3.1.step, .int .i64 y22_3.1.state, .int .i64 y22_3.1.head, .slice a22_3_00 (List.length y22_3.1.data) c22_3_00, .int .i64 y22_3.1.next, .int .i64 y22_3.1.told]) (by kernel_rfl) (by kernel_rfl) (fun _ => by kernel_rfl) ?_
          refine s_pure 70 (.bool y22_3.2.1) (by kernel_rfl) (by kernel_rfl) (fun _ => by kernel_rfl) ?_
          refine s_step 14 (by kernel_rfl) (by kernel_rfl) (st_new (T := 35) (cells := #[.int .i64 (0), .int .i64 (0), .int .i64 (0), .int .i64 (0), .int .i64 (0), .int .i64 (0), .slice none 0 0, .int .i64 (0), .int .i64 (0)]) (fun a => .pointer (some a)) (fun _ => by kernel_rfl)) ?_
          rintro _ _ ⟨b22_7, rfl, rfl⟩
          refine s_do (by kernel_rfl) (by kernel_rfl) (st_store (off := 0) (vs := [.int .i64 y22_3.1.kind, .int .i64 y22_3.1.line, .int .i64 y22_3.1.id, .int .i64 y22_3.1.step, .int .i64 y22_3.1.state, .int .i64 y22_3.1.head, .slice a22_3_00 (List.length y22_3.1.data) c22_3_00, .int .i64 y22_3.1.next, .int .i64 y22_3.1.told]) (c' := #[.int .i64 y22_3.1.kind, .int .i64 y22_3.1.line, .int .i64 y22_3.1.id, .int .i64 y22_3.1.step, .int .i64 y22_3.1.state, .int .i64 y22_3.1.head, .slice a22_3_00 (List.length y22_3.1.data) c22_3_00, .int .i64 y22_3.1.next, .int .i64 y22_3.1.told]) (fun _ => by kernel_rfl) .here (by kernel_rfl) (by kernel_rfl) (by kernel_rfl)) ?_
          rintro _ _ ⟨rfl, rfl⟩
          refine s_pure 15 (.bool y22_3.2.1) (by kernel_rfl) (by kernel_rfl) (fun _ => by kernel_rfl) ?_
          refine ops_end ?_
          refine At.env [(0, .int .i64 v), (4, .bool false), (5, .pointer (some ⟨b1_0, 0, none⟩)), (6, .pointer (some ⟨b5_1, 0, none⟩)), (7, .int .i64 v0_7), (8, .pointer (some ⟨b11_4, 0, none⟩)), (10, .bool y13_3.2.1), (12, .int .i64 (nth l17_0 v2_57)), (13, .pointer (some ⟨b20_1, 0, none⟩)), (15, .bool y22_3.2.1), (38, .bool (decide (v0_7 ≤ (10 : Int)))), (53, .bool y13_3.2.1), (55, .slice (some ⟨b17_0, 0, none⟩) (List.length l17_0) 4), (56, .int .i64 (((List.length l17_0) : Nat) : Int)), (57, .int .i64 v2_57), (58, .bool (decide (v2_57 < (((List.length l17_0) : Nat) : Int))))] ⟨by kernel_rfl, by kernel_rfl, by kernel_rfl, by kernel_rfl, by kernel_rfl, by kernel_rfl, by kernel_rfl, by kernel_rfl, by kernel_rfl, by kernel_rfl, by kernel_rfl, by kernel_rfl, by kernel_rfl, by kernel_rfl, by kernel_rfl, by kernel_rfl, trivial⟩ ?_
          refine at_then_normal ?_
          refine at_seq (x := C10 [1, 1, 1, 1, 1, 1, 1, 0, 1, 0, 0, 1, 0, 0, 1, 1, 1, 1, 0, 1, 0, 0, 1, 1, 0, 0, 1, 1, 1, 1, 0]) (y := C10 [1, 1, 1, 1, 1, 1, 1, 0, 1, 0, 0, 1, 0, 0, 1, 1, 1, 1, 0, 1, 0, 0, 1, 1, 0, 0, 1, 1, 1, 1, 1]) (by kernel_rfl) ?_
          refine at_region (id := 23) 1 (by kernel_rfl) (by kernel_rfl) ?_
          refine s_pure 71 (.bool y22_3.2.1) (by kernel_rfl) (by kernel_rfl) (fun _ => by kernel_rfl) ?_
          refine ops_end ?_
          refine At.env [(0, .int .i64 v), (4, .bool false), (5, .pointer (some ⟨b1_0, 0, none⟩)), (6, .pointer (some ⟨b5_1, 0, none⟩)), (7, .int .i64 v0_7), (8, .pointer (some ⟨b11_4, 0, none⟩)), (10, .bool y13_3.2.1), (12, .int .i64 (nth l17_0 v2_57)), (13, .pointer (some ⟨b20_1, 0, none⟩)), (15, .bool y22_3.2.1), (38, .bool (decide (v0_7 ≤ (10 : Int)))), (53, .bool y13_3.2.1), (55, .slice (some ⟨b17_0, 0, none⟩) (List.length l17_0) 4), (56, .int .i64 (((List.length l17_0) : Nat) : Int)), (57, .int .i64 v2_57), (58, .bool (decide (v2_57 < (((List.length l17_0) : Nat) : Int)))), (71, .bool y22_3.2.1)] ⟨by kernel_rfl, by kernel_rfl, by kernel_rfl, by kernel_rfl, by kernel_rfl, by kernel_rfl, by kernel_rfl, by kernel_rfl, by kernel_rfl, by kernel_rfl, by kernel_rfl, by kernel_rfl, by kernel_rfl, by kernel_rfl, by kernel_rfl, by kernel_rfl, by kernel_rfl, trivial⟩ ?_
          refine at_then_normal ?_
          rcases Bool.eq_false_or_eq_true (y22_3.2.1) with h4 | h4
          · replace H := bifT H h4
            refine at_true (t := y22_3.2.1) (x := C10 [1, 1, 1, 1, 1, 1, 1, 0, 1, 0, 0, 1, 0, 0, 1, 1, 1, 1, 0, 1, 0, 0, 1, 1, 0, 0, 1, 1, 1, 1, 1, 0]) (y := C10 [1, 1, 1, 1, 1, 1, 1, 0, 1, 0, 0, 1, 0, 0, 1, 1, 1, 1, 0, 1, 0, 0, 1, 1, 0, 0, 1, 1, 1, 1, 1, 1]) (o := .tmp 71) (by kernel_rfl) (by kernel_rfl) (by kernel_rfl) h4 ?_
            refine at_seq (x := C10 [1, 1, 1, 1, 1, 1, 1, 0, 1, 0, 0, 1, 0, 0, 1, 1, 1, 1, 0, 1, 0, 0, 1, 1, 0, 0, 1, 1, 1, 1, 1, 0, 0]) (y := C10 [1, 1, 1, 1, 1, 1, 1, 0, 1, 0, 0, 1, 0, 0, 1, 1, 1, 1, 0, 1, 0, 0, 1, 1, 0, 0, 1, 1, 1, 1, 1, 0, 1]) (by kernel_rfl) ?_
            refine at_region (id := 24) 1 (by kernel_rfl) (by kernel_rfl) ?_
            refine s_pure 4 (.bool false) (by kernel_rfl) (by kernel_rfl) (fun _ => by kernel_rfl) ?_
            refine ops_end ?_
            refine At.env [(0, .int .i64 v), (4, .bool false), (5, .pointer (some ⟨b1_0, 0, none⟩)), (6, .pointer (some ⟨b5_1, 0, none⟩)), (7, .int .i64 v0_7), (8, .pointer (some ⟨b11_4, 0, none⟩)), (10, .bool y13_3.2.1), (12, .int .i64 (nth l17_0 v2_57)), (13, .pointer (some ⟨b20_1, 0, none⟩)), (15, .bool y22_3.2.1), (38, .bool (decide (v0_7 ≤ (10 : Int)))), (53, .bool y13_3.2.1), (55, .slice (some ⟨b17_0, 0, none⟩) (List.length l17_0) 4), (56, .int .i64 (((List.length l17_0) : Nat) : Int)), (57, .int .i64 v2_57), (58, .bool (decide (v2_57 < (((List.length l17_0) : Nat) : Int)))), (71, .bool y22_3.2.1)] ⟨by kernel_rfl, by kernel_rfl, by kernel_rfl, by kernel_rfl, by kernel_rfl, by kernel_rfl, by kernel_rfl, by kernel_rfl, by kernel_rfl, by kernel_rfl, by kernel_rfl, by kernel_rfl, by kernel_rfl, by kernel_rfl, by kernel_rfl, by kernel_rfl, by kernel_rfl, trivial⟩ ?_
            refine at_then_normal ?_
            refine at_ret (by kernel_rfl) ?_
            refine at_in_ret ?_
            refine at_then_ret ?_
            refine at_then_ret ?_
            refine at_in_ret ?_
            refine at_then_ret ?_
            refine at_in_ret ?_
            refine at_then_ret ?_
            refine at_then_ret ?_
            refine at_in_ret ?_
            refine at_then_ret ?_
            obtain rfl := someE H
            refine at_backR [.bool false] (Γ) (rs := [.tmp 4]) (by kernel_rfl) (.cons (.tmp (by kernel_rfl)) .nil) (fun w hw => (Sat.less (.drop .here (.drop .here (.drop .here (.drop .here (.drop .here (.drop .here (.drop .here (.drop .here (.drop .here .refl))))))))) hw)) ?_
            exact ⟨rfl, rfl⟩
          · replace H := bifF H h4
            refine at_false (t := y22_3.2.1) (x := C10 [1, 1, 1, 1, 1, 1, 1, 0, 1, 0, 0, 1, 0, 0, 1, 1, 1, 1, 0, 1, 0, 0, 1, 1, 0, 0, 1, 1, 1, 1, 1, 0]) (y := C10 [1, 1, 1, 1, 1, 1, 1, 0, 1, 0, 0, 1, 0, 0, 1, 1, 1, 1, 0, 1, 0, 0, 1, 1, 0, 0, 1, 1, 1, 1, 1, 1]) (o := .tmp 71) (by kernel_rfl) (by kernel_rfl) (by kernel_rfl) h4 ?_
            refine at_skip (by kernel_rfl) ?_
            refine at_in_normal ?_
            refine at_then_normal ?_
            refine at_region (id := 25) 2 (by kernel_rfl) (by kernel_rfl) ?_
            obtain ⟨hc25_0_0, H⟩ := chkE H
            refine s_pure 72 (.int .i64 (v2_57 + (1 : Int))) (by kernel_rfl) (by kernel_rfl) (run_eq (v := .int .i64 (IntKind.i64.wrap (v2_57 + (1 : Int)))) (fun _ => by kernel_rfl) (by rw [inR.wrap hc25_0_0])) ?_
            refine s_pure 57 (.int .i64 (v2_57 + (1 : Int))) (by kernel_rfl) (by kernel_rfl) (fun _ => by kernel_rfl) ?_
            refine ops_end ?_
            refine At.env [(0, .int .i64 v), (4, .bool false), (5, .pointer (some ⟨b1_0, 0, none⟩)), (6, .pointer (some ⟨b5_1, 0, none⟩)), (7, .int .i64 v0_7), (8, .pointer (some ⟨b11_4, 0, none⟩)), (10, .bool y13_3.2.1), (12, .int .i64 (nth l17_0 v2_57)), (13, .pointer (some ⟨b20_1, 0, none⟩)), (15, .bool y22_3.2.1), (38, .bool (decide (v0_7 ≤ (10 : Int)))), (53, .bool y13_3.2.1), (55, .slice (some ⟨b17_0, 0, none⟩) (List.length l17_0) 4), (56, .int .i64 (((List.length l17_0) : Nat) : Int)), (57, .int .i64 (v2_57 + (1 : Int))), (58, .bool (decide (v2_57 < (((List.length l17_0) : Nat) : Int)))), (71, .bool y22_3.2.1)] ⟨by kernel_rfl, by kernel_rfl, by kernel_rfl, by kernel_rfl, by kernel_rfl, by kernel_rfl, by kernel_rfl, by kernel_rfl, by kernel_rfl, by kernel_rfl, by kernel_rfl, by kernel_rfl, by kernel_rfl, by kernel_rfl, by kernel_rfl, by kernel_rfl, by kernel_rfl, trivial⟩ ?_
            refine at_round_normal ?_
            exact at_roundR fuel2 [(0, .int .i64 v), (4, .bool false), (5, .pointer (some ⟨b1_0, 0, none⟩)), (6, .pointer (some ⟨b5_1, 0, none⟩)), (7, .int .i64 v0_7), (8, .pointer (some ⟨b11_4, 0, none⟩)), (10, .bool y13_3.2.1), (38, .bool (decide (v0_7 ≤ (10 : Int)))), (53, .bool y13_3.2.1), (55, .slice (some ⟨b17_0, 0, none⟩) (List.length l17_0) 4), (56, .int .i64 (((List.length l17_0) : Nat) : Int)), (57, .int .i64 (v2_57 + (1 : Int)))] ((IntsA (some ⟨b17_0, 0, none⟩) 4 l17_0) :: (Asn.own b11_4 (.cells #[.int .i64 v0_7, .int .i64 (0), .int .i64 (0), .int .i64 (0), .int .i64 (1), .int .i64 (0), .int .i64 (0), .bool false, .slice (some ⟨b11_2, 0, none⟩) (List.length l11_2) 1] 40 (0, 0))) :: (CacheA b1_0 y22_3.2.2) :: (ImmI a5_0_00 y5_0.data) :: (IntsA (some ⟨b11_2, 0, none⟩) 1 l11_2) :: (Asn.own b5_1 (.cells #[.int .i64 y5_0.kind, .int .i64 y5_0.line, .int .i64 y5_0.id, .int .i64 (nth l6_0 y6_2), .int .i64 y5_0.state, .int .i64 (3), .slice a5_0_00 (List.length y5_0.data) c5_0_00, .int .i64 (3), .int .i64 y5_0.told] 35 (0, 0))) :: Γ) (Nat.lt_succ_self _) ⟨by kernel_rfl, by kernel_rfl, by kernel_rfl, by kernel_rfl, by kernel_rfl, by kernel_rfl, by kernel_rfl, by kernel_rfl, by kernel_rfl, by kernel_rfl, by kernel_rfl, by kernel_rfl, trivial⟩ (fun w hw => (Sat.less (.take (.there (.there (.there (.there (.there .here))))) (.take (.there (.there (.there (.there (.there .here))))) (.take (.there (.there .here)) (.take (.there (.there .here)) (.take (.there (.there (.there .here))) (.take (.there (.there (.there .here))) (.drop .here (.drop .here (.drop .here .refl))))))))) hw)) ⟨fuel2, v2_57 + (1 : Int), y22_3.2.2, H, rfl, rfl, rfl⟩
        · replace H := bifF H h3
          refine at_false (t := decide (v2_57 < (((List.length l17_0) : Nat) : Int))) (x := C10 [1, 1, 1, 1, 1, 1, 1, 0, 1, 0, 0, 1, 0, 0, 1, 1, 1, 1, 0, 1, 0, 0, 1, 0, 0]) (y := C10 [1, 1, 1, 1, 1, 1, 1, 0, 1, 0, 0, 1, 0, 0, 1, 1, 1, 1, 0, 1, 0, 0, 1, 0, 1]) (o := .tmp 58) (by kernel_rfl) (by kernel_rfl) (by kernel_rfl) h3 ?_
          refine at_exit (i := 2) (by kernel_rfl) ?_
          refine at_then_exit ?_
          refine at_then_exit ?_
          rw [rolloutOtherS_k2] at H
          refine At.env [(0, .int .i64 v), (4, .bool false), (5, .pointer (some ⟨b1_0, 0, none⟩)), (6, .pointer (some ⟨b5_1, 0, none⟩)), (7, .int .i64 v0_7), (8, .pointer (some ⟨b11_4, 0, none⟩)), (10, .bool y13_3.2.1), (38, .bool (decide (v0_7 ≤ (10 : Int)))), (53, .bool y13_3.2.1), (55, .slice (some ⟨b17_0, 0, none⟩) (List.length l17_0) 4), (56, .int .i64 (((List.length l17_0) : Nat) : Int)), (57, .int .i64 v2_57), (58, .bool (decide (v2_57 < (((List.length l17_0) : Nat) : Int))))] ⟨by kernel_rfl, by kernel_rfl, by kernel_rfl, by kernel_rfl, by kernel_rfl, by kernel_rfl, by kernel_rfl, by kernel_rfl, by kernel_rfl, by kernel_rfl, by kernel_rfl, by kernel_rfl, by kernel_rfl, trivial⟩ ?_
          refine At.conv (Γ' := (IntsA (some ⟨b17_0, 0, none⟩) 4 l17_0) :: (Asn.own b11_4 (.cells #[.int .i64 v0_7, .int .i64 (0), .int .i64 (0), .int .i64 (0), .int .i64 (1), .int .i64 (0), .int .i64 (0), .bool false, .slice (some ⟨b11_2, 0, none⟩) (List.length l11_2) 1] 40 (0, 0))) :: (CacheA b1_0 v2_b1_0) :: (ImmI a5_0_00 y5_0.data) :: (IntsA (some ⟨b11_2, 0, none⟩) 1 l11_2) :: (Asn.own b5_1 (.cells #[.int .i64 y5_0.kind, .int .i64 y5_0.line, .int .i64 y5_0.id, .int .i64 (nth l6_0 y6_2), .int .i64 y5_0.state, .int .i64 (3), .slice a5_0_00 (List.length y5_0.data) c5_0_00, .int .i64 (3), .int .i64 y5_0.told] 35 (0, 0))) :: Γ) (fun w hw => (Sat.less (.take .here (.take .here (.take .here (.take .here (.take .here (.take .here .refl)))))) hw)) ?_
          refine at_in_here ?_
          refine at_then_normal ?_
          refine at_seq (x := C10 [1, 1, 1, 1, 1, 1, 1, 0, 1, 0, 0, 1, 0, 0, 1, 1, 1, 1, 1, 0]) (y := C10 [1, 1, 1, 1, 1, 1, 1, 0, 1, 0, 0, 1, 0, 0, 1, 1, 1, 1, 1, 1]) (by kernel_rfl) ?_
          refine at_region (id := 26) 18 (by kernel_rfl) (by kernel_rfl) ?_
          refine s_pure 73 (.pointer (some ⟨b5_1, 3, none⟩)) (by kernel_rfl) (by kernel_rfl) (fun _ => by kernel_rfl) ?_
          refine s_load 74 (.int .i64 (nth l6_0 y6_2)) (by kernel_rfl) (by kernel_rfl) (load1 (off := 3) (fun _ => by kernel_rfl) (holds_own (.there (.there (.there (.there (.there .here)))))) (by kernel_rfl)) ?_
          refine s_pure 75 (.bool (decide ((nth l6_0 y6_2) = (2 : Int)))) (by kernel_rfl) (by kernel_rfl) (fun _ => by kernel_rfl) ?_
          rcases Bool.eq_false_or_eq_true (decide ((nth l6_0 y6_2) = (2 : Int))) with h5 | h5
          · replace H := bifT H h5
            refine s_pure 76 (.bool true) (by kernel_rfl) (by kernel_rfl) (run_eq (v := .bool (decide ((nth l6_0 y6_2) = (2 : Int)))) (fun _ => by kernel_rfl) (congrArg Value.bool h5)) ?_
            refine s_pass 77 (by kernel_rfl) (by kernel_rfl) ?_
            refine s_pass 78 (by kernel_rfl) (by kernel_rfl) ?_
            refine s_pass 79 (by kernel_rfl) (by kernel_rfl) ?_
            refine s_pure 80 (.bool true) (by kernel_rfl) (by kernel_rfl) (fun _ => by kernel_rfl) ?_
            refine s_pure 81 (.bool true) (by kernel_rfl) (by kernel_rfl) (fun _ => by kernel_rfl) ?_
            refine s_pass 82 (by kernel_rfl) (by kernel_rfl) ?_
            refine s_pass 83 (by kernel_rfl) (by kernel_rfl) ?_
            refine s_pass 84 (by kernel_rfl) (by kernel_rfl) ?_
            refine s_pure 85 (.bool true) (by kernel_rfl) (by kernel_rfl) (fun _ => by kernel_rfl) ?_
            refine s_pure 86 (.bool true) (by kernel_rfl) (by kernel_rfl) (fun _ => by kernel_rfl) ?_
            refine s_pass 87 (by kernel_rfl) (by kernel_rfl) ?_
            refine s_pass 88 (by kernel_rfl) (by kernel_rfl) ?_
            refine s_pass 89 (by kernel_rfl) (by kernel_rfl) ?_
            refine s_pure 90 (.bool true) (by kernel_rfl) (by kernel_rfl) (fun _ => by kernel_rfl) ?_
            refine ops_end ?_
            refine At.env [(0, .int .i64 v), (4, .bool false), (5, .pointer (some ⟨b1_0, 0, none⟩)), (6, .pointer (some ⟨b5_1, 0, none⟩)), (7, .int .i64 v0_7), (8, .pointer (some ⟨b11_4, 0, none⟩)), (10, .bool y13_3.2.1), (38, .bool (decide (v0_7 ≤ (10 : Int)))), (53, .bool y13_3.2.1), (55, .slice (some ⟨b17_0, 0, none⟩) (List.length l17_0) 4), (56, .int .i64 (((List.length l17_0) : Nat) : Int)), (57, .int .i64 v2_57), (58, .bool (decide (v2_57 < (((List.length l17_0) : Nat) : Int)))), (90, .bool true)] ⟨by kernel_rfl, by kernel_rfl, by kernel_rfl, by kernel_rfl, by kernel_rfl, by kernel_rfl, by kernel_rfl, by kernel_rfl, by kernel_rfl, by kernel_rfl, by kernel_rfl, by kernel_rfl, by kernel_rfl, by kernel_rfl, trivial⟩ ?_
            refine at_then_normal ?_
            refine at_true (t := true) (x := C10 [1, 1, 1, 1, 1, 1, 1, 0, 1, 0, 0, 1, 0, 0, 1, 1, 1, 1, 1, 1, 0]) (y := C10 [1, 1, 1, 1, 1, 1, 1, 0, 1, 0, 0, 1, 0, 0, 1, 1, 1, 1, 1, 1, 1]) (o := .tmp 90) (by kernel_rfl) (by kernel_rfl) (by kernel_rfl) rfl ?_
            refine at_seq (x := C10 [1, 1, 1, 1, 1, 1, 1, 0, 1, 0, 0, 1, 0, 0, 1, 1, 1, 1, 1, 1, 0, 0]) (y := C10 [1, 1, 1, 1, 1, 1, 1, 0, 1, 0, 0, 1, 0, 0, 1, 1, 1, 1, 1, 1, 0, 1]) (by kernel_rfl) ?_
            refine at_region (id := 27) 10 (by kernel_rfl) (by kernel_rfl) ?_
            refine s_load 92 (.agg #[.int .i64 y5_0.kind, .int .i64 y5_0.line, .int .i64 y5_0.id, .int .i64 (nth l6_0 y6_2), .int .i64 y5_0.state, .int .i64 (3), .slice a5_0_00 (List.length y5_0.data) c5_0_00, .int .i64 (3), .int .i64 y5_0.told]) (by kernel_rfl) (by kernel_rfl) (loadN (off := 0) (vs := [.int .i64 y5_0.kind, .int .i64 y5_0.line, .int .i64 y5_0.id, .int .i64 (nth l6_0 y6_2), .int .i64 y5_0.state, .int .i64 (3), .slice a5_0_00 (List.length y5_0.data) c5_0_00, .int .i64 (3), .int .i64 y5_0.told]) 9 (fun _ => by kernel_rfl) (holds_own (.there (.there (.there (.there (.there .here)))))) rfl (by exact ⟨rfl, rfl, rfl, rfl, rfl, rfl, rfl, rfl, rfl, trivial⟩)) ?_
            refine s_pure 93 (.pointer (some ⟨b1_0, 0, none⟩)) (by kernel_rfl) (by kernel_rfl) (fun _ => by kernel_rfl) ?_
            refine s_load 94 (.agg #[.int .i64 v0_7, .int .i64 (0), .int .i64 (0), .int .i64 (0), .int .i64 (1), .int .i64 (0), .int .i64 (0), .bool false, .slice (some ⟨b11_2, 0, none⟩) (List.length l11_2) 1]) (by kernel_rfl) (by kernel_rfl) (loadN (off := 0) (vs := [.int .i64 v0_7, .int .i64 (0), .int .i64 (0), .int .i64 (0), .int .i64 (1), .int .i64 (0), .int .i64 (0), .bool false, .slice (some ⟨b11_2, 0, none⟩) (List.length l11_2) 1]) 9 (fun _ => by kernel_rfl) (holds_own (.there .here)) rfl (by exact ⟨rfl, rfl, rfl, rfl, rfl, rfl, rfl, rfl, rfl, trivial⟩)) ?_
            obtain ⟨y27_3, hy27_3, H⟩ := bindE H
            refine s_call 95 30 #[.agg #[.int .i64 y5_0.kind, .int .i64 y5_0.line, .int .i64 y5_0.id, .int .i64 (nth l6_0 y6_2), .int .i64 y5_0.state, .int .i64 (3), .slice a5_0_00 (List.length y5_0.data) c5_0_00, .int .i64 (3), .int .i64 y5_0.told], .int .i64 (2), .pointer (some ⟨b1_0, 0, none⟩), .agg #[.int .i64 v0_7, .int .i64 (0), .int .i64 (0), .int .i64 (0), .int .i64 (1), .int .i64 (0), .int .i64 (0), .bool false, .slice (some ⟨b11_2, 0, none⟩) (List.length l11_2) 1]] (by kernel_rfl) (by kernel_rfl) (fun _ => by kernel_rfl) (Tr.conv (Γ' := (ImmI a5_0_00 y5_0.data) :: (CacheA b1_0 v2_b1_0) :: (ImmI a5_0_00 y5_0.data) :: (IntsA (some ⟨b17_0, 0, none⟩) 4 l17_0) :: (Asn.own b11_4 (.cells #[.int .i64 v0_7, .int .i64 (0), .int .i64 (0), .int .i64 (0), .int .i64 (1), .int .i64 (0), .int .i64 (0), .bool false, .slice (some ⟨b11_2, 0, none⟩) (List.length l11_2) 1] 40 (0, 0))) :: (IntsA (some ⟨b11_2, 0, none⟩) 1 l11_2) :: (Asn.own b5_1 (.cells #[.int .i64 y5_0.kind, .int .i64 y5_0.line, .int .i64 y5_0.id, .int .i64 (nth l6_0 y6_2), .int .i64 y5_0.state, .int .i64 (3), .slice a5_0_00 (List.length y5_0.data) c5_0_00, .int .i64 (3), .int .i64 y5_0.told] 35 (0, 0))) :: Γ) (fun w hw => (Sat.less (.take .here (.take (.there (.there (.there .here))) (.take .here (.take .here (.take .here (.take .here (.take .here .refl))))))) (ImmR.dup (Sat.less (.take (.there (.there (.there .here))) (.take .here (.take .here (.take .here (.take .here (.take .here .refl)))))) hw)))) (RNextF_tr a5_0_00 c5_0_00 (⟨y5_0.kind, y5_0.line, y5_0.id, nth l6_0 y6_2, y5_0.state, 3, y5_0.data, 3, y5_0.told⟩ : DealS) (2 : Int) b1_0 v2_b1_0 (some ⟨b11_2, 0, none⟩) 1 (⟨v0_7, 0, 0, 0, 1, 0, 0, false, l11_2⟩ : PktS) (RowsA.reads (k := 1) (.there (.there (.there .here)))) y27_3 hy27_3)) ?_
            rintro _ _ ⟨a27_3_00, c27_3_00, rfl, rfl⟩
            refine s_pure 91 (.tuple #[.agg #[.int .i64 y27_3.1.kind, .int .i64 y27_3.1.line, .int .i64 y27_3.1.id, .int .i64 y27_3.1.step, .int .i64 y27_3.1.state, .int .i64 y27_3.1.head, .slice a27_3_00 (List.length y27_3.1.data) c27_3_00, .int .i64 y27_3.1.next, .int .i64 y27_3.1.told], .bool y27_3.2.1]) (by kernel_rfl) (by kernel_rfl) (fun _ => by kernel_rfl) ?_
            refine s_pure 96 (.agg #[.int .i64 y27_3.1.kind, .int .i64 y27_3.1.line, .int .i64 y27_3.1.id, .int .i64 y27_3.1.step, .int .i64 y27_3.1.state, .int .i64 y27_3.1.head, .slice a27_3_00 (List.length y27_3.1.data) c27_3_00, .int .i64 y27_3.1.next, .int .i64 y27_3.1.told]) (by kernel_rfl) (by kernel_rfl) (fun _ => by kernel_rfl) ?_
            refine s_pure 97 (.bool y27_3.2.1) (by kernel_rfl) (by kernel_rfl) (fun _ => by kernel_rfl) ?_
            refine s_step 16 (by kernel_rfl) (by kernel_rfl) (st_new (T := 35) (cells := #[.int .i64 (0), .int .i64 (0), .int .i64 (0), .int .i64 (0), .int .i64 (0), .int .i64 (0), .slice none 0 0, .int .i64 (0), .int .i64 (0)]) (fun a => .pointer (some a)) (fun _ => by kernel_rfl)) ?_
            rintro _ _ ⟨b27_7, rfl, rfl⟩
            refine s_do (by kernel_rfl) (by kernel_rfl) (st_store (off := 0) (vs := [.int .i64 y27_3.1.kind, .int .i64 y27_3.1.line, .int .i64 y27_3.1.id, .int .i64 y27_3.1.step, .int .i64 y27_3.1.state, .int .i64 y27_3.1.head, .slice a27_3_00 (List.length y27_3.1.data) c27_3_00, .int .i64 y27_3.1.next, .int .i64 y27_3.1.told]) (c' := #[.int .i64 y27_3.1.kind, .int .i64 y27_3.1.line, .int .i64 y27_3.1.id, .int .i64 y27_3.1.step, .int .i64 y27_3.1.state, .int .i64 y27_3.1.head, .slice a27_3_00 (List.length y27_3.1.data) c27_3_00, .int .i64 y27_3.1.next, .int .i64 y27_3.1.told]) (fun _ => by kernel_rfl) .here (by kernel_rfl) (by kernel_rfl) (by kernel_rfl)) ?_
            rintro _ _ ⟨rfl, rfl⟩
            refine s_pure 17 (.bool y27_3.2.1) (by kernel_rfl) (by kernel_rfl) (fun _ => by kernel_rfl) ?_
            refine ops_end ?_
            refine At.env [(0, .int .i64 v), (4, .bool false), (5, .pointer (some ⟨b1_0, 0, none⟩)), (6, .pointer (some ⟨b5_1, 0, none⟩)), (7, .int .i64 v0_7), (8, .pointer (some ⟨b11_4, 0, none⟩)), (10, .bool y13_3.2.1), (17, .bool y27_3.2.1), (38, .bool (decide (v0_7 ≤ (10 : Int)))), (53, .bool y13_3.2.1), (55, .slice (some ⟨b17_0, 0, none⟩) (List.length l17_0) 4), (56, .int .i64 (((List.length l17_0) : Nat) : Int)), (57, .int .i64 v2_57), (58, .bool (decide (v2_57 < (((List.length l17_0) : Nat) : Int)))), (90, .bool true)] ⟨by kernel_rfl, by kernel_rfl, by kernel_rfl, by kernel_rfl, by kernel_rfl, by kernel_rfl, by kernel_rfl, by kernel_rfl, by kernel_rfl, by kernel_rfl, by kernel_rfl, by kernel_rfl, by kernel_rfl, by kernel_rfl, by kernel_rfl, trivial⟩ ?_
            refine at_then_normal ?_
            refine at_seq (x := C10 [1, 1, 1, 1, 1, 1, 1, 0, 1, 0, 0, 1, 0, 0, 1, 1, 1, 1, 1, 1, 0, 1, 0]) (y := C10 [1, 1, 1, 1, 1, 1, 1, 0, 1, 0, 0, 1, 0, 0, 1, 1, 1, 1, 1, 1, 0, 1, 1]) (by kernel_rfl) ?_
            refine at_region (id := 28) 1 (by kernel_rfl) (by kernel_rfl) ?_
            refine s_pure 98 (.bool y27_3.2.1) (by kernel_rfl) (by kernel_rfl) (fun _ => by kernel_rfl) ?_
            refine ops_end ?_
            refine At.env [(0, .int .i64 v), (4, .bool false), (5, .pointer (some ⟨b1_0, 0, none⟩)), (6, .pointer (some ⟨b5_1, 0, none⟩)), (7, .int .i64 v0_7), (8, .pointer (some ⟨b11_4, 0, none⟩)), (10, .bool y13_3.2.1), (17, .bool y27_3.2.1), (38, .bool (decide (v0_7 ≤ (10 : Int)))), (53, .bool y13_3.2.1), (55, .slice (some ⟨b17_0, 0, none⟩) (List.length l17_0) 4), (56, .int .i64 (((List.length l17_0) : Nat) : Int)), (57, .int .i64 v2_57), (58, .bool (decide (v2_57 < (((List.length l17_0) : Nat) : Int)))), (90, .bool true), (98, .bool y27_3.2.1)] ⟨by kernel_rfl, by kernel_rfl, by kernel_rfl, by kernel_rfl, by kernel_rfl, by kernel_rfl, by kernel_rfl, by kernel_rfl, by kernel_rfl, by kernel_rfl, by kernel_rfl, by kernel_rfl, by kernel_rfl, by kernel_rfl, by kernel_rfl, by kernel_rfl, trivial⟩ ?_
            refine at_then_normal ?_
            rcases Bool.eq_false_or_eq_true (y27_3.2.1) with h6 | h6
            · replace H := bifT H h6
              refine at_true (t := y27_3.2.1) (x := C10 [1, 1, 1, 1, 1, 1, 1, 0, 1, 0, 0, 1, 0, 0, 1, 1, 1, 1, 1, 1, 0, 1, 1, 0]) (y := C10 [1, 1, 1, 1, 1, 1, 1, 0, 1, 0, 0, 1, 0, 0, 1, 1, 1, 1, 1, 1, 0, 1, 1, 1]) (o := .tmp 98) (by kernel_rfl) (by kernel_rfl) (by kernel_rfl) h6 ?_
              refine at_seq (x := C10 [1, 1, 1, 1, 1, 1, 1, 0, 1, 0, 0, 1, 0, 0, 1, 1, 1, 1, 1, 1, 0, 1, 1, 0, 0]) (y := C10 [1, 1, 1, 1, 1, 1, 1, 0, 1, 0, 0, 1, 0, 0, 1, 1, 1, 1, 1, 1, 0, 1, 1, 0, 1]) (by kernel_rfl) ?_
              refine at_region (id := 29) 1 (by kernel_rfl) (by kernel_rfl) ?_
              refine s_pure 4 (.bool false) (by kernel_rfl) (by kernel_rfl) (fun _ => by kernel_rfl) ?_
              refine ops_end ?_
              refine At.env [(0, .int .i64 v), (4, .bool false), (5, .pointer (some ⟨b1_0, 0, none⟩)), (6, .pointer (some ⟨b5_1, 0, none⟩)), (7, .int .i64 v0_7), (8, .pointer (some ⟨b11_4, 0, none⟩)), (10, .bool y13_3.2.1), (17, .bool y27_3.2.1), (38, .bool (decide (v0_7 ≤ (10 : Int)))), (53, .bool y13_3.2.1), (55, .slice (some ⟨b17_0, 0, none⟩) (List.length l17_0) 4), (56, .int .i64 (((List.length l17_0) : Nat) : Int)), (57, .int .i64 v2_57), (58, .bool (decide (v2_57 < (((List.length l17_0) : Nat) : Int)))), (90, .bool true), (98, .bool y27_3.2.1)] ⟨by kernel_rfl, by kernel_rfl, by kernel_rfl, by kernel_rfl, by kernel_rfl, by kernel_rfl, by kernel_rfl, by kernel_rfl, by kernel_rfl, by kernel_rfl, by kernel_rfl, by kernel_rfl, by kernel_rfl, by kernel_rfl, by kernel_rfl, by kernel_rfl, trivial⟩ ?_
              refine at_then_normal ?_
              refine at_ret (by kernel_rfl) ?_
              refine at_in_ret ?_
              refine at_then_ret ?_
              refine at_then_ret ?_
              refine at_in_ret ?_
              refine at_then_ret ?_
              obtain rfl := someE H
              refine at_backR [.bool false] (Γ) (rs := [.tmp 4]) (by kernel_rfl) (.cons (.tmp (by kernel_rfl)) .nil) (fun w hw => (Sat.less (.drop .here (.drop .here (.drop .here (.drop .here (.drop .here (.drop .here (.drop .here (.drop .here .refl)))))))) hw)) ?_
              exact ⟨rfl, rfl⟩
            · replace H := bifF H h6
              refine at_false (t := y27_3.2.1) (x := C10 [1, 1, 1, 1, 1, 1, 1, 0, 1, 0, 0, 1, 0, 0, 1, 1, 1, 1, 1, 1, 0, 1, 1, 0]) (y := C10 [1, 1, 1, 1, 1, 1, 1, 0, 1, 0, 0, 1, 0, 0, 1, 1, 1, 1, 1, 1, 0, 1, 1, 1]) (o := .tmp 98) (by kernel_rfl) (by kernel_rfl) (by kernel_rfl) h6 ?_
              refine at_skip (by kernel_rfl) ?_
              refine at_in_normal ?_
              refine at_round_normal ?_
              exact at_join_mk [(0, .int .i64 v), (4, .bool false), (5, .pointer (some ⟨b1_0, 0, none⟩)), (6, .pointer (some ⟨b5_1, 0, none⟩)), (7, .int .i64 v0_7), (8, .pointer (some ⟨b11_4, 0, none⟩)), (10, .bool y13_3.2.1), (38, .bool (decide (v0_7 ≤ (10 : Int)))), (53, .bool y13_3.2.1), (55, .slice (some ⟨b17_0, 0, none⟩) (List.length l17_0) 4), (56, .int .i64 (((List.length l17_0) : Nat) : Int)), (57, .int .i64 v2_57), (58, .bool (decide (v2_57 < (((List.length l17_0) : Nat) : Int)))), (90, .bool true)] ((IntsA (some ⟨b17_0, 0, none⟩) 4 l17_0) :: (Asn.own b11_4 (.cells #[.int .i64 v0_7, .int .i64 (0), .int .i64 (0), .int .i64 (0), .int .i64 (1), .int .i64 (0), .int .i64 (0), .bool false, .slice (some ⟨b11_2, 0, none⟩) (List.length l11_2) 1] 40 (0, 0))) :: (IntsA (some ⟨b11_2, 0, none⟩) 1 l11_2) :: (Asn.own b5_1 (.cells #[.int .i64 y5_0.kind, .int .i64 y5_0.line, .int .i64 y5_0.id, .int .i64 (nth l6_0 y6_2), .int .i64 y5_0.state, .int .i64 (3), .slice a5_0_00 (List.length y5_0.data) c5_0_00, .int .i64 (3), .int .i64 y5_0.told] 35 (0, 0))) :: (ImmI a5_0_00 y5_0.data) :: (CacheA b1_0 y27_3.2.2) :: Γ) ⟨by kernel_rfl, by kernel_rfl, by kernel_rfl, by kernel_rfl, by kernel_rfl, by kernel_rfl, by kernel_rfl, by kernel_rfl, by kernel_rfl, by kernel_rfl, by kernel_rfl, by kernel_rfl, by kernel_rfl, by kernel_rfl, trivial⟩ (fun w hw => (Sat.less (.take (.there (.there (.there (.there .here)))) (.take (.there (.there (.there (.there .here)))) (.take (.there (.there (.there (.there .here)))) (.take (.there (.there (.there (.there .here)))) (.take (.there (.there (.there .here))) (.take (.there (.there .here)) (.drop .here (.drop .here .refl)))))))) hw)) ⟨true, y27_3.2.2, b11_4, y13_3, b17_0, l17_0, v2_57, (decide (v2_57 < (((List.length l17_0) : Nat) : Int))), b11_2, l11_2, H, rfl, rfl⟩
          · replace H := bifF H h5
            refine s_pure 76 (.bool false) (by kernel_rfl) (by kernel_rfl) (run_eq (v := .bool (decide ((nth l6_0 y6_2) = (2 : Int)))) (fun _ => by kernel_rfl) (congrArg Value.bool h5)) ?_
            refine s_pure 77 (.pointer (some ⟨b5_1, 3, none⟩)) (by kernel_rfl) (by kernel_rfl) (fun _ => by kernel_rfl) ?_
            refine s_load 78 (.int .i64 (nth l6_0 y6_2)) (by kernel_rfl) (by kernel_rfl) (load1 (off := 3) (fun _ => by kernel_rfl) (holds_own (.there (.there (.there (.there (.there .here)))))) (by kernel_rfl)) ?_
            refine s_pure 79 (.bool (decide ((nth l6_0 y6_2) = (3 : Int)))) (by kernel_rfl) (by kernel_rfl) (fun _ => by kernel_rfl) ?_
            refine s_pure 80 (.bool (decide ((nth l6_0 y6_2) = (3 : Int)))) (by kernel_rfl) (by kernel_rfl) (fun _ => by kernel_rfl) ?_
            rcases Bool.eq_false_or_eq_true (decide ((nth l6_0 y6_2) = (3 : Int))) with h7 | h7
            · replace H := bifT H h7
              refine s_pure 81 (.bool true) (by kernel_rfl) (by kernel_rfl) (run_eq (v := .bool (decide ((nth l6_0 y6_2) = (3 : Int)))) (fun _ => by kernel_rfl) (congrArg Value.bool h7)) ?_
              refine s_pass 82 (by kernel_rfl) (by kernel_rfl) ?_
              refine s_pass 83 (by kernel_rfl) (by kernel_rfl) ?_
              refine s_pass 84 (by kernel_rfl) (by kernel_rfl) ?_
              refine s_pure 85 (.bool true) (by kernel_rfl) (by kernel_rfl) (fun _ => by kernel_rfl) ?_
              refine s_pure 86 (.bool true) (by kernel_rfl) (by kernel_rfl) (fun _ => by kernel_rfl) ?_
              refine s_pass 87 (by kernel_rfl) (by kernel_rfl) ?_
              refine s_pass 88 (by kernel_rfl) (by kernel_rfl) ?_
              refine s_pass 89 (by kernel_rfl) (by kernel_rfl) ?_
              refine s_pure 90 (.bool true) (by kernel_rfl) (by kernel_rfl) (fun _ => by kernel_rfl) ?_
              refine ops_end ?_
              refine At.env [(0, .int .i64 v), (4, .bool false), (5, .pointer (some ⟨b1_0, 0, none⟩)), (6, .pointer (some ⟨b5_1, 0, none⟩)), (7, .int .i64 v0_7), (8, .pointer (some ⟨b11_4, 0, none⟩)), (10, .bool y13_3.2.1), (38, .bool (decide (v0_7 ≤ (10 : Int)))), (53, .bool y13_3.2.1), (55, .slice (some ⟨b17_0, 0, none⟩) (List.length l17_0) 4), (56, .int .i64 (((List.length l17_0) : Nat) : Int)), (57, .int .i64 v2_57), (58, .bool (decide (v2_57 < (((List.length l17_0) : Nat) : Int)))), (90, .bool true)] ⟨by kernel_rfl, by kernel_rfl, by kernel_rfl, by kernel_rfl, by kernel_rfl, by kernel_rfl, by kernel_rfl, by kernel_rfl, by kernel_rfl, by kernel_rfl, by kernel_rfl, by kernel_rfl, by kernel_rfl, by kernel_rfl, trivial⟩ ?_
              refine at_then_normal ?_
              refine at_true (t := true) (x := C10 [1, 1, 1, 1, 1, 1, 1, 0, 1, 0, 0, 1, 0, 0, 1, 1, 1, 1, 1, 1, 0]) (y := C10 [1, 1, 1, 1, 1, 1, 1, 0, 1, 0, 0, 1, 0, 0, 1, 1, 1, 1, 1, 1, 1]) (o := .tmp 90) (by kernel_rfl) (by kernel_rfl) (by kernel_rfl) rfl ?_
              refine at_seq (x := C10 [1, 1, 1, 1, 1, 1, 1, 0, 1, 0, 0, 1, 0, 0, 1, 1, 1, 1, 1, 1, 0, 0]) (y := C10 [1, 1, 1, 1, 1, 1, 1, 0, 1, 0, 0, 1, 0, 0, 1, 1, 1, 1, 1, 1, 0, 1]) (by kernel_rfl) ?_
              refine at_region (id := 27) 10 (by kernel_rfl) (by kernel_rfl) ?_
              refine s_load 92 (.agg #[.int .i64 y5_0.kind, .int .i64 y5_0.line, .int .i64 y5_0.id, .int .i64 (nth l6_0 y6_2), .int .i64 y5_0.state, .int .i64 (3), .slice a5_0_00 (List.length y5_0.data) c5_0_00, .int .i64 (3), .int .i64 y5_0.told]) (by kernel_rfl) (by kernel_rfl) (loadN (off := 0) (vs := [.int .i64 y5_0.kind, .int .i64 y5_0.line, .int .i64 y5_0.id, .int .i64 (nth l6_0 y6_2), .int .i64 y5_0.state, .int .i64 (3), .slice a5_0_00 (List.length y5_0.data) c5_0_00, .int .i64 (3), .int .i64 y5_0.told]) 9 (fun _ => by kernel_rfl) (holds_own (.there (.there (.there (.there (.there .here)))))) rfl (by exact ⟨rfl, rfl, rfl, rfl, rfl, rfl, rfl, rfl, rfl, trivial⟩)) ?_
              refine s_pure 93 (.pointer (some ⟨b1_0, 0, none⟩)) (by kernel_rfl) (by kernel_rfl) (fun _ => by kernel_rfl) ?_
              refine s_load 94 (.agg #[.int .i64 v0_7, .int .i64 (0), .int .i64 (0), .int .i64 (0), .int .i64 (1), .int .i64 (0), .int .i64 (0), .bool false, .slice (some ⟨b11_2, 0, none⟩) (List.length l11_2) 1]) (by kernel_rfl) (by kernel_rfl) (loadN (off := 0) (vs := [.int .i64 v0_7, .int .i64 (0), .int .i64 (0), .int .i64 (0), .int .i64 (1), .int .i64 (0), .int .i64 (0), .bool false, .slice (some ⟨b11_2, 0, none⟩) (List.length l11_2) 1]) 9 (fun _ => by kernel_rfl) (holds_own (.there .here)) rfl (by exact ⟨rfl, rfl, rfl, rfl, rfl, rfl, rfl, rfl, rfl, trivial⟩)) ?_
              obtain ⟨y27_3, hy27_3, H⟩ := bindE H
              refine s_call 95 30 #[.agg #[.int .i64 y5_0.kind, .int .i64 y5_0.line, .int .i64 y5_0.id, .int .i64 (nth l6_0 y6_2), .int .i64 y5_0.state, .int .i64 (3), .slice a5_0_00 (List.length y5_0.data) c5_0_00, .int .i64 (3), .int .i64 y5_0.told], .int .i64 (2), .pointer (some ⟨b1_0, 0, none⟩), .agg #[.int .i64 v0_7, .int .i64 (0), .int .i64 (0), .int .i64 (0), .int .i64 (1), .int .i64 (0), .int .i64 (0), .bool false, .slice (some ⟨b11_2, 0, none⟩) (List.length l11_2) 1]] (by kernel_rfl) (by kernel_rfl) (fun _ => by kernel_rfl) (Tr.conv (Γ' := (ImmI a5_0_00 y5_0.data) :: (CacheA b1_0 v2_b1_0) :: (ImmI a5_0_00 y5_0.data) :: (IntsA (some ⟨b17_0, 0, none⟩) 4 l17_0) :: (Asn.own b11_4 (.cells #[.int .i64 v0_7, .int .i64 (0), .int .i64 (0), .int .i64 (0), .int .i64 (1), .int .i64 (0), .int .i64 (0), .bool false, .slice (some ⟨b11_2, 0, none⟩) (List.length l11_2) 1] 40 (0, 0))) :: (IntsA (some ⟨b11_2, 0, none⟩) 1 l11_2) :: (Asn.own b5_1 (.cells #[.int .i64 y5_0.kind, .int .i64 y5_0.line, .int .i64 y5_0.id, .int .i64 (nth l6_0 y6_2), .int .i64 y5_0.state, .int .i64 (3), .slice a5_0_00 (List.length y5_0.data) c5_0_00, .int .i64 (3), .int .i64 y5_0.told] 35 (0, 0))) :: Γ) (fun w hw => (Sat.less (.take .here (.take (.there (.there (.there .here))) (.take .here (.take .here (.take .here (.take .here (.take .here .refl))))))) (ImmR.dup (Sat.less (.take (.there (.there (.there .here))) (.take .here (.take .here (.take .here (.take .here (.take .here .refl)))))) hw)))) (RNextF_tr a5_0_00 c5_0_00 (⟨y5_0.kind, y5_0.line, y5_0.id, nth l6_0 y6_2, y5_0.state, 3, y5_0.data, 3, y5_0.told⟩ : DealS) (2 : Int) b1_0 v2_b1_0 (some ⟨b11_2, 0, none⟩) 1 (⟨v0_7, 0, 0, 0, 1, 0, 0, false, l11_2⟩ : PktS) (RowsA.reads (k := 1) (.there (.there (.there .here)))) y27_3 hy27_3)) ?_
              rintro _ _ ⟨a27_3_00, c27_3_00, rfl, rfl⟩
              refine s_pure 91 (.tuple #[.agg #[.int .i64 y27_3.1.kind, .int .i64 y27_3.1.line, .int .i64 y27_3.1.id, .int .i64 y27_3.1.step, .int .i64 y27_3.1.state, .int .i64 y27_3.1.head, .slice a27_3_00 (List.length y27_3.1.data) c27_3_00, .int .i64 y27_3.1.next, .int .i64 y27_3.1.told], .bool y27_3.2.1]) (by kernel_rfl) (by kernel_rfl) (fun _ => by kernel_rfl) ?_
              refine s_pure 96 (.agg #[.int .i64 y27_3.1.kind, .int .i64 y27_3.1.line, .int .i64 y27_3.1.id, .int .i64 y27_3.1.step, .int .i64 y27_3.1.state, .int .i64 y27_3.1.head, .slice a27_3_00 (List.length y27_3.1.data) c27_3_00, .int .i64 y27_3.1.next, .int .i64 y27_3.1.told]) (by kernel_rfl) (by kernel_rfl) (fun _ => by kernel_rfl) ?_
              refine s_pure 97 (.bool y27_3.2.1) (by kernel_rfl) (by kernel_rfl) (fun _ => by kernel_rfl) ?_
              refine s_step 16 (by kernel_rfl) (by kernel_rfl) (st_new (T := 35) (cells := #[.int .i64 (0), .int .i64 (0), .int .i64 (0), .int .i64 (0), .int .i64 (0), .int .i64 (0), .slice none 0 0, .int .i64 (0), .int .i64 (0)]) (fun a => .pointer (some a)) (fun _ => by kernel_rfl)) ?_
              rintro _ _ ⟨b27_7, rfl, rfl⟩
              refine s_do (by kernel_rfl) (by kernel_rfl) (st_store (off := 0) (vs := [.int .i64 y27_3.1.kind, .int .i64 y27_3.1.line, .int .i64 y27_3.1.id, .int .i64 y27_3.1.step, .int .i64 y27_3.1.state, .int .i64 y27_3.1.head, .slice a27_3_00 (List.length y27_3.1.data) c27_3_00, .int .i64 y27_3.1.next, .int .i64 y27_3.1.told]) (c' := #[.int .i64 y27_3.1.kind, .int .i64 y27_3.1.line, .int .i64 y27_3.1.id, .int .i64 y27_3.1.step, .int .i64 y27_3.1.state, .int .i64 y27_3.1.head, .slice a27_3_00 (List.length y27_3.1.data) c27_3_00, .int .i64 y27_3.1.next, .int .i64 y27_3.1.told]) (fun _ => by kernel_rfl) .here (by kernel_rfl) (by kernel_rfl) (by kernel_rfl)) ?_
              rintro _ _ ⟨rfl, rfl⟩
              refine s_pure 17 (.bool y27_3.2.1) (by kernel_rfl) (by kernel_rfl) (fun _ => by kernel_rfl) ?_
              refine ops_end ?_
              refine At.env [(0, .int .i64 v), (4, .bool false), (5, .pointer (some ⟨b1_0, 0, none⟩)), (6, .pointer (some ⟨b5_1, 0, none⟩)), (7, .int .i64 v0_7), (8, .pointer (some ⟨b11_4, 0, none⟩)), (10, .bool y13_3.2.1), (17, .bool y27_3.2.1), (38, .bool (decide (v0_7 ≤ (10 : Int)))), (53, .bool y13_3.2.1), (55, .slice (some ⟨b17_0, 0, none⟩) (List.length l17_0) 4), (56, .int .i64 (((List.length l17_0) : Nat) : Int)), (57, .int .i64 v2_57), (58, .bool (decide (v2_57 < (((List.length l17_0) : Nat) : Int)))), (90, .bool true)] ⟨by kernel_rfl, by kernel_rfl, by kernel_rfl, by kernel_rfl, by kernel_rfl, by kernel_rfl, by kernel_rfl, by kernel_rfl, by kernel_rfl, by kernel_rfl, by kernel_rfl, by kernel_rfl, by kernel_rfl, by kernel_rfl, by kernel_rfl, trivial⟩ ?_
              refine at_then_normal ?_
              refine at_seq (x := C10 [1, 1, 1, 1, 1, 1, 1, 0, 1, 0, 0, 1, 0, 0, 1, 1, 1, 1, 1, 1, 0, 1, 0]) (y := C10 [1, 1, 1, 1, 1, 1, 1, 0, 1, 0, 0, 1, 0, 0, 1, 1, 1, 1, 1, 1, 0, 1, 1]) (by kernel_rfl) ?_
              refine at_region (id := 28) 1 (by kernel_rfl) (by kernel_rfl) ?_
              refine s_pure 98 (.bool y27_3.2.1) (by kernel_rfl) (by kernel_rfl) (fun _ => by kernel_rfl) ?_
              refine ops_end ?_
              refine At.env [(0, .int .i64 v), (4, .bool false), (5, .pointer (some ⟨b1_0, 0, none⟩)), (6, .pointer (some ⟨b5_1, 0, none⟩)), (7, .int .i64 v0_7), (8, .pointer (some ⟨b11_4, 0, none⟩)), (10, .bool y13_3.2.1), (17, .bool y27_3.2.1), (38, .bool (decide (v0_7 ≤ (10 : Int)))), (53, .bool y13_3.2.1), (55, .slice (some ⟨b17_0, 0, none⟩) (List.length l17_0) 4), (56, .int .i64 (((List.length l17_0) : Nat) : Int)), (57, .int .i64 v2_57), (58, .bool (decide (v2_57 < (((List.length l17_0) : Nat) : Int)))), (90, .bool true), (98, .bool y27_3.2.1)] ⟨by kernel_rfl, by kernel_rfl, by kernel_rfl, by kernel_rfl, by kernel_rfl, by kernel_rfl, by kernel_rfl, by kernel_rfl, by kernel_rfl, by kernel_rfl, by kernel_rfl, by kernel_rfl, by kernel_rfl, by kernel_rfl, by kernel_rfl, by kernel_rfl, trivial⟩ ?_
              refine at_then_normal ?_
              rcases Bool.eq_false_or_eq_true (y27_3.2.1) with h8 | h8
              · replace H := bifT H h8
                refine at_true (t := y27_3.2.1) (x := C10 [1, 1, 1, 1, 1, 1, 1, 0, 1, 0, 0, 1, 0, 0, 1, 1, 1, 1, 1, 1, 0, 1, 1, 0]) (y := C10 [1, 1, 1, 1, 1, 1, 1, 0, 1, 0, 0, 1, 0, 0, 1, 1, 1, 1, 1, 1, 0, 1, 1, 1]) (o := .tmp 98) (by kernel_rfl) (by kernel_rfl) (by kernel_rfl) h8 ?_
                refine at_seq (x := C10 [1, 1, 1, 1, 1, 1, 1, 0, 1, 0, 0, 1, 0, 0, 1, 1, 1, 1, 1, 1, 0, 1, 1, 0, 0]) (y := C10 [1, 1, 1, 1, 1, 1, 1, 0, 1, 0, 0, 1, 0, 0, 1, 1, 1, 1, 1, 1, 0, 1, 1, 0, 1]) (by kernel_rfl) ?_
                refine at_region (id := 29) 1 (by kernel_rfl) (by kernel_rfl) ?_
                refine s_pure 4 (.bool false) (by kernel_rfl) (by kernel_rfl) (fun _ => by kernel_rfl) ?_
                refine ops_end ?_
                refine At.env [(0, .int .i64 v), (4, .bool false), (5, .pointer (some ⟨b1_0, 0, none⟩)), (6, .pointer (some ⟨b5_1, 0, none⟩)), (7, .int .i64 v0_7), (8, .pointer (some ⟨b11_4, 0, none⟩)), (10, .bool y13_3.2.1), (17, .bool y27_3.2.1), (38, .bool (decide (v0_7 ≤ (10 : Int)))), (53, .bool y13_3.2.1), (55, .slice (some ⟨b17_0, 0, none⟩) (List.length l17_0) 4), (56, .int .i64 (((List.length l17_0) : Nat) : Int)), (57, .int .i64 v2_57), (58, .bool (decide (v2_57 < (((List.length l17_0) : Nat) : Int)))), (90, .bool true), (98, .bool y27_3.2.1)] ⟨by kernel_rfl, by kernel_rfl, by kernel_rfl, by kernel_rfl, by kernel_rfl, by kernel_rfl, by kernel_rfl, by kernel_rfl, by kernel_rfl, by kernel_rfl, by kernel_rfl, by kernel_rfl, by kernel_rfl, by kernel_rfl, by kernel_rfl, by kernel_rfl, trivial⟩ ?_
                refine at_then_normal ?_
                refine at_ret (by kernel_rfl) ?_
                refine at_in_ret ?_
                refine at_then_ret ?_
                refine at_then_ret ?_
                refine at_in_ret ?_
                refine at_then_ret ?_
                obtain rfl := someE H
                refine at_backR [.bool false] (Γ) (rs := [.tmp 4]) (by kernel_rfl) (.cons (.tmp (by kernel_rfl)) .nil) (fun w hw => (Sat.less (.drop .here (.drop .here (.drop .here (.drop .here (.drop .here (.drop .here (.drop .here (.drop .here .refl)))))))) hw)) ?_
                exact ⟨rfl, rfl⟩
              · replace H := bifF H h8
                refine at_false (t := y27_3.2.1) (x := C10 [1, 1, 1, 1, 1, 1, 1, 0, 1, 0, 0, 1, 0, 0, 1, 1, 1, 1, 1, 1, 0, 1, 1, 0]) (y := C10 [1, 1, 1, 1, 1, 1, 1, 0, 1, 0, 0, 1, 0, 0, 1, 1, 1, 1, 1, 1, 0, 1, 1, 1]) (o := .tmp 98) (by kernel_rfl) (by kernel_rfl) (by kernel_rfl) h8 ?_
                refine at_skip (by kernel_rfl) ?_
                refine at_in_normal ?_
                refine at_round_normal ?_
                exact at_join_mk [(0, .int .i64 v), (4, .bool false), (5, .pointer (some ⟨b1_0, 0, none⟩)), (6, .pointer (some ⟨b5_1, 0, none⟩)), (7, .int .i64 v0_7), (8, .pointer (some ⟨b11_4, 0, none⟩)), (10, .bool y13_3.2.1), (38, .bool (decide (v0_7 ≤ (10 : Int)))), (53, .bool y13_3.2.1), (55, .slice (some ⟨b17_0, 0, none⟩) (List.length l17_0) 4), (56, .int .i64 (((List.length l17_0) : Nat) : Int)), (57, .int .i64 v2_57), (58, .bool (decide (v2_57 < (((List.length l17_0) : Nat) : Int)))), (90, .bool true)] ((IntsA (some ⟨b17_0, 0, none⟩) 4 l17_0) :: (Asn.own b11_4 (.cells #[.int .i64 v0_7, .int .i64 (0), .int .i64 (0), .int .i64 (0), .int .i64 (1), .int .i64 (0), .int .i64 (0), .bool false, .slice (some ⟨b11_2, 0, none⟩) (List.length l11_2) 1] 40 (0, 0))) :: (IntsA (some ⟨b11_2, 0, none⟩) 1 l11_2) :: (Asn.own b5_1 (.cells #[.int .i64 y5_0.kind, .int .i64 y5_0.line, .int .i64 y5_0.id, .int .i64 (nth l6_0 y6_2), .int .i64 y5_0.state, .int .i64 (3), .slice a5_0_00 (List.length y5_0.data) c5_0_00, .int .i64 (3), .int .i64 y5_0.told] 35 (0, 0))) :: (ImmI a5_0_00 y5_0.data) :: (CacheA b1_0 y27_3.2.2) :: Γ) ⟨by kernel_rfl, by kernel_rfl, by kernel_rfl, by kernel_rfl, by kernel_rfl, by kernel_rfl, by kernel_rfl, by kernel_rfl, by kernel_rfl, by kernel_rfl, by kernel_rfl, by kernel_rfl, by kernel_rfl, by kernel_rfl, trivial⟩ (fun w hw => (Sat.less (.take (.there (.there (.there (.there .here)))) (.take (.there (.there (.there (.there .here)))) (.take (.there (.there (.there (.there .here)))) (.take (.there (.there (.there (.there .here)))) (.take (.there (.there (.there .here))) (.take (.there (.there .here)) (.drop .here (.drop .here .refl)))))))) hw)) ⟨true, y27_3.2.2, b11_4, y13_3, b17_0, l17_0, v2_57, (decide (v2_57 < (((List.length l17_0) : Nat) : Int))), b11_2, l11_2, H, rfl, rfl⟩
            · replace H := bifF H h7
              refine s_pure 81 (.bool false) (by kernel_rfl) (by kernel_rfl) (run_eq (v := .bool (decide ((nth l6_0 y6_2) = (3 : Int)))) (fun _ => by kernel_rfl) (congrArg Value.bool h7)) ?_
              refine s_pure 82 (.pointer (some ⟨b5_1, 3, none⟩)) (by kernel_rfl) (by kernel_rfl) (fun _ => by kernel_rfl) ?_
              refine s_load 83 (.int .i64 (nth l6_0 y6_2)) (by kernel_rfl) (by kernel_rfl) (load1 (off := 3) (fun _ => by kernel_rfl) (holds_own (.there (.there (.there (.there (.there .here)))))) (by kernel_rfl)) ?_
              refine s_pure 84 (.bool (decide ((nth l6_0 y6_2) = (0 : Int)))) (by kernel_rfl) (by kernel_rfl) (fun _ => by kernel_rfl) ?_
              refine s_pure 85 (.bool (decide ((nth l6_0 y6_2) = (0 : Int)))) (by kernel_rfl) (by kernel_rfl) (fun _ => by kernel_rfl) ?_
              rcases Bool.eq_false_or_eq_true (decide ((nth l6_0 y6_2) = (0 : Int))) with h9 | h9
              · replace H := bifT H h9
                refine s_pure 86 (.bool true) (by kernel_rfl) (by kernel_rfl) (run_eq (v := .bool (decide ((nth l6_0 y6_2) = (0 : Int)))) (fun _ => by kernel_rfl) (congrArg Value.bool h9)) ?_
                refine s_pass 87 (by kernel_rfl) (by kernel_rfl) ?_
                refine s_pass 88 (by kernel_rfl) (by kernel_rfl) ?_
                refine s_pass 89 (by kernel_rfl) (by kernel_rfl) ?_
                refine s_pure 90 (.bool true) (by kernel_rfl) (by kernel_rfl) (fun _ => by kernel_rfl) ?_
                refine ops_end ?_
                refine At.env [(0, .int .i64 v), (4, .bool false), (5, .pointer (some ⟨b1_0, 0, none⟩)), (6, .pointer (some ⟨b5_1, 0, none⟩)), (7, .int .i64 v0_7), (8, .pointer (some ⟨b11_4, 0, none⟩)), (10, .bool y13_3.2.1), (38, .bool (decide (v0_7 ≤ (10 : Int)))), (53, .bool y13_3.2.1), (55, .slice (some ⟨b17_0, 0, none⟩) (List.length l17_0) 4), (56, .int .i64 (((List.length l17_0) : Nat) : Int)), (57, .int .i64 v2_57), (58, .bool (decide (v2_57 < (((List.length l17_0) : Nat) : Int)))), (90, .bool true)] ⟨by kernel_rfl, by kernel_rfl, by kernel_rfl, by kernel_rfl, by kernel_rfl, by kernel_rfl, by kernel_rfl, by kernel_rfl, by kernel_rfl, by kernel_rfl, by kernel_rfl, by kernel_rfl, by kernel_rfl, by kernel_rfl, trivial⟩ ?_
                refine at_then_normal ?_
                refine at_true (t := true) (x := C10 [1, 1, 1, 1, 1, 1, 1, 0, 1, 0, 0, 1, 0, 0, 1, 1, 1, 1, 1, 1, 0]) (y := C10 [1, 1, 1, 1, 1, 1, 1, 0, 1, 0, 0, 1, 0, 0, 1, 1, 1, 1, 1, 1, 1]) (o := .tmp 90) (by kernel_rfl) (by kernel_rfl) (by kernel_rfl) rfl ?_
                refine at_seq (x := C10 [1, 1, 1, 1, 1, 1, 1, 0, 1, 0, 0, 1, 0, 0, 1, 1, 1, 1, 1, 1, 0, 0]) (y := C10 [1, 1, 1, 1, 1, 1, 1, 0, 1, 0, 0, 1, 0, 0, 1, 1, 1, 1, 1, 1, 0, 1]) (by kernel_rfl) ?_
                refine at_region (id := 27) 10 (by kernel_rfl) (by kernel_rfl) ?_
                refine s_load 92 (.agg #[.int .i64 y5_0.kind, .int .i64 y5_0.line, .int .i64 y5_0.id, .int .i64 (nth l6_0 y6_2), .int .i64 y5_0.state, .int .i64 (3), .slice a5_0_00 (List.length y5_0.data) c5_0_00, .int .i64 (3), .int .i64 y5_0.told]) (by kernel_rfl) (by kernel_rfl) (loadN (off := 0) (vs := [.int .i64 y5_0.kind, .int .i64 y5_0.line, .int .i64 y5_0.id, .int .i64 (nth l6_0 y6_2), .int .i64 y5_0.state, .int .i64 (3), .slice a5_0_00 (List.length y5_0.data) c5_0_00, .int .i64 (3), .int .i64 y5_0.told]) 9 (fun _ => by kernel_rfl) (holds_own (.there (.there (.there (.there (.there .here)))))) rfl (by exact ⟨rfl, rfl, rfl, rfl, rfl, rfl, rfl, rfl, rfl, trivial⟩)) ?_
                refine s_pure 93 (.pointer (some ⟨b1_0, 0, none⟩)) (by kernel_rfl) (by kernel_rfl) (fun _ => by kernel_rfl) ?_
                refine s_load 94 (.agg #[.int .i64 v0_7, .int .i64 (0), .int .i64 (0), .int .i64 (0), .int .i64 (1), .int .i64 (0), .int .i64 (0), .bool false, .slice (some ⟨b11_2, 0, none⟩) (List.length l11_2) 1]) (by kernel_rfl) (by kernel_rfl) (loadN (off := 0) (vs := [.int .i64 v0_7, .int .i64 (0), .int .i64 (0), .int .i64 (0), .int .i64 (1), .int .i64 (0), .int .i64 (0), .bool false, .slice (some ⟨b11_2, 0, none⟩) (List.length l11_2) 1]) 9 (fun _ => by kernel_rfl) (holds_own (.there .here)) rfl (by exact ⟨rfl, rfl, rfl, rfl, rfl, rfl, rfl, rfl, rfl, trivial⟩)) ?_
                obtain ⟨y27_3, hy27_3, H⟩ := bindE H
                refine s_call 95 30 #[.agg #[.int .i64 y5_0.kind, .int .i64 y5_0.line, .int .i64 y5_0.id, .int .i64 (nth l6_0 y6_2), .int .i64 y5_0.state, .int .i64 (3), .slice a5_0_00 (List.length y5_0.data) c5_0_00, .int .i64 (3), .int .i64 y5_0.told], .int .i64 (2), .pointer (some ⟨b1_0, 0, none⟩), .agg #[.int .i64 v0_7, .int .i64 (0), .int .i64 (0), .int .i64 (0), .int .i64 (1), .int .i64 (0), .int .i64 (0), .bool false, .slice (some ⟨b11_2, 0, none⟩) (List.length l11_2) 1]] (by kernel_rfl) (by kernel_rfl) (fun _ => by kernel_rfl) (Tr.conv (Γ' := (ImmI a5_0_00 y5_0.data) :: (CacheA b1_0 v2_b1_0) :: (ImmI a5_0_00 y5_0.data) :: (IntsA (some ⟨b17_0, 0, none⟩) 4 l17_0) :: (Asn.own b11_4 (.cells #[.int .i64 v0_7, .int .i64 (0), .int .i64 (0), .int .i64 (0), .int .i64 (1), .int .i64 (0), .int .i64 (0), .bool false, .slice (some ⟨b11_2, 0, none⟩) (List.length l11_2) 1] 40 (0, 0))) :: (IntsA (some ⟨b11_2, 0, none⟩) 1 l11_2) :: (Asn.own b5_1 (.cells #[.int .i64 y5_0.kind, .int .i64 y5_0.line, .int .i64 y5_0.id, .int .i64 (nth l6_0 y6_2), .int .i64 y5_0.state, .int .i64 (3), .slice a5_0_00 (List.length y5_0.data) c5_0_00, .int .i64 (3), .int .i64 y5_0.told] 35 (0, 0))) :: Γ) (fun w hw => (Sat.less (.take .here (.take (.there (.there (.there .here))) (.take .here (.take .here (.take .here (.take .here (.take .here .refl))))))) (ImmR.dup (Sat.less (.take (.there (.there (.there .here))) (.take .here (.take .here (.take .here (.take .here (.take .here .refl)))))) hw)))) (RNextF_tr a5_0_00 c5_0_00 (⟨y5_0.kind, y5_0.line, y5_0.id, nth l6_0 y6_2, y5_0.state, 3, y5_0.data, 3, y5_0.told⟩ : DealS) (2 : Int) b1_0 v2_b1_0 (some ⟨b11_2, 0, none⟩) 1 (⟨v0_7, 0, 0, 0, 1, 0, 0, false, l11_2⟩ : PktS) (RowsA.reads (k := 1) (.there (.there (.there .here)))) y27_3 hy27_3)) ?_
                rintro _ _ ⟨a27_3_00, c27_3_00, rfl, rfl⟩
                refine s_pure 91 (.tuple #[.agg #[.int .i64 y27_3.1.kind, .int .i64 y27_3.1.line, .int .i64 y27_3.1.id, .int .i64 y27_3.1.step, .int .i64 y27_3.1.state, .int .i64 y27_3.1.head, .slice a27_3_00 (List.length y27_3.1.data) c27_3_00, .int .i64 y27_3.1.next, .int .i64 y27_3.1.told], .bool y27_3.2.1]) (by kernel_rfl) (by kernel_rfl) (fun _ => by kernel_rfl) ?_
                refine s_pure 96 (.agg #[.int .i64 y27_3.1.kind, .int .i64 y27_3.1.line, .int .i64 y27_3.1.id, .int .i64 y27_3.1.step, .int .i64 y27_3.1.state, .int .i64 y27_3.1.head, .slice a27_3_00 (List.length y27_3.1.data) c27_3_00, .int .i64 y27_3.1.next, .int .i64 y27_3.1.told]) (by kernel_rfl) (by kernel_rfl) (fun _ => by kernel_rfl) ?_
                refine s_pure 97 (.bool y27_3.2.1) (by kernel_rfl) (by kernel_rfl) (fun _ => by kernel_rfl) ?_
                refine s_step 16 (by kernel_rfl) (by kernel_rfl) (st_new (T := 35) (cells := #[.int .i64 (0), .int .i64 (0), .int .i64 (0), .int .i64 (0), .int .i64 (0), .int .i64 (0), .slice none 0 0, .int .i64 (0), .int .i64 (0)]) (fun a => .pointer (some a)) (fun _ => by kernel_rfl)) ?_
                rintro _ _ ⟨b27_7, rfl, rfl⟩
                refine s_do (by kernel_rfl) (by kernel_rfl) (st_store (off := 0) (vs := [.int .i64 y27_3.1.kind, .int .i64 y27_3.1.line, .int .i64 y27_3.1.id, .int .i64 y27_3.1.step, .int .i64 y27_3.1.state, .int .i64 y27_3.1.head, .slice a27_3_00 (List.length y27_3.1.data) c27_3_00, .int .i64 y27_3.1.next, .int .i64 y27_3.1.told]) (c' := #[.int .i64 y27_3.1.kind, .int .i64 y27_3.1.line, .int .i64 y27_3.1.id, .int .i64 y27_3.1.step, .int .i64 y27_3.1.state, .int .i64 y27_3.1.head, .slice a27_3_00 (List.length y27_3.1.data) c27_3_00, .int .i64 y27_3.1.next, .int .i64 y27_3.1.told]) (fun _ => by kernel_rfl) .here (by kernel_rfl) (by kernel_rfl) (by kernel_rfl)) ?_
                rintro _ _ ⟨rfl, rfl⟩
                refine s_pure 17 (.bool y27_3.2.1) (by kernel_rfl) (by kernel_rfl) (fun _ => by kernel_rfl) ?_
                refine ops_end ?_
                refine At.env [(0, .int .i64 v), (4, .bool false), (5, .pointer (some ⟨b1_0, 0, none⟩)), (6, .pointer (some ⟨b5_1, 0, none⟩)), (7, .int .i64 v0_7), (8, .pointer (some ⟨b11_4, 0, none⟩)), (10, .bool y13_3.2.1), (17, .bool y27_3.2.1), (38, .bool (decide (v0_7 ≤ (10 : Int)))), (53, .bool y13_3.2.1), (55, .slice (some ⟨b17_0, 0, none⟩) (List.length l17_0) 4), (56, .int .i64 (((List.length l17_0) : Nat) : Int)), (57, .int .i64 v2_57), (58, .bool (decide (v2_57 < (((List.length l17_0) : Nat) : Int)))), (90, .bool true)] ⟨by kernel_rfl, by kernel_rfl, by kernel_rfl, by kernel_rfl, by kernel_rfl, by kernel_rfl, by kernel_rfl, by kernel_rfl, by kernel_rfl, by kernel_rfl, by kernel_rfl, by kernel_rfl, by kernel_rfl, by kernel_rfl, by kernel_rfl, trivial⟩ ?_
                refine at_then_normal ?_
                refine at_seq (x := C10 [1, 1, 1, 1, 1, 1, 1, 0, 1, 0, 0, 1, 0, 0, 1, 1, 1, 1, 1, 1, 0, 1, 0]) (y := C10 [1, 1, 1, 1, 1, 1, 1, 0, 1, 0, 0, 1, 0, 0, 1, 1, 1, 1, 1, 1, 0, 1, 1]) (by kernel_rfl) ?_
                refine at_region (id := 28) 1 (by kernel_rfl) (by kernel_rfl) ?_
                refine s_pure 98 (.bool y27_3.2.1) (by kernel_rfl) (by kernel_rfl) (fun _ => by kernel_rfl) ?_
                refine ops_end ?_
                refine At.env [(0, .int .i64 v), (4, .bool false), (5, .pointer (some ⟨b1_0, 0, none⟩)), (6, .pointer (some ⟨b5_1, 0, none⟩)), (7, .int .i64 v0_7), (8, .pointer (some ⟨b11_4, 0, none⟩)), (10, .bool y13_3.2.1), (17, .bool y27_3.2.1), (38, .bool (decide (v0_7 ≤ (10 : Int)))), (53, .bool y13_3.2.1), (55, .slice (some ⟨b17_0, 0, none⟩) (List.length l17_0) 4), (56, .int .i64 (((List.length l17_0) : Nat) : Int)), (57, .int .i64 v2_57), (58, .bool (decide (v2_57 < (((List.length l17_0) : Nat) : Int)))), (90, .bool true), (98, .bool y27_3.2.1)] ⟨by kernel_rfl, by kernel_rfl, by kernel_rfl, by kernel_rfl, by kernel_rfl, by kernel_rfl, by kernel_rfl, by kernel_rfl, by kernel_rfl, by kernel_rfl, by kernel_rfl, by kernel_rfl, by kernel_rfl, by kernel_rfl, by kernel_rfl, by kernel_rfl, trivial⟩ ?_
                refine at_then_normal ?_
                rcases Bool.eq_false_or_eq_true (y27_3.2.1) with h10 | h10
                · replace H := bifT H h10
                  refine at_true (t := y27_3.2.1) (x := C10 [1, 1, 1, 1, 1, 1, 1, 0, 1, 0, 0, 1, 0, 0, 1, 1, 1, 1, 1, 1, 0, 1, 1, 0]) (y := C10 [1, 1, 1, 1, 1, 1, 1, 0, 1, 0, 0, 1, 0, 0, 1, 1, 1, 1, 1, 1, 0, 1, 1, 1]) (o := .tmp 98) (by kernel_rfl) (by kernel_rfl) (by kernel_rfl) h10 ?_
                  refine at_seq (x := C10 [1, 1, 1, 1, 1, 1, 1, 0, 1, 0, 0, 1, 0, 0, 1, 1, 1, 1, 1, 1, 0, 1, 1, 0, 0]) (y := C10 [1, 1, 1, 1, 1, 1, 1, 0, 1, 0, 0, 1, 0, 0, 1, 1, 1, 1, 1, 1, 0, 1, 1, 0, 1]) (by kernel_rfl) ?_
                  refine at_region (id := 29) 1 (by kernel_rfl) (by kernel_rfl) ?_
                  refine s_pure 4 (.bool false) (by kernel_rfl) (by kernel_rfl) (fun _ => by kernel_rfl) ?_
                  refine ops_end ?_
                  refine At.env [(0, .int .i64 v), (4, .bool false), (5, .pointer (some ⟨b1_0, 0, none⟩)), (6, .pointer (some ⟨b5_1, 0, none⟩)), (7, .int .i64 v0_7), (8, .pointer (some ⟨b11_4, 0, none⟩)), (10, .bool y13_3.2.1), (17, .bool y27_3.2.1), (38, .bool (decide (v0_7 ≤ (10 : Int)))), (53, .bool y13_3.2.1), (55, .slice (some ⟨b17_0, 0, none⟩) (List.length l17_0) 4), (56, .int .i64 (((List.length l17_0) : Nat) : Int)), (57, .int .i64 v2_57), (58, .bool (decide (v2_57 < (((List.length l17_0) : Nat) : Int)))), (90, .bool true), (98, .bool y27_3.2.1)] ⟨by kernel_rfl, by kernel_rfl, by kernel_rfl, by kernel_rfl, by kernel_rfl, by kernel_rfl, by kernel_rfl, by kernel_rfl, by kernel_rfl, by kernel_rfl, by kernel_rfl, by kernel_rfl, by kernel_rfl, by kernel_rfl, by kernel_rfl, by kernel_rfl, trivial⟩ ?_
                  refine at_then_normal ?_
                  refine at_ret (by kernel_rfl) ?_
                  refine at_in_ret ?_
                  refine at_then_ret ?_
                  refine at_then_ret ?_
                  refine at_in_ret ?_
                  refine at_then_ret ?_
                  obtain rfl := someE H
                  refine at_backR [.bool false] (Γ) (rs := [.tmp 4]) (by kernel_rfl) (.cons (.tmp (by kernel_rfl)) .nil) (fun w hw => (Sat.less (.drop .here (.drop .here (.drop .here (.drop .here (.drop .here (.drop .here (.drop .here (.drop .here .refl)))))))) hw)) ?_
                  exact ⟨rfl, rfl⟩
                · replace H := bifF H h10
                  refine at_false (t := y27_3.2.1) (x := C10 [1, 1, 1, 1, 1, 1, 1, 0, 1, 0, 0, 1, 0, 0, 1, 1, 1, 1, 1, 1, 0, 1, 1, 0]) (y := C10 [1, 1, 1, 1, 1, 1, 1, 0, 1, 0, 0, 1, 0, 0, 1, 1, 1, 1, 1, 1, 0, 1, 1, 1]) (o := .tmp 98) (by kernel_rfl) (by kernel_rfl) (by kernel_rfl) h10 ?_
                  refine at_skip (by kernel_rfl) ?_
                  refine at_in_normal ?_
                  refine at_round_normal ?_
                  exact at_join_mk [(0, .int .i64 v), (4, .bool false), (5, .pointer (some ⟨b1_0, 0, none⟩)), (6, .pointer (some ⟨b5_1, 0, none⟩)), (7, .int .i64 v0_7), (8, .pointer (some ⟨b11_4, 0, none⟩)), (10, .bool y13_3.2.1), (38, .bool (decide (v0_7 ≤ (10 : Int)))), (53, .bool y13_3.2.1), (55, .slice (some ⟨b17_0, 0, none⟩) (List.length l17_0) 4), (56, .int .i64 (((List.length l17_0) : Nat) : Int)), (57, .int .i64 v2_57), (58, .bool (decide (v2_57 < (((List.length l17_0) : Nat) : Int)))), (90, .bool true)] ((IntsA (some ⟨b17_0, 0, none⟩) 4 l17_0) :: (Asn.own b11_4 (.cells #[.int .i64 v0_7, .int .i64 (0), .int .i64 (0), .int .i64 (0), .int .i64 (1), .int .i64 (0), .int .i64 (0), .bool false, .slice (some ⟨b11_2, 0, none⟩) (List.length l11_2) 1] 40 (0, 0))) :: (IntsA (some ⟨b11_2, 0, none⟩) 1 l11_2) :: (Asn.own b5_1 (.cells #[.int .i64 y5_0.kind, .int .i64 y5_0.line, .int .i64 y5_0.id, .int .i64 (nth l6_0 y6_2), .int .i64 y5_0.state, .int .i64 (3), .slice a5_0_00 (List.length y5_0.data) c5_0_00, .int .i64 (3), .int .i64 y5_0.told] 35 (0, 0))) :: (ImmI a5_0_00 y5_0.data) :: (CacheA b1_0 y27_3.2.2) :: Γ) ⟨by kernel_rfl, by kernel_rfl, by kernel_rfl, by kernel_rfl, by kernel_rfl, by kernel_rfl, by kernel_rfl, by kernel_rfl, by kernel_rfl, by kernel_rfl, by kernel_rfl, by kernel_rfl, by kernel_rfl, by kernel_rfl, trivial⟩ (fun w hw => (Sat.less (.take (.there (.there (.there (.there .here)))) (.take (.there (.there (.there (.there .here)))) (.take (.there (.there (.there (.there .here)))) (.take (.there (.there (.there (.there .here)))) (.take (.there (.there (.there .here))) (.take (.there (.there .here)) (.drop .here (.drop .here .refl)))))))) hw)) ⟨true, y27_3.2.2, b11_4, y13_3, b17_0, l17_0, v2_57, (decide (v2_57 < (((List.length l17_0) : Nat) : Int))), b11_2, l11_2, H, rfl, rfl⟩
              · replace H := bifF H h9
                refine s_pure 86 (.bool false) (by kernel_rfl) (by kernel_rfl) (run_eq (v := .bool (decide ((nth l6_0 y6_2) = (0 : Int)))) (fun _ => by kernel_rfl) (congrArg Value.bool h9)) ?_
                refine s_pure 87 (.pointer (some ⟨b5_1, 3, none⟩)) (by kernel_rfl) (by kernel_rfl) (fun _ => by kernel_rfl) ?_
                refine s_load 88 (.int .i64 (nth l6_0 y6_2)) (by kernel_rfl) (by kernel_rfl) (load1 (off := 3) (fun _ => by kernel_rfl) (holds_own (.there (.there (.there (.there (.there .here)))))) (by kernel_rfl)) ?_
                refine s_pure 89 (.bool (decide ((nth l6_0 y6_2) = (7 : Int)))) (by kernel_rfl) (by kernel_rfl) (fun _ => by kernel_rfl) ?_
                refine s_pure 90 (.bool (decide ((nth l6_0 y6_2) = (7 : Int)))) (by kernel_rfl) (by kernel_rfl) (fun _ => by kernel_rfl) ?_
                refine ops_end ?_
                refine At.env [(0, .int .i64 v), (4, .bool false), (5, .pointer (some ⟨b1_0, 0, none⟩)), (6, .pointer (some ⟨b5_1, 0, none⟩)), (7, .int .i64 v0_7), (8, .pointer (some ⟨b11_4, 0, none⟩)), (10, .bool y13_3.2.1), (38, .bool (decide (v0_7 ≤ (10 : Int)))), (53, .bool y13_3.2.1), (55, .slice (some ⟨b17_0, 0, none⟩) (List.length l17_0) 4), (56, .int .i64 (((List.length l17_0) : Nat) : Int)), (57, .int .i64 v2_57), (58, .bool (decide (v2_57 < (((List.length l17_0) : Nat) : Int)))), (90, .bool (decide ((nth l6_0 y6_2) = (7 : Int))))] ⟨by kernel_rfl, by kernel_rfl, by kernel_rfl, by kernel_rfl, by kernel_rfl, by kernel_rfl, by kernel_rfl, by kernel_rfl, by kernel_rfl, by kernel_rfl, by kernel_rfl, by kernel_rfl, by kernel_rfl, by kernel_rfl, trivial⟩ ?_
                refine at_then_normal ?_
                rcases Bool.eq_false_or_eq_true (decide ((nth l6_0 y6_2) = (7 : Int))) with h11 | h11
                · replace H := bifT H h11
                  refine at_true (t := decide ((nth l6_0 y6_2) = (7 : Int))) (x := C10 [1, 1, 1, 1, 1, 1, 1, 0, 1, 0, 0, 1, 0, 0, 1, 1, 1, 1, 1, 1, 0]) (y := C10 [1, 1, 1, 1, 1, 1, 1, 0, 1, 0, 0, 1, 0, 0, 1, 1, 1, 1, 1, 1, 1]) (o := .tmp 90) (by kernel_rfl) (by kernel_rfl) (by kernel_rfl) h11 ?_
                  refine at_seq (x := C10 [1, 1, 1, 1, 1, 1, 1, 0, 1, 0, 0, 1, 0, 0, 1, 1, 1, 1, 1, 1, 0, 0]) (y := C10 [1, 1, 1, 1, 1, 1, 1, 0, 1, 0, 0, 1, 0, 0, 1, 1, 1, 1, 1, 1, 0, 1]) (by kernel_rfl) ?_
                  refine at_region (id := 27) 10 (by kernel_rfl) (by kernel_rfl) ?_
                  refine s_load 92 (.agg #[.int .i64 y5_0.kind, .int .i64 y5_0.line, .int .i64 y5_0.id, .int .i64 (nth l6_0 y6_2), .int .i64 y5_0.state, .int .i64 (3), .slice a5_0_00 (List.length y5_0.data) c5_0_00, .int .i64 (3), .int .i64 y5_0.told]) (by kernel_rfl) (by kernel_rfl) (loadN (off := 0) (vs := [.int .i64 y5_0.kind, .int .i64 y5_0.line, .int .i64 y5_0.id, .int .i64 (nth l6_0 y6_2), .int .i64 y5_0.state, .int .i64 (3), .slice a5_0_00 (List.length y5_0.data) c5_0_00, .int .i64 (3), .int .i64 y5_0.told]) 9 (fun _ => by kernel_rfl) (holds_own (.there (.there (.there (.there (.there .here)))))) rfl (by exact ⟨rfl, rfl, rfl, rfl, rfl, rfl, rfl, rfl, rfl, trivial⟩)) ?_
                  refine s_pure 93 (.pointer (some ⟨b1_0, 0, none⟩)) (by kernel_rfl) (by kernel_rfl) (fun _ => by kernel_rfl) ?_
                  refine s_load 94 (.agg #[.int .i64 v0_7, .int .i64 (0), .int .i64 (0), .int .i64 (0), .int .i64 (1), .int .i64 (0), .int .i64 (0), .bool false, .slice (some ⟨b11_2, 0, none⟩) (List.length l11_2) 1]) (by kernel_rfl) (by kernel_rfl) (loadN (off := 0) (vs := [.int .i64 v0_7, .int .i64 (0), .int .i64 (0), .int .i64 (0), .int .i64 (1), .int .i64 (0), .int .i64 (0), .bool false, .slice (some ⟨b11_2, 0, none⟩) (List.length l11_2) 1]) 9 (fun _ => by kernel_rfl) (holds_own (.there .here)) rfl (by exact ⟨rfl, rfl, rfl, rfl, rfl, rfl, rfl, rfl, rfl, trivial⟩)) ?_
                  obtain ⟨y27_3, hy27_3, H⟩ := bindE H
                  refine s_call 95 30 #[.agg #[.int .i64 y5_0.kind, .int .i64 y5_0.line, .int .i64 y5_0.id, .int .i64 (nth l6_0 y6_2), .int .i64 y5_0.state, .int .i64 (3), .slice a5_0_00 (List.length y5_0.data) c5_0_00, .int .i64 (3), .int .i64 y5_0.told], .int .i64 (2), .pointer (some ⟨b1_0, 0, none⟩), .agg #[.int .i64 v0_7, .int .i64 (0), .int .i64 (0), .int .i64 (0), .int .i64 (1), .int .i64 (0), .int .i64 (0), .bool false, .slice (some ⟨b11_2, 0, none⟩) (List.length l11_2) 1]] (by kernel_rfl) (by kernel_rfl) (fun _ => by kernel_rfl) (Tr.conv (Γ' := (ImmI a5_0_00 y5_0.data) :: (CacheA b1_0 v2_b1_0) :: (ImmI a5_0_00 y5_0.data) :: (IntsA (some ⟨b17_0, 0, none⟩) 4 l17_0) :: (Asn.own b11_4 (.cells #[.int .i64 v0_7, .int .i64 (0), .int .i64 (0), .int .i64 (0), .int .i64 (1), .int .i64 (0), .int .i64 (0), .bool false, .slice (some ⟨b11_2, 0, none⟩) (List.length l11_2) 1] 40 (0, 0))) :: (IntsA (some ⟨b11_2, 0, none⟩) 1 l11_2) :: (Asn.own b5_1 (.cells #[.int .i64 y5_0.kind, .int .i64 y5_0.line, .int .i64 y5_0.id, .int .i64 (nth l6_0 y6_2), .int .i64 y5_0.state, .int .i64 (3), .slice a5_0_00 (List.length y5_0.data) c5_0_00, .int .i64 (3), .int .i64 y5_0.told] 35 (0, 0))) :: Γ) (fun w hw => (Sat.less (.take .here (.take (.there (.there (.there .here))) (.take .here (.take .here (.take .here (.take .here (.take .here .refl))))))) (ImmR.dup (Sat.less (.take (.there (.there (.there .here))) (.take .here (.take .here (.take .here (.take .here (.take .here .refl)))))) hw)))) (RNextF_tr a5_0_00 c5_0_00 (⟨y5_0.kind, y5_0.line, y5_0.id, nth l6_0 y6_2, y5_0.state, 3, y5_0.data, 3, y5_0.told⟩ : DealS) (2 : Int) b1_0 v2_b1_0 (some ⟨b11_2, 0, none⟩) 1 (⟨v0_7, 0, 0, 0, 1, 0, 0, false, l11_2⟩ : PktS) (RowsA.reads (k := 1) (.there (.there (.there .here)))) y27_3 hy27_3)) ?_
                  rintro _ _ ⟨a27_3_00, c27_3_00, rfl, rfl⟩
                  refine s_pure 91 (.tuple #[.agg #[.int .i64 y27_3.1.kind, .int .i64 y27_3.1.line, .int .i64 y27_3.1.id, .int .i64 y27_3.1.step, .int .i64 y27_3.1.state, .int .i64 y27_3.1.head, .slice a27_3_00 (List.length y27_3.1.data) c27_3_00, .int .i64 y27_3.1.next, .int .i64 y27_3.1.told], .bool y27_3.2.1]) (by kernel_rfl) (by kernel_rfl) (fun _ => by kernel_rfl) ?_
                  refine s_pure 96 (.agg #[.int .i64 y27_3.1.kind, .int .i64 y27_3.1.line, .int .i64 y27_3.1.id, .int .i64 y27_3.1.step, .int .i64 y27_3.1.state, .int .i64 y27_3.1.head, .slice a27_3_00 (List.length y27_3.1.data) c27_3_00, .int .i64 y27_3.1.next, .int .i64 y27_3.1.told]) (by kernel_rfl) (by kernel_rfl) (fun _ => by kernel_rfl) ?_
                  refine s_pure 97 (.bool y27_3.2.1) (by kernel_rfl) (by kernel_rfl) (fun _ => by kernel_rfl) ?_
                  refine s_step 16 (by kernel_rfl) (by kernel_rfl) (st_new (T := 35) (cells := #[.int .i64 (0), .int .i64 (0), .int .i64 (0), .int .i64 (0), .int .i64 (0), .int .i64 (0), .slice none 0 0, .int .i64 (0), .int .i64 (0)]) (fun a => .pointer (some a)) (fun _ => by kernel_rfl)) ?_
                  rintro _ _ ⟨b27_7, rfl, rfl⟩
                  refine s_do (by kernel_rfl) (by kernel_rfl) (st_store (off := 0) (vs := [.int .i64 y27_3.1.kind, .int .i64 y27_3.1.line, .int .i64 y27_3.1.id, .int .i64 y27_3.1.step, .int .i64 y27_3.1.state, .int .i64 y27_3.1.head, .slice a27_3_00 (List.length y27_3.1.data) c27_3_00, .int .i64 y27_3.1.next, .int .i64 y27_3.1.told]) (c' := #[.int .i64 y27_3.1.kind, .int .i64 y27_3.1.line, .int .i64 y27_3.1.id, .int .i64 y27_3.1.step, .int .i64 y27_3.1.state, .int .i64 y27_3.1.head, .slice a27_3_00 (List.length y27_3.1.data) c27_3_00, .int .i64 y27_3.1.next, .int .i64 y27_3.1.told]) (fun _ => by kernel_rfl) .here (by kernel_rfl) (by kernel_rfl) (by kernel_rfl)) ?_
                  rintro _ _ ⟨rfl, rfl⟩
                  refine s_pure 17 (.bool y27_3.2.1) (by kernel_rfl) (by kernel_rfl) (fun _ => by kernel_rfl) ?_
                  refine ops_end ?_
                  refine At.env [(0, .int .i64 v), (4, .bool false), (5, .pointer (some ⟨b1_0, 0, none⟩)), (6, .pointer (some ⟨b5_1, 0, none⟩)), (7, .int .i64 v0_7), (8, .pointer (some ⟨b11_4, 0, none⟩)), (10, .bool y13_3.2.1), (17, .bool y27_3.2.1), (38, .bool (decide (v0_7 ≤ (10 : Int)))), (53, .bool y13_3.2.1), (55, .slice (some ⟨b17_0, 0, none⟩) (List.length l17_0) 4), (56, .int .i64 (((List.length l17_0) : Nat) : Int)), (57, .int .i64 v2_57), (58, .bool (decide (v2_57 < (((List.length l17_0) : Nat) : Int)))), (90, .bool (decide ((nth l6_0 y6_2) = (7 : Int))))] ⟨by kernel_rfl, by kernel_rfl, by kernel_rfl, by kernel_rfl, by kernel_rfl, by kernel_rfl, by kernel_rfl, by kernel_rfl, by kernel_rfl, by kernel_rfl, by kernel_rfl, by kernel_rfl, by kernel_rfl, by kernel_rfl, by kernel_rfl, trivial⟩ ?_
                  refine at_then_normal ?_
                  refine at_seq (x := C10 [1, 1, 1, 1, 1, 1, 1, 0, 1, 0, 0, 1, 0, 0, 1, 1, 1, 1, 1, 1, 0, 1, 0]) (y := C10 [1, 1, 1, 1, 1, 1, 1, 0, 1, 0, 0, 1, 0, 0, 1, 1, 1, 1, 1, 1, 0, 1, 1]) (by kernel_rfl) ?_
                  refine at_region (id := 28) 1 (by kernel_rfl) (by kernel_rfl) ?_
                  refine s_pure 98 (.bool y27_3.2.1) (by kernel_rfl) (by kernel_rfl) (fun _ => by kernel_rfl) ?_
                  refine ops_end ?_
                  refine At.env [(0, .int .i64 v), (4, .bool false), (5, .pointer (some ⟨b1_0, 0, none⟩)), (6, .pointer (some ⟨b5_1, 0, none⟩)), (7, .int .i64 v0_7), (8, .pointer (some ⟨b11_4, 0, none⟩)), (10, .bool y13_3.2.1), (17, .bool y27_3.2.1), (38, .bool (decide (v0_7 ≤ (10 : Int)))), (53, .bool y13_3.2.1), (55, .slice (some ⟨b17_0, 0, none⟩) (List.length l17_0) 4), (56, .int .i64 (((List.length l17_0) : Nat) : Int)), (57, .int .i64 v2_57), (58, .bool (decide (v2_57 < (((List.length l17_0) : Nat) : Int)))), (90, .bool (decide ((nth l6_0 y6_2) = (7 : Int)))), (98, .bool y27_3.2.1)] ⟨by kernel_rfl, by kernel_rfl, by kernel_rfl, by kernel_rfl, by kernel_rfl, by kernel_rfl, by kernel_rfl, by kernel_rfl, by kernel_rfl, by kernel_rfl, by kernel_rfl, by kernel_rfl, by kernel_rfl, by kernel_rfl, by kernel_rfl, by kernel_rfl, trivial⟩ ?_
                  refine at_then_normal ?_
                  rcases Bool.eq_false_or_eq_true (y27_3.2.1) with h12 | h12
                  · replace H := bifT H h12
                    refine at_true (t := y27_3.2.1) (x := C10 [1, 1, 1, 1, 1, 1, 1, 0, 1, 0, 0, 1, 0, 0, 1, 1, 1, 1, 1, 1, 0, 1, 1, 0]) (y := C10 [1, 1, 1, 1, 1, 1, 1, 0, 1, 0, 0, 1, 0, 0, 1, 1, 1, 1, 1, 1, 0, 1, 1, 1]) (o := .tmp 98) (by kernel_rfl) (by kernel_rfl) (by kernel_rfl) h12 ?_
                    refine at_seq (x := C10 [1, 1, 1, 1, 1, 1, 1, 0, 1, 0, 0, 1, 0, 0, 1, 1, 1, 1, 1, 1, 0, 1, 1, 0, 0]) (y := C10 [1, 1, 1, 1, 1, 1, 1, 0, 1, 0, 0, 1, 0, 0, 1, 1, 1, 1, 1, 1, 0, 1, 1, 0, 1]) (by kernel_rfl) ?_
                    refine at_region (id := 29) 1 (by kernel_rfl) (by kernel_rfl) ?_
                    refine s_pure 4 (.bool false) (by kernel_rfl) (by kernel_rfl) (fun _ => by kernel_rfl) ?_
                    refine ops_end ?_
                    refine At.env [(0, .int .i64 v), (4, .bool false), (5, .pointer (some ⟨b1_0, 0, none⟩)), (6, .pointer (some ⟨b5_1, 0, none⟩)), (7, .int .i64 v0_7), (8, .pointer (some ⟨b11_4, 0, none⟩)), (10, .bool y13_3.2.1), (17, .bool y27_3.2.1), (38, .bool (decide (v0_7 ≤ (10 : Int)))), (53, .bool y13_3.2.1), (55, .slice (some ⟨b17_0, 0, none⟩) (List.length l17_0) 4), (56, .int .i64 (((List.length l17_0) : Nat) : Int)), (57, .int .i64 v2_57), (58, .bool (decide (v2_57 < (((List.length l17_0) : Nat) : Int)))), (90, .bool (decide ((nth l6_0 y6_2) = (7 : Int)))), (98, .bool y27_3.2.1)] ⟨by kernel_rfl, by kernel_rfl, by kernel_rfl, by kernel_rfl, by kernel_rfl, by kernel_rfl, by kernel_rfl, by kernel_rfl, by kernel_rfl, by kernel_rfl, by kernel_rfl, by kernel_rfl, by kernel_rfl, by kernel_rfl, by kernel_rfl, by kernel_rfl, trivial⟩ ?_
                    refine at_then_normal ?_
                    refine at_ret (by kernel_rfl) ?_
                    refine at_in_ret ?_
                    refine at_then_ret ?_
                    refine at_then_ret ?_
                    refine at_in_ret ?_
                    refine at_then_ret ?_
                    obtain rfl := someE H
                    refine at_backR [.bool false] (Γ) (rs := [.tmp 4]) (by kernel_rfl) (.cons (.tmp (by kernel_rfl)) .nil) (fun w hw => (Sat.less (.drop .here (.drop .here (.drop .here (.drop .here (.drop .here (.drop .here (.drop .here (.drop .here .refl)))))))) hw)) ?_
                    exact ⟨rfl, rfl⟩
                  · replace H := bifF H h12
                    refine at_false (t := y27_3.2.1) (x := C10 [1, 1, 1, 1, 1, 1, 1, 0, 1, 0, 0, 1, 0, 0, 1, 1, 1, 1, 1, 1, 0, 1, 1, 0]) (y := C10 [1, 1, 1, 1, 1, 1, 1, 0, 1, 0, 0, 1, 0, 0, 1, 1, 1, 1, 1, 1, 0, 1, 1, 1]) (o := .tmp 98) (by kernel_rfl) (by kernel_rfl) (by kernel_rfl) h12 ?_
                    refine at_skip (by kernel_rfl) ?_
                    refine at_in_normal ?_
                    refine at_round_normal ?_
                    exact at_join_mk [(0, .int .i64 v), (4, .bool false), (5, .pointer (some ⟨b1_0, 0, none⟩)), (6, .pointer (some ⟨b5_1, 0, none⟩)), (7, .int .i64 v0_7), (8, .pointer (some ⟨b11_4, 0, none⟩)), (10, .bool y13_3.2.1), (38, .bool (decide (v0_7 ≤ (10 : Int)))), (53, .bool y13_3.2.1), (55, .slice (some ⟨b17_0, 0, none⟩) (List.length l17_0) 4), (56, .int .i64 (((List.length l17_0) : Nat) : Int)), (57, .int .i64 v2_57), (58, .bool (decide (v2_57 < (((List.length l17_0) : Nat) : Int)))), (90, .bool (decide ((nth l6_0 y6_2) = (7 : Int))))] ((IntsA (some ⟨b17_0, 0, none⟩) 4 l17_0) :: (Asn.own b11_4 (.cells #[.int .i64 v0_7, .int .i64 (0), .int .i64 (0), .int .i64 (0), .int .i64 (1), .int .i64 (0), .int .i64 (0), .bool false, .slice (some ⟨b11_2, 0, none⟩) (List.length l11_2) 1] 40 (0, 0))) :: (IntsA (some ⟨b11_2, 0, none⟩) 1 l11_2) :: (Asn.own b5_1 (.cells #[.int .i64 y5_0.kind, .int .i64 y5_0.line, .int .i64 y5_0.id, .int .i64 (nth l6_0 y6_2), .int .i64 y5_0.state, .int .i64 (3), .slice a5_0_00 (List.length y5_0.data) c5_0_00, .int .i64 (3), .int .i64 y5_0.told] 35 (0, 0))) :: (ImmI a5_0_00 y5_0.data) :: (CacheA b1_0 y27_3.2.2) :: Γ) ⟨by kernel_rfl, by kernel_rfl, by kernel_rfl, by kernel_rfl, by kernel_rfl, by kernel_rfl, by kernel_rfl, by kernel_rfl, by kernel_rfl, by kernel_rfl, by kernel_rfl, by kernel_rfl, by kernel_rfl, by kernel_rfl, trivial⟩ (fun w hw => (Sat.less (.take (.there (.there (.there (.there .here)))) (.take (.there (.there (.there (.there .here)))) (.take (.there (.there (.there (.there .here)))) (.take (.there (.there (.there (.there .here)))) (.take (.there (.there (.there .here))) (.take (.there (.there .here)) (.drop .here (.drop .here .refl)))))))) hw)) ⟨decide ((nth l6_0 y6_2) = (7 : Int)), y27_3.2.2, b11_4, y13_3, b17_0, l17_0, v2_57, (decide (v2_57 < (((List.length l17_0) : Nat) : Int))), b11_2, l11_2, H, rfl, rfl⟩
                · replace H := bifF H h11
                  refine at_false (t := decide ((nth l6_0 y6_2) = (7 : Int))) (x := C10 [1, 1, 1, 1, 1, 1, 1, 0, 1, 0, 0, 1, 0, 0, 1, 1, 1, 1, 1, 1, 0]) (y := C10 [1, 1, 1, 1, 1, 1, 1, 0, 1, 0, 0, 1, 0, 0, 1, 1, 1, 1, 1, 1, 1]) (o := .tmp 90) (by kernel_rfl) (by kernel_rfl) (by kernel_rfl) h11 ?_
                  refine at_skip (by kernel_rfl) ?_
                  refine at_in_normal ?_
                  refine at_round_normal ?_
                  exact at_join_mk [(0, .int .i64 v), (4, .bool false), (5, .pointer (some ⟨b1_0, 0, none⟩)), (6, .pointer (some ⟨b5_1, 0, none⟩)), (7, .int .i64 v0_7), (8, .pointer (some ⟨b11_4, 0, none⟩)), (10, .bool y13_3.2.1), (38, .bool (decide (v0_7 ≤ (10 : Int)))), (53, .bool y13_3.2.1), (55, .slice (some ⟨b17_0, 0, none⟩) (List.length l17_0) 4), (56, .int .i64 (((List.length l17_0) : Nat) : Int)), (57, .int .i64 v2_57), (58, .bool (decide (v2_57 < (((List.length l17_0) : Nat) : Int)))), (90, .bool (decide ((nth l6_0 y6_2) = (7 : Int))))] ((IntsA (some ⟨b17_0, 0, none⟩) 4 l17_0) :: (Asn.own b11_4 (.cells #[.int .i64 v0_7, .int .i64 (0), .int .i64 (0), .int .i64 (0), .int .i64 (1), .int .i64 (0), .int .i64 (0), .bool false, .slice (some ⟨b11_2, 0, none⟩) (List.length l11_2) 1] 40 (0, 0))) :: (IntsA (some ⟨b11_2, 0, none⟩) 1 l11_2) :: (Asn.own b5_1 (.cells #[.int .i64 y5_0.kind, .int .i64 y5_0.line, .int .i64 y5_0.id, .int .i64 (nth l6_0 y6_2), .int .i64 y5_0.state, .int .i64 (3), .slice a5_0_00 (List.length y5_0.data) c5_0_00, .int .i64 (3), .int .i64 y5_0.told] 35 (0, 0))) :: (ImmI a5_0_00 y5_0.data) :: (CacheA b1_0 v2_b1_0) :: Γ) ⟨by kernel_rfl, by kernel_rfl, by kernel_rfl, by kernel_rfl, by kernel_rfl, by kernel_rfl, by kernel_rfl, by kernel_rfl, by kernel_rfl, by kernel_rfl, by kernel_rfl, by kernel_rfl, by kernel_rfl, by kernel_rfl, trivial⟩ (fun w hw => (Sat.less (.take .here (.take .here (.take (.there (.there .here)) (.take (.there (.there .here)) (.take (.there .here) (.take .here .refl)))))) hw)) ⟨decide ((nth l6_0 y6_2) = (7 : Int)), v2_b1_0, b11_4, y13_3, b17_0, l17_0, v2_57, (decide (v2_57 < (((List.length l17_0) : Nat) : Int))), b11_2, l11_2, H, rfl, rfl⟩
  · replace H := bifF H h1
    refine at_false (t := decide (v0_7 ≤ (10 : Int))) (x := C10 [1, 1, 1, 1, 1, 1, 1, 0, 1, 0, 0, 0, 1, 0]) (y := C10 [1, 1, 1, 1, 1, 1, 1, 0, 1, 0, 0, 0, 1, 1]) (o := .tmp 38) (by kernel_rfl) (by kernel_rfl) (by kernel_rfl) h1 ?_
    refine at_exit (i := 0) (by kernel_rfl) ?_
    refine at_then_exit ?_
    refine at_then_exit ?_
    rw [rolloutOtherS_k0] at H
    refine At.env [(0, .int .i64 v), (4, .bool false), (5, .pointer (some ⟨b1_0, 0, none⟩)), (6, .pointer (some ⟨b5_1, 0, none⟩)), (7, .int .i64 v0_7)] ⟨by kernel_rfl, by kernel_rfl, by kernel_rfl, by kernel_rfl, by kernel_rfl, trivial⟩ ?_
    refine At.conv (Γ' := (Asn.own b5_1 (.cells #[.int .i64 y5_0.kind, .int .i64 y5_0.line, .int .i64 y5_0.id, .int .i64 (nth l6_0 y6_2), .int .i64 y5_0.state, .int .i64 (3), .slice a5_0_00 (List.length y5_0.data) c5_0_00, .int .i64 (3), .int .i64 y5_0.told] 35 (0, 0))) :: (ImmI a5_0_00 y5_0.data) :: (CacheA b1_0 v0_b1_0) :: Γ) (fun w hw => (Sat.less (.take .here (.take .here (.take .here .refl))) hw)) ?_
    refine at_in_here ?_
    refine at_then_normal ?_
    refine at_seq (x := C10 [1, 1, 1, 1, 1, 1, 1, 1, 0]) (y := C10 [1, 1, 1, 1, 1, 1, 1, 1, 1]) (by kernel_rfl) ?_
    refine at_region (id := 30) 8 (by kernel_rfl) (by kernel_rfl) ?_
    refine s_pure 100 (.pointer (some ⟨b1_0, 0, none⟩)) (by kernel_rfl) (by kernel_rfl) (fun _ => by kernel_rfl) ?_
    obtain ⟨y30_1, hy30_1, H⟩ := bindE H
    refine s_call 101 18 #[.pointer (some ⟨b1_0, 0, none⟩), .int .i64 (1)] (by kernel_rfl) (by kernel_rfl) (fun _ => by kernel_rfl) (Tr.conv (Γ' := (CacheA b1_0 v0_b1_0) :: (Asn.own b5_1 (.cells #[.int .i64 y5_0.kind, .int .i64 y5_0.line, .int .i64 y5_0.id, .int .i64 (nth l6_0 y6_2), .int .i64 y5_0.state, .int .i64 (3), .slice a5_0_00 (List.length y5_0.data) c5_0_00, .int .i64 (3), .int .i64 y5_0.told] 35 (0, 0))) :: (ImmI a5_0_00 y5_0.data) :: Γ) (fun w hw => (Sat.less (.take (.there (.there .here)) (.take .here (.take .here .refl))) hw)) (FindF_tr b1_0 v0_b1_0 (1 : Int) y30_1 hy30_1)) ?_
    rintro _ _ ⟨a30_1_00, c30_1_00, rfl, rfl⟩
    refine s_pure 99 (.tuple #[.agg #[.int .i64 y30_1.1.fwd, .int .i64 y30_1.1.back, .int .i64 y30_1.1.line, .int .i64 y30_1.1.used, .bool y30_1.1.dirty, .slice a30_1_00 (List.length y30_1.1.data) c30_1_00], .bool y30_1.2]) (by kernel_rfl) (by kernel_rfl) (fun _ => by kernel_rfl) ?_
    refine s_pure 102 (.agg #[.int .i64 y30_1.1.fwd, .int .i64 y30_1.1.back, .int .i64 y30_1.1.line, .int .i64 y30_1.1.used, .bool y30_1.1.dirty, .slice a30_1_00 (List.length y30_1.1.data) c30_1_00]) (by kernel_rfl) (by kernel_rfl) (fun _ => by kernel_rfl) ?_
    refine s_pure 103 (.bool y30_1.2) (by kernel_rfl) (by kernel_rfl) (fun _ => by kernel_rfl) ?_
    refine s_step 18 (by kernel_rfl) (by kernel_rfl) (st_new (T := 32) (cells := #[.int .i64 (0), .int .i64 (0), .int .i64 (0), .int .i64 (0), .bool false, .slice none 0 0]) (fun a => .pointer (some a)) (fun _ => by kernel_rfl)) ?_
    rintro _ _ ⟨b30_5, rfl, rfl⟩
    refine s_do (by kernel_rfl) (by kernel_rfl) (st_store (off := 0) (vs := [.int .i64 y30_1.1.fwd, .int .i64 y30_1.1.back, .int .i64 y30_1.1.line, .int .i64 y30_1.1.used, .bool y30_1.1.dirty, .slice a30_1_00 (List.length y30_1.1.data) c30_1_00]) (c' := #[.int .i64 y30_1.1.fwd, .int .i64 y30_1.1.back, .int .i64 y30_1.1.line, .int .i64 y30_1.1.used, .bool y30_1.1.dirty, .slice a30_1_00 (List.length y30_1.1.data) c30_1_00]) (fun _ => by kernel_rfl) .here (by kernel_rfl) (by kernel_rfl) (by kernel_rfl)) ?_
    rintro _ _ ⟨rfl, rfl⟩
    refine s_pure 19 (.bool y30_1.2) (by kernel_rfl) (by kernel_rfl) (fun _ => by kernel_rfl) ?_
    refine ops_end ?_
    refine At.env [(0, .int .i64 v), (4, .bool false), (5, .pointer (some ⟨b1_0, 0, none⟩)), (6, .pointer (some ⟨b5_1, 0, none⟩)), (7, .int .i64 v0_7), (18, .pointer (some ⟨b30_5, 0, none⟩)), (19, .bool y30_1.2)] ⟨by kernel_rfl, by kernel_rfl, by kernel_rfl, by kernel_rfl, by kernel_rfl, by kernel_rfl, by kernel_rfl, trivial⟩ ?_
    refine at_then_normal ?_
    refine at_seq (x := C10 [1, 1, 1, 1, 1, 1, 1, 1, 1, 0]) (y := C10 [1, 1, 1, 1, 1, 1, 1, 1, 1, 1]) (by kernel_rfl) ?_
    refine at_region (id := 31) 28 (by kernel_rfl) (by kernel_rfl) ?_
    refine s_pure 104 (.bool y30_1.2) (by kernel_rfl) (by kernel_rfl) (fun _ => by kernel_rfl) ?_
    rcases Bool.eq_false_or_eq_true (y30_1.2) with h13 | h13
    · replace H := bifT H h13
      refine s_pure 105 (.bool true) (by kernel_rfl) (by kernel_rfl) (run_eq (v := .bool (y30_1.2)) (fun _ => by kernel_rfl) (congrArg Value.bool h13)) ?_
      refine s_pure 106 (.pointer (some ⟨b30_5, 0, none⟩)) (by kernel_rfl) (by kernel_rfl) (fun _ => by kernel_rfl) ?_
      refine s_pure 107 (.pointer (some ⟨b30_5, 0, none⟩)) (by kernel_rfl) (by kernel_rfl) (fun _ => by kernel_rfl) ?_
      refine s_load 108 (.int .i64 y30_1.1.fwd) (by kernel_rfl) (by kernel_rfl) (load1 (off := 0) (fun _ => by kernel_rfl) (holds_own .here) (by kernel_rfl)) ?_
      refine s_pure 109 (.bool (decide (y30_1.1.fwd = (0 : Int)))) (by kernel_rfl) (by kernel_rfl) (fun _ => by kernel_rfl) ?_
      refine s_pure 110 (.bool (decide (y30_1.1.fwd = (0 : Int)))) (by kernel_rfl) (by kernel_rfl) (fun _ => by kernel_rfl) ?_
      rcases Bool.eq_false_or_eq_true (decide (y30_1.1.fwd = (0 : Int))) with h14 | h14
      · replace H := bifT H h14
        refine s_pure 111 (.bool true) (by kernel_rfl) (by kernel_rfl) (run_eq (v := .bool (decide (y30_1.1.fwd = (0 : Int)))) (fun _ => by kernel_rfl) (congrArg Value.bool h14)) ?_
        refine s_pure 112 (.pointer (some ⟨b30_5, 0, none⟩)) (by kernel_rfl) (by kernel_rfl) (fun _ => by kernel_rfl) ?_
        refine s_pure 113 (.pointer (some ⟨b30_5, 1, none⟩)) (by kernel_rfl) (by kernel_rfl) (fun _ => by kernel_rfl) ?_
        refine s_load 114 (.int .i64 y30_1.1.back) (by kernel_rfl) (by kernel_rfl) (load1 (off := 1) (fun _ => by kernel_rfl) (holds_own .here) (by kernel_rfl)) ?_
        refine s_pure 115 (.bool (decide (y30_1.1.back = (3 : Int)))) (by kernel_rfl) (by kernel_rfl) (fun _ => by kernel_rfl) ?_
        refine s_pure 116 (.bool (decide (y30_1.1.back = (3 : Int)))) (by kernel_rfl) (by kernel_rfl) (fun _ => by kernel_rfl) ?_
        rcases Bool.eq_false_or_eq_true (decide (y30_1.1.back = (3 : Int))) with h15 | h15
        · replace H := bifT H h15
          refine s_pure 117 (.bool true) (by kernel_rfl) (by kernel_rfl) (run_eq (v := .bool (decide (y30_1.1.back = (3 : Int)))) (fun _ => by kernel_rfl) (congrArg Value.bool h15)) ?_
          refine s_load 118 (.agg #[.int .i64 y30_1.1.fwd, .int .i64 y30_1.1.back, .int .i64 y30_1.1.line, .int .i64 y30_1.1.used, .bool y30_1.1.dirty, .slice a30_1_00 (List.length y30_1.1.data) c30_1_00]) (by kernel_rfl) (by kernel_rfl) (loadN (off := 0) (vs := [.int .i64 y30_1.1.fwd, .int .i64 y30_1.1.back, .int .i64 y30_1.1.line, .int .i64 y30_1.1.used, .bool y30_1.1.dirty, .slice a30_1_00 (List.length y30_1.1.data) c30_1_00]) 6 (fun _ => by kernel_rfl) (holds_own .here) rfl (by exact ⟨rfl, rfl, rfl, rfl, rfl, rfl, trivial⟩)) ?_
          obtain ⟨y31_15, hy31_15, H⟩ := bindE H
          refine s_call 119 20 #[.agg #[.int .i64 y30_1.1.fwd, .int .i64 y30_1.1.back, .int .i64 y30_1.1.line, .int .i64 y30_1.1.used, .bool y30_1.1.dirty, .slice a30_1_00 (List.length y30_1.1.data) c30_1_00], .int .i64 (0)] (by kernel_rfl) (by kernel_rfl) (fun _ => by kernel_rfl) (EWordF_tr a30_1_00 c30_1_00 y30_1.1 (0 : Int) (RowsA.reads (k := 1) (.there .here)) y31_15 hy31_15) ?_
          rintro _ _ ⟨rfl, rfl⟩
          refine s_pure 120 (.int .i64 v) (by kernel_rfl) (by kernel_rfl) (fun _ => by kernel_rfl) ?_
          refine s_pure 121 (.bool (decide (y31_15 = v))) (by kernel_rfl) (by kernel_rfl) (fun _ => by kernel_rfl) ?_
          refine s_pure 122 (.bool (decide (y31_15 = v))) (by kernel_rfl) (by kernel_rfl) (fun _ => by kernel_rfl) ?_
          rcases Bool.eq_false_or_eq_true (decide (y31_15 = v)) with h16 | h16
          · replace H := bifT H h16
            refine s_pure 123 (.bool true) (by kernel_rfl) (by kernel_rfl) (run_eq (v := .bool (decide (y31_15 = v))) (fun _ => by kernel_rfl) (congrArg Value.bool h16)) ?_
            refine s_pure 124 (.pointer (some ⟨b1_0, 0, none⟩)) (by kernel_rfl) (by kernel_rfl) (fun _ => by kernel_rfl) ?_
            obtain ⟨y31_21, hy31_21, H⟩ := letE H
            refine s_call 125 23 #[.pointer (some ⟨b1_0, 0, none⟩)] (by kernel_rfl) (by kernel_rfl) (fun _ => by kernel_rfl) (Tr.conv (Γ' := (CacheA b1_0 v0_b1_0) :: (Asn.own b30_5 (.cells #[.int .i64 y30_1.1.fwd, .int .i64 y30_1.1.back, .int .i64 y30_1.1.line, .int .i64 y30_1.1.used, .bool y30_1.1.dirty, .slice a30_1_00 (List.length y30_1.1.data) c30_1_00] 32 (0, 0))) :: (IntsA a30_1_00 c30_1_00 y30_1.1.data) :: (Asn.own b5_1 (.cells #[.int .i64 y5_0.kind, .int .i64 y5_0.line, .int .i64 y5_0.id, .int .i64 (nth l6_0 y6_2), .int .i64 y5_0.state, .int .i64 (3), .slice a5_0_00 (List.length y5_0.data) c5_0_00, .int .i64 (3), .int .i64 y5_0.told] 35 (0, 0))) :: (ImmI a5_0_00 y5_0.data) :: Γ) (fun w hw => (Sat.less (.take (.there (.there .here)) (.take .here (.take .here (.take .here (.take .here .refl))))) hw)) (LenF_tr b1_0 v0_b1_0 y31_21 hy31_21)) ?_
            rintro _ _ ⟨rfl, rfl⟩
            refine s_pure 126 (.bool (decide (y31_21 = (1 : Int)))) (by kernel_rfl) (by kernel_rfl) (fun _ => by kernel_rfl) ?_
            refine s_pure 127 (.bool (decide (y31_21 = (1 : Int)))) (by kernel_rfl) (by kernel_rfl) (fun _ => by kernel_rfl) ?_
            rcases Bool.eq_false_or_eq_true (decide (y31_21 = (1 : Int))) with h17 | h17
            · replace H := bifT H h17
              refine s_pure 128 (.bool true) (by kernel_rfl) (by kernel_rfl) (run_eq (v := .bool (decide (y31_21 = (1 : Int)))) (fun _ => by kernel_rfl) (congrArg Value.bool h17)) ?_
              obtain ⟨y31_25, hy31_25, H⟩ := bindE H
              refine s_call 129 31 #[] (by kernel_rfl) (by kernel_rfl) (fun _ => by kernel_rfl) (W16F_tr  y31_25 hy31_25) ?_
              rintro _ _ ⟨rfl, rfl⟩
              refine s_pure 130 (.bool y31_25) (by kernel_rfl) (by kernel_rfl) (fun _ => by kernel_rfl) ?_
              refine s_pure 4 (.bool y31_25) (by kernel_rfl) (by kernel_rfl) (fun _ => by kernel_rfl) ?_
              refine ops_end ?_
              refine At.env [(0, .int .i64 v), (4, .bool y31_25), (5, .pointer (some ⟨b1_0, 0, none⟩)), (6, .pointer (some ⟨b5_1, 0, none⟩)), (7, .int .i64 v0_7), (18, .pointer (some ⟨b30_5, 0, none⟩)), (19, .bool y30_1.2)] ⟨by kernel_rfl, by kernel_rfl, by kernel_rfl, by kernel_rfl, by kernel_rfl, by kernel_rfl, by kernel_rfl, trivial⟩ ?_
              refine at_then_normal ?_
              refine at_ret (by kernel_rfl) ?_
              obtain rfl := someE H
              refine at_backR [.bool y31_25] (Γ) (rs := [.tmp 4]) (by kernel_rfl) (.cons (.tmp (by kernel_rfl)) .nil) (fun w hw => (Sat.less (.drop .here (.drop .here (.drop .here (.drop .here (.drop .here .refl))))) hw)) ?_
              exact ⟨rfl, rfl⟩
            · replace H := bifF H h17
              refine s_pure 128 (.bool false) (by kernel_rfl) (by kernel_rfl) (run_eq (v := .bool (decide (y31_21 = (1 : Int)))) (fun _ => by kernel_rfl) (congrArg Value.bool h17)) ?_
              refine s_pass 129 (by kernel_rfl) (by kernel_rfl) ?_
              refine s_pure 130 (.bool false) (by kernel_rfl) (by kernel_rfl) (fun _ => by kernel_rfl) ?_
              refine s_pure 4 (.bool false) (by kernel_rfl) (by kernel_rfl) (fun _ => by kernel_rfl) ?_
              refine ops_end ?_
              refine At.env [(0, .int .i64 v), (4, .bool false), (5, .pointer (some ⟨b1_0, 0, none⟩)), (6, .pointer (some ⟨b5_1, 0, none⟩)), (7, .int .i64 v0_7), (18, .pointer (some ⟨b30_5, 0, none⟩)), (19, .bool y30_1.2)] ⟨by kernel_rfl, by kernel_rfl, by kernel_rfl, by kernel_rfl, by kernel_rfl, by kernel_rfl, by kernel_rfl, trivial⟩ ?_
              refine at_then_normal ?_
              refine at_ret (by kernel_rfl) ?_
              obtain rfl := someE H
              refine at_backR [.bool false] (Γ) (rs := [.tmp 4]) (by kernel_rfl) (.cons (.tmp (by kernel_rfl)) .nil) (fun w hw => (Sat.less (.drop .here (.drop .here (.drop .here (.drop .here (.drop .here .refl))))) hw)) ?_
              exact ⟨rfl, rfl⟩
          · replace H := bifF H h16
            refine s_pure 123 (.bool false) (by kernel_rfl) (by kernel_rfl) (run_eq (v := .bool (decide (y31_15 = v))) (fun _ => by kernel_rfl) (congrArg Value.bool h16)) ?_
            refine s_pass 124 (by kernel_rfl) (by kernel_rfl) ?_
            refine s_pass 125 (by kernel_rfl) (by kernel_rfl) ?_
            refine s_pass 126 (by kernel_rfl) (by kernel_rfl) ?_
            refine s_pure 127 (.bool false) (by kernel_rfl) (by kernel_rfl) (fun _ => by kernel_rfl) ?_
            refine s_pure 128 (.bool false) (by kernel_rfl) (by kernel_rfl) (fun _ => by kernel_rfl) ?_
            refine s_pass 129 (by kernel_rfl) (by kernel_rfl) ?_
            refine s_pure 130 (.bool false) (by kernel_rfl) (by kernel_rfl) (fun _ => by kernel_rfl) ?_
            refine s_pure 4 (.bool false) (by kernel_rfl) (by kernel_rfl) (fun _ => by kernel_rfl) ?_
            refine ops_end ?_
            refine At.env [(0, .int .i64 v), (4, .bool false), (5, .pointer (some ⟨b1_0, 0, none⟩)), (6, .pointer (some ⟨b5_1, 0, none⟩)), (7, .int .i64 v0_7), (18, .pointer (some ⟨b30_5, 0, none⟩)), (19, .bool y30_1.2)] ⟨by kernel_rfl, by kernel_rfl, by kernel_rfl, by kernel_rfl, by kernel_rfl, by kernel_rfl, by kernel_rfl, trivial⟩ ?_
            refine at_then_normal ?_
            refine at_ret (by kernel_rfl) ?_
            obtain rfl := someE H
            refine at_backR [.bool false] (Γ) (rs := [.tmp 4]) (by kernel_rfl) (.cons (.tmp (by kernel_rfl)) .nil) (fun w hw => (Sat.less (.drop .here (.drop .here (.drop .here (.drop .here (.drop .here .refl))))) hw)) ?_
            exact ⟨rfl, rfl⟩
        · replace H := bifF H h15
          refine s_pure 117 (.bool false) (by kernel_rfl) (by kernel_rfl) (run_eq (v := .bool (decide (y30_1.1.back = (3 : Int)))) (fun _ => by kernel_rfl) (congrArg Value.bool h15)) ?_
          refine s_pass 118 (by kernel_rfl) (by kernel_rfl) ?_
          refine s_pass 119 (by kernel_rfl) (by kernel_rfl) ?_
          refine s_pass 120 (by kernel_rfl) (by kernel_rfl) ?_
          refine s_pass 121 (by kernel_rfl) (by kernel_rfl) ?_
          refine s_pure 122 (.bool false) (by kernel_rfl) (by kernel_rfl) (fun _ => by kernel_rfl) ?_
          refine s_pure 123 (.bool false) (by kernel_rfl) (by kernel_rfl) (fun _ => by kernel_rfl) ?_
          refine s_pass 124 (by kernel_rfl) (by kernel_rfl) ?_
          refine s_pass 125 (by kernel_rfl) (by kernel_rfl) ?_
          refine s_pass 126 (by kernel_rfl) (by kernel_rfl) ?_
          refine s_pure 127 (.bool false) (by kernel_rfl) (by kernel_rfl) (fun _ => by kernel_rfl) ?_
          refine s_pure 128 (.bool false) (by kernel_rfl) (by kernel_rfl) (fun _ => by kernel_rfl) ?_
          refine s_pass 129 (by kernel_rfl) (by kernel_rfl) ?_
          refine s_pure 130 (.bool false) (by kernel_rfl) (by kernel_rfl) (fun _ => by kernel_rfl) ?_
          refine s_pure 4 (.bool false) (by kernel_rfl) (by kernel_rfl) (fun _ => by kernel_rfl) ?_
          refine ops_end ?_
          refine At.env [(0, .int .i64 v), (4, .bool false), (5, .pointer (some ⟨b1_0, 0, none⟩)), (6, .pointer (some ⟨b5_1, 0, none⟩)), (7, .int .i64 v0_7), (18, .pointer (some ⟨b30_5, 0, none⟩)), (19, .bool y30_1.2)] ⟨by kernel_rfl, by kernel_rfl, by kernel_rfl, by kernel_rfl, by kernel_rfl, by kernel_rfl, by kernel_rfl, trivial⟩ ?_
          refine at_then_normal ?_
          refine at_ret (by kernel_rfl) ?_
          obtain rfl := someE H
          refine at_backR [.bool false] (Γ) (rs := [.tmp 4]) (by kernel_rfl) (.cons (.tmp (by kernel_rfl)) .nil) (fun w hw => (Sat.less (.drop .here (.drop .here (.drop .here (.drop .here (.drop .here .refl))))) hw)) ?_
          exact ⟨rfl, rfl⟩
      · replace H := bifF H h14
        refine s_pure 111 (.bool false) (by kernel_rfl) (by kernel_rfl) (run_eq (v := .bool (decide (y30_1.1.fwd = (0 : Int)))) (fun _ => by kernel_rfl) (congrArg Value.bool h14)) ?_
        refine s_pass 112 (by kernel_rfl) (by kernel_rfl) ?_
        refine s_pass 113 (by kernel_rfl) (by kernel_rfl) ?_
        refine s_pass 114 (by kernel_rfl) (by kernel_rfl) ?_
        refine s_pass 115 (by kernel_rfl) (by kernel_rfl) ?_
        refine s_pure 116 (.bool false) (by kernel_rfl) (by kernel_rfl) (fun _ => by kernel_rfl) ?_
        refine s_pure 117 (.bool false) (by kernel_rfl) (by kernel_rfl) (fun _ => by kernel_rfl) ?_
        refine s_pass 118 (by kernel_rfl) (by kernel_rfl) ?_
        refine s_pass 119 (by kernel_rfl) (by kernel_rfl) ?_
        refine s_pass 120 (by kernel_rfl) (by kernel_rfl) ?_
        refine s_pass 121 (by kernel_rfl) (by kernel_rfl) ?_
        refine s_pure 122 (.bool false) (by kernel_rfl) (by kernel_rfl) (fun _ => by kernel_rfl) ?_
        refine s_pure 123 (.bool false) (by kernel_rfl) (by kernel_rfl) (fun _ => by kernel_rfl) ?_
        refine s_pass 124 (by kernel_rfl) (by kernel_rfl) ?_
        refine s_pass 125 (by kernel_rfl) (by kernel_rfl) ?_
        refine s_pass 126 (by kernel_rfl) (by kernel_rfl) ?_
        refine s_pure 127 (.bool false) (by kernel_rfl) (by kernel_rfl) (fun _ => by kernel_rfl) ?_
        refine s_pure 128 (.bool false) (by kernel_rfl) (by kernel_rfl) (fun _ => by kernel_rfl) ?_
        refine s_pass 129 (by kernel_rfl) (by kernel_rfl) ?_
        refine s_pure 130 (.bool false) (by kernel_rfl) (by kernel_rfl) (fun _ => by kernel_rfl) ?_
        refine s_pure 4 (.bool false) (by kernel_rfl) (by kernel_rfl) (fun _ => by kernel_rfl) ?_
        refine ops_end ?_
        refine At.env [(0, .int .i64 v), (4, .bool false), (5, .pointer (some ⟨b1_0, 0, none⟩)), (6, .pointer (some ⟨b5_1, 0, none⟩)), (7, .int .i64 v0_7), (18, .pointer (some ⟨b30_5, 0, none⟩)), (19, .bool y30_1.2)] ⟨by kernel_rfl, by kernel_rfl, by kernel_rfl, by kernel_rfl, by kernel_rfl, by kernel_rfl, by kernel_rfl, trivial⟩ ?_
        refine at_then_normal ?_
        refine at_ret (by kernel_rfl) ?_
        obtain rfl := someE H
        refine at_backR [.bool false] (Γ) (rs := [.tmp 4]) (by kernel_rfl) (.cons (.tmp (by kernel_rfl)) .nil) (fun w hw => (Sat.less (.drop .here (.drop .here (.drop .here (.drop .here (.drop .here .refl))))) hw)) ?_
        exact ⟨rfl, rfl⟩
    · replace H := bifF H h13
      refine s_pure 105 (.bool false) (by kernel_rfl) (by kernel_rfl) (run_eq (v := .bool (y30_1.2)) (fun _ => by kernel_rfl) (congrArg Value.bool h13)) ?_
      refine s_pass 106 (by kernel_rfl) (by kernel_rfl) ?_
      refine s_pass 107 (by kernel_rfl) (by kernel_rfl) ?_
      refine s_pass 108 (by kernel_rfl) (by kernel_rfl) ?_
      refine s_pass 109 (by kernel_rfl) (by kernel_rfl) ?_
      refine s_pure 110 (.bool false) (by kernel_rfl) (by kernel_rfl) (fun _ => by kernel_rfl) ?_
      refine s_pure 111 (.bool false) (by kernel_rfl) (by kernel_rfl) (fun _ => by kernel_rfl) ?_
      refine s_pass 112 (by kernel_rfl) (by kernel_rfl) ?_
      refine s_pass 113 (by kernel_rfl) (by kernel_rfl) ?_
      refine s_pass 114 (by kernel_rfl) (by kernel_rfl) ?_
      refine s_pass 115 (by kernel_rfl) (by kernel_rfl) ?_
      refine s_pure 116 (.bool false) (by kernel_rfl) (by kernel_rfl) (fun _ => by kernel_rfl) ?_
      refine s_pure 117 (.bool false) (by kernel_rfl) (by kernel_rfl) (fun _ => by kernel_rfl) ?_
      refine s_pass 118 (by kernel_rfl) (by kernel_rfl) ?_
      refine s_pass 119 (by kernel_rfl) (by kernel_rfl) ?_
      refine s_pass 120 (by kernel_rfl) (by kernel_rfl) ?_
      refine s_pass 121 (by kernel_rfl) (by kernel_rfl) ?_
      refine s_pure 122 (.bool false) (by kernel_rfl) (by kernel_rfl) (fun _ => by kernel_rfl) ?_
      refine s_pure 123 (.bool false) (by kernel_rfl) (by kernel_rfl) (fun _ => by kernel_rfl) ?_
      refine s_pass 124 (by kernel_rfl) (by kernel_rfl) ?_
      refine s_pass 125 (by kernel_rfl) (by kernel_rfl) ?_
      refine s_pass 126 (by kernel_rfl) (by kernel_rfl) ?_
      refine s_pure 127 (.bool false) (by kernel_rfl) (by kernel_rfl) (fun _ => by kernel_rfl) ?_
      refine s_pure 128 (.bool false) (by kernel_rfl) (by kernel_rfl) (fun _ => by kernel_rfl) ?_
      refine s_pass 129 (by kernel_rfl) (by kernel_rfl) ?_
      refine s_pure 130 (.bool false) (by kernel_rfl) (by kernel_rfl) (fun _ => by kernel_rfl) ?_
      refine s_pure 4 (.bool false) (by kernel_rfl) (by kernel_rfl) (fun _ => by kernel_rfl) ?_
      refine ops_end ?_
      refine At.env [(0, .int .i64 v), (4, .bool false), (5, .pointer (some ⟨b1_0, 0, none⟩)), (6, .pointer (some ⟨b5_1, 0, none⟩)), (7, .int .i64 v0_7), (18, .pointer (some ⟨b30_5, 0, none⟩)), (19, .bool y30_1.2)] ⟨by kernel_rfl, by kernel_rfl, by kernel_rfl, by kernel_rfl, by kernel_rfl, by kernel_rfl, by kernel_rfl, trivial⟩ ?_
      refine at_then_normal ?_
      refine at_ret (by kernel_rfl) ?_
      obtain rfl := someE H
      refine at_backR [.bool false] (Γ) (rs := [.tmp 4]) (by kernel_rfl) (.cons (.tmp (by kernel_rfl)) .nil) (fun w hw => (Sat.less (.drop .here (.drop .here (.drop .here (.drop .here (.drop .here .refl))))) hw)) ?_
      exact ⟨rfl, rfl⟩
end Go.Proofs.Ytlnjnkbnppnbkaa
