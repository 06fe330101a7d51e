/- The law RolloutPurged: its walk. -/
import Derived.Test.YtlnjnkbnppnbkaaPdB
import Derived.Test.YtlnjnkbnppnbkaaKsA
import Derived.Test.YtlnjnkbnppnbkaaRoA
namespace Go.Proofs.Ytlnjnkbnppnbkaa
open Go Go.RowKit
set_option linter.unusedVariables false
set_option linter.unusedSimpArgs false
def rolloutPurgedS_j0 (v : Int) (y1_1 : Int) (y1_3 : Int) (y2_1 : Int) (e0_2 : Int) : Option (Bool) :=
  letP (newC (2 : Int) (1 : Int)) fun y5_0 => letP ([v] : List Int) fun l8_5 => (enewS ((wr (y1_1 + (1 : Int))).tmod (8 : Int)) (1 : Int) (2 : Int) false l8_5).bind fun y8_6 => (putS y5_0 y8_6).bind fun y8_7 => (dbeginS (3 : Int) y1_1 (9 : Int)).bind fun y9_1 => letP ([v] : List Int) fun l9_8 => (rnextS y9_1 y1_3 y8_7.2 (⟨7, 0, 0, 9, y1_1, wr (y2_1 - (1 : Int)), e0_2, false, l9_8⟩ : PktS)).bind fun y9_10 => (daskS y9_10.1 y1_3 (3 : Int)).bind fun y10_2 => (bif !y9_10.2.1 then some false else (bif !(decide (y10_2.kind = (2 : Int))) then some false else (bif !(decide (y10_2.dst = (3 : Int))) then some false else (bif !(decide (y10_2.state = e0_2)) then some false else (bif !(decide (y10_2.ptr = (wr (y2_1 - (1 : Int))))) then some false else (bif y10_2.flag then some false else (bif !(decide ((((List.length y10_2.data) : Nat) : Int) = (0 : Int))) then some false else letP (lenC y9_10.2.2) fun y11_36 => (bif !(decide (y11_36 = (1 : Int))) then some false else (rnextS y9_10.1 y1_3 y9_10.2.2 (⟨8, 0, 0, 9, y1_1, 0, 0, false, ([] : List Int)⟩ : PktS)).bind fun y13_5 => (bif y13_5.2.1 then (bif decide (y13_5.1.step = (0 : Int)) then letP (lenC y13_5.2.2) fun y14_8 => (bif decide (y14_8 = (1 : Int)) then (wakes16S).bind fun y14_12 => some y14_12 else some false) else some false) else some false)))))))))
def rolloutPurgedS (line : Int) (head : Int) (state : Int) (node : Int) (v : Int) : Option (Bool) :=
  (withinS line (8 : Int)).bind fun y1_1 => (withinS node (6 : Int)).bind fun y1_3 => (withinS head (7 : Int)).bind fun y2_1 => (withinS state (2 : Int)).bind fun y2_4 => (bif decide ((wr (y2_1 - (1 : Int))) = ((-1) : Int)) then rolloutPurgedS_j0 v y1_1 y1_3 y2_1 0 else rolloutPurgedS_j0 v y1_1 y1_3 y2_1 (wr ((1 : Int) + y2_4)))
noncomputable def C9 (p : List Nat) : Code := codeAt (bodyOf Try.f9) p
set_option maxRecDepth 100000 in
set_option maxHeartbeats 8000000 in
theorem RolloutPurgedF_tr {W0 : World} {Γ : List Asn} (line : Int) (head : Int) (state : Int) (node : Int) (v : Int)  (y : Bool) (H : rolloutPurgedS line head state node v = some y) : Tr Try.prog 9 #[.int .i64 line, .int .i64 head, .int .i64 state, .int .i64 node, .int .i64 v] W0 (Γ) (fun r Δ => r = .bool y ∧ Δ = Γ) := by
  unfold rolloutPurgedS at H
  refine Tr.enter (fn := Try.f9) (c := C9 []) (args := [.int .i64 line, .int .i64 head, .int .i64 state, .int .i64 node, .int .i64 v]) 117 Try.func9 (by kernel_rfl) (by kernel_rfl) ?_
  refine At.env [(0, .int .i64 line), (1, .int .i64 head), (2, .int .i64 state), (3, .int .i64 node), (4, .int .i64 v)] ⟨by kernel_rfl, by kernel_rfl, by kernel_rfl, by kernel_rfl, by kernel_rfl, trivial⟩ ?_
  refine at_seq (x := C9 [0]) (y := C9 [1]) (by kernel_rfl) ?_
  refine at_region (id := 0) 1 (by kernel_rfl) (by kernel_rfl) ?_
  refine s_pure 10 (.bool false) (by kernel_rfl) (by kernel_rfl) (fun _ => by kernel_rfl) ?_
  refine ops_end ?_
  refine At.env [(0, .int .i64 line), (1, .int .i64 head), (2, .int .i64 state), (3, .int .i64 node), (4, .int .i64 v), (10, .bool false)] ⟨by kernel_rfl, by kernel_rfl, by kernel_rfl, by kernel_rfl, by kernel_rfl, by kernel_rfl, trivial⟩ ?_
  refine at_then_normal ?_
  refine at_seq (x := C9 [1, 0]) (y := C9 [1, 1]) (by kernel_rfl) ?_
  refine at_region (id := 1) 6 (by kernel_rfl) (by kernel_rfl) ?_
  refine s_pure 15 (.int .i64 line) (by kernel_rfl) (by kernel_rfl) (fun _ => by kernel_rfl) ?_
  obtain ⟨y1_1, hy1_1, H⟩ := bindE H
  refine s_quiet 16 (.int .i64 y1_1) 22 #[.int .i64 line, .int .i64 (8)] (by kernel_rfl) (by kernel_rfl) (fun _ => by kernel_rfl) (WithinF_tr line (8 : Int) y1_1 hy1_1) ?_
  refine s_pure 17 (.int .i64 node) (by kernel_rfl) (by kernel_rfl) (fun _ => by kernel_rfl) ?_
  obtain ⟨y1_3, hy1_3, H⟩ := bindE H
  refine s_quiet 18 (.int .i64 y1_3) 22 #[.int .i64 node, .int .i64 (6)] (by kernel_rfl) (by kernel_rfl) (fun _ => by kernel_rfl) (WithinF_tr node (6 : Int) y1_3 hy1_3) ?_
  refine s_pure 0 (.int .i64 y1_1) (by kernel_rfl) (by kernel_rfl) (fun _ => by kernel_rfl) ?_
  refine s_pure 3 (.int .i64 y1_3) (by kernel_rfl) (by kernel_rfl) (fun _ => by kernel_rfl) ?_
  refine ops_end ?_
  refine At.env [(0, .int .i64 y1_1), (1, .int .i64 head), (2, .int .i64 state), (3, .int .i64 y1_3), (4, .int .i64 v), (10, .bool false)] ⟨by kernel_rfl, by kernel_rfl, by kernel_rfl, by kernel_rfl, by kernel_rfl, by kernel_rfl, trivial⟩ ?_
  refine at_then_normal ?_
  refine at_seq (x := C9 [1, 1, 0]) (y := C9 [1, 1, 1]) (by kernel_rfl) ?_
  refine at_region (id := 2) 8 (by kernel_rfl) (by kernel_rfl) ?_
  refine s_pure 19 (.int .i64 head) (by kernel_rfl) (by kernel_rfl) (fun _ => by kernel_rfl) ?_
  obtain ⟨y2_1, hy2_1, H⟩ := bindE H
  refine s_quiet 20 (.int .i64 y2_1) 22 #[.int .i64 head, .int .i64 (7)] (by kernel_rfl) (by kernel_rfl) (fun _ => by kernel_rfl) (WithinF_tr head (7 : Int) y2_1 hy2_1) ?_
  refine s_pure 21 (.int .i64 (wr (y2_1 - (1 : Int)))) (by kernel_rfl) (by kernel_rfl) (fun _ => by kernel_rfl) ?_
  refine s_pure 22 (.int .i64 state) (by kernel_rfl) (by kernel_rfl) (fun _ => by kernel_rfl) ?_
  obtain ⟨y2_4, hy2_4, H⟩ := bindE H
  refine s_quiet 23 (.int .i64 y2_4) 22 #[.int .i64 state, .int .i64 (2)] (by kernel_rfl) (by kernel_rfl) (fun _ => by kernel_rfl) (WithinF_tr state (2 : Int) y2_4 hy2_4) ?_
  refine s_pure 24 (.int .i64 (wr ((1 : Int) + y2_4))) (by kernel_rfl) (by kernel_rfl) (fun _ => by kernel_rfl) ?_
  refine s_pure 1 (.int .i64 (wr (y2_1 - (1 : Int)))) (by kernel_rfl) (by kernel_rfl) (fun _ => by kernel_rfl) ?_
  refine s_pure 2 (.int .i64 (wr ((1 : Int) + y2_4))) (by kernel_rfl) (by kernel_rfl) (fun _ => by kernel_rfl) ?_
  refine ops_end ?_
  refine At.env [(0, .int .i64 y1_1), (1, .int .i64 (wr (y2_1 - (1 : Int)))), (2, .int .i64 (wr ((1 : Int) + y2_4))), (3, .int .i64 y1_3), (4, .int .i64 v), (10, .bool false)] ⟨by kernel_rfl, by kernel_rfl, by kernel_rfl, by kernel_rfl, by kernel_rfl, by kernel_rfl, trivial⟩ ?_
  refine at_then_normal ?_
  refine at_seq_join (x := C9 [1, 1, 1, 0]) (y := C9 [1, 1, 1, 1]) (fun ff ΔΔ => ∃ (e0_2 : Int), rolloutPurgedS_j0 v y1_1 y1_3 y2_1 e0_2 = some y ∧ ff = [(0, .int .i64 y1_1), (1, .int .i64 (wr (y2_1 - (1 : Int)))), (2, .int .i64 e0_2), (3, .int .i64 y1_3), (4, .int .i64 v), (10, .bool false)] ∧ Γ = ΔΔ) (by kernel_rfl) ?_ ?_
  · rintro _ _ ⟨e0_2, H, rfl, rfl⟩
    rw [rolloutPurgedS_j0] at H
    refine at_seq (x := C9 [1, 1, 1, 1, 0]) (y := C9 [1, 1, 1, 1, 1]) (by kernel_rfl) ?_
    refine at_region (id := 5) 2 (by kernel_rfl) (by kernel_rfl) ?_
    obtain ⟨y5_0, hy5_0, H⟩ := letE H
    refine s_call 27 32 #[.int .i64 (2), .int .i64 (1)] (by kernel_rfl) (by kernel_rfl) (fun _ => by kernel_rfl) (NewF_tr (2 : Int) (1 : Int) y5_0 hy5_0) ?_
    rintro _ _ ⟨b5_0, rfl, rfl⟩
    refine s_pure 11 (.pointer (some ⟨b5_0, 0, none⟩)) (by kernel_rfl) (by kernel_rfl) (fun _ => by kernel_rfl) ?_
    refine ops_end ?_
    refine At.env [(0, .int .i64 y1_1), (1, .int .i64 (wr (y2_1 - (1 : Int)))), (2, .int .i64 e0_2), (3, .int .i64 y1_3), (4, .int .i64 v), (10, .bool false), (11, .pointer (some ⟨b5_0, 0, none⟩))] ⟨by kernel_rfl, by kernel_rfl, by kernel_rfl, by kernel_rfl, by kernel_rfl, by kernel_rfl, by kernel_rfl, trivial⟩ ?_
    refine at_then_normal ?_
    refine at_seq (x := C9 [1, 1, 1, 1, 1, 0]) (y := C9 [1, 1, 1, 1, 1, 1]) (by kernel_rfl) ?_
    refine at_seq (x := C9 [1, 1, 1, 1, 1, 0, 0]) (y := C9 [1, 1, 1, 1, 1, 0, 1]) (by kernel_rfl) ?_
    refine at_region (id := 6) 2 (by kernel_rfl) (by kernel_rfl) ?_
    refine s_pure 28 (.pointer (some ⟨b5_0, 0, none⟩)) (by kernel_rfl) (by kernel_rfl) (fun _ => by kernel_rfl) ?_
    refine s_pure 29 (.bool false) (by kernel_rfl) (by kernel_rfl) (fun _ => by kernel_rfl) ?_
    refine ops_end ?_
    refine At.env [(0, .int .i64 y1_1), (1, .int .i64 (wr (y2_1 - (1 : Int)))), (2, .int .i64 e0_2), (3, .int .i64 y1_3), (4, .int .i64 v), (10, .bool false), (11, .pointer (some ⟨b5_0, 0, none⟩)), (29, .bool false)] ⟨by kernel_rfl, by kernel_rfl, by kernel_rfl, by kernel_rfl, by kernel_rfl, by kernel_rfl, by kernel_rfl, by kernel_rfl, trivial⟩ ?_
    refine at_then_normal ?_
    refine at_false (t := false) (x := C9 [1, 1, 1, 1, 1, 0, 1, 0]) (y := C9 [1, 1, 1, 1, 1, 0, 1, 1]) (o := .tmp 29) (by kernel_rfl) (by kernel_rfl) (by kernel_rfl) rfl ?_
    refine at_skip (by kernel_rfl) ?_
    refine at_then_normal ?_
    refine at_seq (x := C9 [1, 1, 1, 1, 1, 1, 0]) (y := C9 [1, 1, 1, 1, 1, 1, 1]) (by kernel_rfl) ?_
    refine at_region (id := 8) 8 (by kernel_rfl) (by kernel_rfl) ?_
    refine s_pure 30 (.pointer (some ⟨b5_0, 0, none⟩)) (by kernel_rfl) (by kernel_rfl) (fun _ => by kernel_rfl) ?_
    refine s_pure 31 (.int .i64 y1_1) (by kernel_rfl) (by kernel_rfl) (fun _ => by kernel_rfl) ?_
    refine s_pure 32 (.int .i64 (wr (y1_1 + (1 : Int)))) (by kernel_rfl) (by kernel_rfl) (fun _ => by kernel_rfl) ?_
    refine s_pure 33 (.int .i64 ((wr (y1_1 + (1 : Int))).tmod (8 : Int))) (by kernel_rfl) (by kernel_rfl) (run_remP (a := wr (y1_1 + (1 : Int))) (b := 8) (fun _ => by kernel_rfl) (by decide)) ?_
    refine s_pure 34 (.int .i64 v) (by kernel_rfl) (by kernel_rfl) (fun _ => by kernel_rfl) ?_
    obtain ⟨l8_5, hl8_5, H⟩ := letE H
    refine s_step 35 (by kernel_rfl) (by kernel_rfl) (st_new_ints (T := 3) (xs := l8_5) 1 hl8_5 (fun _ => by kernel_rfl) (by kernel_rfl)) ?_
    rintro _ _ ⟨b8_5, rfl, rfl⟩
    obtain ⟨y8_6, hy8_6, H⟩ := bindE H
    refine s_call 36 15 #[.int .i64 ((wr (y1_1 + (1 : Int))).tmod (8 : Int)), .int .i64 (1), .int .i64 (2), .bool false, .slice (some ⟨b8_5, 0, none⟩) (List.length l8_5) 1] (by kernel_rfl) (by kernel_rfl) (fun _ => by kernel_rfl) (ENewF_tr ((wr (y1_1 + (1 : Int))).tmod (8 : Int)) (1 : Int) (2 : Int) false (some ⟨b8_5, 0, none⟩) 1 l8_5 (RowsA.reads (k := 1) .here) y8_6 hy8_6) ?_
    rintro _ _ ⟨a8_6_00, c8_6_00, rfl, rfl⟩
    obtain ⟨y8_7, hy8_7, H⟩ := bindE H
    refine s_call 37 14 #[.pointer (some ⟨b5_0, 0, none⟩), .agg #[.int .i64 y8_6.fwd, .int .i64 y8_6.back, .int .i64 y8_6.line, .int .i64 y8_6.used, .bool y8_6.dirty, .slice a8_6_00 (List.length y8_6.data) c8_6_00]] (by kernel_rfl) (by kernel_rfl) (fun _ => by kernel_rfl) (Tr.conv (Γ' := (CacheA b5_0 y5_0) :: (IntsA a8_6_00 c8_6_00 y8_6.data) :: (IntsA (some ⟨b8_5, 0, none⟩) 1 l8_5) :: Γ) (fun w hw => (Sat.less (.take (.there (.there .here)) (.take .here (.take .here .refl))) hw)) (PutF_tr b5_0 y5_0 a8_6_00 c8_6_00 y8_6 (RowsA.reads (k := 1) .here) y8_7 hy8_7)) ?_
    rintro _ _ ⟨rfl, rfl⟩
    refine ops_end ?_
    refine At.env [(0, .int .i64 y1_1), (1, .int .i64 (wr (y2_1 - (1 : Int)))), (2, .int .i64 e0_2), (3, .int .i64 y1_3), (4, .int .i64 v), (10, .bool false), (11, .pointer (some ⟨b5_0, 0, none⟩)), (29, .bool false)] ⟨by kernel_rfl, by kernel_rfl, by kernel_rfl, by kernel_rfl, by kernel_rfl, by kernel_rfl, by kernel_rfl, by kernel_rfl, trivial⟩ ?_
    refine at_then_normal ?_
    refine at_seq (x := C9 [1, 1, 1, 1, 1, 1, 1, 0]) (y := C9 [1, 1, 1, 1, 1, 1, 1, 1]) (by kernel_rfl) ?_
    refine at_region (id := 9) 17 (by kernel_rfl) (by kernel_rfl) ?_
    refine s_pure 39 (.int .i64 y1_1) (by kernel_rfl) (by kernel_rfl) (fun _ => by kernel_rfl) ?_
    obtain ⟨y9_1, hy9_1, H⟩ := bindE H
    refine s_call 40 17 #[.int .i64 (3), .int .i64 y1_1, .int .i64 (9)] (by kernel_rfl) (by kernel_rfl) (fun _ => by kernel_rfl) (DBeginF_tr (3 : Int) y1_1 (9 : Int) y9_1 hy9_1) ?_
    rintro _ _ ⟨a9_1_00, c9_1_00, rfl, rfl⟩
    refine s_pure 41 (.int .i64 y1_3) (by kernel_rfl) (by kernel_rfl) (fun _ => by kernel_rfl) ?_
    refine s_pure 42 (.pointer (some ⟨b5_0, 0, none⟩)) (by kernel_rfl) (by kernel_rfl) (fun _ => by kernel_rfl) ?_
    refine s_pure 43 (.int .i64 y1_1) (by kernel_rfl) (by kernel_rfl) (fun _ => by kernel_rfl) ?_
    refine s_pure 44 (.int .i64 (wr (y2_1 - (1 : Int)))) (by kernel_rfl) (by kernel_rfl) (fun _ => by kernel_rfl) ?_
    refine s_pure 45 (.int .i64 e0_2) (by kernel_rfl) (by kernel_rfl) (fun _ => by kernel_rfl) ?_
    refine s_pure 46 (.int .i64 v) (by kernel_rfl) (by kernel_rfl) (fun _ => by kernel_rfl) ?_
    obtain ⟨l9_8, hl9_8, H⟩ := letE H
    refine s_step 47 (by kernel_rfl) (by kernel_rfl) (st_new_ints (T := 3) (xs := l9_8) 1 hl9_8 (fun _ => by kernel_rfl) (by kernel_rfl)) ?_
    rintro _ _ ⟨b9_8, rfl, rfl⟩
    refine s_pure 48 (.agg #[.int .i64 (7), .int .i64 (0), .int .i64 (0), .int .i64 (9), .int .i64 y1_1, .int .i64 (wr (y2_1 - (1 : Int))), .int .i64 e0_2, .bool false, .slice (some ⟨b9_8, 0, none⟩) (List.length l9_8) 1]) (by kernel_rfl) (by kernel_rfl) (fun _ => by kernel_rfl) ?_
    obtain ⟨y9_10, hy9_10, H⟩ := bindE H
    refine s_call 49 30 #[.agg #[.int .i64 y9_1.kind, .int .i64 y9_1.line, .int .i64 y9_1.id, .int .i64 y9_1.step, .int .i64 y9_1.state, .int .i64 y9_1.head, .slice a9_1_00 (List.length y9_1.data) c9_1_00, .int .i64 y9_1.next, .int .i64 y9_1.told], .int .i64 y1_3, .pointer (some ⟨b5_0, 0, none⟩), .agg #[.int .i64 (7), .int .i64 (0), .int .i64 (0), .int .i64 (9), .int .i64 y1_1, .int .i64 (wr (y2_1 - (1 : Int))), .int .i64 e0_2, .bool false, .slice (some ⟨b9_8, 0, none⟩) (List.length l9_8) 1]] (by kernel_rfl) (by kernel_rfl) (fun _ => by kernel_rfl) (Tr.conv (Γ' := (ImmI a9_1_00 y9_1.data) :: (CacheA b5_0 y8_7.2) :: (ImmI a9_1_00 y9_1.data) :: (IntsA (some ⟨b9_8, 0, none⟩) 1 l9_8) :: (IntsA a8_6_00 c8_6_00 y8_6.data) :: (IntsA (some ⟨b8_5, 0, none⟩) 1 l8_5) :: Γ) (fun w hw => (Sat.less (.take .here (.take (.there (.there .here)) (.take .here (.take .here (.take .here (.take .here .refl)))))) (ImmR.dup (Sat.less (.take (.there .here) (.take .here (.take .here (.take .here (.take .here .refl))))) hw)))) (RNextF_tr a9_1_00 c9_1_00 y9_1 y1_3 b5_0 y8_7.2 (some ⟨b9_8, 0, none⟩) 1 (⟨7, 0, 0, 9, y1_1, wr (y2_1 - (1 : Int)), e0_2, false, l9_8⟩ : PktS) (RowsA.reads (k := 1) (.there .here)) y9_10 hy9_10)) ?_
    rintro _ _ ⟨a9_10_00, c9_10_00, rfl, rfl⟩
    refine s_pure 38 (.tuple #[.agg #[.int .i64 y9_10.1.kind, .int .i64 y9_10.1.line, .int .i64 y9_10.1.id, .int .i64 y9_10.1.step, .int .i64 y9_10.1.state, .int .i64 y9_10.1.head, .slice a9_10_00 (List.length y9_10.1.data) c9_10_00, .int .i64 y9_10.1.next, .int .i64 y9_10.1.told], .bool y9_10.2.1]) (by kernel_rfl) (by kernel_rfl) (fun _ => by kernel_rfl) ?_
    refine s_pure 50 (.agg #[.int .i64 y9_10.1.kind, .int .i64 y9_10.1.line, .int .i64 y9_10.1.id, .int .i64 y9_10.1.step, .int .i64 y9_10.1.state, .int .i64 y9_10.1.head, .slice a9_10_00 (List.length y9_10.1.data) c9_10_00, .int .i64 y9_10.1.next, .int .i64 y9_10.1.told]) (by kernel_rfl) (by kernel_rfl) (fun _ => by kernel_rfl) ?_
    refine s_pure 51 (.bool y9_10.2.1) (by kernel_rfl) (by kernel_rfl) (fun _ => by kernel_rfl) ?_
    refine s_step 12 (by kernel_rfl) (by kernel_rfl) (st_new (T := 35) (cells := #[.int .i64 (0), .int .i64 (0), .int .i64 (0), .int .i64 (0), .int .i64 (0), .int .i64 (0), .slice none 0 0, .int .i64 (0), .int .i64 (0)]) (fun a => .pointer (some a)) (fun _ => by kernel_rfl)) ?_
    rintro _ _ ⟨b9_14, rfl, rfl⟩
    refine s_do (by kernel_rfl) (by kernel_rfl) (st_store (off := 0) (vs := [.int .i64 y9_10.1.kind, .int .i64 y9_10.1.line, .int .i64 y9_10.1.id, .int .i64 y9_10.1.step, .int .i64 y9_10.1.state, .int .i64 y9_10.1.head, .slice a9_10_00 (List.length y9_10.1.data) c9_10_00, .int .i64 y9_10.1.next, .int .i64 y9_10.1.told]) (c' := #[.int .i64 y9_10.1.kind, .int .i64 y9_10.1.line, .int .i64 y9_10.1.id, .int .i64 y9_10.1.step, .int .i64 y9_10.1.state, .int .i64 y9_10.1.head, .slice a9_10_00 (List.length y9_10.1.data) c9_10_00, .int .i64 y9_10.1.next, .int .i64 y9_10.1.told]) (fun _ => by kernel_rfl) .here (by kernel_rfl) (by kernel_rfl) (by kernel_rfl)) ?_
    rintro _ _ ⟨rfl, rfl⟩
    refine s_pure 13 (.bool y9_10.2.1) (by kernel_rfl) (by kernel_rfl) (fun _ => by kernel_rfl) ?_
    refine ops_end ?_
    refine At.env [(0, .int .i64 y1_1), (1, .int .i64 (wr (y2_1 - (1 : Int)))), (2, .int .i64 e0_2), (3, .int .i64 y1_3), (4, .int .i64 v), (10, .bool false), (11, .pointer (some ⟨b5_0, 0, none⟩)), (12, .pointer (some ⟨b9_14, 0, none⟩)), (13, .bool y9_10.2.1), (29, .bool false)] ⟨by kernel_rfl, by kernel_rfl, by kernel_rfl, by kernel_rfl, by kernel_rfl, by kernel_rfl, by kernel_rfl, by kernel_rfl, by kernel_rfl, by kernel_rfl, trivial⟩ ?_
    refine at_then_normal ?_
    refine at_seq (x := C9 [1, 1, 1, 1, 1, 1, 1, 1, 0]) (y := C9 [1, 1, 1, 1, 1, 1, 1, 1, 1]) (by kernel_rfl) ?_
    refine at_region (id := 10) 5 (by kernel_rfl) (by kernel_rfl) ?_
    refine s_load 52 (.agg #[.int .i64 y9_10.1.kind, .int .i64 y9_10.1.line, .int .i64 y9_10.1.id, .int .i64 y9_10.1.step, .int .i64 y9_10.1.state, .int .i64 y9_10.1.head, .slice a9_10_00 (List.length y9_10.1.data) c9_10_00, .int .i64 y9_10.1.next, .int .i64 y9_10.1.told]) (by kernel_rfl) (by kernel_rfl) (loadN (off := 0) (vs := [.int .i64 y9_10.1.kind, .int .i64 y9_10.1.line, .int .i64 y9_10.1.id, .int .i64 y9_10.1.step, .int .i64 y9_10.1.state, .int .i64 y9_10.1.head, .slice a9_10_00 (List.length y9_10.1.data) c9_10_00, .int .i64 y9_10.1.next, .int .i64 y9_10.1.told]) 9 (fun _ => by kernel_rfl) (holds_own .here) rfl (by exact ⟨rfl, rfl, rfl, rfl, rfl, rfl, rfl, rfl, rfl, trivial⟩)) ?_
    refine s_pure 53 (.int .i64 y1_3) (by kernel_rfl) (by kernel_rfl) (fun _ => by kernel_rfl) ?_
    obtain ⟨y10_2, hy10_2, H⟩ := bindE H
    refine s_call 54 26 #[.agg #[.int .i64 y9_10.1.kind, .int .i64 y9_10.1.line, .int .i64 y9_10.1.id, .int .i64 y9_10.1.step, .int .i64 y9_10.1.state, .int .i64 y9_10.1.head, .slice a9_10_00 (List.length y9_10.1.data) c9_10_00, .int .i64 y9_10.1.next, .int .i64 y9_10.1.told], .int .i64 y1_3, .int .i64 (3)] (by kernel_rfl) (by kernel_rfl) (fun _ => by kernel_rfl) (DAskF_tr a9_10_00 c9_10_00 y9_10.1 y1_3 (3 : Int) (ImmR.reads (k := 1) (.there .here)) y10_2 hy10_2) ?_
    rintro _ _ ⟨a10_2_00, c10_2_00, rfl, rfl⟩
    refine s_step 14 (by kernel_rfl) (by kernel_rfl) (st_new (T := 40) (cells := #[.int .i64 (0), .int .i64 (0), .int .i64 (0), .int .i64 (0), .int .i64 (0), .int .i64 (0), .int .i64 (0), .bool false, .slice none 0 0]) (fun a => .pointer (some a)) (fun _ => by kernel_rfl)) ?_
    rintro _ _ ⟨b10_3, rfl, rfl⟩
    refine s_do (by kernel_rfl) (by kernel_rfl) (st_store (off := 0) (vs := [.int .i64 y10_2.kind, .int .i64 y10_2.src, .int .i64 y10_2.dst, .int .i64 y10_2.id, .int .i64 y10_2.line, .int .i64 y10_2.ptr, .int .i64 y10_2.state, .bool y10_2.flag, .slice a10_2_00 (List.length y10_2.data) c10_2_00]) (c' := #[.int .i64 y10_2.kind, .int .i64 y10_2.src, .int .i64 y10_2.dst, .int .i64 y10_2.id, .int .i64 y10_2.line, .int .i64 y10_2.ptr, .int .i64 y10_2.state, .bool y10_2.flag, .slice a10_2_00 (List.length y10_2.data) c10_2_00]) (fun _ => by kernel_rfl) .here (by kernel_rfl) (by kernel_rfl) (by kernel_rfl)) ?_
    rintro _ _ ⟨rfl, rfl⟩
    refine ops_end ?_
    refine At.env [(0, .int .i64 y1_1), (1, .int .i64 (wr (y2_1 - (1 : Int)))), (2, .int .i64 e0_2), (3, .int .i64 y1_3), (4, .int .i64 v), (10, .bool false), (11, .pointer (some ⟨b5_0, 0, none⟩)), (12, .pointer (some ⟨b9_14, 0, none⟩)), (13, .bool y9_10.2.1), (14, .pointer (some ⟨b10_3, 0, none⟩)), (29, .bool false)] ⟨by kernel_rfl, by kernel_rfl, by kernel_rfl, by kernel_rfl, by kernel_rfl, by kernel_rfl, by kernel_rfl, by kernel_rfl, by kernel_rfl, by kernel_rfl, by kernel_rfl, trivial⟩ ?_
    refine at_then_normal ?_
    refine at_seq (x := C9 [1, 1, 1, 1, 1, 1, 1, 1, 1, 0]) (y := C9 [1, 1, 1, 1, 1, 1, 1, 1, 1, 1]) (by kernel_rfl) ?_
    refine at_seq (x := C9 [1, 1, 1, 1, 1, 1, 1, 1, 1, 0, 0]) (y := C9 [1, 1, 1, 1, 1, 1, 1, 1, 1, 0, 1]) (by kernel_rfl) ?_
    refine at_region (id := 11) 39 (by kernel_rfl) (by kernel_rfl) ?_
    refine s_pure 55 (.bool y9_10.2.1) (by kernel_rfl) (by kernel_rfl) (fun _ => by kernel_rfl) ?_
    refine s_pure 56 (.bool !y9_10.2.1) (by kernel_rfl) (by kernel_rfl) (fun _ => by kernel_rfl) ?_
    rcases Bool.eq_false_or_eq_true (!y9_10.2.1) with h1 | h1
    · replace H := bifT H h1
      refine s_pure 57 (.bool true) (by kernel_rfl) (by kernel_rfl) (run_eq (v := .bool (!y9_10.2.1)) (fun _ => by kernel_rfl) (congrArg Value.bool h1)) ?_
      refine s_pass 58 (by kernel_rfl) (by kernel_rfl) ?_
      refine s_pass 59 (by kernel_rfl) (by kernel_rfl) ?_
      refine s_pass 60 (by kernel_rfl) (by kernel_rfl) ?_
      refine s_pure 61 (.bool true) (by kernel_rfl) (by kernel_rfl) (fun _ => by kernel_rfl) ?_
      refine s_pure 62 (.bool true) (by kernel_rfl) (by kernel_rfl) (fun _ => by kernel_rfl) ?_
      refine s_pass 63 (by kernel_rfl) (by kernel_rfl) ?_
      refine s_pass 64 (by kernel_rfl) (by kernel_rfl) ?_
      refine s_pass 65 (by kernel_rfl) (by kernel_rfl) ?_
      refine s_pure 66 (.bool true) (by kernel_rfl) (by kernel_rfl) (fun _ => by kernel_rfl) ?_
      refine s_pure 67 (.bool true) (by kernel_rfl) (by kernel_rfl) (fun _ => by kernel_rfl) ?_
      refine s_pass 68 (by kernel_rfl) (by kernel_rfl) ?_
      refine s_pass 69 (by kernel_rfl) (by kernel_rfl) ?_
      refine s_pass 70 (by kernel_rfl) (by kernel_rfl) ?_
      refine s_pass 71 (by kernel_rfl) (by kernel_rfl) ?_
      refine s_pure 72 (.bool true) (by kernel_rfl) (by kernel_rfl) (fun _ => by kernel_rfl) ?_
      refine s_pure 73 (.bool true) (by kernel_rfl) (by kernel_rfl) (fun _ => by kernel_rfl) ?_
      refine s_pass 74 (by kernel_rfl) (by kernel_rfl) ?_
      refine s_pass 75 (by kernel_rfl) (by kernel_rfl) ?_
      refine s_pass 76 (by kernel_rfl) (by kernel_rfl) ?_
      refine s_pass 77 (by kernel_rfl) (by kernel_rfl) ?_
      refine s_pure 78 (.bool true) (by kernel_rfl) (by kernel_rfl) (fun _ => by kernel_rfl) ?_
      refine s_pure 79 (.bool true) (by kernel_rfl) (by kernel_rfl) (fun _ => by kernel_rfl) ?_
      refine s_pass 80 (by kernel_rfl) (by kernel_rfl) ?_
      refine s_pass 81 (by kernel_rfl) (by kernel_rfl) ?_
      refine s_pure 82 (.bool true) (by kernel_rfl) (by kernel_rfl) (fun _ => by kernel_rfl) ?_
      refine s_pure 83 (.bool true) (by kernel_rfl) (by kernel_rfl) (fun _ => by kernel_rfl) ?_
      refine s_pass 84 (by kernel_rfl) (by kernel_rfl) ?_
      refine s_pass 85 (by kernel_rfl) (by kernel_rfl) ?_
      refine s_pass 86 (by kernel_rfl) (by kernel_rfl) ?_
      refine s_pass 87 (by kernel_rfl) (by kernel_rfl) ?_
      refine s_pure 88 (.bool true) (by kernel_rfl) (by kernel_rfl) (fun _ => by kernel_rfl) ?_
      refine s_pure 89 (.bool true) (by kernel_rfl) (by kernel_rfl) (fun _ => by kernel_rfl) ?_
      refine s_pass 90 (by kernel_rfl) (by kernel_rfl) ?_
      refine s_pass 91 (by kernel_rfl) (by kernel_rfl) ?_
      refine s_pass 92 (by kernel_rfl) (by kernel_rfl) ?_
      refine s_pure 93 (.bool true) (by kernel_rfl) (by kernel_rfl) (fun _ => by kernel_rfl) ?_
      refine ops_end ?_
      refine At.env [(0, .int .i64 y1_1), (1, .int .i64 (wr (y2_1 - (1 : Int)))), (2, .int .i64 e0_2), (3, .int .i64 y1_3), (4, .int .i64 v), (10, .bool false), (11, .pointer (some ⟨b5_0, 0, none⟩)), (12, .pointer (some ⟨b9_14, 0, none⟩)), (13, .bool y9_10.2.1), (14, .pointer (some ⟨b10_3, 0, none⟩)), (29, .bool false), (93, .bool true)] ⟨by kernel_rfl, by kernel_rfl, by kernel_rfl, by kernel_rfl, by kernel_rfl, by kernel_rfl, by kernel_rfl, by kernel_rfl, by kernel_rfl, by kernel_rfl, by kernel_rfl, by kernel_rfl, trivial⟩ ?_
      refine at_then_normal ?_
      refine at_true (t := true) (x := C9 [1, 1, 1, 1, 1, 1, 1, 1, 1, 0, 1, 0]) (y := C9 [1, 1, 1, 1, 1, 1, 1, 1, 1, 0, 1, 1]) (o := .tmp 93) (by kernel_rfl) (by kernel_rfl) (by kernel_rfl) rfl ?_
      refine at_seq (x := C9 [1, 1, 1, 1, 1, 1, 1, 1, 1, 0, 1, 0, 0]) (y := C9 [1, 1, 1, 1, 1, 1, 1, 1, 1, 0, 1, 0, 1]) (by kernel_rfl) ?_
      refine at_region (id := 12) 1 (by kernel_rfl) (by kernel_rfl) ?_
      refine s_pure 10 (.bool false) (by kernel_rfl) (by kernel_rfl) (fun _ => by kernel_rfl) ?_
      refine ops_end ?_
      refine At.env [(0, .int .i64 y1_1), (1, .int .i64 (wr (y2_1 - (1 : Int)))), (2, .int .i64 e0_2), (3, .int .i64 y1_3), (4, .int .i64 v), (10, .bool false), (11, .pointer (some ⟨b5_0, 0, none⟩)), (12, .pointer (some ⟨b9_14, 0, none⟩)), (13, .bool y9_10.2.1), (14, .pointer (some ⟨b10_3, 0, none⟩)), (29, .bool false), (93, .bool true)] ⟨by kernel_rfl, by kernel_rfl, by kernel_rfl, by kernel_rfl, by kernel_rfl, by kernel_rfl, by kernel_rfl, by kernel_rfl, by kernel_rfl, by kernel_rfl, by kernel_rfl, by kernel_rfl, trivial⟩ ?_
      refine at_then_normal ?_
      refine at_ret (by kernel_rfl) ?_
      refine at_then_ret ?_
      obtain rfl := someE H
      refine at_backR [.bool false] (Γ) (rs := [.tmp 10]) (by kernel_rfl) (.cons (.tmp (by kernel_rfl)) .nil) (fun w hw => (Sat.less (.drop .here (.drop .here (.drop .here (.drop .here (.drop .here (.drop .here (.drop .here (.drop .here (.drop .here .refl))))))))) hw)) ?_
      exact ⟨rfl, rfl⟩
    · replace H := bifF H h1
      refine s_pure 57 (.bool false) (by kernel_rfl) (by kernel_rfl) (run_eq (v := .bool (!y9_10.2.1)) (fun _ => by kernel_rfl) (congrArg Value.bool h1)) ?_
      refine s_pure 58 (.pointer (some ⟨b10_3, 0, none⟩)) (by kernel_rfl) (by kernel_rfl) (fun _ => by kernel_rfl) ?_
      refine s_load 59 (.int .i64 y10_2.kind) (by kernel_rfl) (by kernel_rfl) (load1 (off := 0) (fun _ => by kernel_rfl) (holds_own .here) (by kernel_rfl)) ?_
      refine s_pure 60 (.bool (!(decide (y10_2.kind = (2 : Int))))) (by kernel_rfl) (by kernel_rfl) (fun _ => by kernel_rfl) ?_
      refine s_pure 61 (.bool (!(decide (y10_2.kind = (2 : Int))))) (by kernel_rfl) (by kernel_rfl) (fun _ => by kernel_rfl) ?_
      rcases Bool.eq_false_or_eq_true (!(decide (y10_2.kind = (2 : Int)))) with h2 | h2
      · replace H := bifT H h2
        refine s_pure 62 (.bool true) (by kernel_rfl) (by kernel_rfl) (run_eq (v := .bool (!(decide (y10_2.kind = (2 : Int))))) (fun _ => by kernel_rfl) (congrArg Value.bool h2)) ?_
        refine s_pass 63 (by kernel_rfl) (by kernel_rfl) ?_
        refine s_pass 64 (by kernel_rfl) (by kernel_rfl) ?_
        refine s_pass 65 (by kernel_rfl) (by kernel_rfl) ?_
        refine s_pure 66 (.bool true) (by kernel_rfl) (by kernel_rfl) (fun _ => by kernel_rfl) ?_
        refine s_pure 67 (.bool true) (by kernel_rfl) (by kernel_rfl) (fun _ => by kernel_rfl) ?_
        refine s_pass 68 (by kernel_rfl) (by kernel_rfl) ?_
        refine s_pass 69 (by kernel_rfl) (by kernel_rfl) ?_
        refine s_pass 70 (by kernel_rfl) (by kernel_rfl) ?_
        refine s_pass 71 (by kernel_rfl) (by kernel_rfl) ?_
        refine s_pure 72 (.bool true) (by kernel_rfl) (by kernel_rfl) (fun _ => by kernel_rfl) ?_
        refine s_pure 73 (.bool true) (by kernel_rfl) (by kernel_rfl) (fun _ => by kernel_rfl) ?_
        refine s_pass 74 (by kernel_rfl) (by kernel_rfl) ?_
        refine s_pass 75 (by kernel_rfl) (by kernel_rfl) ?_
        refine s_pass 76 (by kernel_rfl) (by kernel_rfl) ?_
        refine s_pass 77 (by kernel_rfl) (by kernel_rfl) ?_
        refine s_pure 78 (.bool true) (by kernel_rfl) (by kernel_rfl) (fun _ => by kernel_rfl) ?_
        refine s_pure 79 (.bool true) (by kernel_rfl) (by kernel_rfl) (fun _ => by kernel_rfl) ?_
        refine s_pass 80 (by kernel_rfl) (by kernel_rfl) ?_
        refine s_pass 81 (by kernel_rfl) (by kernel_rfl) ?_
        refine s_pure 82 (.bool true) (by kernel_rfl) (by kernel_rfl) (fun _ => by kernel_rfl) ?_
        refine s_pure 83 (.bool true) (by kernel_rfl) (by kernel_rfl) (fun _ => by kernel_rfl) ?_
        refine s_pass 84 (by kernel_rfl) (by kernel_rfl) ?_
        refine s_pass 85 (by kernel_rfl) (by kernel_rfl) ?_
        refine s_pass 86 (by kernel_rfl) (by kernel_rfl) ?_
        refine s_pass 87 (by kernel_rfl) (by kernel_rfl) ?_
        refine s_pure 88 (.bool true) (by kernel_rfl) (by kernel_rfl) (fun _ => by kernel_rfl) ?_
        refine s_pure 89 (.bool true) (by kernel_rfl) (by kernel_rfl) (fun _ => by kernel_rfl) ?_
        refine s_pass 90 (by kernel_rfl) (by kernel_rfl) ?_
        refine s_pass 91 (by kernel_rfl) (by kernel_rfl) ?_
        refine s_pass 92 (by kernel_rfl) (by kernel_rfl) ?_
        refine s_pure 93 (.bool true) (by kernel_rfl) (by kernel_rfl) (fun _ => by kernel_rfl) ?_
        refine ops_end ?_
        refine At.env [(0, .int .i64 y1_1), (1, .int .i64 (wr (y2_1 - (1 : Int)))), (2, .int .i64 e0_2), (3, .int .i64 y1_3), (4, .int .i64 v), (10, .bool false), (11, .pointer (some ⟨b5_0, 0, none⟩)), (12, .pointer (some ⟨b9_14, 0, none⟩)), (13, .bool y9_10.2.1), (14, .pointer (some ⟨b10_3, 0, none⟩)), (29, .bool false), (93, .bool true)] ⟨by kernel_rfl, by kernel_rfl, by kernel_rfl, by kernel_rfl, by kernel_rfl, by kernel_rfl, by kernel_rfl, by kernel_rfl, by kernel_rfl, by kernel_rfl, by kernel_rfl, by kernel_rfl, trivial⟩ ?_
        refine at_then_normal ?_
        refine at_true (t := true) (x := C9 [1, 1, 1, 1, 1, 1, 1, 1, 1, 0, 1, 0]) (y := C9 [1, 1, 1, 1, 1, 1, 1, 1, 1, 0, 1, 1]) (o := .tmp 93) (by kernel_rfl) (by kernel_rfl) (by kernel_rfl) rfl ?_
        refine at_seq (x := C9 [1, 1, 1, 1, 1, 1, 1, 1, 1, 0, 1, 0, 0]) (y := C9 [1, 1, 1, 1, 1, 1, 1, 1, 1, 0, 1, 0, 1]) (by kernel_rfl) ?_
        refine at_region (id := 12) 1 (by kernel_rfl) (by kernel_rfl) ?_
        refine s_pure 10 (.bool false) (by kernel_rfl) (by kernel_rfl) (fun _ => by kernel_rfl) ?_
        refine ops_end ?_
        refine At.env [(0, .int .i64 y1_1), (1, .int .i64 (wr (y2_1 - (1 : Int)))), (2, .int .i64 e0_2), (3, .int .i64 y1_3), (4, .int .i64 v), (10, .bool false), (11, .pointer (some ⟨b5_0, 0, none⟩)), (12, .pointer (some ⟨b9_14, 0, none⟩)), (13, .bool y9_10.2.1), (14, .pointer (some ⟨b10_3, 0, none⟩)), (29, .bool false), (93, .bool true)] ⟨by kernel_rfl, by kernel_rfl, by kernel_rfl, by kernel_rfl, by kernel_rfl, by kernel_rfl, by kernel_rfl, by kernel_rfl, by kernel_rfl, by kernel_rfl, by kernel_rfl, by kernel_rfl, trivial⟩ ?_
        refine at_then_normal ?_
        refine at_ret (by kernel_rfl) ?_
        refine at_then_ret ?_
        obtain rfl := someE H
        refine at_backR [.bool false] (Γ) (rs := [.tmp 10]) (by kernel_rfl) (.cons (.tmp (by kernel_rfl)) .nil) (fun w hw => (Sat.less (.drop .here (.drop .here (.drop .here (.drop .here (.drop .here (.drop .here (.drop .here (.drop .here (.drop .here .refl))))))))) hw)) ?_
        exact ⟨rfl, rfl⟩
      · replace H := bifF H h2
        refine s_pure 62 (.bool false) (by kernel_rfl) (by kernel_rfl) (run_eq (v := .bool (!(decide (y10_2.kind = (2 : Int))))) (fun _ => by kernel_rfl) (congrArg Value.bool h2)) ?_
        refine s_pure 63 (.pointer (some ⟨b10_3, 2, none⟩)) (by kernel_rfl) (by kernel_rfl) (fun _ => by kernel_rfl) ?_
        refine s_load 64 (.int .i64 y10_2.dst) (by kernel_rfl) (by kernel_rfl) (load1 (off := 2) (fun _ => by kernel_rfl) (holds_own .here) (by kernel_rfl)) ?_
        refine s_pure 65 (.bool (!(decide (y10_2.dst = (3 : Int))))) (by kernel_rfl) (by kernel_rfl) (fun _ => by kernel_rfl) ?_
        refine s_pure 66 (.bool (!(decide (y10_2.dst = (3 : Int))))) (by kernel_rfl) (by kernel_rfl) (fun _ => by kernel_rfl) ?_
        rcases Bool.eq_false_or_eq_true (!(decide (y10_2.dst = (3 : Int)))) with h3 | h3
        · replace H := bifT H h3
          refine s_pure 67 (.bool true) (by kernel_rfl) (by kernel_rfl) (run_eq (v := .bool (!(decide (y10_2.dst = (3 : Int))))) (fun _ => by kernel_rfl) (congrArg Value.bool h3)) ?_
          refine s_pass 68 (by kernel_rfl) (by kernel_rfl) ?_
          refine s_pass 69 (by kernel_rfl) (by kernel_rfl) ?_
          refine s_pass 70 (by kernel_rfl) (by kernel_rfl) ?_
          refine s_pass 71 (by kernel_rfl) (by kernel_rfl) ?_
          refine s_pure 72 (.bool true) (by kernel_rfl) (by kernel_rfl) (fun _ => by kernel_rfl) ?_
          refine s_pure 73 (.bool true) (by kernel_rfl) (by kernel_rfl) (fun _ => by kernel_rfl) ?_
          refine s_pass 74 (by kernel_rfl) (by kernel_rfl) ?_
          refine s_pass 75 (by kernel_rfl) (by kernel_rfl) ?_
          refine s_pass 76 (by kernel_rfl) (by kernel_rfl) ?_
          refine s_pass 77 (by kernel_rfl) (by kernel_rfl) ?_
          refine s_pure 78 (.bool true) (by kernel_rfl) (by kernel_rfl) (fun _ => by kernel_rfl) ?_
          refine s_pure 79 (.bool true) (by kernel_rfl) (by kernel_rfl) (fun _ => by kernel_rfl) ?_
          refine s_pass 80 (by kernel_rfl) (by kernel_rfl) ?_
          refine s_pass 81 (by kernel_rfl) (by kernel_rfl) ?_
          refine s_pure 82 (.bool true) (by kernel_rfl) (by kernel_rfl) (fun _ => by kernel_rfl) ?_
          refine s_pure 83 (.bool true) (by kernel_rfl) (by kernel_rfl) (fun _ => by kernel_rfl) ?_
          refine s_pass 84 (by kernel_rfl) (by kernel_rfl) ?_
          refine s_pass 85 (by kernel_rfl) (by kernel_rfl) ?_
          refine s_pass 86 (by kernel_rfl) (by kernel_rfl) ?_
          refine s_pass 87 (by kernel_rfl) (by kernel_rfl) ?_
          refine s_pure 88 (.bool true) (by kernel_rfl) (by kernel_rfl) (fun _ => by kernel_rfl) ?_
          refine s_pure 89 (.bool true) (by kernel_rfl) (by kernel_rfl) (fun _ => by kernel_rfl) ?_
          refine s_pass 90 (by kernel_rfl) (by kernel_rfl) ?_
          refine s_pass 91 (by kernel_rfl) (by kernel_rfl) ?_
          refine s_pass 92 (by kernel_rfl) (by kernel_rfl) ?_
          refine s_pure 93 (.bool true) (by kernel_rfl) (by kernel_rfl) (fun _ => by kernel_rfl) ?_
          refine ops_end ?_
          refine At.env [(0, .int .i64 y1_1), (1, .int .i64 (wr (y2_1 - (1 : Int)))), (2, .int .i64 e0_2), (3, .int .i64 y1_3), (4, .int .i64 v), (10, .bool false), (11, .pointer (some ⟨b5_0, 0, none⟩)), (12, .pointer (some ⟨b9_14, 0, none⟩)), (13, .bool y9_10.2.1), (14, .pointer (some ⟨b10_3, 0, none⟩)), (29, .bool false), (93, .bool true)] ⟨by kernel_rfl, by kernel_rfl, by kernel_rfl, by kernel_rfl, by kernel_rfl, by kernel_rfl, by kernel_rfl, by kernel_rfl, by kernel_rfl, by kernel_rfl, by kernel_rfl, by kernel_rfl, trivial⟩ ?_
          refine at_then_normal ?_
          refine at_true (t := true) (x := C9 [1, 1, 1, 1, 1, 1, 1, 1, 1, 0, 1, 0]) (y := C9 [1, 1, 1, 1, 1, 1, 1, 1, 1, 0, 1, 1]) (o := .tmp 93) (by kernel_rfl) (by kernel_rfl) (by kernel_rfl) rfl ?_
          refine at_seq (x := C9 [1, 1, 1, 1, 1, 1, 1, 1, 1, 0, 1, 0, 0]) (y := C9 [1, 1, 1, 1, 1, 1, 1, 1, 1, 0, 1, 0, 1]) (by kernel_rfl) ?_
          refine at_region (id := 12) 1 (by kernel_rfl) (by kernel_rfl) ?_
          refine s_pure 10 (.bool false) (by kernel_rfl) (by kernel_rfl) (fun _ => by kernel_rfl) ?_
          refine ops_end ?_
          refine At.env [(0, .int .i64 y1_1), (1, .int .i64 (wr (y2_1 - (1 : Int)))), (2, .int .i64 e0_2), (3, .int .i64 y1_3), (4, .int .i64 v), (10, .bool false), (11, .pointer (some ⟨b5_0, 0, none⟩)), (12, .pointer (some ⟨b9_14, 0, none⟩)), (13, .bool y9_10.2.1), (14, .pointer (some ⟨b10_3, 0, none⟩)), (29, .bool false), (93, .bool true)] ⟨by kernel_rfl, by kernel_rfl, by kernel_rfl, by kernel_rfl, by kernel_rfl, by kernel_rfl, by kernel_rfl, by kernel_rfl, by kernel_rfl, by kernel_rfl, by kernel_rfl, by kernel_rfl, trivial⟩ ?_
          refine at_then_normal ?_
          refine at_ret (by kernel_rfl) ?_
          refine at_then_ret ?_
          obtain rfl := someE H
          refine at_backR [.bool false] (Γ) (rs := [.tmp 10]) (by kernel_rfl) (.cons (.tmp (by kernel_rfl)) .nil) (fun w hw => (Sat.less (.drop .here (.drop .here (.drop .here (.drop .here (.drop .here (.drop .here (.drop .here (.drop .here (.drop .here .refl))))))))) hw)) ?_
          exact ⟨rfl, rfl⟩
        · replace H := bifF H h3
          refine s_pure 67 (.bool false) (by kernel_rfl) (by kernel_rfl) (run_eq (v := .bool (!(decide (y10_2.dst = (3 : Int))))) (fun _ => by kernel_rfl) (congrArg Value.bool h3)) ?_
          refine s_pure 68 (.pointer (some ⟨b10_3, 6, none⟩)) (by kernel_rfl) (by kernel_rfl) (fun _ => by kernel_rfl) ?_
          refine s_load 69 (.int .i64 y10_2.state) (by kernel_rfl) (by kernel_rfl) (load1 (off := 6) (fun _ => by kernel_rfl) (holds_own .here) (by kernel_rfl)) ?_
          refine s_pure 70 (.int .i64 e0_2) (by kernel_rfl) (by kernel_rfl) (fun _ => by kernel_rfl) ?_
          refine s_pure 71 (.bool (!(decide (y10_2.state = e0_2)))) (by kernel_rfl) (by kernel_rfl) (fun _ => by kernel_rfl) ?_
          refine s_pure 72 (.bool (!(decide (y10_2.state = e0_2)))) (by kernel_rfl) (by kernel_rfl) (fun _ => by kernel_rfl) ?_
          rcases Bool.eq_false_or_eq_true (!(decide (y10_2.state = e0_2))) with h4 | h4
          · replace H := bifT H h4
            refine s_pure 73 (.bool true) (by kernel_rfl) (by kernel_rfl) (run_eq (v := .bool (!(decide (y10_2.state = e0_2)))) (fun _ => by kernel_rfl) (congrArg Value.bool h4)) ?_
            refine s_pass 74 (by kernel_rfl) (by kernel_rfl) ?_
            refine s_pass 75 (by kernel_rfl) (by kernel_rfl) ?_
            refine s_pass 76 (by kernel_rfl) (by kernel_rfl) ?_
            refine s_pass 77 (by kernel_rfl) (by kernel_rfl) ?_
            refine s_pure 78 (.bool true) (by kernel_rfl) (by kernel_rfl) (fun _ => by kernel_rfl) ?_
            refine s_pure 79 (.bool true) (by kernel_rfl) (by kernel_rfl) (fun _ => by kernel_rfl) ?_
            refine s_pass 80 (by kernel_rfl) (by kernel_rfl) ?_
            refine s_pass 81 (by kernel_rfl) (by kernel_rfl) ?_
            refine s_pure 82 (.bool true) (by kernel_rfl) (by kernel_rfl) (fun _ => by kernel_rfl) ?_
            refine s_pure 83 (.bool true) (by kernel_rfl) (by kernel_rfl) (fun _ => by kernel_rfl) ?_
            refine s_pass 84 (by kernel_rfl) (by kernel_rfl) ?_
            refine s_pass 85 (by kernel_rfl) (by kernel_rfl) ?_
            refine s_pass 86 (by kernel_rfl) (by kernel_rfl) ?_
            refine s_pass 87 (by kernel_rfl) (by kernel_rfl) ?_
            refine s_pure 88 (.bool true) (by kernel_rfl) (by kernel_rfl) (fun _ => by kernel_rfl) ?_
            refine s_pure 89 (.bool true) (by kernel_rfl) (by kernel_rfl) (fun _ => by kernel_rfl) ?_
            refine s_pass 90 (by kernel_rfl) (by kernel_rfl) ?_
            refine s_pass 91 (by kernel_rfl) (by kernel_rfl) ?_
            refine s_pass 92 (by kernel_rfl) (by kernel_rfl) ?_
            refine s_pure 93 (.bool true) (by kernel_rfl) (by kernel_rfl) (fun _ => by kernel_rfl) ?_
            refine ops_end ?_
            refine At.env [(0, .int .i64 y1_1), (1, .int .i64 (wr (y2_1 - (1 : Int)))), (2, .int .i64 e0_2), (3, .int .i64 y1_3), (4, .int .i64 v), (10, .bool false), (11, .pointer (some ⟨b5_0, 0, none⟩)), (12, .pointer (some ⟨b9_14, 0, none⟩)), (13, .bool y9_10.2.1), (14, .pointer (some ⟨b10_3, 0, none⟩)), (29, .bool false), (93, .bool true)] ⟨by kernel_rfl, by kernel_rfl, by kernel_rfl, by kernel_rfl, by kernel_rfl, by kernel_rfl, by kernel_rfl, by kernel_rfl, by kernel_rfl, by kernel_rfl, by kernel_rfl, by kernel_rfl, trivial⟩ ?_
            refine at_then_normal ?_
            refine at_true (t := true) (x := C9 [1, 1, 1, 1, 1, 1, 1, 1, 1, 0, 1, 0]) (y := C9 [1, 1, 1, 1, 1, 1, 1, 1, 1, 0, 1, 1]) (o := .tmp 93) (by kernel_rfl) (by kernel_rfl) (by kernel_rfl) rfl ?_
            refine at_seq (x := C9 [1, 1, 1, 1, 1, 1, 1, 1, 1, 0, 1, 0, 0]) (y := C9 [1, 1, 1, 1, 1, 1, 1, 1, 1, 0, 1, 0, 1]) (by kernel_rfl) ?_
            refine at_region (id := 12) 1 (by kernel_rfl) (by kernel_rfl) ?_
            refine s_pure 10 (.bool false) (by kernel_rfl) (by kernel_rfl) (fun _ => by kernel_rfl) ?_
            refine ops_end ?_
            refine At.env [(0, .int .i64 y1_1), (1, .int .i64 (wr (y2_1 - (1 : Int)))), (2, .int .i64 e0_2), (3, .int .i64 y1_3), (4, .int .i64 v), (10, .bool false), (11, .pointer (some ⟨b5_0, 0, none⟩)), (12, .pointer (some ⟨b9_14, 0, none⟩)), (13, .bool y9_10.2.1), (14, .pointer (some ⟨b10_3, 0, none⟩)), (29, .bool false), (93, .bool true)] ⟨by kernel_rfl, by kernel_rfl, by kernel_rfl, by kernel_rfl, by kernel_rfl, by kernel_rfl, by kernel_rfl, by kernel_rfl, by kernel_rfl, by kernel_rfl, by kernel_rfl, by kernel_rfl, trivial⟩ ?_
            refine at_then_normal ?_
            refine at_ret (by kernel_rfl) ?_
            refine at_then_ret ?_
            obtain rfl := someE H
            refine at_backR [.bool false] (Γ) (rs := [.tmp 10]) (by kernel_rfl) (.cons (.tmp (by kernel_rfl)) .nil) (fun w hw => (Sat.less (.drop .here (.drop .here (.drop .here (.drop .here (.drop .here (.drop .here (.drop .here (.drop .here (.drop .here .refl))))))))) hw)) ?_
            exact ⟨rfl, rfl⟩
          · replace H := bifF H h4
            refine s_pure 73 (.bool false) (by kernel_rfl) (by kernel_rfl) (run_eq (v := .bool (!(decide (y10_2.state = e0_2)))) (fun _ => by kernel_rfl) (congrArg Value.bool h4)) ?_
            refine s_pure 74 (.pointer (some ⟨b10_3, 5, none⟩)) (by kernel_rfl) (by kernel_rfl) (fun _ => by kernel_rfl) ?_
            refine s_load 75 (.int .i64 y10_2.ptr) (by kernel_rfl) (by kernel_rfl) (load1 (off := 5) (fun _ => by kernel_rfl) (holds_own .here) (by kernel_rfl)) ?_
            refine s_pure 76 (.int .i64 (wr (y2_1 - (1 : Int)))) (by kernel_rfl) (by kernel_rfl) (fun _ => by kernel_rfl) ?_
            refine s_pure 77 (.bool (!(decide (y10_2.ptr = (wr (y2_1 - (1 : Int))))))) (by kernel_rfl) (by kernel_rfl) (fun _ => by kernel_rfl) ?_
            refine s_pure 78 (.bool (!(decide (y10_2.ptr = (wr (y2_1 - (1 : Int))))))) (by kernel_rfl) (by kernel_rfl) (fun _ => by kernel_rfl) ?_
            rcases Bool.eq_false_or_eq_true (!(decide (y10_2.ptr = (wr (y2_1 - (1 : Int)))))) with h5 | h5
            · replace H := bifT H h5
              refine s_pure 79 (.bool true) (by kernel_rfl) (by kernel_rfl) (run_eq (v := .bool (!(decide (y10_2.ptr = (wr (y2_1 - (1 : Int))))))) (fun _ => by kernel_rfl) (congrArg Value.bool h5)) ?_
              refine s_pass 80 (by kernel_rfl) (by kernel_rfl) ?_
              refine s_pass 81 (by kernel_rfl) (by kernel_rfl) ?_
              refine s_pure 82 (.bool true) (by kernel_rfl) (by kernel_rfl) (fun _ => by kernel_rfl) ?_
              refine s_pure 83 (.bool true) (by kernel_rfl) (by kernel_rfl) (fun _ => by kernel_rfl) ?_
              refine s_pass 84 (by kernel_rfl) (by kernel_rfl) ?_
              refine s_pass 85 (by kernel_rfl) (by kernel_rfl) ?_
              refine s_pass 86 (by kernel_rfl) (by kernel_rfl) ?_
              refine s_pass 87 (by kernel_rfl) (by kernel_rfl) ?_
              refine s_pure 88 (.bool true) (by kernel_rfl) (by kernel_rfl) (fun _ => by kernel_rfl) ?_
              refine s_pure 89 (.bool true) (by kernel_rfl) (by kernel_rfl) (fun _ => by kernel_rfl) ?_
              refine s_pass 90 (by kernel_rfl) (by kernel_rfl) ?_
              refine s_pass 91 (by kernel_rfl) (by kernel_rfl) ?_
              refine s_pass 92 (by kernel_rfl) (by kernel_rfl) ?_
              refine s_pure 93 (.bool true) (by kernel_rfl) (by kernel_rfl) (fun _ => by kernel_rfl) ?_
              refine ops_end ?_
              refine At.env [(0, .int .i64 y1_1), (1, .int .i64 (wr (y2_1 - (1 : Int)))), (2, .int .i64 e0_2), (3, .int .i64 y1_3), (4, .int .i64 v), (10, .bool false), (11, .pointer (some ⟨b5_0, 0, none⟩)), (12, .pointer (some ⟨b9_14, 0, none⟩)), (13, .bool y9_10.2.1), (14, .pointer (some ⟨b10_3, 0, none⟩)), (29, .bool false), (93, .bool true)] ⟨by kernel_rfl, by kernel_rfl, by kernel_rfl, by kernel_rfl, by kernel_rfl, by kernel_rfl, by kernel_rfl, by kernel_rfl, by kernel_rfl, by kernel_rfl, by kernel_rfl, by kernel_rfl, trivial⟩ ?_
              refine at_then_normal ?_
              refine at_true (t := true) (x := C9 [1, 1, 1, 1, 1, 1, 1, 1, 1, 0, 1, 0]) (y := C9 [1, 1, 1, 1, 1, 1, 1, 1, 1, 0, 1, 1]) (o := .tmp 93) (by kernel_rfl) (by kernel_rfl) (by kernel_rfl) rfl ?_
              refine at_seq (x := C9 [1, 1, 1, 1, 1, 1, 1, 1, 1, 0, 1, 0, 0]) (y := C9 [1, 1, 1, 1, 1, 1, 1, 1, 1, 0, 1, 0, 1]) (by kernel_rfl) ?_
              refine at_region (id := 12) 1 (by kernel_rfl) (by kernel_rfl) ?_
              refine s_pure 10 (.bool false) (by kernel_rfl) (by kernel_rfl) (fun _ => by kernel_rfl) ?_
              refine ops_end ?_
              refine At.env [(0, .int .i64 y1_1), (1, .int .i64 (wr (y2_1 - (1 : Int)))), (2, .int .i64 e0_2), (3, .int .i64 y1_3), (4, .int .i64 v), (10, .bool false), (11, .pointer (some ⟨b5_0, 0, none⟩)), (12, .pointer (some ⟨b9_14, 0, none⟩)), (13, .bool y9_10.2.1), (14, .pointer (some ⟨b10_3, 0, none⟩)), (29, .bool false), (93, .bool true)] ⟨by kernel_rfl, by kernel_rfl, by kernel_rfl, by kernel_rfl, by kernel_rfl, by kernel_rfl, by kernel_rfl, by kernel_rfl, by kernel_rfl, by kernel_rfl, by kernel_rfl, by kernel_rfl, trivial⟩ ?_
              refine at_then_normal ?_
              refine at_ret (by kernel_rfl) ?_
              refine at_then_ret ?_
              obtain rfl := someE H
              refine at_backR [.bool false] (Γ) (rs := [.tmp 10]) (by kernel_rfl) (.cons (.tmp (by kernel_rfl)) .nil) (fun w hw => (Sat.less (.drop .here (.drop .here (.drop .here (.drop .here (.drop .here (.drop .here (.drop .here (.drop .here (.drop .here .refl))))))))) hw)) ?_
              exact ⟨rfl, rfl⟩
            · replace H := bifF H h5
              refine s_pure 79 (.bool false) (by kernel_rfl) (by kernel_rfl) (run_eq (v := .bool (!(decide (y10_2.ptr = (wr (y2_1 - (1 : Int))))))) (fun _ => by kernel_rfl) (congrArg Value.bool h5)) ?_
              refine s_pure 80 (.pointer (some ⟨b10_3, 7, none⟩)) (by kernel_rfl) (by kernel_rfl) (fun _ => by kernel_rfl) ?_
              refine s_load 81 (.bool y10_2.flag) (by kernel_rfl) (by kernel_rfl) (load1 (off := 7) (fun _ => by kernel_rfl) (holds_own .here) (by kernel_rfl)) ?_
              refine s_pure 82 (.bool y10_2.flag) (by kernel_rfl) (by kernel_rfl) (fun _ => by kernel_rfl) ?_
              rcases Bool.eq_false_or_eq_true (y10_2.flag) with h6 | h6
              · replace H := bifT H h6
                refine s_pure 83 (.bool true) (by kernel_rfl) (by kernel_rfl) (run_eq (v := .bool (y10_2.flag)) (fun _ => by kernel_rfl) (congrArg Value.bool h6)) ?_
                refine s_pass 84 (by kernel_rfl) (by kernel_rfl) ?_
                refine s_pass 85 (by kernel_rfl) (by kernel_rfl) ?_
                refine s_pass 86 (by kernel_rfl) (by kernel_rfl) ?_
                refine s_pass 87 (by kernel_rfl) (by kernel_rfl) ?_
                refine s_pure 88 (.bool true) (by kernel_rfl) (by kernel_rfl) (fun _ => by kernel_rfl) ?_
                refine s_pure 89 (.bool true) (by kernel_rfl) (by kernel_rfl) (fun _ => by kernel_rfl) ?_
                refine s_pass 90 (by kernel_rfl) (by kernel_rfl) ?_
                refine s_pass 91 (by kernel_rfl) (by kernel_rfl) ?_
                refine s_pass 92 (by kernel_rfl) (by kernel_rfl) ?_
                refine s_pure 93 (.bool true) (by kernel_rfl) (by kernel_rfl) (fun _ => by kernel_rfl) ?_
                refine ops_end ?_
                refine At.env [(0, .int .i64 y1_1), (1, .int .i64 (wr (y2_1 - (1 : Int)))), (2, .int .i64 e0_2), (3, .int .i64 y1_3), (4, .int .i64 v), (10, .bool false), (11, .pointer (some ⟨b5_0, 0, none⟩)), (12, .pointer (some ⟨b9_14, 0, none⟩)), (13, .bool y9_10.2.1), (14, .pointer (some ⟨b10_3, 0, none⟩)), (29, .bool false), (93, .bool true)] ⟨by kernel_rfl, by kernel_rfl, by kernel_rfl, by kernel_rfl, by kernel_rfl, by kernel_rfl, by kernel_rfl, by kernel_rfl, by kernel_rfl, by kernel_rfl, by kernel_rfl, by kernel_rfl, trivial⟩ ?_
                refine at_then_normal ?_
                refine at_true (t := true) (x := C9 [1, 1, 1, 1, 1, 1, 1, 1, 1, 0, 1, 0]) (y := C9 [1, 1, 1, 1, 1, 1, 1, 1, 1, 0, 1, 1]) (o := .tmp 93) (by kernel_rfl) (by kernel_rfl) (by kernel_rfl) rfl ?_
                refine at_seq (x := C9 [1, 1, 1, 1, 1, 1, 1, 1, 1, 0, 1, 0, 0]) (y := C9 [1, 1, 1, 1, 1, 1, 1, 1, 1, 0, 1, 0, 1]) (by kernel_rfl) ?_
                refine at_region (id := 12) 1 (by kernel_rfl) (by kernel_rfl) ?_
                refine s_pure 10 (.bool false) (by kernel_rfl) (by kernel_rfl) (fun _ => by kernel_rfl) ?_
                refine ops_end ?_
                refine At.env [(0, .int .i64 y1_1), (1, .int .i64 (wr (y2_1 - (1 : Int)))), (2, .int .i64 e0_2), (3, .int .i64 y1_3), (4, .int .i64 v), (10, .bool false), (11, .pointer (some ⟨b5_0, 0, none⟩)), (12, .pointer (some ⟨b9_14, 0, none⟩)), (13, .bool y9_10.2.1), (14, .pointer (some ⟨b10_3, 0, none⟩)), (29, .bool false), (93, .bool true)] ⟨by kernel_rfl, by kernel_rfl, by kernel_rfl, by kernel_rfl, by kernel_rfl, by kernel_rfl, by kernel_rfl, by kernel_rfl, by kernel_rfl, by kernel_rfl, by kernel_rfl, by kernel_rfl, trivial⟩ ?_
                refine at_then_normal ?_
                refine at_ret (by kernel_rfl) ?_
                refine at_then_ret ?_
                obtain rfl := someE H
                refine at_backR [.bool false] (Γ) (rs := [.tmp 10]) (by kernel_rfl) (.cons (.tmp (by kernel_rfl)) .nil) (fun w hw => (Sat.less (.drop .here (.drop .here (.drop .here (.drop .here (.drop .here (.drop .here (.drop .here (.drop .here (.drop .here .refl))))))))) hw)) ?_
                exact ⟨rfl, rfl⟩
              · replace H := bifF H h6
                refine s_pure 83 (.bool false) (by kernel_rfl) (by kernel_rfl) (run_eq (v := .bool (y10_2.flag)) (fun _ => by kernel_rfl) (congrArg Value.bool h6)) ?_
                refine s_pure 84 (.pointer (some ⟨b10_3, 8, none⟩)) (by kernel_rfl) (by kernel_rfl) (fun _ => by kernel_rfl) ?_
                refine s_load 85 (.slice a10_2_00 (List.length y10_2.data) c10_2_00) (by kernel_rfl) (by kernel_rfl) (load1 (off := 8) (fun _ => by kernel_rfl) (holds_own .here) (by kernel_rfl)) ?_
                refine s_pure 86 (.int .i64 (((List.length y10_2.data) : Nat) : Int)) (by kernel_rfl) (by kernel_rfl) (fun _ => by kernel_rfl) ?_
                refine s_pure 87 (.bool (!(decide ((((List.length y10_2.data) : Nat) : Int) = (0 : Int))))) (by kernel_rfl) (by kernel_rfl) (fun _ => by kernel_rfl) ?_
                refine s_pure 88 (.bool (!(decide ((((List.length y10_2.data) : Nat) : Int) = (0 : Int))))) (by kernel_rfl) (by kernel_rfl) (fun _ => by kernel_rfl) ?_
                rcases Bool.eq_false_or_eq_true (!(decide ((((List.length y10_2.data) : Nat) : Int) = (0 : Int)))) with h7 | h7
                · replace H := bifT H h7
                  refine s_pure 89 (.bool true) (by kernel_rfl) (by kernel_rfl) (run_eq (v := .bool (!(decide ((((List.length y10_2.data) : Nat) : Int) = (0 : Int))))) (fun _ => by kernel_rfl) (congrArg Value.bool h7)) ?_
                  refine s_pass 90 (by kernel_rfl) (by kernel_rfl) ?_
                  refine s_pass 91 (by kernel_rfl) (by kernel_rfl) ?_
                  refine s_pass 92 (by kernel_rfl) (by kernel_rfl) ?_
                  refine s_pure 93 (.bool true) (by kernel_rfl) (by kernel_rfl) (fun _ => by kernel_rfl) ?_
                  refine ops_end ?_
                  refine At.env [(0, .int .i64 y1_1), (1, .int .i64 (wr (y2_1 - (1 : Int)))), (2, .int .i64 e0_2), (3, .int .i64 y1_3), (4, .int .i64 v), (10, .bool false), (11, .pointer (some ⟨b5_0, 0, none⟩)), (12, .pointer (some ⟨b9_14, 0, none⟩)), (13, .bool y9_10.2.1), (14, .pointer (some ⟨b10_3, 0, none⟩)), (29, .bool false), (93, .bool true)] ⟨by kernel_rfl, by kernel_rfl, by kernel_rfl, by kernel_rfl, by kernel_rfl, by kernel_rfl, by kernel_rfl, by kernel_rfl, by kernel_rfl, by kernel_rfl, by kernel_rfl, by kernel_rfl, trivial⟩ ?_
                  refine at_then_normal ?_
                  refine at_true (t := true) (x := C9 [1, 1, 1, 1, 1, 1, 1, 1, 1, 0, 1, 0]) (y := C9 [1, 1, 1, 1, 1, 1, 1, 1, 1, 0, 1, 1]) (o := .tmp 93) (by kernel_rfl) (by kernel_rfl) (by kernel_rfl) rfl ?_
                  refine at_seq (x := C9 [1, 1, 1, 1, 1, 1, 1, 1, 1, 0, 1, 0, 0]) (y := C9 [1, 1, 1, 1, 1, 1, 1, 1, 1, 0, 1, 0, 1]) (by kernel_rfl) ?_
                  refine at_region (id := 12) 1 (by kernel_rfl) (by kernel_rfl) ?_
                  refine s_pure 10 (.bool false) (by kernel_rfl) (by kernel_rfl) (fun _ => by kernel_rfl) ?_
                  refine ops_end ?_
                  refine At.env [(0, .int .i64 y1_1), (1, .int .i64 (wr (y2_1 - (1 : Int)))), (2, .int .i64 e0_2), (3, .int .i64 y1_3), (4, .int .i64 v), (10, .bool false), (11, .pointer (some ⟨b5_0, 0, none⟩)), (12, .pointer (some ⟨b9_14, 0, none⟩)), (13, .bool y9_10.2.1), (14, .pointer (some ⟨b10_3, 0, none⟩)), (29, .bool false), (93, .bool true)] ⟨by kernel_rfl, by kernel_rfl, by kernel_rfl, by kernel_rfl, by kernel_rfl, by kernel_rfl, by kernel_rfl, by kernel_rfl, by kernel_rfl, by kernel_rfl, by kernel_rfl, by kernel_rfl, trivial⟩ ?_
                  refine at_then_normal ?_
                  refine at_ret (by kernel_rfl) ?_
                  refine at_then_ret ?_
                  obtain rfl := someE H
                  refine at_backR [.bool false] (Γ) (rs := [.tmp 10]) (by kernel_rfl) (.cons (.tmp (by kernel_rfl)) .nil) (fun w hw => (Sat.less (.drop .here (.drop .here (.drop .here (.drop .here (.drop .here (.drop .here (.drop .here (.drop .here (.drop .here .refl))))))))) hw)) ?_
                  exact ⟨rfl, rfl⟩
                · replace H := bifF H h7
                  refine s_pure 89 (.bool false) (by kernel_rfl) (by kernel_rfl) (run_eq (v := .bool (!(decide ((((List.length y10_2.data) : Nat) : Int) = (0 : Int))))) (fun _ => by kernel_rfl) (congrArg Value.bool h7)) ?_
                  refine s_pure 90 (.pointer (some ⟨b5_0, 0, none⟩)) (by kernel_rfl) (by kernel_rfl) (fun _ => by kernel_rfl) ?_
                  obtain ⟨y11_36, hy11_36, H⟩ := letE H
                  refine s_call 91 23 #[.pointer (some ⟨b5_0, 0, none⟩)] (by kernel_rfl) (by kernel_rfl) (fun _ => by kernel_rfl) (Tr.conv (Γ' := (CacheA b5_0 y9_10.2.2) :: (Asn.own b10_3 (.cells #[.int .i64 y10_2.kind, .int .i64 y10_2.src, .int .i64 y10_2.dst, .int .i64 y10_2.id, .int .i64 y10_2.line, .int .i64 y10_2.ptr, .int .i64 y10_2.state, .bool y10_2.flag, .slice a10_2_00 (List.length y10_2.data) c10_2_00] 40 (0, 0))) :: (IntsA a10_2_00 c10_2_00 y10_2.data) :: (Asn.own b9_14 (.cells #[.int .i64 y9_10.1.kind, .int .i64 y9_10.1.line, .int .i64 y9_10.1.id, .int .i64 y9_10.1.step, .int .i64 y9_10.1.state, .int .i64 y9_10.1.head, .slice a9_10_00 (List.length y9_10.1.data) c9_10_00, .int .i64 y9_10.1.next, .int .i64 y9_10.1.told] 35 (0, 0))) :: (ImmI a9_10_00 y9_10.1.data) :: (ImmI a9_1_00 y9_1.data) :: (IntsA (some ⟨b9_8, 0, none⟩) 1 l9_8) :: (IntsA a8_6_00 c8_6_00 y8_6.data) :: (IntsA (some ⟨b8_5, 0, none⟩) 1 l8_5) :: Γ) (fun w hw => (Sat.less (.take (.there (.there (.there (.there .here)))) (.take .here (.take .here (.take .here (.take .here (.take .here (.take .here (.take .here (.take .here .refl))))))))) hw)) (LenF_tr b5_0 y9_10.2.2 y11_36 hy11_36)) ?_
                  rintro _ _ ⟨rfl, rfl⟩
                  refine s_pure 92 (.bool (!(decide (y11_36 = (1 : Int))))) (by kernel_rfl) (by kernel_rfl) (fun _ => by kernel_rfl) ?_
                  refine s_pure 93 (.bool (!(decide (y11_36 = (1 : Int))))) (by kernel_rfl) (by kernel_rfl) (fun _ => by kernel_rfl) ?_
                  refine ops_end ?_
                  refine At.env [(0, .int .i64 y1_1), (1, .int .i64 (wr (y2_1 - (1 : Int)))), (2, .int .i64 e0_2), (3, .int .i64 y1_3), (4, .int .i64 v), (10, .bool false), (11, .pointer (some ⟨b5_0, 0, none⟩)), (12, .pointer (some ⟨b9_14, 0, none⟩)), (13, .bool y9_10.2.1), (14, .pointer (some ⟨b10_3, 0, none⟩)), (29, .bool false), (93, .bool (!(decide (y11_36 = (1 : Int)))))] ⟨by kernel_rfl, by kernel_rfl, by kernel_rfl, by kernel_rfl, by kernel_rfl, by kernel_rfl, by kernel_rfl, by kernel_rfl, by kernel_rfl, by kernel_rfl, by kernel_rfl, by kernel_rfl, trivial⟩ ?_
                  refine at_then_normal ?_
                  rcases Bool.eq_false_or_eq_true (!(decide (y11_36 = (1 : Int)))) with h8 | h8
                  · replace H := bifT H h8
                    refine at_true (t := !(decide (y11_36 = (1 : Int)))) (x := C9 [1, 1, 1, 1, 1, 1, 1, 1, 1, 0, 1, 0]) (y := C9 [1, 1, 1, 1, 1, 1, 1, 1, 1, 0, 1, 1]) (o := .tmp 93) (by kernel_rfl) (by kernel_rfl) (by kernel_rfl) h8 ?_
                    refine at_seq (x := C9 [1, 1, 1, 1, 1, 1, 1, 1, 1, 0, 1, 0, 0]) (y := C9 [1, 1, 1, 1, 1, 1, 1, 1, 1, 0, 1, 0, 1]) (by kernel_rfl) ?_
                    refine at_region (id := 12) 1 (by kernel_rfl) (by kernel_rfl) ?_
                    refine s_pure 10 (.bool false) (by kernel_rfl) (by kernel_rfl) (fun _ => by kernel_rfl) ?_
                    refine ops_end ?_
                    refine At.env [(0, .int .i64 y1_1), (1, .int .i64 (wr (y2_1 - (1 : Int)))), (2, .int .i64 e0_2), (3, .int .i64 y1_3), (4, .int .i64 v), (10, .bool false), (11, .pointer (some ⟨b5_0, 0, none⟩)), (12, .pointer (some ⟨b9_14, 0, none⟩)), (13, .bool y9_10.2.1), (14, .pointer (some ⟨b10_3, 0, none⟩)), (29, .bool false), (93, .bool (!(decide (y11_36 = (1 : Int)))))] ⟨by kernel_rfl, by kernel_rfl, by kernel_rfl, by kernel_rfl, by kernel_rfl, by kernel_rfl, by kernel_rfl, by kernel_rfl, by kernel_rfl, by kernel_rfl, by kernel_rfl, by kernel_rfl, trivial⟩ ?_
                    refine at_then_normal ?_
                    refine at_ret (by kernel_rfl) ?_
                    refine at_then_ret ?_
                    obtain rfl := someE H
                    refine at_backR [.bool false] (Γ) (rs := [.tmp 10]) (by kernel_rfl) (.cons (.tmp (by kernel_rfl)) .nil) (fun w hw => (Sat.less (.drop .here (.drop .here (.drop .here (.drop .here (.drop .here (.drop .here (.drop .here (.drop .here (.drop .here .refl))))))))) hw)) ?_
                    exact ⟨rfl, rfl⟩
                  · replace H := bifF H h8
                    refine at_false (t := !(decide (y11_36 = (1 : Int)))) (x := C9 [1, 1, 1, 1, 1, 1, 1, 1, 1, 0, 1, 0]) (y := C9 [1, 1, 1, 1, 1, 1, 1, 1, 1, 0, 1, 1]) (o := .tmp 93) (by kernel_rfl) (by kernel_rfl) (by kernel_rfl) h8 ?_
                    refine at_skip (by kernel_rfl) ?_
                    refine at_then_normal ?_
                    refine at_seq (x := C9 [1, 1, 1, 1, 1, 1, 1, 1, 1, 1, 0]) (y := C9 [1, 1, 1, 1, 1, 1, 1, 1, 1, 1, 1]) (by kernel_rfl) ?_
                    refine at_region (id := 13) 11 (by kernel_rfl) (by kernel_rfl) ?_
                    refine s_load 95 (.agg #[.int .i64 y9_10.1.kind, .int .i64 y9_10.1.line, .int .i64 y9_10.1.id, .int .i64 y9_10.1.step, .int .i64 y9_10.1.state, .int .i64 y9_10.1.head, .slice a9_10_00 (List.length y9_10.1.data) c9_10_00, .int .i64 y9_10.1.next, .int .i64 y9_10.1.told]) (by kernel_rfl) (by kernel_rfl) (loadN (off := 0) (vs := [.int .i64 y9_10.1.kind, .int .i64 y9_10.1.line, .int .i64 y9_10.1.id, .int .i64 y9_10.1.step, .int .i64 y9_10.1.state, .int .i64 y9_10.1.head, .slice a9_10_00 (List.length y9_10.1.data) c9_10_00, .int .i64 y9_10.1.next, .int .i64 y9_10.1.told]) 9 (fun _ => by kernel_rfl) (holds_own (.there (.there (.there .here)))) rfl (by exact ⟨rfl, rfl, rfl, rfl, rfl, rfl, rfl, rfl, rfl, trivial⟩)) ?_
                    refine s_pure 96 (.int .i64 y1_3) (by kernel_rfl) (by kernel_rfl) (fun _ => by kernel_rfl) ?_
                    refine s_pure 97 (.pointer (some ⟨b5_0, 0, none⟩)) (by kernel_rfl) (by kernel_rfl) (fun _ => by kernel_rfl) ?_
                    refine s_pure 98 (.int .i64 y1_1) (by kernel_rfl) (by kernel_rfl) (fun _ => by kernel_rfl) ?_
                    refine s_pure 99 (.agg #[.int .i64 (8), .int .i64 (0), .int .i64 (0), .int .i64 (9), .int .i64 y1_1, .int .i64 (0), .int .i64 (0), .bool false, .slice none 0 0]) (by kernel_rfl) (by kernel_rfl) (fun _ => by kernel_rfl) ?_
                    obtain ⟨y13_5, hy13_5, H⟩ := bindE H
                    refine s_call 100 30 #[.agg #[.int .i64 y9_10.1.kind, .int .i64 y9_10.1.line, .int .i64 y9_10.1.id, .int .i64 y9_10.1.step, .int .i64 y9_10.1.state, .int .i64 y9_10.1.head, .slice a9_10_00 (List.length y9_10.1.data) c9_10_00, .int .i64 y9_10.1.next, .int .i64 y9_10.1.told], .int .i64 y1_3, .pointer (some ⟨b5_0, 0, none⟩), .agg #[.int .i64 (8), .int .i64 (0), .int .i64 (0), .int .i64 (9), .int .i64 y1_1, .int .i64 (0), .int .i64 (0), .bool false, .slice none 0 0]] (by kernel_rfl) (by kernel_rfl) (fun _ => by kernel_rfl) (Tr.conv (Γ' := (ImmI a9_10_00 y9_10.1.data) :: (CacheA b5_0 y9_10.2.2) :: (ImmI a9_10_00 y9_10.1.data) :: (Asn.own b10_3 (.cells #[.int .i64 y10_2.kind, .int .i64 y10_2.src, .int .i64 y10_2.dst, .int .i64 y10_2.id, .int .i64 y10_2.line, .int .i64 y10_2.ptr, .int .i64 y10_2.state, .bool y10_2.flag, .slice a10_2_00 (List.length y10_2.data) c10_2_00] 40 (0, 0))) :: (IntsA a10_2_00 c10_2_00 y10_2.data) :: (Asn.own b9_14 (.cells #[.int .i64 y9_10.1.kind, .int .i64 y9_10.1.line, .int .i64 y9_10.1.id, .int .i64 y9_10.1.step, .int .i64 y9_10.1.state, .int .i64 y9_10.1.head, .slice a9_10_00 (List.length y9_10.1.data) c9_10_00, .int .i64 y9_10.1.next, .int .i64 y9_10.1.told] 35 (0, 0))) :: (ImmI a9_1_00 y9_1.data) :: (IntsA (some ⟨b9_8, 0, none⟩) 1 l9_8) :: (IntsA a8_6_00 c8_6_00 y8_6.data) :: (IntsA (some ⟨b8_5, 0, none⟩) 1 l8_5) :: Γ) (fun w hw => (Sat.less (.take .here (.take (.there .here) (.take .here (.take .here (.take .here (.take .here (.take .here (.take .here (.take .here (.take .here .refl)))))))))) (ImmR.dup (Sat.less (.take (.there (.there (.there (.there .here)))) (.take .here (.take .here (.take .here (.take .here (.take .here (.take .here (.take .here (.take .here .refl))))))))) hw)))) (RNextF_tr a9_10_00 c9_10_00 y9_10.1 y1_3 b5_0 y9_10.2.2 none 0 (⟨8, 0, 0, 9, y1_1, 0, 0, false, ([] : List Int)⟩ : PktS) Reads.nil y13_5 hy13_5)) ?_
                    rintro _ _ ⟨a13_5_00, c13_5_00, rfl, rfl⟩
                    refine s_pure 94 (.tuple #[.agg #[.int .i64 y13_5.1.kind, .int .i64 y13_5.1.line, .int .i64 y13_5.1.id, .int .i64 y13_5.1.step, .int .i64 y13_5.1.state, .int .i64 y13_5.1.head, .slice a13_5_00 (List.length y13_5.1.data) c13_5_00, .int .i64 y13_5.1.next, .int .i64 y13_5.1.told], .bool y13_5.2.1]) (by kernel_rfl) (by kernel_rfl) (fun _ => by kernel_rfl) ?_
                    refine s_pure 101 (.agg #[.int .i64 y13_5.1.kind, .int .i64 y13_5.1.line, .int .i64 y13_5.1.id, .int .i64 y13_5.1.step, .int .i64 y13_5.1.state, .int .i64 y13_5.1.head, .slice a13_5_00 (List.length y13_5.1.data) c13_5_00, .int .i64 y13_5.1.next, .int .i64 y13_5.1.told]) (by kernel_rfl) (by kernel_rfl) (fun _ => by kernel_rfl) ?_
                    refine s_pure 102 (.bool y13_5.2.1) (by kernel_rfl) (by kernel_rfl) (fun _ => by kernel_rfl) ?_
                    refine s_do (by kernel_rfl) (by kernel_rfl) (st_store (off := 0) (vs := [.int .i64 y13_5.1.kind, .int .i64 y13_5.1.line, .int .i64 y13_5.1.id, .int .i64 y13_5.1.step, .int .i64 y13_5.1.state, .int .i64 y13_5.1.head, .slice a13_5_00 (List.length y13_5.1.data) c13_5_00, .int .i64 y13_5.1.next, .int .i64 y13_5.1.told]) (c' := #[.int .i64 y13_5.1.kind, .int .i64 y13_5.1.line, .int .i64 y13_5.1.id, .int .i64 y13_5.1.step, .int .i64 y13_5.1.state, .int .i64 y13_5.1.head, .slice a13_5_00 (List.length y13_5.1.data) c13_5_00, .int .i64 y13_5.1.next, .int .i64 y13_5.1.told]) (fun _ => by kernel_rfl) (.there (.there (.there (.there (.there .here))))) (by kernel_rfl) (by kernel_rfl) (by kernel_rfl)) ?_
                    rintro _ _ ⟨rfl, rfl⟩
                    refine s_pure 13 (.bool y13_5.2.1) (by kernel_rfl) (by kernel_rfl) (fun _ => by kernel_rfl) ?_
                    refine ops_end ?_
                    refine At.env [(0, .int .i64 y1_1), (1, .int .i64 (wr (y2_1 - (1 : Int)))), (2, .int .i64 e0_2), (3, .int .i64 y1_3), (4, .int .i64 v), (10, .bool false), (11, .pointer (some ⟨b5_0, 0, none⟩)), (12, .pointer (some ⟨b9_14, 0, none⟩)), (13, .bool y13_5.2.1), (14, .pointer (some ⟨b10_3, 0, none⟩)), (29, .bool false), (93, .bool (!(decide (y11_36 = (1 : Int)))))] ⟨by kernel_rfl, by kernel_rfl, by kernel_rfl, by kernel_rfl, by kernel_rfl, by kernel_rfl, by kernel_rfl, by kernel_rfl, by kernel_rfl, by kernel_rfl, by kernel_rfl, by kernel_rfl, trivial⟩ ?_
                    refine at_then_normal ?_
                    refine at_seq (x := C9 [1, 1, 1, 1, 1, 1, 1, 1, 1, 1, 1, 0]) (y := C9 [1, 1, 1, 1, 1, 1, 1, 1, 1, 1, 1, 1]) (by kernel_rfl) ?_
                    refine at_region (id := 14) 15 (by kernel_rfl) (by kernel_rfl) ?_
                    refine s_pure 103 (.bool y13_5.2.1) (by kernel_rfl) (by kernel_rfl) (fun _ => by kernel_rfl) ?_
                    rcases Bool.eq_false_or_eq_true (y13_5.2.1) with h9 | h9
                    · replace H := bifT H h9
                      refine s_pure 104 (.bool true) (by kernel_rfl) (by kernel_rfl) (run_eq (v := .bool (y13_5.2.1)) (fun _ => by kernel_rfl) (congrArg Value.bool h9)) ?_
                      refine s_pure 105 (.pointer (some ⟨b9_14, 3, none⟩)) (by kernel_rfl) (by kernel_rfl) (fun _ => by kernel_rfl) ?_
                      refine s_load 106 (.int .i64 y13_5.1.step) (by kernel_rfl) (by kernel_rfl) (load1 (off := 3) (fun _ => by kernel_rfl) (holds_own .here) (by kernel_rfl)) ?_
                      refine s_pure 107 (.bool (decide (y13_5.1.step = (0 : Int)))) (by kernel_rfl) (by kernel_rfl) (fun _ => by kernel_rfl) ?_
                      refine s_pure 108 (.bool (decide (y13_5.1.step = (0 : Int)))) (by kernel_rfl) (by kernel_rfl) (fun _ => by kernel_rfl) ?_
                      rcases Bool.eq_false_or_eq_true (decide (y13_5.1.step = (0 : Int))) with h10 | h10
                      · replace H := bifT H h10
                        refine s_pure 109 (.bool true) (by kernel_rfl) (by kernel_rfl) (run_eq (v := .bool (decide (y13_5.1.step = (0 : Int)))) (fun _ => by kernel_rfl) (congrArg Value.bool h10)) ?_
                        refine s_pure 110 (.pointer (some ⟨b5_0, 0, none⟩)) (by kernel_rfl) (by kernel_rfl) (fun _ => by kernel_rfl) ?_
                        obtain ⟨y14_8, hy14_8, H⟩ := letE H
                        refine s_call 111 23 #[.pointer (some ⟨b5_0, 0, none⟩)] (by kernel_rfl) (by kernel_rfl) (fun _ => by kernel_rfl) (Tr.conv (Γ' := (CacheA b5_0 y13_5.2.2) :: (Asn.own b9_14 (.cells #[.int .i64 y13_5.1.kind, .int .i64 y13_5.1.line, .int .i64 y13_5.1.id, .int .i64 y13_5.1.step, .int .i64 y13_5.1.state, .int .i64 y13_5.1.head, .slice a13_5_00 (List.length y13_5.1.data) c13_5_00, .int .i64 y13_5.1.next, .int .i64 y13_5.1.told] 35 (0, 0))) :: (ImmI a13_5_00 y13_5.1.data) :: (ImmI a9_10_00 y9_10.1.data) :: (Asn.own b10_3 (.cells #[.int .i64 y10_2.kind, .int .i64 y10_2.src, .int .i64 y10_2.dst, .int .i64 y10_2.id, .int .i64 y10_2.line, .int .i64 y10_2.ptr, .int .i64 y10_2.state, .bool y10_2.flag, .slice a10_2_00 (List.length y10_2.data) c10_2_00] 40 (0, 0))) :: (IntsA a10_2_00 c10_2_00 y10_2.data) :: (ImmI a9_1_00 y9_1.data) :: (IntsA (some ⟨b9_8, 0, none⟩) 1 l9_8) :: (IntsA a8_6_00 c8_6_00 y8_6.data) :: (IntsA (some ⟨b8_5, 0, none⟩) 1 l8_5) :: Γ) (fun w hw => (Sat.less (.take (.there (.there .here)) (.take .here (.take .here (.take .here (.take .here (.take .here (.take .here (.take .here (.take .here (.take .here .refl)))))))))) hw)) (LenF_tr b5_0 y13_5.2.2 y14_8 hy14_8)) ?_
                        rintro _ _ ⟨rfl, rfl⟩
                        refine s_pure 112 (.bool (decide (y14_8 = (1 : Int)))) (by kernel_rfl) (by kernel_rfl) (fun _ => by kernel_rfl) ?_
                        refine s_pure 113 (.bool (decide (y14_8 = (1 : Int)))) (by kernel_rfl) (by kernel_rfl) (fun _ => by kernel_rfl) ?_
                        rcases Bool.eq_false_or_eq_true (decide (y14_8 = (1 : Int))) with h11 | h11
                        · replace H := bifT H h11
                          refine s_pure 114 (.bool true) (by kernel_rfl) (by kernel_rfl) (run_eq (v := .bool (decide (y14_8 = (1 : Int)))) (fun _ => by kernel_rfl) (congrArg Value.bool h11)) ?_
                          obtain ⟨y14_12, hy14_12, H⟩ := bindE H
                          refine s_call 115 31 #[] (by kernel_rfl) (by kernel_rfl) (fun _ => by kernel_rfl) (W16F_tr  y14_12 hy14_12) ?_
                          rintro _ _ ⟨rfl, rfl⟩
                          refine s_pure 116 (.bool y14_12) (by kernel_rfl) (by kernel_rfl) (fun _ => by kernel_rfl) ?_
                          refine s_pure 10 (.bool y14_12) (by kernel_rfl) (by kernel_rfl) (fun _ => by kernel_rfl) ?_
                          refine ops_end ?_
                          refine At.env [(0, .int .i64 y1_1), (1, .int .i64 (wr (y2_1 - (1 : Int)))), (2, .int .i64 e0_2), (3, .int .i64 y1_3), (4, .int .i64 v), (10, .bool y14_12), (11, .pointer (some ⟨b5_0, 0, none⟩)), (12, .pointer (some ⟨b9_14, 0, none⟩)), (13, .bool y13_5.2.1), (14, .pointer (some ⟨b10_3, 0, none⟩)), (29, .bool false), (93, .bool (!(decide (y11_36 = (1 : Int)))))] ⟨by kernel_rfl, by kernel_rfl, by kernel_rfl, by kernel_rfl, by kernel_rfl, by kernel_rfl, by kernel_rfl, by kernel_rfl, by kernel_rfl, by kernel_rfl, by kernel_rfl, by kernel_rfl, trivial⟩ ?_
                          refine at_then_normal ?_
                          refine at_ret (by kernel_rfl) ?_
                          obtain rfl := someE H
                          refine at_backR [.bool y14_12] (Γ) (rs := [.tmp 10]) (by kernel_rfl) (.cons (.tmp (by kernel_rfl)) .nil) (fun w hw => (Sat.less (.drop .here (.drop .here (.drop .here (.drop .here (.drop .here (.drop .here (.drop .here (.drop .here (.drop .here (.drop .here .refl)))))))))) hw)) ?_
                          exact ⟨rfl, rfl⟩
                        · replace H := bifF H h11
                          refine s_pure 114 (.bool false) (by kernel_rfl) (by kernel_rfl) (run_eq (v := .bool (decide (y14_8 = (1 : Int)))) (fun _ => by kernel_rfl) (congrArg Value.bool h11)) ?_
                          refine s_pass 115 (by kernel_rfl) (by kernel_rfl) ?_
                          refine s_pure 116 (.bool false) (by kernel_rfl) (by kernel_rfl) (fun _ => by kernel_rfl) ?_
                          refine s_pure 10 (.bool false) (by kernel_rfl) (by kernel_rfl) (fun _ => by kernel_rfl) ?_
                          refine ops_end ?_
                          refine At.env [(0, .int .i64 y1_1), (1, .int .i64 (wr (y2_1 - (1 : Int)))), (2, .int .i64 e0_2), (3, .int .i64 y1_3), (4, .int .i64 v), (10, .bool false), (11, .pointer (some ⟨b5_0, 0, none⟩)), (12, .pointer (some ⟨b9_14, 0, none⟩)), (13, .bool y13_5.2.1), (14, .pointer (some ⟨b10_3, 0, none⟩)), (29, .bool false), (93, .bool (!(decide (y11_36 = (1 : Int)))))] ⟨by kernel_rfl, by kernel_rfl, by kernel_rfl, by kernel_rfl, by kernel_rfl, by kernel_rfl, by kernel_rfl, by kernel_rfl, by kernel_rfl, by kernel_rfl, by kernel_rfl, by kernel_rfl, trivial⟩ ?_
                          refine at_then_normal ?_
                          refine at_ret (by kernel_rfl) ?_
                          obtain rfl := someE H
                          refine at_backR [.bool false] (Γ) (rs := [.tmp 10]) (by kernel_rfl) (.cons (.tmp (by kernel_rfl)) .nil) (fun w hw => (Sat.less (.drop .here (.drop .here (.drop .here (.drop .here (.drop .here (.drop .here (.drop .here (.drop .here (.drop .here (.drop .here .refl)))))))))) hw)) ?_
                          exact ⟨rfl, rfl⟩
                      · replace H := bifF H h10
                        refine s_pure 109 (.bool false) (by kernel_rfl) (by kernel_rfl) (run_eq (v := .bool (decide (y13_5.1.step = (0 : Int)))) (fun _ => by kernel_rfl) (congrArg Value.bool h10)) ?_
                        refine s_pass 110 (by kernel_rfl) (by kernel_rfl) ?_
                        refine s_pass 111 (by kernel_rfl) (by kernel_rfl) ?_
                        refine s_pass 112 (by kernel_rfl) (by kernel_rfl) ?_
                        refine s_pure 113 (.bool false) (by kernel_rfl) (by kernel_rfl) (fun _ => by kernel_rfl) ?_
                        refine s_pure 114 (.bool false) (by kernel_rfl) (by kernel_rfl) (fun _ => by kernel_rfl) ?_
                        refine s_pass 115 (by kernel_rfl) (by kernel_rfl) ?_
                        refine s_pure 116 (.bool false) (by kernel_rfl) (by kernel_rfl) (fun _ => by kernel_rfl) ?_
                        refine s_pure 10 (.bool false) (by kernel_rfl) (by kernel_rfl) (fun _ => by kernel_rfl) ?_
                        refine ops_end ?_
                        refine At.env [(0, .int .i64 y1_1), (1, .int .i64 (wr (y2_1 - (1 : Int)))), (2, .int .i64 e0_2), (3, .int .i64 y1_3), (4, .int .i64 v), (10, .bool false), (11, .pointer (some ⟨b5_0, 0, none⟩)), (12, .pointer (some ⟨b9_14, 0, none⟩)), (13, .bool y13_5.2.1), (14, .pointer (some ⟨b10_3, 0, none⟩)), (29, .bool false), (93, .bool (!(decide (y11_36 = (1 : Int)))))] ⟨by kernel_rfl, by kernel_rfl, by kernel_rfl, by kernel_rfl, by kernel_rfl, by kernel_rfl, by kernel_rfl, by kernel_rfl, by kernel_rfl, by kernel_rfl, by kernel_rfl, by kernel_rfl, trivial⟩ ?_
                        refine at_then_normal ?_
                        refine at_ret (by kernel_rfl) ?_
                        obtain rfl := someE H
                        refine at_backR [.bool false] (Γ) (rs := [.tmp 10]) (by kernel_rfl) (.cons (.tmp (by kernel_rfl)) .nil) (fun w hw => (Sat.less (.drop .here (.drop .here (.drop .here (.drop .here (.drop .here (.drop .here (.drop .here (.drop .here (.drop .here (.drop .here .refl)))))))))) hw)) ?_
                        exact ⟨rfl, rfl⟩
                    · replace H := bifF H h9
                      refine s_pure 104 (.bool false) (by kernel_rfl) (by kernel_rfl) (run_eq (v := .bool (y13_5.2.1)) (fun _ => by kernel_rfl) (congrArg Value.bool h9)) ?_
                      refine s_pass 105 (by kernel_rfl) (by kernel_rfl) ?_
                      refine s_pass 106 (by kernel_rfl) (by kernel_rfl) ?_
                      refine s_pass 107 (by kernel_rfl) (by kernel_rfl) ?_
                      refine s_pure 108 (.bool false) (by kernel_rfl) (by kernel_rfl) (fun _ => by kernel_rfl) ?_
                      refine s_pure 109 (.bool false) (by kernel_rfl) (by kernel_rfl) (fun _ => by kernel_rfl) ?_
                      refine s_pass 110 (by kernel_rfl) (by kernel_rfl) ?_
                      refine s_pass 111 (by kernel_rfl) (by kernel_rfl) ?_
                      refine s_pass 112 (by kernel_rfl) (by kernel_rfl) ?_
                      refine s_pure 113 (.bool false) (by kernel_rfl) (by kernel_rfl) (fun _ => by kernel_rfl) ?_
                      refine s_pure 114 (.bool false) (by kernel_rfl) (by kernel_rfl) (fun _ => by kernel_rfl) ?_
                      refine s_pass 115 (by kernel_rfl) (by kernel_rfl) ?_
                      refine s_pure 116 (.bool false) (by kernel_rfl) (by kernel_rfl) (fun _ => by kernel_rfl) ?_
                      refine s_pure 10 (.bool false) (by kernel_rfl) (by kernel_rfl) (fun _ => by kernel_rfl) ?_
                      refine ops_end ?_
                      refine At.env [(0, .int .i64 y1_1), (1, .int .i64 (wr (y2_1 - (1 : Int)))), (2, .int .i64 e0_2), (3, .int .i64 y1_3), (4, .int .i64 v), (10, .bool false), (11, .pointer (some ⟨b5_0, 0, none⟩)), (12, .pointer (some ⟨b9_14, 0, none⟩)), (13, .bool y13_5.2.1), (14, .pointer (some ⟨b10_3, 0, none⟩)), (29, .bool false), (93, .bool (!(decide (y11_36 = (1 : Int)))))] ⟨by kernel_rfl, by kernel_rfl, by kernel_rfl, by kernel_rfl, by kernel_rfl, by kernel_rfl, by kernel_rfl, by kernel_rfl, by kernel_rfl, by kernel_rfl, by kernel_rfl, by kernel_rfl, trivial⟩ ?_
                      refine at_then_normal ?_
                      refine at_ret (by kernel_rfl) ?_
                      obtain rfl := someE H
                      refine at_backR [.bool false] (Γ) (rs := [.tmp 10]) (by kernel_rfl) (.cons (.tmp (by kernel_rfl)) .nil) (fun w hw => (Sat.less (.drop .here (.drop .here (.drop .here (.drop .here (.drop .here (.drop .here (.drop .here (.drop .here (.drop .here (.drop .here .refl)))))))))) hw)) ?_
                      exact ⟨rfl, rfl⟩
  · refine at_seq (x := C9 [1, 1, 1, 0, 0]) (y := C9 [1, 1, 1, 0, 1]) (by kernel_rfl) ?_
    refine at_region (id := 3) 2 (by kernel_rfl) (by kernel_rfl) ?_
    refine s_pure 25 (.int .i64 (wr (y2_1 - (1 : Int)))) (by kernel_rfl) (by kernel_rfl) (fun _ => by kernel_rfl) ?_
    refine s_pure 26 (.bool (decide ((wr (y2_1 - (1 : Int))) = ((-1) : Int)))) (by kernel_rfl) (by kernel_rfl) (fun _ => by kernel_rfl) ?_
    refine ops_end ?_
    refine At.env [(0, .int .i64 y1_1), (1, .int .i64 (wr (y2_1 - (1 : Int)))), (2, .int .i64 (wr ((1 : Int) + y2_4))), (3, .int .i64 y1_3), (4, .int .i64 v), (10, .bool false), (26, .bool (decide ((wr (y2_1 - (1 : Int))) = ((-1) : Int))))] ⟨by kernel_rfl, by kernel_rfl, by kernel_rfl, by kernel_rfl, by kernel_rfl, by kernel_rfl, by kernel_rfl, trivial⟩ ?_
    refine at_then_normal ?_
    rcases Bool.eq_false_or_eq_true (decide ((wr (y2_1 - (1 : Int))) = ((-1) : Int))) with h12 | h12
    · replace H := bifT H h12
      refine at_true (t := decide ((wr (y2_1 - (1 : Int))) = ((-1) : Int))) (x := C9 [1, 1, 1, 0, 1, 0]) (y := C9 [1, 1, 1, 0, 1, 1]) (o := .tmp 26) (by kernel_rfl) (by kernel_rfl) (by kernel_rfl) h12 ?_
      refine at_region (id := 4) 1 (by kernel_rfl) (by kernel_rfl) ?_
      refine s_pure 2 (.int .i64 (0)) (by kernel_rfl) (by kernel_rfl) (fun _ => by kernel_rfl) ?_
      refine ops_end ?_
      refine At.env [(0, .int .i64 y1_1), (1, .int .i64 (wr (y2_1 - (1 : Int)))), (2, .int .i64 (0)), (3, .int .i64 y1_3), (4, .int .i64 v), (10, .bool false), (26, .bool (decide ((wr (y2_1 - (1 : Int))) = ((-1) : Int))))] ⟨by kernel_rfl, by kernel_rfl, by kernel_rfl, by kernel_rfl, by kernel_rfl, by kernel_rfl, by kernel_rfl, trivial⟩ ?_
      refine at_round_normal ?_
      exact at_join_mk [(0, .int .i64 y1_1), (1, .int .i64 (wr (y2_1 - (1 : Int)))), (2, .int .i64 0), (3, .int .i64 y1_3), (4, .int .i64 v), (10, .bool false)] (Γ) ⟨by kernel_rfl, by kernel_rfl, by kernel_rfl, by kernel_rfl, by kernel_rfl, by kernel_rfl, trivial⟩ (fun w hw => (Sat.less .refl hw)) ⟨0, H, rfl, rfl⟩
    · replace H := bifF H h12
      refine at_false (t := decide ((wr (y2_1 - (1 : Int))) = ((-1) : Int))) (x := C9 [1, 1, 1, 0, 1, 0]) (y := C9 [1, 1, 1, 0, 1, 1]) (o := .tmp 26) (by kernel_rfl) (by kernel_rfl) (by kernel_rfl) h12 ?_
      refine at_skip (by kernel_rfl) ?_
      refine at_round_normal ?_
      exact at_join_mk [(0, .int .i64 y1_1), (1, .int .i64 (wr (y2_1 - (1 : Int)))), (2, .int .i64 (wr ((1 : Int) + y2_4))), (3, .int .i64 y1_3), (4, .int .i64 v), (10, .bool false)] (Γ) ⟨by kernel_rfl, by kernel_rfl, by kernel_rfl, by kernel_rfl, by kernel_rfl, by kernel_rfl, trivial⟩ (fun w hw => (Sat.less .refl hw)) ⟨wr ((1 : Int) + y2_4), H, rfl, rfl⟩
end Go.Proofs.Ytlnjnkbnppnbkaa
