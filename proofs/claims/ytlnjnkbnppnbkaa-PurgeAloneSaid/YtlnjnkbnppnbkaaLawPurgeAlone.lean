/- The law PurgeAlone: its walk. -/
import Derived.Test.YtlnjnkbnppnbkaaPdB
import Derived.Test.YtlnjnkbnppnbkaaKsA
namespace Go.Proofs.Ytlnjnkbnppnbkaa
open Go Go.RowKit
set_option linter.unusedVariables false
set_option linter.unusedSimpArgs false
def purgeAloneS_j0 (v : Int) (y1_1 : Int) (y5_5 : Int × CacheS) (y6_1 : Ent × Bool) (e0_11 : Int) : Option (Bool) :=
  (dbeginS (2 : Int) (1 : Int) (0 : Int)).bind fun y10_0 => letP ([wr (v + (1 : Int))] : List Int) fun l10_7 => (pnextS y10_0 y1_1 y5_5.2 (⟨7, 0, 0, 0, 1, y1_1, e0_11, false, l10_7⟩ : PktS)).bind fun y10_9 => (findS y10_9.2.2 (1 : Int)).bind fun y11_1 => (daskS y10_9.1 y1_1 (0 : Int)).bind fun y12_2 => (bif y10_9.2.1 then (bif y11_1.2 then (bif y11_1.1.dirty then (ewordS y11_1.1 (0 : Int)).bind fun y13_10 => (bif decide (y13_10 = v) then (bif decide (y11_1.1.used = y6_1.1.used) then (bif decide (y12_2.kind = (2 : Int)) then (bif decide (y12_2.state = (2 : Int)) then (bif decide (y12_2.ptr = y1_1) then letP (lenC y10_9.2.2) fun y13_39 => (bif decide (y13_39 = (1 : Int)) then (wakes15S).bind fun y13_43 => some y13_43 else some false) else some false) else some false) else some false) else some false) else some false) else some false) else some false) else some false)
def purgeAloneS (v : Int) (node : Int) (dirty : Bool) : Option (Bool) :=
  (withinS node (6 : Int)).bind fun y1_1 => (bothNilS).bind fun y2_0 => letP ([v] : List Int) fun l5_3 => (enewS (1 : Int) ((-1) : Int) ((-1) : Int) dirty l5_3).bind fun y5_4 => (putS y2_0.1 y5_4).bind fun y5_5 => (findS y5_5.2 (1 : Int)).bind fun y6_1 => (bif dirty then purgeAloneS_j0 v y1_1 y5_5 y6_1 2 else purgeAloneS_j0 v y1_1 y5_5 y6_1 1)
noncomputable def C6 (p : List Nat) : Code := codeAt (bodyOf Try.f6) p
set_option maxRecDepth 100000 in
set_option maxHeartbeats 8000000 in
theorem PurgeAloneF_tr {W0 : World} {Γ : List Asn} (v : Int) (node : Int) (dirty : Bool)  (y : Bool) (H : purgeAloneS v node dirty = some y) : Tr Try.prog 6 #[.int .i64 v, .int .i64 node, .bool dirty] W0 (Γ) (fun r Δ => r = .bool y ∧ Δ = Γ) := by
  unfold purgeAloneS at H
  refine Tr.enter (fn := Try.f6) (c := C6 []) (args := [.int .i64 v, .int .i64 node, .bool dirty]) 103 Try.func6 (by kernel_rfl) (by kernel_rfl) ?_
  refine At.env [(0, .int .i64 v), (1, .int .i64 node), (2, .bool dirty)] ⟨by kernel_rfl, by kernel_rfl, by kernel_rfl, trivial⟩ ?_
  refine at_seq (x := C6 [0]) (y := C6 [1]) (by kernel_rfl) ?_
  refine at_region (id := 0) 1 (by kernel_rfl) (by kernel_rfl) ?_
  refine s_pure 6 (.bool false) (by kernel_rfl) (by kernel_rfl) (fun _ => by kernel_rfl) ?_
  refine ops_end ?_
  refine At.env [(0, .int .i64 v), (1, .int .i64 node), (2, .bool dirty), (6, .bool false)] ⟨by kernel_rfl, by kernel_rfl, by kernel_rfl, by kernel_rfl, trivial⟩ ?_
  refine at_then_normal ?_
  refine at_seq (x := C6 [1, 0]) (y := C6 [1, 1]) (by kernel_rfl) ?_
  refine at_region (id := 1) 3 (by kernel_rfl) (by kernel_rfl) ?_
  refine s_pure 17 (.int .i64 node) (by kernel_rfl) (by kernel_rfl) (fun _ => by kernel_rfl) ?_
  obtain ⟨y1_1, hy1_1, H⟩ := bindE H
  refine s_quiet 18 (.int .i64 y1_1) 22 #[.int .i64 node, .int .i64 (6)] (by kernel_rfl) (by kernel_rfl) (fun _ => by kernel_rfl) (WithinF_tr node (6 : Int) y1_1 hy1_1) ?_
  refine s_pure 1 (.int .i64 y1_1) (by kernel_rfl) (by kernel_rfl) (fun _ => by kernel_rfl) ?_
  refine ops_end ?_
  refine At.env [(0, .int .i64 v), (1, .int .i64 y1_1), (2, .bool dirty), (6, .bool false)] ⟨by kernel_rfl, by kernel_rfl, by kernel_rfl, by kernel_rfl, trivial⟩ ?_
  refine at_then_normal ?_
  refine at_seq (x := C6 [1, 1, 0]) (y := C6 [1, 1, 1]) (by kernel_rfl) ?_
  refine at_region (id := 2) 6 (by kernel_rfl) (by kernel_rfl) ?_
  obtain ⟨y2_0, hy2_0, H⟩ := bindE H
  refine s_call 20 13 #[.slice none 0 0, .slice none 0 0, .slice none 0 0] (by kernel_rfl) (by kernel_rfl) (fun _ => by kernel_rfl) (BothNilF_tr  y2_0 hy2_0) ?_
  rintro _ _ ⟨b2_0_0, b2_0_1, rfl, rfl⟩
  refine s_pure 19 (.tuple #[.pointer (some ⟨b2_0_0, 0, none⟩), .pointer (some ⟨b2_0_1, 0, none⟩)]) (by kernel_rfl) (by kernel_rfl) (fun _ => by kernel_rfl) ?_
  refine s_pure 21 (.pointer (some ⟨b2_0_0, 0, none⟩)) (by kernel_rfl) (by kernel_rfl) (fun _ => by kernel_rfl) ?_
  refine s_pure 22 (.pointer (some ⟨b2_0_1, 0, none⟩)) (by kernel_rfl) (by kernel_rfl) (fun _ => by kernel_rfl) ?_
  refine s_pure 7 (.pointer (some ⟨b2_0_0, 0, none⟩)) (by kernel_rfl) (by kernel_rfl) (fun _ => by kernel_rfl) ?_
  refine s_pure 8 (.pointer (some ⟨b2_0_1, 0, none⟩)) (by kernel_rfl) (by kernel_rfl) (fun _ => by kernel_rfl) ?_
  refine ops_end ?_
  refine At.env [(0, .int .i64 v), (1, .int .i64 y1_1), (2, .bool dirty), (6, .bool false), (7, .pointer (some ⟨b2_0_0, 0, none⟩))] ⟨by kernel_rfl, by kernel_rfl, by kernel_rfl, by kernel_rfl, by kernel_rfl, trivial⟩ ?_
  refine at_then_normal ?_
  refine at_seq (x := C6 [1, 1, 1, 0]) (y := C6 [1, 1, 1, 1]) (by kernel_rfl) ?_
  refine at_seq (x := C6 [1, 1, 1, 0, 0]) (y := C6 [1, 1, 1, 0, 1]) (by kernel_rfl) ?_
  refine at_region (id := 3) 2 (by kernel_rfl) (by kernel_rfl) ?_
  refine s_pure 23 (.pointer (some ⟨b2_0_0, 0, none⟩)) (by kernel_rfl) (by kernel_rfl) (fun _ => by kernel_rfl) ?_
  refine s_pure 24 (.bool false) (by kernel_rfl) (by kernel_rfl) (fun _ => by kernel_rfl) ?_
  refine ops_end ?_
  refine At.env [(0, .int .i64 v), (1, .int .i64 y1_1), (2, .bool dirty), (6, .bool false), (7, .pointer (some ⟨b2_0_0, 0, none⟩)), (24, .bool false)] ⟨by kernel_rfl, by kernel_rfl, by kernel_rfl, by kernel_rfl, by kernel_rfl, by kernel_rfl, trivial⟩ ?_
  refine at_then_normal ?_
  refine at_false (t := false) (x := C6 [1, 1, 1, 0, 1, 0]) (y := C6 [1, 1, 1, 0, 1, 1]) (o := .tmp 24) (by kernel_rfl) (by kernel_rfl) (by kernel_rfl) rfl ?_
  refine at_skip (by kernel_rfl) ?_
  refine at_then_normal ?_
  refine at_seq (x := C6 [1, 1, 1, 1, 0]) (y := C6 [1, 1, 1, 1, 1]) (by kernel_rfl) ?_
  refine at_region (id := 5) 6 (by kernel_rfl) (by kernel_rfl) ?_
  refine s_pure 25 (.pointer (some ⟨b2_0_0, 0, none⟩)) (by kernel_rfl) (by kernel_rfl) (fun _ => by kernel_rfl) ?_
  refine s_pure 26 (.bool dirty) (by kernel_rfl) (by kernel_rfl) (fun _ => by kernel_rfl) ?_
  refine s_pure 27 (.int .i64 v) (by kernel_rfl) (by kernel_rfl) (fun _ => by kernel_rfl) ?_
  obtain ⟨l5_3, hl5_3, H⟩ := letE H
  refine s_step 28 (by kernel_rfl) (by kernel_rfl) (st_new_ints (T := 3) (xs := l5_3) 1 hl5_3 (fun _ => by kernel_rfl) (by kernel_rfl)) ?_
  rintro _ _ ⟨b5_3, rfl, rfl⟩
  obtain ⟨y5_4, hy5_4, H⟩ := bindE H
  refine s_call 29 15 #[.int .i64 (1), .int .i64 (-1), .int .i64 (-1), .bool dirty, .slice (some ⟨b5_3, 0, none⟩) (List.length l5_3) 1] (by kernel_rfl) (by kernel_rfl) (fun _ => by kernel_rfl) (ENewF_tr (1 : Int) ((-1) : Int) ((-1) : Int) dirty (some ⟨b5_3, 0, none⟩) 1 l5_3 (RowsA.reads (k := 1) .here) y5_4 hy5_4) ?_
  rintro _ _ ⟨a5_4_00, c5_4_00, rfl, rfl⟩
  obtain ⟨y5_5, hy5_5, H⟩ := bindE H
  refine s_call 30 14 #[.pointer (some ⟨b2_0_0, 0, none⟩), .agg #[.int .i64 y5_4.fwd, .int .i64 y5_4.back, .int .i64 y5_4.line, .int .i64 y5_4.used, .bool y5_4.dirty, .slice a5_4_00 (List.length y5_4.data) c5_4_00]] (by kernel_rfl) (by kernel_rfl) (fun _ => by kernel_rfl) (Tr.conv (Γ' := (CacheA b2_0_0 y2_0.1) :: (IntsA a5_4_00 c5_4_00 y5_4.data) :: (IntsA (some ⟨b5_3, 0, none⟩) 1 l5_3) :: (RCacheA b2_0_1 y2_0.2) :: Γ) (fun w hw => (Sat.less (.take (.there (.there .here)) (.take .here (.take .here (.take .here .refl)))) hw)) (PutF_tr b2_0_0 y2_0.1 a5_4_00 c5_4_00 y5_4 (RowsA.reads (k := 1) .here) y5_5 hy5_5)) ?_
  rintro _ _ ⟨rfl, rfl⟩
  refine ops_end ?_
  refine At.env [(0, .int .i64 v), (1, .int .i64 y1_1), (2, .bool dirty), (6, .bool false), (7, .pointer (some ⟨b2_0_0, 0, none⟩)), (24, .bool false)] ⟨by kernel_rfl, by kernel_rfl, by kernel_rfl, by kernel_rfl, by kernel_rfl, by kernel_rfl, trivial⟩ ?_
  refine at_then_normal ?_
  refine at_seq (x := C6 [1, 1, 1, 1, 1, 0]) (y := C6 [1, 1, 1, 1, 1, 1]) (by kernel_rfl) ?_
  refine at_region (id := 6) 8 (by kernel_rfl) (by kernel_rfl) ?_
  refine s_pure 32 (.pointer (some ⟨b2_0_0, 0, none⟩)) (by kernel_rfl) (by kernel_rfl) (fun _ => by kernel_rfl) ?_
  obtain ⟨y6_1, hy6_1, H⟩ := bindE H
  refine s_call 33 18 #[.pointer (some ⟨b2_0_0, 0, none⟩), .int .i64 (1)] (by kernel_rfl) (by kernel_rfl) (fun _ => by kernel_rfl) (FindF_tr b2_0_0 y5_5.2 (1 : Int) y6_1 hy6_1) ?_
  rintro _ _ ⟨a6_1_00, c6_1_00, rfl, rfl⟩
  refine s_pure 31 (.tuple #[.agg #[.int .i64 y6_1.1.fwd, .int .i64 y6_1.1.back, .int .i64 y6_1.1.line, .int .i64 y6_1.1.used, .bool y6_1.1.dirty, .slice a6_1_00 (List.length y6_1.1.data) c6_1_00], .bool y6_1.2]) (by kernel_rfl) (by kernel_rfl) (fun _ => by kernel_rfl) ?_
  refine s_pure 34 (.agg #[.int .i64 y6_1.1.fwd, .int .i64 y6_1.1.back, .int .i64 y6_1.1.line, .int .i64 y6_1.1.used, .bool y6_1.1.dirty, .slice a6_1_00 (List.length y6_1.1.data) c6_1_00]) (by kernel_rfl) (by kernel_rfl) (fun _ => by kernel_rfl) ?_
  refine s_pure 35 (.bool y6_1.2) (by kernel_rfl) (by kernel_rfl) (fun _ => by kernel_rfl) ?_
  refine s_step 9 (by kernel_rfl) (by kernel_rfl) (st_new (T := 32) (cells := #[.int .i64 (0), .int .i64 (0), .int .i64 (0), .int .i64 (0), .bool false, .slice none 0 0]) (fun a => .pointer (some a)) (fun _ => by kernel_rfl)) ?_
  rintro _ _ ⟨b6_5, rfl, rfl⟩
  refine s_do (by kernel_rfl) (by kernel_rfl) (st_store (off := 0) (vs := [.int .i64 y6_1.1.fwd, .int .i64 y6_1.1.back, .int .i64 y6_1.1.line, .int .i64 y6_1.1.used, .bool y6_1.1.dirty, .slice a6_1_00 (List.length y6_1.1.data) c6_1_00]) (c' := #[.int .i64 y6_1.1.fwd, .int .i64 y6_1.1.back, .int .i64 y6_1.1.line, .int .i64 y6_1.1.used, .bool y6_1.1.dirty, .slice a6_1_00 (List.length y6_1.1.data) c6_1_00]) (fun _ => by kernel_rfl) .here (by kernel_rfl) (by kernel_rfl) (by kernel_rfl)) ?_
  rintro _ _ ⟨rfl, rfl⟩
  refine s_pure 10 (.bool y6_1.2) (by kernel_rfl) (by kernel_rfl) (fun _ => by kernel_rfl) ?_
  refine ops_end ?_
  refine At.env [(0, .int .i64 v), (1, .int .i64 y1_1), (2, .bool dirty), (6, .bool false), (7, .pointer (some ⟨b2_0_0, 0, none⟩)), (9, .pointer (some ⟨b6_5, 0, none⟩)), (24, .bool false)] ⟨by kernel_rfl, by kernel_rfl, by kernel_rfl, by kernel_rfl, by kernel_rfl, by kernel_rfl, by kernel_rfl, trivial⟩ ?_
  refine at_then_normal ?_
  refine at_seq (x := C6 [1, 1, 1, 1, 1, 1, 0]) (y := C6 [1, 1, 1, 1, 1, 1, 1]) (by kernel_rfl) ?_
  refine at_region (id := 7) 1 (by kernel_rfl) (by kernel_rfl) ?_
  refine s_pure 11 (.int .i64 (1)) (by kernel_rfl) (by kernel_rfl) (fun _ => by kernel_rfl) ?_
  refine ops_end ?_
  refine At.env [(0, .int .i64 v), (1, .int .i64 y1_1), (2, .bool dirty), (6, .bool false), (7, .pointer (some ⟨b2_0_0, 0, none⟩)), (9, .pointer (some ⟨b6_5, 0, none⟩)), (11, .int .i64 (1)), (24, .bool false)] ⟨by kernel_rfl, by kernel_rfl, by kernel_rfl, by kernel_rfl, by kernel_rfl, by kernel_rfl, by kernel_rfl, by kernel_rfl, trivial⟩ ?_
  refine at_then_normal ?_
  refine at_seq_join (x := C6 [1, 1, 1, 1, 1, 1, 1, 0]) (y := C6 [1, 1, 1, 1, 1, 1, 1, 1]) (fun ff ΔΔ => ∃ (e0_11 : Int), purgeAloneS_j0 v y1_1 y5_5 y6_1 e0_11 = some y ∧ ff = [(0, .int .i64 v), (1, .int .i64 y1_1), (6, .bool false), (7, .pointer (some ⟨b2_0_0, 0, none⟩)), (9, .pointer (some ⟨b6_5, 0, none⟩)), (11, .int .i64 e0_11)] ∧ (Asn.own b6_5 (.cells #[.int .i64 y6_1.1.fwd, .int .i64 y6_1.1.back, .int .i64 y6_1.1.line, .int .i64 y6_1.1.used, .bool y6_1.1.dirty, .slice a6_1_00 (List.length y6_1.1.data) c6_1_00] 32 (0, 0))) :: (IntsA a6_1_00 c6_1_00 y6_1.1.data) :: (CacheA b2_0_0 y5_5.2) :: (RCacheA b2_0_1 y2_0.2) :: Γ = ΔΔ) (by kernel_rfl) ?_ ?_
  · rintro _ _ ⟨e0_11, H, rfl, rfl⟩
    rw [purgeAloneS_j0] at H
    refine at_seq (x := C6 [1, 1, 1, 1, 1, 1, 1, 1, 0]) (y := C6 [1, 1, 1, 1, 1, 1, 1, 1, 1]) (by kernel_rfl) ?_
    refine at_region (id := 10) 16 (by kernel_rfl) (by kernel_rfl) ?_
    obtain ⟨y10_0, hy10_0, H⟩ := bindE H
    refine s_call 38 17 #[.int .i64 (2), .int .i64 (1), .int .i64 (0)] (by kernel_rfl) (by kernel_rfl) (fun _ => by kernel_rfl) (DBeginF_tr (2 : Int) (1 : Int) (0 : Int) y10_0 hy10_0) ?_
    rintro _ _ ⟨a10_0_00, c10_0_00, rfl, rfl⟩
    refine s_pure 39 (.int .i64 y1_1) (by kernel_rfl) (by kernel_rfl) (fun _ => by kernel_rfl) ?_
    refine s_pure 40 (.pointer (some ⟨b2_0_0, 0, none⟩)) (by kernel_rfl) (by kernel_rfl) (fun _ => by kernel_rfl) ?_
    refine s_pure 41 (.int .i64 y1_1) (by kernel_rfl) (by kernel_rfl) (fun _ => by kernel_rfl) ?_
    refine s_pure 42 (.int .i64 e0_11) (by kernel_rfl) (by kernel_rfl) (fun _ => by kernel_rfl) ?_
    refine s_pure 43 (.int .i64 v) (by kernel_rfl) (by kernel_rfl) (fun _ => by kernel_rfl) ?_
    refine s_pure 44 (.int .i64 (wr (v + (1 : Int)))) (by kernel_rfl) (by kernel_rfl) (fun _ => by kernel_rfl) ?_
    obtain ⟨l10_7, hl10_7, H⟩ := letE H
    refine s_step 45 (by kernel_rfl) (by kernel_rfl) (st_new_ints (T := 3) (xs := l10_7) 1 hl10_7 (fun _ => by kernel_rfl) (by kernel_rfl)) ?_
    rintro _ _ ⟨b10_7, rfl, rfl⟩
    refine s_pure 46 (.agg #[.int .i64 (7), .int .i64 (0), .int .i64 (0), .int .i64 (0), .int .i64 (1), .int .i64 y1_1, .int .i64 e0_11, .bool false, .slice (some ⟨b10_7, 0, none⟩) (List.length l10_7) 1]) (by kernel_rfl) (by kernel_rfl) (fun _ => by kernel_rfl) ?_
    obtain ⟨y10_9, hy10_9, H⟩ := bindE H
    refine s_call 47 16 #[.agg #[.int .i64 y10_0.kind, .int .i64 y10_0.line, .int .i64 y10_0.id, .int .i64 y10_0.step, .int .i64 y10_0.state, .int .i64 y10_0.head, .slice a10_0_00 (List.length y10_0.data) c10_0_00, .int .i64 y10_0.next, .int .i64 y10_0.told], .int .i64 y1_1, .pointer (some ⟨b2_0_0, 0, none⟩), .agg #[.int .i64 (7), .int .i64 (0), .int .i64 (0), .int .i64 (0), .int .i64 (1), .int .i64 y1_1, .int .i64 e0_11, .bool false, .slice (some ⟨b10_7, 0, none⟩) (List.length l10_7) 1]] (by kernel_rfl) (by kernel_rfl) (fun _ => by kernel_rfl) (Tr.conv (Γ' := (ImmI a10_0_00 y10_0.data) :: (CacheA b2_0_0 y5_5.2) :: (ImmI a10_0_00 y10_0.data) :: (IntsA (some ⟨b10_7, 0, none⟩) 1 l10_7) :: (Asn.own b6_5 (.cells #[.int .i64 y6_1.1.fwd, .int .i64 y6_1.1.back, .int .i64 y6_1.1.line, .int .i64 y6_1.1.used, .bool y6_1.1.dirty, .slice a6_1_00 (List.length y6_1.1.data) c6_1_00] 32 (0, 0))) :: (IntsA a6_1_00 c6_1_00 y6_1.1.data) :: (RCacheA b2_0_1 y2_0.2) :: Γ) (fun w hw => (Sat.less (.take .here (.take (.there (.there (.there (.there .here)))) (.take .here (.take .here (.take .here (.take .here (.take .here .refl))))))) (ImmR.dup (Sat.less (.take (.there .here) (.take .here (.take .here (.take .here (.take .here (.take .here .refl)))))) hw)))) (PNextF_tr a10_0_00 c10_0_00 y10_0 y1_1 b2_0_0 y5_5.2 (some ⟨b10_7, 0, none⟩) 1 (⟨7, 0, 0, 0, 1, y1_1, e0_11, false, l10_7⟩ : PktS) (RowsA.reads (k := 1) (.there .here)) y10_9 hy10_9)) ?_
    rintro _ _ ⟨a10_9_00, c10_9_00, rfl, rfl⟩
    refine s_pure 37 (.tuple #[.agg #[.int .i64 y10_9.1.kind, .int .i64 y10_9.1.line, .int .i64 y10_9.1.id, .int .i64 y10_9.1.step, .int .i64 y10_9.1.state, .int .i64 y10_9.1.head, .slice a10_9_00 (List.length y10_9.1.data) c10_9_00, .int .i64 y10_9.1.next, .int .i64 y10_9.1.told], .bool y10_9.2.1]) (by kernel_rfl) (by kernel_rfl) (fun _ => by kernel_rfl) ?_
    refine s_pure 48 (.agg #[.int .i64 y10_9.1.kind, .int .i64 y10_9.1.line, .int .i64 y10_9.1.id, .int .i64 y10_9.1.step, .int .i64 y10_9.1.state, .int .i64 y10_9.1.head, .slice a10_9_00 (List.length y10_9.1.data) c10_9_00, .int .i64 y10_9.1.next, .int .i64 y10_9.1.told]) (by kernel_rfl) (by kernel_rfl) (fun _ => by kernel_rfl) ?_
    refine s_pure 49 (.bool y10_9.2.1) (by kernel_rfl) (by kernel_rfl) (fun _ => by kernel_rfl) ?_
    refine s_step 12 (by kernel_rfl) (by kernel_rfl) (st_new (T := 35) (cells := #[.int .i64 (0), .int .i64 (0), .int .i64 (0), .int .i64 (0), .int .i64 (0), .int .i64 (0), .slice none 0 0, .int .i64 (0), .int .i64 (0)]) (fun a => .pointer (some a)) (fun _ => by kernel_rfl)) ?_
    rintro _ _ ⟨b10_13, rfl, rfl⟩
    refine s_do (by kernel_rfl) (by kernel_rfl) (st_store (off := 0) (vs := [.int .i64 y10_9.1.kind, .int .i64 y10_9.1.line, .int .i64 y10_9.1.id, .int .i64 y10_9.1.step, .int .i64 y10_9.1.state, .int .i64 y10_9.1.head, .slice a10_9_00 (List.length y10_9.1.data) c10_9_00, .int .i64 y10_9.1.next, .int .i64 y10_9.1.told]) (c' := #[.int .i64 y10_9.1.kind, .int .i64 y10_9.1.line, .int .i64 y10_9.1.id, .int .i64 y10_9.1.step, .int .i64 y10_9.1.state, .int .i64 y10_9.1.head, .slice a10_9_00 (List.length y10_9.1.data) c10_9_00, .int .i64 y10_9.1.next, .int .i64 y10_9.1.told]) (fun _ => by kernel_rfl) .here (by kernel_rfl) (by kernel_rfl) (by kernel_rfl)) ?_
    rintro _ _ ⟨rfl, rfl⟩
    refine s_pure 13 (.bool y10_9.2.1) (by kernel_rfl) (by kernel_rfl) (fun _ => by kernel_rfl) ?_
    refine ops_end ?_
    refine At.env [(0, .int .i64 v), (1, .int .i64 y1_1), (6, .bool false), (7, .pointer (some ⟨b2_0_0, 0, none⟩)), (9, .pointer (some ⟨b6_5, 0, none⟩)), (11, .int .i64 e0_11), (12, .pointer (some ⟨b10_13, 0, none⟩)), (13, .bool y10_9.2.1)] ⟨by kernel_rfl, by kernel_rfl, by kernel_rfl, by kernel_rfl, by kernel_rfl, by kernel_rfl, by kernel_rfl, by kernel_rfl, trivial⟩ ?_
    refine at_then_normal ?_
    refine at_seq (x := C6 [1, 1, 1, 1, 1, 1, 1, 1, 1, 0]) (y := C6 [1, 1, 1, 1, 1, 1, 1, 1, 1, 1]) (by kernel_rfl) ?_
    refine at_region (id := 11) 8 (by kernel_rfl) (by kernel_rfl) ?_
    refine s_pure 51 (.pointer (some ⟨b2_0_0, 0, none⟩)) (by kernel_rfl) (by kernel_rfl) (fun _ => by kernel_rfl) ?_
    obtain ⟨y11_1, hy11_1, H⟩ := bindE H
    refine s_call 52 18 #[.pointer (some ⟨b2_0_0, 0, none⟩), .int .i64 (1)] (by kernel_rfl) (by kernel_rfl) (fun _ => by kernel_rfl) (Tr.conv (Γ' := (CacheA b2_0_0 y10_9.2.2) :: (Asn.own b10_13 (.cells #[.int .i64 y10_9.1.kind, .int .i64 y10_9.1.line, .int .i64 y10_9.1.id, .int .i64 y10_9.1.step, .int .i64 y10_9.1.state, .int .i64 y10_9.1.head, .slice a10_9_00 (List.length y10_9.1.data) c10_9_00, .int .i64 y10_9.1.next, .int .i64 y10_9.1.told] 35 (0, 0))) :: (ImmI a10_9_00 y10_9.1.data) :: (ImmI a10_0_00 y10_0.data) :: (IntsA (some ⟨b10_7, 0, none⟩) 1 l10_7) :: (Asn.own b6_5 (.cells #[.int .i64 y6_1.1.fwd, .int .i64 y6_1.1.back, .int .i64 y6_1.1.line, .int .i64 y6_1.1.used, .bool y6_1.1.dirty, .slice a6_1_00 (List.length y6_1.1.data) c6_1_00] 32 (0, 0))) :: (IntsA a6_1_00 c6_1_00 y6_1.1.data) :: (RCacheA b2_0_1 y2_0.2) :: Γ) (fun w hw => (Sat.less (.take (.there (.there .here)) (.take .here (.take .here (.take .here (.take .here (.take .here (.take .here (.take .here .refl)))))))) hw)) (FindF_tr b2_0_0 y10_9.2.2 (1 : Int) y11_1 hy11_1)) ?_
    rintro _ _ ⟨a11_1_00, c11_1_00, rfl, rfl⟩
    refine s_pure 50 (.tuple #[.agg #[.int .i64 y11_1.1.fwd, .int .i64 y11_1.1.back, .int .i64 y11_1.1.line, .int .i64 y11_1.1.used, .bool y11_1.1.dirty, .slice a11_1_00 (List.length y11_1.1.data) c11_1_00], .bool y11_1.2]) (by kernel_rfl) (by kernel_rfl) (fun _ => by kernel_rfl) ?_
    refine s_pure 53 (.agg #[.int .i64 y11_1.1.fwd, .int .i64 y11_1.1.back, .int .i64 y11_1.1.line, .int .i64 y11_1.1.used, .bool y11_1.1.dirty, .slice a11_1_00 (List.length y11_1.1.data) c11_1_00]) (by kernel_rfl) (by kernel_rfl) (fun _ => by kernel_rfl) ?_
    refine s_pure 54 (.bool y11_1.2) (by kernel_rfl) (by kernel_rfl) (fun _ => by kernel_rfl) ?_
    refine s_step 14 (by kernel_rfl) (by kernel_rfl) (st_new (T := 32) (cells := #[.int .i64 (0), .int .i64 (0), .int .i64 (0), .int .i64 (0), .bool false, .slice none 0 0]) (fun a => .pointer (some a)) (fun _ => by kernel_rfl)) ?_
    rintro _ _ ⟨b11_5, rfl, rfl⟩
    refine s_do (by kernel_rfl) (by kernel_rfl) (st_store (off := 0) (vs := [.int .i64 y11_1.1.fwd, .int .i64 y11_1.1.back, .int .i64 y11_1.1.line, .int .i64 y11_1.1.used, .bool y11_1.1.dirty, .slice a11_1_00 (List.length y11_1.1.data) c11_1_00]) (c' := #[.int .i64 y11_1.1.fwd, .int .i64 y11_1.1.back, .int .i64 y11_1.1.line, .int .i64 y11_1.1.used, .bool y11_1.1.dirty, .slice a11_1_00 (List.length y11_1.1.data) c11_1_00]) (fun _ => by kernel_rfl) .here (by kernel_rfl) (by kernel_rfl) (by kernel_rfl)) ?_
    rintro _ _ ⟨rfl, rfl⟩
    refine s_pure 15 (.bool y11_1.2) (by kernel_rfl) (by kernel_rfl) (fun _ => by kernel_rfl) ?_
    refine ops_end ?_
    refine At.env [(0, .int .i64 v), (1, .int .i64 y1_1), (6, .bool false), (7, .pointer (some ⟨b2_0_0, 0, none⟩)), (9, .pointer (some ⟨b6_5, 0, none⟩)), (11, .int .i64 e0_11), (12, .pointer (some ⟨b10_13, 0, none⟩)), (13, .bool y10_9.2.1), (14, .pointer (some ⟨b11_5, 0, none⟩)), (15, .bool y11_1.2)] ⟨by kernel_rfl, by kernel_rfl, by kernel_rfl, by kernel_rfl, by kernel_rfl, by kernel_rfl, by kernel_rfl, by kernel_rfl, by kernel_rfl, by kernel_rfl, trivial⟩ ?_
    refine at_then_normal ?_
    refine at_seq (x := C6 [1, 1, 1, 1, 1, 1, 1, 1, 1, 1, 0]) (y := C6 [1, 1, 1, 1, 1, 1, 1, 1, 1, 1, 1]) (by kernel_rfl) ?_
    refine at_region (id := 12) 5 (by kernel_rfl) (by kernel_rfl) ?_
    refine s_load 55 (.agg #[.int .i64 y10_9.1.kind, .int .i64 y10_9.1.line, .int .i64 y10_9.1.id, .int .i64 y10_9.1.step, .int .i64 y10_9.1.state, .int .i64 y10_9.1.head, .slice a10_9_00 (List.length y10_9.1.data) c10_9_00, .int .i64 y10_9.1.next, .int .i64 y10_9.1.told]) (by kernel_rfl) (by kernel_rfl) (loadN (off := 0) (vs := [.int .i64 y10_9.1.kind, .int .i64 y10_9.1.line, .int .i64 y10_9.1.id, .int .i64 y10_9.1.step, .int .i64 y10_9.1.state, .int .i64 y10_9.1.head, .slice a10_9_00 (List.length y10_9.1.data) c10_9_00, .int .i64 y10_9.1.next, .int .i64 y10_9.1.told]) 9 (fun _ => by kernel_rfl) (holds_own (.there (.there (.there .here)))) rfl (by exact ⟨rfl, rfl, rfl, rfl, rfl, rfl, rfl, rfl, rfl, trivial⟩)) ?_
    refine s_pure 56 (.int .i64 y1_1) (by kernel_rfl) (by kernel_rfl) (fun _ => by kernel_rfl) ?_
    obtain ⟨y12_2, hy12_2, H⟩ := bindE H
    refine s_call 57 26 #[.agg #[.int .i64 y10_9.1.kind, .int .i64 y10_9.1.line, .int .i64 y10_9.1.id, .int .i64 y10_9.1.step, .int .i64 y10_9.1.state, .int .i64 y10_9.1.head, .slice a10_9_00 (List.length y10_9.1.data) c10_9_00, .int .i64 y10_9.1.next, .int .i64 y10_9.1.told], .int .i64 y1_1, .int .i64 (0)] (by kernel_rfl) (by kernel_rfl) (fun _ => by kernel_rfl) (DAskF_tr a10_9_00 c10_9_00 y10_9.1 y1_1 (0 : Int) (ImmR.reads (k := 1) (.there (.there (.there (.there .here))))) y12_2 hy12_2) ?_
    rintro _ _ ⟨a12_2_00, c12_2_00, rfl, rfl⟩
    refine s_step 16 (by kernel_rfl) (by kernel_rfl) (st_new (T := 40) (cells := #[.int .i64 (0), .int .i64 (0), .int .i64 (0), .int .i64 (0), .int .i64 (0), .int .i64 (0), .int .i64 (0), .bool false, .slice none 0 0]) (fun a => .pointer (some a)) (fun _ => by kernel_rfl)) ?_
    rintro _ _ ⟨b12_3, rfl, rfl⟩
    refine s_do (by kernel_rfl) (by kernel_rfl) (st_store (off := 0) (vs := [.int .i64 y12_2.kind, .int .i64 y12_2.src, .int .i64 y12_2.dst, .int .i64 y12_2.id, .int .i64 y12_2.line, .int .i64 y12_2.ptr, .int .i64 y12_2.state, .bool y12_2.flag, .slice a12_2_00 (List.length y12_2.data) c12_2_00]) (c' := #[.int .i64 y12_2.kind, .int .i64 y12_2.src, .int .i64 y12_2.dst, .int .i64 y12_2.id, .int .i64 y12_2.line, .int .i64 y12_2.ptr, .int .i64 y12_2.state, .bool y12_2.flag, .slice a12_2_00 (List.length y12_2.data) c12_2_00]) (fun _ => by kernel_rfl) .here (by kernel_rfl) (by kernel_rfl) (by kernel_rfl)) ?_
    rintro _ _ ⟨rfl, rfl⟩
    refine ops_end ?_
    refine At.env [(0, .int .i64 v), (1, .int .i64 y1_1), (6, .bool false), (7, .pointer (some ⟨b2_0_0, 0, none⟩)), (9, .pointer (some ⟨b6_5, 0, none⟩)), (11, .int .i64 e0_11), (12, .pointer (some ⟨b10_13, 0, none⟩)), (13, .bool y10_9.2.1), (14, .pointer (some ⟨b11_5, 0, none⟩)), (15, .bool y11_1.2), (16, .pointer (some ⟨b12_3, 0, none⟩))] ⟨by kernel_rfl, by kernel_rfl, by kernel_rfl, by kernel_rfl, by kernel_rfl, by kernel_rfl, by kernel_rfl, by kernel_rfl, by kernel_rfl, by kernel_rfl, by kernel_rfl, trivial⟩ ?_
    refine at_then_normal ?_
    refine at_seq (x := C6 [1, 1, 1, 1, 1, 1, 1, 1, 1, 1, 1, 0]) (y := C6 [1, 1, 1, 1, 1, 1, 1, 1, 1, 1, 1, 1]) (by kernel_rfl) ?_
    refine at_region (id := 13) 46 (by kernel_rfl) (by kernel_rfl) ?_
    refine s_pure 58 (.bool y10_9.2.1) (by kernel_rfl) (by kernel_rfl) (fun _ => by kernel_rfl) ?_
    rcases Bool.eq_false_or_eq_true (y10_9.2.1) with h1 | h1
    · replace H := bifT H h1
      refine s_pure 59 (.bool true) (by kernel_rfl) (by kernel_rfl) (run_eq (v := .bool (y10_9.2.1)) (fun _ => by kernel_rfl) (congrArg Value.bool h1)) ?_
      refine s_pure 60 (.bool y11_1.2) (by kernel_rfl) (by kernel_rfl) (fun _ => by kernel_rfl) ?_
      refine s_pure 61 (.bool y11_1.2) (by kernel_rfl) (by kernel_rfl) (fun _ => by kernel_rfl) ?_
      rcases Bool.eq_false_or_eq_true (y11_1.2) with h2 | h2
      · replace H := bifT H h2
        refine s_pure 62 (.bool true) (by kernel_rfl) (by kernel_rfl) (run_eq (v := .bool (y11_1.2)) (fun _ => by kernel_rfl) (congrArg Value.bool h2)) ?_
        refine s_pure 63 (.pointer (some ⟨b11_5, 4, none⟩)) (by kernel_rfl) (by kernel_rfl) (fun _ => by kernel_rfl) ?_
        refine s_load 64 (.bool y11_1.1.dirty) (by kernel_rfl) (by kernel_rfl) (load1 (off := 4) (fun _ => by kernel_rfl) (holds_own (.there (.there .here))) (by kernel_rfl)) ?_
        refine s_pure 65 (.bool y11_1.1.dirty) (by kernel_rfl) (by kernel_rfl) (fun _ => by kernel_rfl) ?_
        rcases Bool.eq_false_or_eq_true (y11_1.1.dirty) with h3 | h3
        · replace H := bifT H h3
          refine s_pure 66 (.bool true) (by kernel_rfl) (by kernel_rfl) (run_eq (v := .bool (y11_1.1.dirty)) (fun _ => by kernel_rfl) (congrArg Value.bool h3)) ?_
          refine s_load 67 (.agg #[.int .i64 y11_1.1.fwd, .int .i64 y11_1.1.back, .int .i64 y11_1.1.line, .int .i64 y11_1.1.used, .bool y11_1.1.dirty, .slice a11_1_00 (List.length y11_1.1.data) c11_1_00]) (by kernel_rfl) (by kernel_rfl) (loadN (off := 0) (vs := [.int .i64 y11_1.1.fwd, .int .i64 y11_1.1.back, .int .i64 y11_1.1.line, .int .i64 y11_1.1.used, .bool y11_1.1.dirty, .slice a11_1_00 (List.length y11_1.1.data) c11_1_00]) 6 (fun _ => by kernel_rfl) (holds_own (.there (.there .here))) rfl (by exact ⟨rfl, rfl, rfl, rfl, rfl, rfl, trivial⟩)) ?_
          obtain ⟨y13_10, hy13_10, H⟩ := bindE H
          refine s_call 68 20 #[.agg #[.int .i64 y11_1.1.fwd, .int .i64 y11_1.1.back, .int .i64 y11_1.1.line, .int .i64 y11_1.1.used, .bool y11_1.1.dirty, .slice a11_1_00 (List.length y11_1.1.data) c11_1_00], .int .i64 (0)] (by kernel_rfl) (by kernel_rfl) (fun _ => by kernel_rfl) (EWordF_tr a11_1_00 c11_1_00 y11_1.1 (0 : Int) (RowsA.reads (k := 1) (.there (.there (.there .here)))) y13_10 hy13_10) ?_
          rintro _ _ ⟨rfl, rfl⟩
          refine s_pure 69 (.int .i64 v) (by kernel_rfl) (by kernel_rfl) (fun _ => by kernel_rfl) ?_
          refine s_pure 70 (.bool (decide (y13_10 = v))) (by kernel_rfl) (by kernel_rfl) (fun _ => by kernel_rfl) ?_
          refine s_pure 71 (.bool (decide (y13_10 = v))) (by kernel_rfl) (by kernel_rfl) (fun _ => by kernel_rfl) ?_
          rcases Bool.eq_false_or_eq_true (decide (y13_10 = v)) with h4 | h4
          · replace H := bifT H h4
            refine s_pure 72 (.bool true) (by kernel_rfl) (by kernel_rfl) (run_eq (v := .bool (decide (y13_10 = v))) (fun _ => by kernel_rfl) (congrArg Value.bool h4)) ?_
            refine s_pure 73 (.pointer (some ⟨b11_5, 3, none⟩)) (by kernel_rfl) (by kernel_rfl) (fun _ => by kernel_rfl) ?_
            refine s_load 74 (.int .i64 y11_1.1.used) (by kernel_rfl) (by kernel_rfl) (load1 (off := 3) (fun _ => by kernel_rfl) (holds_own (.there (.there .here))) (by kernel_rfl)) ?_
            refine s_pure 75 (.pointer (some ⟨b6_5, 3, none⟩)) (by kernel_rfl) (by kernel_rfl) (fun _ => by kernel_rfl) ?_
            refine s_load 76 (.int .i64 y6_1.1.used) (by kernel_rfl) (by kernel_rfl) (load1 (off := 3) (fun _ => by kernel_rfl) (holds_own (.there (.there (.there (.there (.there (.there (.there (.there (.there .here)))))))))) (by kernel_rfl)) ?_
            refine s_pure 77 (.bool (decide (y11_1.1.used = y6_1.1.used))) (by kernel_rfl) (by kernel_rfl) (fun _ => by kernel_rfl) ?_
            refine s_pure 78 (.bool (decide (y11_1.1.used = y6_1.1.used))) (by kernel_rfl) (by kernel_rfl) (fun _ => by kernel_rfl) ?_
            rcases Bool.eq_false_or_eq_true (decide (y11_1.1.used = y6_1.1.used)) with h5 | h5
            · replace H := bifT H h5
              refine s_pure 79 (.bool true) (by kernel_rfl) (by kernel_rfl) (run_eq (v := .bool (decide (y11_1.1.used = y6_1.1.used))) (fun _ => by kernel_rfl) (congrArg Value.bool h5)) ?_
              refine s_pure 80 (.pointer (some ⟨b12_3, 0, none⟩)) (by kernel_rfl) (by kernel_rfl) (fun _ => by kernel_rfl) ?_
              refine s_load 81 (.int .i64 y12_2.kind) (by kernel_rfl) (by kernel_rfl) (load1 (off := 0) (fun _ => by kernel_rfl) (holds_own .here) (by kernel_rfl)) ?_
              refine s_pure 82 (.bool (decide (y12_2.kind = (2 : Int)))) (by kernel_rfl) (by kernel_rfl) (fun _ => by kernel_rfl) ?_
              refine s_pure 83 (.bool (decide (y12_2.kind = (2 : Int)))) (by kernel_rfl) (by kernel_rfl) (fun _ => by kernel_rfl) ?_
              rcases Bool.eq_false_or_eq_true (decide (y12_2.kind = (2 : Int))) with h6 | h6
              · replace H := bifT H h6
                refine s_pure 84 (.bool true) (by kernel_rfl) (by kernel_rfl) (run_eq (v := .bool (decide (y12_2.kind = (2 : Int)))) (fun _ => by kernel_rfl) (congrArg Value.bool h6)) ?_
                refine s_pure 85 (.pointer (some ⟨b12_3, 6, none⟩)) (by kernel_rfl) (by kernel_rfl) (fun _ => by kernel_rfl) ?_
                refine s_load 86 (.int .i64 y12_2.state) (by kernel_rfl) (by kernel_rfl) (load1 (off := 6) (fun _ => by kernel_rfl) (holds_own .here) (by kernel_rfl)) ?_
                refine s_pure 87 (.bool (decide (y12_2.state = (2 : Int)))) (by kernel_rfl) (by kernel_rfl) (fun _ => by kernel_rfl) ?_
                refine s_pure 88 (.bool (decide (y12_2.state = (2 : Int)))) (by kernel_rfl) (by kernel_rfl) (fun _ => by kernel_rfl) ?_
                rcases Bool.eq_false_or_eq_true (decide (y12_2.state = (2 : Int))) with h7 | h7
                · replace H := bifT H h7
                  refine s_pure 89 (.bool true) (by kernel_rfl) (by kernel_rfl) (run_eq (v := .bool (decide (y12_2.state = (2 : Int)))) (fun _ => by kernel_rfl) (congrArg Value.bool h7)) ?_
                  refine s_pure 90 (.pointer (some ⟨b12_3, 5, none⟩)) (by kernel_rfl) (by kernel_rfl) (fun _ => by kernel_rfl) ?_
                  refine s_load 91 (.int .i64 y12_2.ptr) (by kernel_rfl) (by kernel_rfl) (load1 (off := 5) (fun _ => by kernel_rfl) (holds_own .here) (by kernel_rfl)) ?_
                  refine s_pure 92 (.int .i64 y1_1) (by kernel_rfl) (by kernel_rfl) (fun _ => by kernel_rfl) ?_
                  refine s_pure 93 (.bool (decide (y12_2.ptr = y1_1))) (by kernel_rfl) (by kernel_rfl) (fun _ => by kernel_rfl) ?_
                  refine s_pure 94 (.bool (decide (y12_2.ptr = y1_1))) (by kernel_rfl) (by kernel_rfl) (fun _ => by kernel_rfl) ?_
                  rcases Bool.eq_false_or_eq_true (decide (y12_2.ptr = y1_1)) with h8 | h8
                  · replace H := bifT H h8
                    refine s_pure 95 (.bool true) (by kernel_rfl) (by kernel_rfl) (run_eq (v := .bool (decide (y12_2.ptr = y1_1))) (fun _ => by kernel_rfl) (congrArg Value.bool h8)) ?_
                    refine s_pure 96 (.pointer (some ⟨b2_0_0, 0, none⟩)) (by kernel_rfl) (by kernel_rfl) (fun _ => by kernel_rfl) ?_
                    obtain ⟨y13_39, hy13_39, H⟩ := letE H
                    refine s_call 97 23 #[.pointer (some ⟨b2_0_0, 0, none⟩)] (by kernel_rfl) (by kernel_rfl) (fun _ => by kernel_rfl) (Tr.conv (Γ' := (CacheA b2_0_0 y10_9.2.2) :: (Asn.own b12_3 (.cells #[.int .i64 y12_2.kind, .int .i64 y12_2.src, .int .i64 y12_2.dst, .int .i64 y12_2.id, .int .i64 y12_2.line, .int .i64 y12_2.ptr, .int .i64 y12_2.state, .bool y12_2.flag, .slice a12_2_00 (List.length y12_2.data) c12_2_00] 40 (0, 0))) :: (IntsA a12_2_00 c12_2_00 y12_2.data) :: (Asn.own b11_5 (.cells #[.int .i64 y11_1.1.fwd, .int .i64 y11_1.1.back, .int .i64 y11_1.1.line, .int .i64 y11_1.1.used, .bool y11_1.1.dirty, .slice a11_1_00 (List.length y11_1.1.data) c11_1_00] 32 (0, 0))) :: (IntsA a11_1_00 c11_1_00 y11_1.1.data) :: (Asn.own b10_13 (.cells #[.int .i64 y10_9.1.kind, .int .i64 y10_9.1.line, .int .i64 y10_9.1.id, .int .i64 y10_9.1.step, .int .i64 y10_9.1.state, .int .i64 y10_9.1.head, .slice a10_9_00 (List.length y10_9.1.data) c10_9_00, .int .i64 y10_9.1.next, .int .i64 y10_9.1.told] 35 (0, 0))) :: (ImmI a10_9_00 y10_9.1.data) :: (ImmI a10_0_00 y10_0.data) :: (IntsA (some ⟨b10_7, 0, none⟩) 1 l10_7) :: (Asn.own b6_5 (.cells #[.int .i64 y6_1.1.fwd, .int .i64 y6_1.1.back, .int .i64 y6_1.1.line, .int .i64 y6_1.1.used, .bool y6_1.1.dirty, .slice a6_1_00 (List.length y6_1.1.data) c6_1_00] 32 (0, 0))) :: (IntsA a6_1_00 c6_1_00 y6_1.1.data) :: (RCacheA b2_0_1 y2_0.2) :: Γ) (fun w hw => (Sat.less (.take (.there (.there (.there (.there .here)))) (.take .here (.take .here (.take .here (.take .here (.take .here (.take .here (.take .here (.take .here (.take .here (.take .here (.take .here .refl)))))))))))) hw)) (LenF_tr b2_0_0 y10_9.2.2 y13_39 hy13_39)) ?_
                    rintro _ _ ⟨rfl, rfl⟩
                    refine s_pure 98 (.bool (decide (y13_39 = (1 : Int)))) (by kernel_rfl) (by kernel_rfl) (fun _ => by kernel_rfl) ?_
                    refine s_pure 99 (.bool (decide (y13_39 = (1 : Int)))) (by kernel_rfl) (by kernel_rfl) (fun _ => by kernel_rfl) ?_
                    rcases Bool.eq_false_or_eq_true (decide (y13_39 = (1 : Int))) with h9 | h9
                    · replace H := bifT H h9
                      refine s_pure 100 (.bool true) (by kernel_rfl) (by kernel_rfl) (run_eq (v := .bool (decide (y13_39 = (1 : Int)))) (fun _ => by kernel_rfl) (congrArg Value.bool h9)) ?_
                      obtain ⟨y13_43, hy13_43, H⟩ := bindE H
                      refine s_call 101 21 #[] (by kernel_rfl) (by kernel_rfl) (fun _ => by kernel_rfl) (W15F_tr  y13_43 hy13_43) ?_
                      rintro _ _ ⟨rfl, rfl⟩
                      refine s_pure 102 (.bool y13_43) (by kernel_rfl) (by kernel_rfl) (fun _ => by kernel_rfl) ?_
                      refine s_pure 6 (.bool y13_43) (by kernel_rfl) (by kernel_rfl) (fun _ => by kernel_rfl) ?_
                      refine ops_end ?_
                      refine At.env [(0, .int .i64 v), (1, .int .i64 y1_1), (6, .bool y13_43), (7, .pointer (some ⟨b2_0_0, 0, none⟩)), (9, .pointer (some ⟨b6_5, 0, none⟩)), (11, .int .i64 e0_11), (12, .pointer (some ⟨b10_13, 0, none⟩)), (13, .bool y10_9.2.1), (14, .pointer (some ⟨b11_5, 0, none⟩)), (15, .bool y11_1.2), (16, .pointer (some ⟨b12_3, 0, none⟩))] ⟨by kernel_rfl, by kernel_rfl, by kernel_rfl, by kernel_rfl, by kernel_rfl, by kernel_rfl, by kernel_rfl, by kernel_rfl, by kernel_rfl, by kernel_rfl, by kernel_rfl, trivial⟩ ?_
                      refine at_then_normal ?_
                      refine at_ret (by kernel_rfl) ?_
                      obtain rfl := someE H
                      refine at_backR [.bool y13_43] (Γ) (rs := [.tmp 6]) (by kernel_rfl) (.cons (.tmp (by kernel_rfl)) .nil) (fun w hw => (Sat.less (.drop .here (.drop .here (.drop .here (.drop .here (.drop .here (.drop .here (.drop .here (.drop .here (.drop .here (.drop .here (.drop .here (.drop .here .refl)))))))))))) hw)) ?_
                      exact ⟨rfl, rfl⟩
                    · replace H := bifF H h9
                      refine s_pure 100 (.bool false) (by kernel_rfl) (by kernel_rfl) (run_eq (v := .bool (decide (y13_39 = (1 : Int)))) (fun _ => by kernel_rfl) (congrArg Value.bool h9)) ?_
                      refine s_pass 101 (by kernel_rfl) (by kernel_rfl) ?_
                      refine s_pure 102 (.bool false) (by kernel_rfl) (by kernel_rfl) (fun _ => by kernel_rfl) ?_
                      refine s_pure 6 (.bool false) (by kernel_rfl) (by kernel_rfl) (fun _ => by kernel_rfl) ?_
                      refine ops_end ?_
                      refine At.env [(0, .int .i64 v), (1, .int .i64 y1_1), (6, .bool false), (7, .pointer (some ⟨b2_0_0, 0, none⟩)), (9, .pointer (some ⟨b6_5, 0, none⟩)), (11, .int .i64 e0_11), (12, .pointer (some ⟨b10_13, 0, none⟩)), (13, .bool y10_9.2.1), (14, .pointer (some ⟨b11_5, 0, none⟩)), (15, .bool y11_1.2), (16, .pointer (some ⟨b12_3, 0, none⟩))] ⟨by kernel_rfl, by kernel_rfl, by kernel_rfl, by kernel_rfl, by kernel_rfl, by kernel_rfl, by kernel_rfl, by kernel_rfl, by kernel_rfl, by kernel_rfl, by kernel_rfl, trivial⟩ ?_
                      refine at_then_normal ?_
                      refine at_ret (by kernel_rfl) ?_
                      obtain rfl := someE H
                      refine at_backR [.bool false] (Γ) (rs := [.tmp 6]) (by kernel_rfl) (.cons (.tmp (by kernel_rfl)) .nil) (fun w hw => (Sat.less (.drop .here (.drop .here (.drop .here (.drop .here (.drop .here (.drop .here (.drop .here (.drop .here (.drop .here (.drop .here (.drop .here (.drop .here .refl)))))))))))) hw)) ?_
                      exact ⟨rfl, rfl⟩
                  · replace H := bifF H h8
                    refine s_pure 95 (.bool false) (by kernel_rfl) (by kernel_rfl) (run_eq (v := .bool (decide (y12_2.ptr = y1_1))) (fun _ => by kernel_rfl) (congrArg Value.bool h8)) ?_
                    refine s_pass 96 (by kernel_rfl) (by kernel_rfl) ?_
                    refine s_pass 97 (by kernel_rfl) (by kernel_rfl) ?_
                    refine s_pass 98 (by kernel_rfl) (by kernel_rfl) ?_
                    refine s_pure 99 (.bool false) (by kernel_rfl) (by kernel_rfl) (fun _ => by kernel_rfl) ?_
                    refine s_pure 100 (.bool false) (by kernel_rfl) (by kernel_rfl) (fun _ => by kernel_rfl) ?_
                    refine s_pass 101 (by kernel_rfl) (by kernel_rfl) ?_
                    refine s_pure 102 (.bool false) (by kernel_rfl) (by kernel_rfl) (fun _ => by kernel_rfl) ?_
                    refine s_pure 6 (.bool false) (by kernel_rfl) (by kernel_rfl) (fun _ => by kernel_rfl) ?_
                    refine ops_end ?_
                    refine At.env [(0, .int .i64 v), (1, .int .i64 y1_1), (6, .bool false), (7, .pointer (some ⟨b2_0_0, 0, none⟩)), (9, .pointer (some ⟨b6_5, 0, none⟩)), (11, .int .i64 e0_11), (12, .pointer (some ⟨b10_13, 0, none⟩)), (13, .bool y10_9.2.1), (14, .pointer (some ⟨b11_5, 0, none⟩)), (15, .bool y11_1.2), (16, .pointer (some ⟨b12_3, 0, none⟩))] ⟨by kernel_rfl, by kernel_rfl, by kernel_rfl, by kernel_rfl, by kernel_rfl, by kernel_rfl, by kernel_rfl, by kernel_rfl, by kernel_rfl, by kernel_rfl, by kernel_rfl, trivial⟩ ?_
                    refine at_then_normal ?_
                    refine at_ret (by kernel_rfl) ?_
                    obtain rfl := someE H
                    refine at_backR [.bool false] (Γ) (rs := [.tmp 6]) (by kernel_rfl) (.cons (.tmp (by kernel_rfl)) .nil) (fun w hw => (Sat.less (.drop .here (.drop .here (.drop .here (.drop .here (.drop .here (.drop .here (.drop .here (.drop .here (.drop .here (.drop .here (.drop .here (.drop .here .refl)))))))))))) hw)) ?_
                    exact ⟨rfl, rfl⟩
                · replace H := bifF H h7
                  refine s_pure 89 (.bool false) (by kernel_rfl) (by kernel_rfl) (run_eq (v := .bool (decide (y12_2.state = (2 : Int)))) (fun _ => by kernel_rfl) (congrArg Value.bool h7)) ?_
                  refine s_pass 90 (by kernel_rfl) (by kernel_rfl) ?_
                  refine s_pass 91 (by kernel_rfl) (by kernel_rfl) ?_
                  refine s_pass 92 (by kernel_rfl) (by kernel_rfl) ?_
                  refine s_pass 93 (by kernel_rfl) (by kernel_rfl) ?_
                  refine s_pure 94 (.bool false) (by kernel_rfl) (by kernel_rfl) (fun _ => by kernel_rfl) ?_
                  refine s_pure 95 (.bool false) (by kernel_rfl) (by kernel_rfl) (fun _ => by kernel_rfl) ?_
                  refine s_pass 96 (by kernel_rfl) (by kernel_rfl) ?_
                  refine s_pass 97 (by kernel_rfl) (by kernel_rfl) ?_
                  refine s_pass 98 (by kernel_rfl) (by kernel_rfl) ?_
                  refine s_pure 99 (.bool false) (by kernel_rfl) (by kernel_rfl) (fun _ => by kernel_rfl) ?_
                  refine s_pure 100 (.bool false) (by kernel_rfl) (by kernel_rfl) (fun _ => by kernel_rfl) ?_
                  refine s_pass 101 (by kernel_rfl) (by kernel_rfl) ?_
                  refine s_pure 102 (.bool false) (by kernel_rfl) (by kernel_rfl) (fun _ => by kernel_rfl) ?_
                  refine s_pure 6 (.bool false) (by kernel_rfl) (by kernel_rfl) (fun _ => by kernel_rfl) ?_
                  refine ops_end ?_
                  refine At.env [(0, .int .i64 v), (1, .int .i64 y1_1), (6, .bool false), (7, .pointer (some ⟨b2_0_0, 0, none⟩)), (9, .pointer (some ⟨b6_5, 0, none⟩)), (11, .int .i64 e0_11), (12, .pointer (some ⟨b10_13, 0, none⟩)), (13, .bool y10_9.2.1), (14, .pointer (some ⟨b11_5, 0, none⟩)), (15, .bool y11_1.2), (16, .pointer (some ⟨b12_3, 0, none⟩))] ⟨by kernel_rfl, by kernel_rfl, by kernel_rfl, by kernel_rfl, by kernel_rfl, by kernel_rfl, by kernel_rfl, by kernel_rfl, by kernel_rfl, by kernel_rfl, by kernel_rfl, trivial⟩ ?_
                  refine at_then_normal ?_
                  refine at_ret (by kernel_rfl) ?_
                  obtain rfl := someE H
                  refine at_backR [.bool false] (Γ) (rs := [.tmp 6]) (by kernel_rfl) (.cons (.tmp (by kernel_rfl)) .nil) (fun w hw => (Sat.less (.drop .here (.drop .here (.drop .here (.drop .here (.drop .here (.drop .here (.drop .here (.drop .here (.drop .here (.drop .here (.drop .here (.drop .here .refl)))))))))))) hw)) ?_
                  exact ⟨rfl, rfl⟩
              · replace H := bifF H h6
                refine s_pure 84 (.bool false) (by kernel_rfl) (by kernel_rfl) (run_eq (v := .bool (decide (y12_2.kind = (2 : Int)))) (fun _ => by kernel_rfl) (congrArg Value.bool h6)) ?_
                refine s_pass 85 (by kernel_rfl) (by kernel_rfl) ?_
                refine s_pass 86 (by kernel_rfl) (by kernel_rfl) ?_
                refine s_pass 87 (by kernel_rfl) (by kernel_rfl) ?_
                refine s_pure 88 (.bool false) (by kernel_rfl) (by kernel_rfl) (fun _ => by kernel_rfl) ?_
                refine s_pure 89 (.bool false) (by kernel_rfl) (by kernel_rfl) (fun _ => by kernel_rfl) ?_
                refine s_pass 90 (by kernel_rfl) (by kernel_rfl) ?_
                refine s_pass 91 (by kernel_rfl) (by kernel_rfl) ?_
                refine s_pass 92 (by kernel_rfl) (by kernel_rfl) ?_
                refine s_pass 93 (by kernel_rfl) (by kernel_rfl) ?_
                refine s_pure 94 (.bool false) (by kernel_rfl) (by kernel_rfl) (fun _ => by kernel_rfl) ?_
                refine s_pure 95 (.bool false) (by kernel_rfl) (by kernel_rfl) (fun _ => by kernel_rfl) ?_
                refine s_pass 96 (by kernel_rfl) (by kernel_rfl) ?_
                refine s_pass 97 (by kernel_rfl) (by kernel_rfl) ?_
                refine s_pass 98 (by kernel_rfl) (by kernel_rfl) ?_
                refine s_pure 99 (.bool false) (by kernel_rfl) (by kernel_rfl) (fun _ => by kernel_rfl) ?_
                refine s_pure 100 (.bool false) (by kernel_rfl) (by kernel_rfl) (fun _ => by kernel_rfl) ?_
                refine s_pass 101 (by kernel_rfl) (by kernel_rfl) ?_
                refine s_pure 102 (.bool false) (by kernel_rfl) (by kernel_rfl) (fun _ => by kernel_rfl) ?_
                refine s_pure 6 (.bool false) (by kernel_rfl) (by kernel_rfl) (fun _ => by kernel_rfl) ?_
                refine ops_end ?_
                refine At.env [(0, .int .i64 v), (1, .int .i64 y1_1), (6, .bool false), (7, .pointer (some ⟨b2_0_0, 0, none⟩)), (9, .pointer (some ⟨b6_5, 0, none⟩)), (11, .int .i64 e0_11), (12, .pointer (some ⟨b10_13, 0, none⟩)), (13, .bool y10_9.2.1), (14, .pointer (some ⟨b11_5, 0, none⟩)), (15, .bool y11_1.2), (16, .pointer (some ⟨b12_3, 0, none⟩))] ⟨by kernel_rfl, by kernel_rfl, by kernel_rfl, by kernel_rfl, by kernel_rfl, by kernel_rfl, by kernel_rfl, by kernel_rfl, by kernel_rfl, by kernel_rfl, by kernel_rfl, trivial⟩ ?_
                refine at_then_normal ?_
                refine at_ret (by kernel_rfl) ?_
                obtain rfl := someE H
                refine at_backR [.bool false] (Γ) (rs := [.tmp 6]) (by kernel_rfl) (.cons (.tmp (by kernel_rfl)) .nil) (fun w hw => (Sat.less (.drop .here (.drop .here (.drop .here (.drop .here (.drop .here (.drop .here (.drop .here (.drop .here (.drop .here (.drop .here (.drop .here (.drop .here .refl)))))))))))) hw)) ?_
                exact ⟨rfl, rfl⟩
            · replace H := bifF H h5
              refine s_pure 79 (.bool false) (by kernel_rfl) (by kernel_rfl) (run_eq (v := .bool (decide (y11_1.1.used = y6_1.1.used))) (fun _ => by kernel_rfl) (congrArg Value.bool h5)) ?_
              refine s_pass 80 (by kernel_rfl) (by kernel_rfl) ?_
              refine s_pass 81 (by kernel_rfl) (by kernel_rfl) ?_
              refine s_pass 82 (by kernel_rfl) (by kernel_rfl) ?_
              refine s_pure 83 (.bool false) (by kernel_rfl) (by kernel_rfl) (fun _ => by kernel_rfl) ?_
              refine s_pure 84 (.bool false) (by kernel_rfl) (by kernel_rfl) (fun _ => by kernel_rfl) ?_
              refine s_pass 85 (by kernel_rfl) (by kernel_rfl) ?_
              refine s_pass 86 (by kernel_rfl) (by kernel_rfl) ?_
              refine s_pass 87 (by kernel_rfl) (by kernel_rfl) ?_
              refine s_pure 88 (.bool false) (by kernel_rfl) (by kernel_rfl) (fun _ => by kernel_rfl) ?_
              refine s_pure 89 (.bool false) (by kernel_rfl) (by kernel_rfl) (fun _ => by kernel_rfl) ?_
              refine s_pass 90 (by kernel_rfl) (by kernel_rfl) ?_
              refine s_pass 91 (by kernel_rfl) (by kernel_rfl) ?_
              refine s_pass 92 (by kernel_rfl) (by kernel_rfl) ?_
              refine s_pass 93 (by kernel_rfl) (by kernel_rfl) ?_
              refine s_pure 94 (.bool false) (by kernel_rfl) (by kernel_rfl) (fun _ => by kernel_rfl) ?_
              refine s_pure 95 (.bool false) (by kernel_rfl) (by kernel_rfl) (fun _ => by kernel_rfl) ?_
              refine s_pass 96 (by kernel_rfl) (by kernel_rfl) ?_
              refine s_pass 97 (by kernel_rfl) (by kernel_rfl) ?_
              refine s_pass 98 (by kernel_rfl) (by kernel_rfl) ?_
              refine s_pure 99 (.bool false) (by kernel_rfl) (by kernel_rfl) (fun _ => by kernel_rfl) ?_
              refine s_pure 100 (.bool false) (by kernel_rfl) (by kernel_rfl) (fun _ => by kernel_rfl) ?_
              refine s_pass 101 (by kernel_rfl) (by kernel_rfl) ?_
              refine s_pure 102 (.bool false) (by kernel_rfl) (by kernel_rfl) (fun _ => by kernel_rfl) ?_
              refine s_pure 6 (.bool false) (by kernel_rfl) (by kernel_rfl) (fun _ => by kernel_rfl) ?_
              refine ops_end ?_
              refine At.env [(0, .int .i64 v), (1, .int .i64 y1_1), (6, .bool false), (7, .pointer (some ⟨b2_0_0, 0, none⟩)), (9, .pointer (some ⟨b6_5, 0, none⟩)), (11, .int .i64 e0_11), (12, .pointer (some ⟨b10_13, 0, none⟩)), (13, .bool y10_9.2.1), (14, .pointer (some ⟨b11_5, 0, none⟩)), (15, .bool y11_1.2), (16, .pointer (some ⟨b12_3, 0, none⟩))] ⟨by kernel_rfl, by kernel_rfl, by kernel_rfl, by kernel_rfl, by kernel_rfl, by kernel_rfl, by kernel_rfl, by kernel_rfl, by kernel_rfl, by kernel_rfl, by kernel_rfl, trivial⟩ ?_
              refine at_then_normal ?_
              refine at_ret (by kernel_rfl) ?_
              obtain rfl := someE H
              refine at_backR [.bool false] (Γ) (rs := [.tmp 6]) (by kernel_rfl) (.cons (.tmp (by kernel_rfl)) .nil) (fun w hw => (Sat.less (.drop .here (.drop .here (.drop .here (.drop .here (.drop .here (.drop .here (.drop .here (.drop .here (.drop .here (.drop .here (.drop .here (.drop .here .refl)))))))))))) hw)) ?_
              exact ⟨rfl, rfl⟩
          · replace H := bifF H h4
            refine s_pure 72 (.bool false) (by kernel_rfl) (by kernel_rfl) (run_eq (v := .bool (decide (y13_10 = v))) (fun _ => by kernel_rfl) (congrArg Value.bool h4)) ?_
            refine s_pass 73 (by kernel_rfl) (by kernel_rfl) ?_
            refine s_pass 74 (by kernel_rfl) (by kernel_rfl) ?_
            refine s_pass 75 (by kernel_rfl) (by kernel_rfl) ?_
            refine s_pass 76 (by kernel_rfl) (by kernel_rfl) ?_
            refine s_pass 77 (by kernel_rfl) (by kernel_rfl) ?_
            refine s_pure 78 (.bool false) (by kernel_rfl) (by kernel_rfl) (fun _ => by kernel_rfl) ?_
            refine s_pure 79 (.bool false) (by kernel_rfl) (by kernel_rfl) (fun _ => by kernel_rfl) ?_
            refine s_pass 80 (by kernel_rfl) (by kernel_rfl) ?_
            refine s_pass 81 (by kernel_rfl) (by kernel_rfl) ?_
            refine s_pass 82 (by kernel_rfl) (by kernel_rfl) ?_
            refine s_pure 83 (.bool false) (by kernel_rfl) (by kernel_rfl) (fun _ => by kernel_rfl) ?_
            refine s_pure 84 (.bool false) (by kernel_rfl) (by kernel_rfl) (fun _ => by kernel_rfl) ?_
            refine s_pass 85 (by kernel_rfl) (by kernel_rfl) ?_
            refine s_pass 86 (by kernel_rfl) (by kernel_rfl) ?_
            refine s_pass 87 (by kernel_rfl) (by kernel_rfl) ?_
            refine s_pure 88 (.bool false) (by kernel_rfl) (by kernel_rfl) (fun _ => by kernel_rfl) ?_
            refine s_pure 89 (.bool false) (by kernel_rfl) (by kernel_rfl) (fun _ => by kernel_rfl) ?_
            refine s_pass 90 (by kernel_rfl) (by kernel_rfl) ?_
            refine s_pass 91 (by kernel_rfl) (by kernel_rfl) ?_
            refine s_pass 92 (by kernel_rfl) (by kernel_rfl) ?_
            refine s_pass 93 (by kernel_rfl) (by kernel_rfl) ?_
            refine s_pure 94 (.bool false) (by kernel_rfl) (by kernel_rfl) (fun _ => by kernel_rfl) ?_
            refine s_pure 95 (.bool false) (by kernel_rfl) (by kernel_rfl) (fun _ => by kernel_rfl) ?_
            refine s_pass 96 (by kernel_rfl) (by kernel_rfl) ?_
            refine s_pass 97 (by kernel_rfl) (by kernel_rfl) ?_
            refine s_pass 98 (by kernel_rfl) (by kernel_rfl) ?_
            refine s_pure 99 (.bool false) (by kernel_rfl) (by kernel_rfl) (fun _ => by kernel_rfl) ?_
            refine s_pure 100 (.bool false) (by kernel_rfl) (by kernel_rfl) (fun _ => by kernel_rfl) ?_
            refine s_pass 101 (by kernel_rfl) (by kernel_rfl) ?_
            refine s_pure 102 (.bool false) (by kernel_rfl) (by kernel_rfl) (fun _ => by kernel_rfl) ?_
            refine s_pure 6 (.bool false) (by kernel_rfl) (by kernel_rfl) (fun _ => by kernel_rfl) ?_
            refine ops_end ?_
            refine At.env [(0, .int .i64 v), (1, .int .i64 y1_1), (6, .bool false), (7, .pointer (some ⟨b2_0_0, 0, none⟩)), (9, .pointer (some ⟨b6_5, 0, none⟩)), (11, .int .i64 e0_11), (12, .pointer (some ⟨b10_13, 0, none⟩)), (13, .bool y10_9.2.1), (14, .pointer (some ⟨b11_5, 0, none⟩)), (15, .bool y11_1.2), (16, .pointer (some ⟨b12_3, 0, none⟩))] ⟨by kernel_rfl, by kernel_rfl, by kernel_rfl, by kernel_rfl, by kernel_rfl, by kernel_rfl, by kernel_rfl, by kernel_rfl, by kernel_rfl, by kernel_rfl, by kernel_rfl, trivial⟩ ?_
            refine at_then_normal ?_
            refine at_ret (by kernel_rfl) ?_
            obtain rfl := someE H
            refine at_backR [.bool false] (Γ) (rs := [.tmp 6]) (by kernel_rfl) (.cons (.tmp (by kernel_rfl)) .nil) (fun w hw => (Sat.less (.drop .here (.drop .here (.drop .here (.drop .here (.drop .here (.drop .here (.drop .here (.drop .here (.drop .here (.drop .here (.drop .here (.drop .here .refl)))))))))))) hw)) ?_
            exact ⟨rfl, rfl⟩
        · replace H := bifF H h3
          refine s_pure 66 (.bool false) (by kernel_rfl) (by kernel_rfl) (run_eq (v := .bool (y11_1.1.dirty)) (fun _ => by kernel_rfl) (congrArg Value.bool h3)) ?_
          refine s_pass 67 (by kernel_rfl) (by kernel_rfl) ?_
          refine s_pass 68 (by kernel_rfl) (by kernel_rfl) ?_
          refine s_pass 69 (by kernel_rfl) (by kernel_rfl) ?_
          refine s_pass 70 (by kernel_rfl) (by kernel_rfl) ?_
          refine s_pure 71 (.bool false) (by kernel_rfl) (by kernel_rfl) (fun _ => by kernel_rfl) ?_
          refine s_pure 72 (.bool false) (by kernel_rfl) (by kernel_rfl) (fun _ => by kernel_rfl) ?_
          refine s_pass 73 (by kernel_rfl) (by kernel_rfl) ?_
          refine s_pass 74 (by kernel_rfl) (by kernel_rfl) ?_
          refine s_pass 75 (by kernel_rfl) (by kernel_rfl) ?_
          refine s_pass 76 (by kernel_rfl) (by kernel_rfl) ?_
          refine s_pass 77 (by kernel_rfl) (by kernel_rfl) ?_
          refine s_pure 78 (.bool false) (by kernel_rfl) (by kernel_rfl) (fun _ => by kernel_rfl) ?_
          refine s_pure 79 (.bool false) (by kernel_rfl) (by kernel_rfl) (fun _ => by kernel_rfl) ?_
          refine s_pass 80 (by kernel_rfl) (by kernel_rfl) ?_
          refine s_pass 81 (by kernel_rfl) (by kernel_rfl) ?_
          refine s_pass 82 (by kernel_rfl) (by kernel_rfl) ?_
          refine s_pure 83 (.bool false) (by kernel_rfl) (by kernel_rfl) (fun _ => by kernel_rfl) ?_
          refine s_pure 84 (.bool false) (by kernel_rfl) (by kernel_rfl) (fun _ => by kernel_rfl) ?_
          refine s_pass 85 (by kernel_rfl) (by kernel_rfl) ?_
          refine s_pass 86 (by kernel_rfl) (by kernel_rfl) ?_
          refine s_pass 87 (by kernel_rfl) (by kernel_rfl) ?_
          refine s_pure 88 (.bool false) (by kernel_rfl) (by kernel_rfl) (fun _ => by kernel_rfl) ?_
          refine s_pure 89 (.bool false) (by kernel_rfl) (by kernel_rfl) (fun _ => by kernel_rfl) ?_
          refine s_pass 90 (by kernel_rfl) (by kernel_rfl) ?_
          refine s_pass 91 (by kernel_rfl) (by kernel_rfl) ?_
          refine s_pass 92 (by kernel_rfl) (by kernel_rfl) ?_
          refine s_pass 93 (by kernel_rfl) (by kernel_rfl) ?_
          refine s_pure 94 (.bool false) (by kernel_rfl) (by kernel_rfl) (fun _ => by kernel_rfl) ?_
          refine s_pure 95 (.bool false) (by kernel_rfl) (by kernel_rfl) (fun _ => by kernel_rfl) ?_
          refine s_pass 96 (by kernel_rfl) (by kernel_rfl) ?_
          refine s_pass 97 (by kernel_rfl) (by kernel_rfl) ?_
          refine s_pass 98 (by kernel_rfl) (by kernel_rfl) ?_
          refine s_pure 99 (.bool false) (by kernel_rfl) (by kernel_rfl) (fun _ => by kernel_rfl) ?_
          refine s_pure 100 (.bool false) (by kernel_rfl) (by kernel_rfl) (fun _ => by kernel_rfl) ?_
          refine s_pass 101 (by kernel_rfl) (by kernel_rfl) ?_
          refine s_pure 102 (.bool false) (by kernel_rfl) (by kernel_rfl) (fun _ => by kernel_rfl) ?_
          refine s_pure 6 (.bool false) (by kernel_rfl) (by kernel_rfl) (fun _ => by kernel_rfl) ?_
          refine ops_end ?_
          refine At.env [(0, .int .i64 v), (1, .int .i64 y1_1), (6, .bool false), (7, .pointer (some ⟨b2_0_0, 0, none⟩)), (9, .pointer (some ⟨b6_5, 0, none⟩)), (11, .int .i64 e0_11), (12, .pointer (some ⟨b10_13, 0, none⟩)), (13, .bool y10_9.2.1), (14, .pointer (some ⟨b11_5, 0, none⟩)), (15, .bool y11_1.2), (16, .pointer (some ⟨b12_3, 0, none⟩))] ⟨by kernel_rfl, by kernel_rfl, by kernel_rfl, by kernel_rfl, by kernel_rfl, by kernel_rfl, by kernel_rfl, by kernel_rfl, by kernel_rfl, by kernel_rfl, by kernel_rfl, trivial⟩ ?_
          refine at_then_normal ?_
          refine at_ret (by kernel_rfl) ?_
          obtain rfl := someE H
          refine at_backR [.bool false] (Γ) (rs := [.tmp 6]) (by kernel_rfl) (.cons (.tmp (by kernel_rfl)) .nil) (fun w hw => (Sat.less (.drop .here (.drop .here (.drop .here (.drop .here (.drop .here (.drop .here (.drop .here (.drop .here (.drop .here (.drop .here (.drop .here (.drop .here .refl)))))))))))) hw)) ?_
          exact ⟨rfl, rfl⟩
      · replace H := bifF H h2
        refine s_pure 62 (.bool false) (by kernel_rfl) (by kernel_rfl) (run_eq (v := .bool (y11_1.2)) (fun _ => by kernel_rfl) (congrArg Value.bool h2)) ?_
        refine s_pass 63 (by kernel_rfl) (by kernel_rfl) ?_
        refine s_pass 64 (by kernel_rfl) (by kernel_rfl) ?_
        refine s_pure 65 (.bool false) (by kernel_rfl) (by kernel_rfl) (fun _ => by kernel_rfl) ?_
        refine s_pure 66 (.bool false) (by kernel_rfl) (by kernel_rfl) (fun _ => by kernel_rfl) ?_
        refine s_pass 67 (by kernel_rfl) (by kernel_rfl) ?_
        refine s_pass 68 (by kernel_rfl) (by kernel_rfl) ?_
        refine s_pass 69 (by kernel_rfl) (by kernel_rfl) ?_
        refine s_pass 70 (by kernel_rfl) (by kernel_rfl) ?_
        refine s_pure 71 (.bool false) (by kernel_rfl) (by kernel_rfl) (fun _ => by kernel_rfl) ?_
        refine s_pure 72 (.bool false) (by kernel_rfl) (by kernel_rfl) (fun _ => by kernel_rfl) ?_
        refine s_pass 73 (by kernel_rfl) (by kernel_rfl) ?_
        refine s_pass 74 (by kernel_rfl) (by kernel_rfl) ?_
        refine s_pass 75 (by kernel_rfl) (by kernel_rfl) ?_
        refine s_pass 76 (by kernel_rfl) (by kernel_rfl) ?_
        refine s_pass 77 (by kernel_rfl) (by kernel_rfl) ?_
        refine s_pure 78 (.bool false) (by kernel_rfl) (by kernel_rfl) (fun _ => by kernel_rfl) ?_
        refine s_pure 79 (.bool false) (by kernel_rfl) (by kernel_rfl) (fun _ => by kernel_rfl) ?_
        refine s_pass 80 (by kernel_rfl) (by kernel_rfl) ?_
        refine s_pass 81 (by kernel_rfl) (by kernel_rfl) ?_
        refine s_pass 82 (by kernel_rfl) (by kernel_rfl) ?_
        refine s_pure 83 (.bool false) (by kernel_rfl) (by kernel_rfl) (fun _ => by kernel_rfl) ?_
        refine s_pure 84 (.bool false) (by kernel_rfl) (by kernel_rfl) (fun _ => by kernel_rfl) ?_
        refine s_pass 85 (by kernel_rfl) (by kernel_rfl) ?_
        refine s_pass 86 (by kernel_rfl) (by kernel_rfl) ?_
        refine s_pass 87 (by kernel_rfl) (by kernel_rfl) ?_
        refine s_pure 88 (.bool false) (by kernel_rfl) (by kernel_rfl) (fun _ => by kernel_rfl) ?_
        refine s_pure 89 (.bool false) (by kernel_rfl) (by kernel_rfl) (fun _ => by kernel_rfl) ?_
        refine s_pass 90 (by kernel_rfl) (by kernel_rfl) ?_
        refine s_pass 91 (by kernel_rfl) (by kernel_rfl) ?_
        refine s_pass 92 (by kernel_rfl) (by kernel_rfl) ?_
        refine s_pass 93 (by kernel_rfl) (by kernel_rfl) ?_
        refine s_pure 94 (.bool false) (by kernel_rfl) (by kernel_rfl) (fun _ => by kernel_rfl) ?_
        refine s_pure 95 (.bool false) (by kernel_rfl) (by kernel_rfl) (fun _ => by kernel_rfl) ?_
        refine s_pass 96 (by kernel_rfl) (by kernel_rfl) ?_
        refine s_pass 97 (by kernel_rfl) (by kernel_rfl) ?_
        refine s_pass 98 (by kernel_rfl) (by kernel_rfl) ?_
        refine s_pure 99 (.bool false) (by kernel_rfl) (by kernel_rfl) (fun _ => by kernel_rfl) ?_
        refine s_pure 100 (.bool false) (by kernel_rfl) (by kernel_rfl) (fun _ => by kernel_rfl) ?_
        refine s_pass 101 (by kernel_rfl) (by kernel_rfl) ?_
        refine s_pure 102 (.bool false) (by kernel_rfl) (by kernel_rfl) (fun _ => by kernel_rfl) ?_
        refine s_pure 6 (.bool false) (by kernel_rfl) (by kernel_rfl) (fun _ => by kernel_rfl) ?_
        refine ops_end ?_
        refine At.env [(0, .int .i64 v), (1, .int .i64 y1_1), (6, .bool false), (7, .pointer (some ⟨b2_0_0, 0, none⟩)), (9, .pointer (some ⟨b6_5, 0, none⟩)), (11, .int .i64 e0_11), (12, .pointer (some ⟨b10_13, 0, none⟩)), (13, .bool y10_9.2.1), (14, .pointer (some ⟨b11_5, 0, none⟩)), (15, .bool y11_1.2), (16, .pointer (some ⟨b12_3, 0, none⟩))] ⟨by kernel_rfl, by kernel_rfl, by kernel_rfl, by kernel_rfl, by kernel_rfl, by kernel_rfl, by kernel_rfl, by kernel_rfl, by kernel_rfl, by kernel_rfl, by kernel_rfl, trivial⟩ ?_
        refine at_then_normal ?_
        refine at_ret (by kernel_rfl) ?_
        obtain rfl := someE H
        refine at_backR [.bool false] (Γ) (rs := [.tmp 6]) (by kernel_rfl) (.cons (.tmp (by kernel_rfl)) .nil) (fun w hw => (Sat.less (.drop .here (.drop .here (.drop .here (.drop .here (.drop .here (.drop .here (.drop .here (.drop .here (.drop .here (.drop .here (.drop .here (.drop .here .refl)))))))))))) hw)) ?_
        exact ⟨rfl, rfl⟩
    · replace H := bifF H h1
      refine s_pure 59 (.bool false) (by kernel_rfl) (by kernel_rfl) (run_eq (v := .bool (y10_9.2.1)) (fun _ => by kernel_rfl) (congrArg Value.bool h1)) ?_
      refine s_pass 60 (by kernel_rfl) (by kernel_rfl) ?_
      refine s_pure 61 (.bool false) (by kernel_rfl) (by kernel_rfl) (fun _ => by kernel_rfl) ?_
      refine s_pure 62 (.bool false) (by kernel_rfl) (by kernel_rfl) (fun _ => by kernel_rfl) ?_
      refine s_pass 63 (by kernel_rfl) (by kernel_rfl) ?_
      refine s_pass 64 (by kernel_rfl) (by kernel_rfl) ?_
      refine s_pure 65 (.bool false) (by kernel_rfl) (by kernel_rfl) (fun _ => by kernel_rfl) ?_
      refine s_pure 66 (.bool false) (by kernel_rfl) (by kernel_rfl) (fun _ => by kernel_rfl) ?_
      refine s_pass 67 (by kernel_rfl) (by kernel_rfl) ?_
      refine s_pass 68 (by kernel_rfl) (by kernel_rfl) ?_
      refine s_pass 69 (by kernel_rfl) (by kernel_rfl) ?_
      refine s_pass 70 (by kernel_rfl) (by kernel_rfl) ?_
      refine s_pure 71 (.bool false) (by kernel_rfl) (by kernel_rfl) (fun _ => by kernel_rfl) ?_
      refine s_pure 72 (.bool false) (by kernel_rfl) (by kernel_rfl) (fun _ => by kernel_rfl) ?_
      refine s_pass 73 (by kernel_rfl) (by kernel_rfl) ?_
      refine s_pass 74 (by kernel_rfl) (by kernel_rfl) ?_
      refine s_pass 75 (by kernel_rfl) (by kernel_rfl) ?_
      refine s_pass 76 (by kernel_rfl) (by kernel_rfl) ?_
      refine s_pass 77 (by kernel_rfl) (by kernel_rfl) ?_
      refine s_pure 78 (.bool false) (by kernel_rfl) (by kernel_rfl) (fun _ => by kernel_rfl) ?_
      refine s_pure 79 (.bool false) (by kernel_rfl) (by kernel_rfl) (fun _ => by kernel_rfl) ?_
      refine s_pass 80 (by kernel_rfl) (by kernel_rfl) ?_
      refine s_pass 81 (by kernel_rfl) (by kernel_rfl) ?_
      refine s_pass 82 (by kernel_rfl) (by kernel_rfl) ?_
      refine s_pure 83 (.bool false) (by kernel_rfl) (by kernel_rfl) (fun _ => by kernel_rfl) ?_
      refine s_pure 84 (.bool false) (by kernel_rfl) (by kernel_rfl) (fun _ => by kernel_rfl) ?_
      refine s_pass 85 (by kernel_rfl) (by kernel_rfl) ?_
      refine s_pass 86 (by kernel_rfl) (by kernel_rfl) ?_
      refine s_pass 87 (by kernel_rfl) (by kernel_rfl) ?_
      refine s_pure 88 (.bool false) (by kernel_rfl) (by kernel_rfl) (fun _ => by kernel_rfl) ?_
      refine s_pure 89 (.bool false) (by kernel_rfl) (by kernel_rfl) (fun _ => by kernel_rfl) ?_
      refine s_pass 90 (by kernel_rfl) (by kernel_rfl) ?_
      refine s_pass 91 (by kernel_rfl) (by kernel_rfl) ?_
      refine s_pass 92 (by kernel_rfl) (by kernel_rfl) ?_
      refine s_pass 93 (by kernel_rfl) (by kernel_rfl) ?_
      refine s_pure 94 (.bool false) (by kernel_rfl) (by kernel_rfl) (fun _ => by kernel_rfl) ?_
      refine s_pure 95 (.bool false) (by kernel_rfl) (by kernel_rfl) (fun _ => by kernel_rfl) ?_
      refine s_pass 96 (by kernel_rfl) (by kernel_rfl) ?_
      refine s_pass 97 (by kernel_rfl) (by kernel_rfl) ?_
      refine s_pass 98 (by kernel_rfl) (by kernel_rfl) ?_
      refine s_pure 99 (.bool false) (by kernel_rfl) (by kernel_rfl) (fun _ => by kernel_rfl) ?_
      refine s_pure 100 (.bool false) (by kernel_rfl) (by kernel_rfl) (fun _ => by kernel_rfl) ?_
      refine s_pass 101 (by kernel_rfl) (by kernel_rfl) ?_
      refine s_pure 102 (.bool false) (by kernel_rfl) (by kernel_rfl) (fun _ => by kernel_rfl) ?_
      refine s_pure 6 (.bool false) (by kernel_rfl) (by kernel_rfl) (fun _ => by kernel_rfl) ?_
      refine ops_end ?_
      refine At.env [(0, .int .i64 v), (1, .int .i64 y1_1), (6, .bool false), (7, .pointer (some ⟨b2_0_0, 0, none⟩)), (9, .pointer (some ⟨b6_5, 0, none⟩)), (11, .int .i64 e0_11), (12, .pointer (some ⟨b10_13, 0, none⟩)), (13, .bool y10_9.2.1), (14, .pointer (some ⟨b11_5, 0, none⟩)), (15, .bool y11_1.2), (16, .pointer (some ⟨b12_3, 0, none⟩))] ⟨by kernel_rfl, by kernel_rfl, by kernel_rfl, by kernel_rfl, by kernel_rfl, by kernel_rfl, by kernel_rfl, by kernel_rfl, by kernel_rfl, by kernel_rfl, by kernel_rfl, trivial⟩ ?_
      refine at_then_normal ?_
      refine at_ret (by kernel_rfl) ?_
      obtain rfl := someE H
      refine at_backR [.bool false] (Γ) (rs := [.tmp 6]) (by kernel_rfl) (.cons (.tmp (by kernel_rfl)) .nil) (fun w hw => (Sat.less (.drop .here (.drop .here (.drop .here (.drop .here (.drop .here (.drop .here (.drop .here (.drop .here (.drop .here (.drop .here (.drop .here (.drop .here .refl)))))))))))) hw)) ?_
      exact ⟨rfl, rfl⟩
  · refine at_seq (x := C6 [1, 1, 1, 1, 1, 1, 1, 0, 0]) (y := C6 [1, 1, 1, 1, 1, 1, 1, 0, 1]) (by kernel_rfl) ?_
    refine at_region (id := 8) 1 (by kernel_rfl) (by kernel_rfl) ?_
    refine s_pure 36 (.bool dirty) (by kernel_rfl) (by kernel_rfl) (fun _ => by kernel_rfl) ?_
    refine ops_end ?_
    refine At.env [(0, .int .i64 v), (1, .int .i64 y1_1), (2, .bool dirty), (6, .bool false), (7, .pointer (some ⟨b2_0_0, 0, none⟩)), (9, .pointer (some ⟨b6_5, 0, none⟩)), (11, .int .i64 (1)), (24, .bool false), (36, .bool dirty)] ⟨by kernel_rfl, by kernel_rfl, by kernel_rfl, by kernel_rfl, by kernel_rfl, by kernel_rfl, by kernel_rfl, by kernel_rfl, by kernel_rfl, trivial⟩ ?_
    refine at_then_normal ?_
    rcases Bool.eq_false_or_eq_true (dirty) with h10 | h10
    · replace H := bifT H h10
      refine at_true (t := dirty) (x := C6 [1, 1, 1, 1, 1, 1, 1, 0, 1, 0]) (y := C6 [1, 1, 1, 1, 1, 1, 1, 0, 1, 1]) (o := .tmp 36) (by kernel_rfl) (by kernel_rfl) (by kernel_rfl) h10 ?_
      refine at_region (id := 9) 1 (by kernel_rfl) (by kernel_rfl) ?_
      refine s_pure 11 (.int .i64 (2)) (by kernel_rfl) (by kernel_rfl) (fun _ => by kernel_rfl) ?_
      refine ops_end ?_
      refine At.env [(0, .int .i64 v), (1, .int .i64 y1_1), (2, .bool dirty), (6, .bool false), (7, .pointer (some ⟨b2_0_0, 0, none⟩)), (9, .pointer (some ⟨b6_5, 0, none⟩)), (11, .int .i64 (2)), (24, .bool false), (36, .bool dirty)] ⟨by kernel_rfl, by kernel_rfl, by kernel_rfl, by kernel_rfl, by kernel_rfl, by kernel_rfl, by kernel_rfl, by kernel_rfl, by kernel_rfl, trivial⟩ ?_
      refine at_round_normal ?_
      exact at_join_mk [(0, .int .i64 v), (1, .int .i64 y1_1), (6, .bool false), (7, .pointer (some ⟨b2_0_0, 0, none⟩)), (9, .pointer (some ⟨b6_5, 0, none⟩)), (11, .int .i64 2)] ((Asn.own b6_5 (.cells #[.int .i64 y6_1.1.fwd, .int .i64 y6_1.1.back, .int .i64 y6_1.1.line, .int .i64 y6_1.1.used, .bool y6_1.1.dirty, .slice a6_1_00 (List.length y6_1.1.data) c6_1_00] 32 (0, 0))) :: (IntsA a6_1_00 c6_1_00 y6_1.1.data) :: (CacheA b2_0_0 y5_5.2) :: (RCacheA b2_0_1 y2_0.2) :: Γ) ⟨by kernel_rfl, by kernel_rfl, by kernel_rfl, by kernel_rfl, by kernel_rfl, by kernel_rfl, trivial⟩ (fun w hw => (Sat.less (.take .here (.take .here (.take .here (.take (.there (.there .here)) (.drop .here (.drop .here .refl)))))) hw)) ⟨2, H, rfl, rfl⟩
    · replace H := bifF H h10
      refine at_false (t := dirty) (x := C6 [1, 1, 1, 1, 1, 1, 1, 0, 1, 0]) (y := C6 [1, 1, 1, 1, 1, 1, 1, 0, 1, 1]) (o := .tmp 36) (by kernel_rfl) (by kernel_rfl) (by kernel_rfl) h10 ?_
      refine at_skip (by kernel_rfl) ?_
      refine at_round_normal ?_
      exact at_join_mk [(0, .int .i64 v), (1, .int .i64 y1_1), (6, .bool false), (7, .pointer (some ⟨b2_0_0, 0, none⟩)), (9, .pointer (some ⟨b6_5, 0, none⟩)), (11, .int .i64 1)] ((Asn.own b6_5 (.cells #[.int .i64 y6_1.1.fwd, .int .i64 y6_1.1.back, .int .i64 y6_1.1.line, .int .i64 y6_1.1.used, .bool y6_1.1.dirty, .slice a6_1_00 (List.length y6_1.1.data) c6_1_00] 32 (0, 0))) :: (IntsA a6_1_00 c6_1_00 y6_1.1.data) :: (CacheA b2_0_0 y5_5.2) :: (RCacheA b2_0_1 y2_0.2) :: Γ) ⟨by kernel_rfl, by kernel_rfl, by kernel_rfl, by kernel_rfl, by kernel_rfl, by kernel_rfl, trivial⟩ (fun w hw => (Sat.less (.take .here (.take .here (.take .here (.take (.there (.there .here)) (.drop .here (.drop .here .refl)))))) hw)) ⟨1, H, rfl, rfl⟩
end Go.Proofs.Ytlnjnkbnppnbkaa
