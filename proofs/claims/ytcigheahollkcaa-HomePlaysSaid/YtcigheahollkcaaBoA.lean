/- Both caches; packets by small numbers. -/
import Derived.Test.YtcigheahollkcaaSmA
namespace Go.Proofs.Ytcigheahollkcaa
open Go Go.RowKit
set_option linter.unusedVariables false
set_option linter.unusedSimpArgs false
def plpacketS_j0 (how : Int) (p : PktS) (y1_6 : Int) (y1_9 : Int) (y1_12 : Int) (y1_15 : Int) (y1_18 : Int) (y1_22 : Int) (y1_27 : (List Int)) (y1_2 : Int) : Option (PktS) :=
 (withinS how (40 : Int)).bind fun y2_1 => (bif decide (y2_1 = (31 : Int)) then some (⟨p.kind, y1_6, y1_9, y1_12, y1_15, wr (y1_18 - (1 : Int)), y1_22, p.flag, y1_27⟩ : PktS) else (bif decide (y2_1 = (32 : Int)) then some (⟨wr ((1 : Int) + y1_2), p.src, y1_9, y1_12, y1_15, wr (y1_18 - (1 : Int)), y1_22, p.flag, y1_27⟩ : PktS) else (bif decide (y2_1 = (33 : Int)) then some (⟨wr ((1 : Int) + y1_2), y1_6, p.dst, y1_12, y1_15, wr (y1_18 - (1 : Int)), y1_22, p.flag, y1_27⟩ : PktS) else (bif decide (y2_1 = (34 : Int)) then some (⟨wr ((1 : Int) + y1_2), y1_6, y1_9, p.id, y1_15, wr (y1_18 - (1 : Int)), y1_22, p.flag, y1_27⟩ : PktS) else (bif decide (y2_1 = (35 : Int)) then some (⟨wr ((1 : Int) + y1_2), y1_6, y1_9, y1_12, p.line, wr (y1_18 - (1 : Int)), y1_22, p.flag, y1_27⟩ : PktS) else (bif decide (y2_1 = (36 : Int)) then some (⟨wr ((1 : Int) + y1_2), y1_6, y1_9, y1_12, y1_15, p.ptr, y1_22, p.flag, y1_27⟩ : PktS) else (bif decide (y2_1 = (37 : Int)) then some (⟨wr ((1 : Int) + y1_2), y1_6, y1_9, y1_12, y1_15, wr (y1_18 - (1 : Int)), p.state, p.flag, y1_27⟩ : PktS) else (bif decide (y2_1 = (38 : Int)) then (cutS p.data (6 : Int)).bind fun y18_2 => some (⟨wr ((1 : Int) + y1_2), y1_6, y1_9, y1_12, y1_15, wr (y1_18 - (1 : Int)), y1_22, p.flag, y18_2⟩ : PktS) else (bif decide (y2_1 = (39 : Int)) then (withinS p.id (4096 : Int)).bind fun y20_2 => some (⟨wr ((1 : Int) + y1_2), y1_6, y1_9, y20_2, y1_15, wr (y1_18 - (1 : Int)), y1_22, p.flag, y1_27⟩ : PktS) else some (⟨wr ((1 : Int) + y1_2), y1_6, y1_9, y1_12, y1_15, wr (y1_18 - (1 : Int)), y1_22, p.flag, y1_27⟩ : PktS))))))))))
def plpacketS (p : PktS) (how : Int) : Option (PktS) :=
 (withinS p.kind (9 : Int)).bind fun y1_2 => (withinS p.src (4 : Int)).bind fun y1_6 => (withinS p.dst (4 : Int)).bind fun y1_9 => (withinS p.id (5 : Int)).bind fun y1_12 => (withinS p.line (4 : Int)).bind fun y1_15 => (withinS p.ptr (5 : Int)).bind fun y1_18 => (withinS p.state (3 : Int)).bind fun y1_22 => (cutS p.data (4 : Int)).bind fun y1_27 => plpacketS_j0 how p y1_6 y1_9 y1_12 y1_15 y1_18 y1_22 y1_27 y1_2
noncomputable def C19 (p : List Nat) : Code := codeAt (bodyOf Try.f19) p
set_option maxRecDepth 100000 in
set_option maxHeartbeats 8000000 in
theorem PlPacketF_tr {W0 : World} {Γ : List Asn} (pa : Option Addr) (pcap : Nat) (p : PktS) (how : Int) (hrpa : Reads W0 Γ pa (ints p.data)) (hcpa : p.data.length ≤ pcap) (y : PktS) (H : plpacketS p how = some y) : Tr Try.prog 19 #[.agg #[.int .i64 p.kind, .int .i64 p.src, .int .i64 p.dst, .int .i64 p.id, .int .i64 p.line, .int .i64 p.ptr, .int .i64 p.state, .bool p.flag, .slice pa (List.length p.data) pcap], .int .i64 how] W0 (Γ) (fun r Δ => ∃ (a0_0 : Option Addr) (c0_0 : Nat), r = .agg #[.int .i64 y.kind, .int .i64 y.src, .int .i64 y.dst, .int .i64 y.id, .int .i64 y.line, .int .i64 y.ptr, .int .i64 y.state, .bool y.flag, .slice a0_0 (List.length y.data) c0_0] ∧ Δ = (IntsA a0_0 c0_0 y.data) :: Γ) := by
 unfold plpacketS at H
 refine Tr.enter (fn := Try.f19) (c := C19 []) (args := [.agg #[.int .i64 p.kind, .int .i64 p.src, .int .i64 p.dst, .int .i64 p.id, .int .i64 p.line, .int .i64 p.ptr, .int .i64 p.state, .bool p.flag, .slice pa (List.length p.data) pcap], .int .i64 how]) 85 Try.func19 kf kf ?_
 refine ae [(0, .agg #[.int .i64 p.kind, .int .i64 p.src, .int .i64 p.dst, .int .i64 p.id, .int .i64 p.line, .int .i64 p.ptr, .int .i64 p.state, .bool p.flag, .slice pa (List.length p.data) pcap]), (1, .int .i64 how)] ?_
 refine aq (x := C19 [0]) (y := C19 [1]) ?_
 refine ar (id := 0) 2 ?_
 refine s_step 2 kf kf (st_new (T := 32) (cells := #[.int .i64 p.kind, .int .i64 p.src, .int .i64 p.dst, .int .i64 p.id, .int .i64 p.line, .int .i64 p.ptr, .int .i64 p.state, .bool p.flag, .slice pa (List.length p.data) pcap]) (fun a => .pointer (some a)) (fun _ => kf)) ?_
 rintro _ _ ⟨b0_0, rfl, rfl⟩
 refine s_step 4 kf kf (st_new (T := 32) (cells := #[.int .i64 (0), .int .i64 (0), .int .i64 (0), .int .i64 (0), .int .i64 (0), .int .i64 (0), .int .i64 (0), .bool false, .slice none 0 0]) (fun a => .pointer (some a)) (fun _ => kf)) ?_
 rintro _ _ ⟨b0_1, rfl, rfl⟩
 refine ops_end ?_
 refine ae [(1, .int .i64 how), (2, .pointer (some ⟨b0_0, 0, none⟩)), (4, .pointer (some ⟨b0_1, 0, none⟩))] ?_
 refine at_then_normal ?_
 refine at_seq_join (x := C19 [1,0]) (y := C19 [1,1]) (fun ff ΔΔ => ∃ (b1_29 : Nat) (y1_2 : Int) (y1_6 : Int) (y1_9 : Int) (y1_12 : Int) (y1_15 : Int) (y1_18 : Int) (y1_22 : Int) (a1_27_00 : Option Addr) (y1_27 : (List Int)) (c1_27_00 : Nat), plpacketS_j0 how p y1_6 y1_9 y1_12 y1_15 y1_18 y1_22 y1_27 y1_2 = some y ∧ ff = [(1, .int .i64 how), (2, .pointer (some ⟨b0_0, 0, none⟩)), (4, .pointer (some ⟨b0_1, 0, none⟩)), (5, .pointer (some ⟨b1_29, 0, none⟩))] ∧ (Asn.own b1_29 (.cells #[.int .i64 (wr ((1 : Int) + y1_2)), .int .i64 y1_6, .int .i64 y1_9, .int .i64 y1_12, .int .i64 y1_15, .int .i64 (wr (y1_18 - (1 : Int))), .int .i64 y1_22, .bool p.flag, .slice a1_27_00 (List.length y1_27) c1_27_00] 32 (0, 0))) :: (IntsA a1_27_00 c1_27_00 y1_27) :: (Asn.own b0_1 (.cells #[.int .i64 (0), .int .i64 (0), .int .i64 (0), .int .i64 (0), .int .i64 (0), .int .i64 (0), .int .i64 (0), .bool false, .slice none 0 0] 32 (0, 0))) :: (Asn.own b0_0 (.cells #[.int .i64 p.kind, .int .i64 p.src, .int .i64 p.dst, .int .i64 p.id, .int .i64 p.line, .int .i64 p.ptr, .int .i64 p.state, .bool p.flag, .slice pa (List.length p.data) pcap] 32 (0, 0))) :: Γ = ΔΔ) kf ?_ ?_
 ·rintro _ _ ⟨b1_29, y1_2, y1_6, y1_9, y1_12, y1_15, y1_18, y1_22, a1_27_00, y1_27, c1_27_00, H, rfl, rfl⟩
  rw [plpacketS_j0] at H
  refine aq (x := C19 [1,1,0]) (y := C19 [1,1,1]) ?_
  refine aq (x := C19 [1,1,0,0]) (y := C19 [1,1,0,1]) ?_
  refine ar (id := 2) 2 ?_
  refine sp 35 (.int .i64 how) ?_
  obtain ⟨y2_1, hy2_1, H⟩ := bindE H
  refine s_quiet 36 (.int .i64 y2_1) 9 #[.int .i64 how, .int .i64 (40)] kf kf (fun _ => kf) (WithinF_tr how (40 : Int) y2_1 hy2_1) ?_
  refine ops_end ?_
  refine ae [(2, .pointer (some ⟨b0_0, 0, none⟩)), (4, .pointer (some ⟨b0_1, 0, none⟩)), (5, .pointer (some ⟨b1_29, 0, none⟩)), (36, .int .i64 y2_1)] ?_
  refine at_then_normal ?_
  refine at_block (i := 0) (x := C19 [1,1,0,1,0]) kf ?_
  refine aq (x := C19 [1,1,0,1,0,0]) (y := C19 [1,1,0,1,0,1]) ?_
  refine ar (id := 3) 2 ?_
  refine sp 38 (.bool (decide (y2_1 = (31 : Int)))) ?_
  refine sp 37 (.bool (decide (y2_1 = (31 : Int)))) ?_
  refine ops_end ?_
  refine ae [(2, .pointer (some ⟨b0_0, 0, none⟩)), (4, .pointer (some ⟨b0_1, 0, none⟩)), (5, .pointer (some ⟨b1_29, 0, none⟩)), (36, .int .i64 y2_1), (37, .bool (decide (y2_1 = (31 : Int))))] ?_
  refine at_then_normal ?_
  rcases Bool.eq_false_or_eq_true (decide (y2_1 = (31 : Int))) with h1 | h1
  ·replace H := bifT H h1
   refine at_true (t := decide (y2_1 = (31 : Int))) (x := C19 [1,1,0,1,0,1,0]) (y := C19 [1,1,0,1,0,1,1]) (o := .tmp 37) kf kf kf h1 ?_
   refine ar (id := 4) 4 ?_
   refine sp 39 (.pointer (some ⟨b0_0, 0, none⟩)) ?_
   refine sl 40 (.int .i64 p.kind) (load1 (off := 0) (fun _ => kf) (holds_own (.there (.there (.there .here)))) kf) ?_
   refine sp 41 (.pointer (some ⟨b1_29, 0, none⟩)) ?_
   refine s_do kf kf (st_store (off := 0) (vs := [.int .i64 p.kind]) (c' := #[.int .i64 p.kind, .int .i64 y1_6, .int .i64 y1_9, .int .i64 y1_12, .int .i64 y1_15, .int .i64 (wr (y1_18 - (1 : Int))), .int .i64 y1_22, .bool p.flag, .slice a1_27_00 (List.length y1_27) c1_27_00]) (fun _ => kf) .here kf kf kf) ?_
   rintro _ _ ⟨rfl, rfl⟩
   refine ops_end ?_
   refine ae [(4, .pointer (some ⟨b0_1, 0, none⟩)), (5, .pointer (some ⟨b1_29, 0, none⟩))] ?_
   refine at_in_normal ?_
   refine at_then_normal ?_
   refine aq (x := C19 [1,1,1,0]) (y := C19 [1,1,1,1]) ?_
   refine ar (id := 21) 2 ?_
   refine sl 84 (.agg #[.int .i64 p.kind, .int .i64 y1_6, .int .i64 y1_9, .int .i64 y1_12, .int .i64 y1_15, .int .i64 (wr (y1_18 - (1 : Int))), .int .i64 y1_22, .bool p.flag, .slice a1_27_00 (List.length y1_27) c1_27_00]) (loadN (off := 0) (vs := [.int .i64 p.kind, .int .i64 y1_6, .int .i64 y1_9, .int .i64 y1_12, .int .i64 y1_15, .int .i64 (wr (y1_18 - (1 : Int))), .int .i64 y1_22, .bool p.flag, .slice a1_27_00 (List.length y1_27) c1_27_00]) 9 (fun _ => kf) (holds_own .here) rfl (by exact ⟨rfl, rfl, rfl, rfl, rfl, rfl, rfl, rfl, rfl, trivial⟩)) ?_
   refine s_do kf kf (st_store (off := 0) (vs := [.int .i64 p.kind, .int .i64 y1_6, .int .i64 y1_9, .int .i64 y1_12, .int .i64 y1_15, .int .i64 (wr (y1_18 - (1 : Int))), .int .i64 y1_22, .bool p.flag, .slice a1_27_00 (List.length y1_27) c1_27_00]) (c' := #[.int .i64 p.kind, .int .i64 y1_6, .int .i64 y1_9, .int .i64 y1_12, .int .i64 y1_15, .int .i64 (wr (y1_18 - (1 : Int))), .int .i64 y1_22, .bool p.flag, .slice a1_27_00 (List.length y1_27) c1_27_00]) (fun _ => kf) (.there (.there .here)) kf kf kf) ?_
   rintro _ _ ⟨rfl, rfl⟩
   refine ops_end ?_
   refine ae [(4, .pointer (some ⟨b0_1, 0, none⟩))] ?_
   refine at_then_normal ?_
   refine at_ret kf ?_
   obtain rfl := someE H
   refine at_backR [.agg #[.int .i64 p.kind, .int .i64 y1_6, .int .i64 y1_9, .int .i64 y1_12, .int .i64 y1_15, .int .i64 (wr (y1_18 - (1 : Int))), .int .i64 y1_22, .bool p.flag, .slice a1_27_00 (List.length y1_27) c1_27_00]] ((IntsA a1_27_00 c1_27_00 y1_27) :: Γ) (rs := [.cell 4 32]) kf (.cons (.cell kf (retN (off := 0) (vs := [.int .i64 p.kind, .int .i64 y1_6, .int .i64 y1_9, .int .i64 y1_12, .int .i64 y1_15, .int .i64 (wr (y1_18 - (1 : Int))), .int .i64 y1_22, .bool p.flag, .slice a1_27_00 (List.length y1_27) c1_27_00]) 9 (fun _ => kf) (holds_own .here) rfl (by exact ⟨rfl, rfl, rfl, rfl, rfl, rfl, rfl, rfl, rfl, trivial⟩))) .nil) (fun w hw => (Sat.less (.take (.there (.there .here)) (.drop .here (.drop .here (.drop .here .refl)))) hw)) ?_
   exact ⟨a1_27_00, c1_27_00, rfl, rfl⟩
  ·replace H := bifF H h1
   refine at_false (t := decide (y2_1 = (31 : Int))) (x := C19 [1,1,0,1,0,1,0]) (y := C19 [1,1,0,1,0,1,1]) (o := .tmp 37) kf kf kf h1 ?_
   refine aq (x := C19 [1,1,0,1,0,1,1,0]) (y := C19 [1,1,0,1,0,1,1,1]) ?_
   refine ar (id := 5) 2 ?_
   refine sp 43 (.bool (decide (y2_1 = (32 : Int)))) ?_
   refine sp 42 (.bool (decide (y2_1 = (32 : Int)))) ?_
   refine ops_end ?_
   refine ae [(2, .pointer (some ⟨b0_0, 0, none⟩)), (4, .pointer (some ⟨b0_1, 0, none⟩)), (5, .pointer (some ⟨b1_29, 0, none⟩)), (36, .int .i64 y2_1), (42, .bool (decide (y2_1 = (32 : Int))))] ?_
   refine at_then_normal ?_
   rcases Bool.eq_false_or_eq_true (decide (y2_1 = (32 : Int))) with h2 | h2
   ·replace H := bifT H h2
    refine at_true (t := decide (y2_1 = (32 : Int))) (x := C19 [1,1,0,1,0,1,1,1,0]) (y := C19 [1,1,0,1,0,1,1,1,1]) (o := .tmp 42) kf kf kf h2 ?_
    refine ar (id := 6) 4 ?_
    refine sp 44 (.pointer (some ⟨b0_0, 1, none⟩)) ?_
    refine sl 45 (.int .i64 p.src) (load1 (off := 1) (fun _ => kf) (holds_own (.there (.there (.there .here)))) kf) ?_
    refine sp 46 (.pointer (some ⟨b1_29, 1, none⟩)) ?_
    refine s_do kf kf (st_store (off := 1) (vs := [.int .i64 p.src]) (c' := #[.int .i64 (wr ((1 : Int) + y1_2)), .int .i64 p.src, .int .i64 y1_9, .int .i64 y1_12, .int .i64 y1_15, .int .i64 (wr (y1_18 - (1 : Int))), .int .i64 y1_22, .bool p.flag, .slice a1_27_00 (List.length y1_27) c1_27_00]) (fun _ => kf) .here kf kf kf) ?_
    rintro _ _ ⟨rfl, rfl⟩
    refine ops_end ?_
    refine ae [(4, .pointer (some ⟨b0_1, 0, none⟩)), (5, .pointer (some ⟨b1_29, 0, none⟩))] ?_
    refine at_in_normal ?_
    refine at_then_normal ?_
    refine aq (x := C19 [1,1,1,0]) (y := C19 [1,1,1,1]) ?_
    refine ar (id := 21) 2 ?_
    refine sl 84 (.agg #[.int .i64 (wr ((1 : Int) + y1_2)), .int .i64 p.src, .int .i64 y1_9, .int .i64 y1_12, .int .i64 y1_15, .int .i64 (wr (y1_18 - (1 : Int))), .int .i64 y1_22, .bool p.flag, .slice a1_27_00 (List.length y1_27) c1_27_00]) (loadN (off := 0) (vs := [.int .i64 (wr ((1 : Int) + y1_2)), .int .i64 p.src, .int .i64 y1_9, .int .i64 y1_12, .int .i64 y1_15, .int .i64 (wr (y1_18 - (1 : Int))), .int .i64 y1_22, .bool p.flag, .slice a1_27_00 (List.length y1_27) c1_27_00]) 9 (fun _ => kf) (holds_own .here) rfl (by exact ⟨rfl, rfl, rfl, rfl, rfl, rfl, rfl, rfl, rfl, trivial⟩)) ?_
    refine s_do kf kf (st_store (off := 0) (vs := [.int .i64 (wr ((1 : Int) + y1_2)), .int .i64 p.src, .int .i64 y1_9, .int .i64 y1_12, .int .i64 y1_15, .int .i64 (wr (y1_18 - (1 : Int))), .int .i64 y1_22, .bool p.flag, .slice a1_27_00 (List.length y1_27) c1_27_00]) (c' := #[.int .i64 (wr ((1 : Int) + y1_2)), .int .i64 p.src, .int .i64 y1_9, .int .i64 y1_12, .int .i64 y1_15, .int .i64 (wr (y1_18 - (1 : Int))), .int .i64 y1_22, .bool p.flag, .slice a1_27_00 (List.length y1_27) c1_27_00]) (fun _ => kf) (.there (.there .here)) kf kf kf) ?_
    rintro _ _ ⟨rfl, rfl⟩
    refine ops_end ?_
    refine ae [(4, .pointer (some ⟨b0_1, 0, none⟩))] ?_
    refine at_then_normal ?_
    refine at_ret kf ?_
    obtain rfl := someE H
    refine at_backR [.agg #[.int .i64 (wr ((1 : Int) + y1_2)), .int .i64 p.src, .int .i64 y1_9, .int .i64 y1_12, .int .i64 y1_15, .int .i64 (wr (y1_18 - (1 : Int))), .int .i64 y1_22, .bool p.flag, .slice a1_27_00 (List.length y1_27) c1_27_00]] ((IntsA a1_27_00 c1_27_00 y1_27) :: Γ) (rs := [.cell 4 32]) kf (.cons (.cell kf (retN (off := 0) (vs := [.int .i64 (wr ((1 : Int) + y1_2)), .int .i64 p.src, .int .i64 y1_9, .int .i64 y1_12, .int .i64 y1_15, .int .i64 (wr (y1_18 - (1 : Int))), .int .i64 y1_22, .bool p.flag, .slice a1_27_00 (List.length y1_27) c1_27_00]) 9 (fun _ => kf) (holds_own .here) rfl (by exact ⟨rfl, rfl, rfl, rfl, rfl, rfl, rfl, rfl, rfl, trivial⟩))) .nil) (fun w hw => (Sat.less (.take (.there (.there .here)) (.drop .here (.drop .here (.drop .here .refl)))) hw)) ?_
    exact ⟨a1_27_00, c1_27_00, rfl, rfl⟩
   ·replace H := bifF H h2
    refine at_false (t := decide (y2_1 = (32 : Int))) (x := C19 [1,1,0,1,0,1,1,1,0]) (y := C19 [1,1,0,1,0,1,1,1,1]) (o := .tmp 42) kf kf kf h2 ?_
    refine aq (x := C19 [1,1,0,1,0,1,1,1,1,0]) (y := C19 [1,1,0,1,0,1,1,1,1,1]) ?_
    refine ar (id := 7) 2 ?_
    refine sp 48 (.bool (decide (y2_1 = (33 : Int)))) ?_
    refine sp 47 (.bool (decide (y2_1 = (33 : Int)))) ?_
    refine ops_end ?_
    refine ae [(2, .pointer (some ⟨b0_0, 0, none⟩)), (4, .pointer (some ⟨b0_1, 0, none⟩)), (5, .pointer (some ⟨b1_29, 0, none⟩)), (36, .int .i64 y2_1), (47, .bool (decide (y2_1 = (33 : Int))))] ?_
    refine at_then_normal ?_
    rcases Bool.eq_false_or_eq_true (decide (y2_1 = (33 : Int))) with h3 | h3
    ·replace H := bifT H h3
     refine at_true (t := decide (y2_1 = (33 : Int))) (x := C19 [1,1,0,1,0,1,1,1,1,1,0]) (y := C19 [1,1,0,1,0,1,1,1,1,1,1]) (o := .tmp 47) kf kf kf h3 ?_
     refine ar (id := 8) 4 ?_
     refine sp 49 (.pointer (some ⟨b0_0, 2, none⟩)) ?_
     refine sl 50 (.int .i64 p.dst) (load1 (off := 2) (fun _ => kf) (holds_own (.there (.there (.there .here)))) kf) ?_
     refine sp 51 (.pointer (some ⟨b1_29, 2, none⟩)) ?_
     refine s_do kf kf (st_store (off := 2) (vs := [.int .i64 p.dst]) (c' := #[.int .i64 (wr ((1 : Int) + y1_2)), .int .i64 y1_6, .int .i64 p.dst, .int .i64 y1_12, .int .i64 y1_15, .int .i64 (wr (y1_18 - (1 : Int))), .int .i64 y1_22, .bool p.flag, .slice a1_27_00 (List.length y1_27) c1_27_00]) (fun _ => kf) .here kf kf kf) ?_
     rintro _ _ ⟨rfl, rfl⟩
     refine ops_end ?_
     refine ae [(4, .pointer (some ⟨b0_1, 0, none⟩)), (5, .pointer (some ⟨b1_29, 0, none⟩))] ?_
     refine at_in_normal ?_
     refine at_then_normal ?_
     refine aq (x := C19 [1,1,1,0]) (y := C19 [1,1,1,1]) ?_
     refine ar (id := 21) 2 ?_
     refine sl 84 (.agg #[.int .i64 (wr ((1 : Int) + y1_2)), .int .i64 y1_6, .int .i64 p.dst, .int .i64 y1_12, .int .i64 y1_15, .int .i64 (wr (y1_18 - (1 : Int))), .int .i64 y1_22, .bool p.flag, .slice a1_27_00 (List.length y1_27) c1_27_00]) (loadN (off := 0) (vs := [.int .i64 (wr ((1 : Int) + y1_2)), .int .i64 y1_6, .int .i64 p.dst, .int .i64 y1_12, .int .i64 y1_15, .int .i64 (wr (y1_18 - (1 : Int))), .int .i64 y1_22, .bool p.flag, .slice a1_27_00 (List.length y1_27) c1_27_00]) 9 (fun _ => kf) (holds_own .here) rfl (by exact ⟨rfl, rfl, rfl, rfl, rfl, rfl, rfl, rfl, rfl, trivial⟩)) ?_
     refine s_do kf kf (st_store (off := 0) (vs := [.int .i64 (wr ((1 : Int) + y1_2)), .int .i64 y1_6, .int .i64 p.dst, .int .i64 y1_12, .int .i64 y1_15, .int .i64 (wr (y1_18 - (1 : Int))), .int .i64 y1_22, .bool p.flag, .slice a1_27_00 (List.length y1_27) c1_27_00]) (c' := #[.int .i64 (wr ((1 : Int) + y1_2)), .int .i64 y1_6, .int .i64 p.dst, .int .i64 y1_12, .int .i64 y1_15, .int .i64 (wr (y1_18 - (1 : Int))), .int .i64 y1_22, .bool p.flag, .slice a1_27_00 (List.length y1_27) c1_27_00]) (fun _ => kf) (.there (.there .here)) kf kf kf) ?_
     rintro _ _ ⟨rfl, rfl⟩
     refine ops_end ?_
     refine ae [(4, .pointer (some ⟨b0_1, 0, none⟩))] ?_
     refine at_then_normal ?_
     refine at_ret kf ?_
     obtain rfl := someE H
     refine at_backR [.agg #[.int .i64 (wr ((1 : Int) + y1_2)), .int .i64 y1_6, .int .i64 p.dst, .int .i64 y1_12, .int .i64 y1_15, .int .i64 (wr (y1_18 - (1 : Int))), .int .i64 y1_22, .bool p.flag, .slice a1_27_00 (List.length y1_27) c1_27_00]] ((IntsA a1_27_00 c1_27_00 y1_27) :: Γ) (rs := [.cell 4 32]) kf (.cons (.cell kf (retN (off := 0) (vs := [.int .i64 (wr ((1 : Int) + y1_2)), .int .i64 y1_6, .int .i64 p.dst, .int .i64 y1_12, .int .i64 y1_15, .int .i64 (wr (y1_18 - (1 : Int))), .int .i64 y1_22, .bool p.flag, .slice a1_27_00 (List.length y1_27) c1_27_00]) 9 (fun _ => kf) (holds_own .here) rfl (by exact ⟨rfl, rfl, rfl, rfl, rfl, rfl, rfl, rfl, rfl, trivial⟩))) .nil) (fun w hw => (Sat.less (.take (.there (.there .here)) (.drop .here (.drop .here (.drop .here .refl)))) hw)) ?_
     exact ⟨a1_27_00, c1_27_00, rfl, rfl⟩
    ·replace H := bifF H h3
     refine at_false (t := decide (y2_1 = (33 : Int))) (x := C19 [1,1,0,1,0,1,1,1,1,1,0]) (y := C19 [1,1,0,1,0,1,1,1,1,1,1]) (o := .tmp 47) kf kf kf h3 ?_
     refine aq (x := C19 [1,1,0,1,0,1,1,1,1,1,1,0]) (y := C19 [1,1,0,1,0,1,1,1,1,1,1,1]) ?_
     refine ar (id := 9) 2 ?_
     refine sp 53 (.bool (decide (y2_1 = (34 : Int)))) ?_
     refine sp 52 (.bool (decide (y2_1 = (34 : Int)))) ?_
     refine ops_end ?_
     refine ae [(2, .pointer (some ⟨b0_0, 0, none⟩)), (4, .pointer (some ⟨b0_1, 0, none⟩)), (5, .pointer (some ⟨b1_29, 0, none⟩)), (36, .int .i64 y2_1), (52, .bool (decide (y2_1 = (34 : Int))))] ?_
     refine at_then_normal ?_
     rcases Bool.eq_false_or_eq_true (decide (y2_1 = (34 : Int))) with h4 | h4
     ·replace H := bifT H h4
      refine at_true (t := decide (y2_1 = (34 : Int))) (x := C19 [1,1,0,1,0,1,1,1,1,1,1,1,0]) (y := C19 [1,1,0,1,0,1,1,1,1,1,1,1,1]) (o := .tmp 52) kf kf kf h4 ?_
      refine ar (id := 10) 4 ?_
      refine sp 54 (.pointer (some ⟨b0_0, 3, none⟩)) ?_
      refine sl 55 (.int .i64 p.id) (load1 (off := 3) (fun _ => kf) (holds_own (.there (.there (.there .here)))) kf) ?_
      refine sp 56 (.pointer (some ⟨b1_29, 3, none⟩)) ?_
      refine s_do kf kf (st_store (off := 3) (vs := [.int .i64 p.id]) (c' := #[.int .i64 (wr ((1 : Int) + y1_2)), .int .i64 y1_6, .int .i64 y1_9, .int .i64 p.id, .int .i64 y1_15, .int .i64 (wr (y1_18 - (1 : Int))), .int .i64 y1_22, .bool p.flag, .slice a1_27_00 (List.length y1_27) c1_27_00]) (fun _ => kf) .here kf kf kf) ?_
      rintro _ _ ⟨rfl, rfl⟩
      refine ops_end ?_
      refine ae [(4, .pointer (some ⟨b0_1, 0, none⟩)), (5, .pointer (some ⟨b1_29, 0, none⟩))] ?_
      refine at_in_normal ?_
      refine at_then_normal ?_
      refine aq (x := C19 [1,1,1,0]) (y := C19 [1,1,1,1]) ?_
      refine ar (id := 21) 2 ?_
      refine sl 84 (.agg #[.int .i64 (wr ((1 : Int) + y1_2)), .int .i64 y1_6, .int .i64 y1_9, .int .i64 p.id, .int .i64 y1_15, .int .i64 (wr (y1_18 - (1 : Int))), .int .i64 y1_22, .bool p.flag, .slice a1_27_00 (List.length y1_27) c1_27_00]) (loadN (off := 0) (vs := [.int .i64 (wr ((1 : Int) + y1_2)), .int .i64 y1_6, .int .i64 y1_9, .int .i64 p.id, .int .i64 y1_15, .int .i64 (wr (y1_18 - (1 : Int))), .int .i64 y1_22, .bool p.flag, .slice a1_27_00 (List.length y1_27) c1_27_00]) 9 (fun _ => kf) (holds_own .here) rfl (by exact ⟨rfl, rfl, rfl, rfl, rfl, rfl, rfl, rfl, rfl, trivial⟩)) ?_
      refine s_do kf kf (st_store (off := 0) (vs := [.int .i64 (wr ((1 : Int) + y1_2)), .int .i64 y1_6, .int .i64 y1_9, .int .i64 p.id, .int .i64 y1_15, .int .i64 (wr (y1_18 - (1 : Int))), .int .i64 y1_22, .bool p.flag, .slice a1_27_00 (List.length y1_27) c1_27_00]) (c' := #[.int .i64 (wr ((1 : Int) + y1_2)), .int .i64 y1_6, .int .i64 y1_9, .int .i64 p.id, .int .i64 y1_15, .int .i64 (wr (y1_18 - (1 : Int))), .int .i64 y1_22, .bool p.flag, .slice a1_27_00 (List.length y1_27) c1_27_00]) (fun _ => kf) (.there (.there .here)) kf kf kf) ?_
      rintro _ _ ⟨rfl, rfl⟩
      refine ops_end ?_
      refine ae [(4, .pointer (some ⟨b0_1, 0, none⟩))] ?_
      refine at_then_normal ?_
      refine at_ret kf ?_
      obtain rfl := someE H
      refine at_backR [.agg #[.int .i64 (wr ((1 : Int) + y1_2)), .int .i64 y1_6, .int .i64 y1_9, .int .i64 p.id, .int .i64 y1_15, .int .i64 (wr (y1_18 - (1 : Int))), .int .i64 y1_22, .bool p.flag, .slice a1_27_00 (List.length y1_27) c1_27_00]] ((IntsA a1_27_00 c1_27_00 y1_27) :: Γ) (rs := [.cell 4 32]) kf (.cons (.cell kf (retN (off := 0) (vs := [.int .i64 (wr ((1 : Int) + y1_2)), .int .i64 y1_6, .int .i64 y1_9, .int .i64 p.id, .int .i64 y1_15, .int .i64 (wr (y1_18 - (1 : Int))), .int .i64 y1_22, .bool p.flag, .slice a1_27_00 (List.length y1_27) c1_27_00]) 9 (fun _ => kf) (holds_own .here) rfl (by exact ⟨rfl, rfl, rfl, rfl, rfl, rfl, rfl, rfl, rfl, trivial⟩))) .nil) (fun w hw => (Sat.less (.take (.there (.there .here)) (.drop .here (.drop .here (.drop .here .refl)))) hw)) ?_
      exact ⟨a1_27_00, c1_27_00, rfl, rfl⟩
     ·replace H := bifF H h4
      refine at_false (t := decide (y2_1 = (34 : Int))) (x := C19 [1,1,0,1,0,1,1,1,1,1,1,1,0]) (y := C19 [1,1,0,1,0,1,1,1,1,1,1,1,1]) (o := .tmp 52) kf kf kf h4 ?_
      refine aq (x := C19 [1,1,0,1,0,1,1,1,1,1,1,1,1,0]) (y := C19 [1,1,0,1,0,1,1,1,1,1,1,1,1,1]) ?_
      refine ar (id := 11) 2 ?_
      refine sp 58 (.bool (decide (y2_1 = (35 : Int)))) ?_
      refine sp 57 (.bool (decide (y2_1 = (35 : Int)))) ?_
      refine ops_end ?_
      refine ae [(2, .pointer (some ⟨b0_0, 0, none⟩)), (4, .pointer (some ⟨b0_1, 0, none⟩)), (5, .pointer (some ⟨b1_29, 0, none⟩)), (36, .int .i64 y2_1), (57, .bool (decide (y2_1 = (35 : Int))))] ?_
      refine at_then_normal ?_
      rcases Bool.eq_false_or_eq_true (decide (y2_1 = (35 : Int))) with h5 | h5
      ·replace H := bifT H h5
       refine at_true (t := decide (y2_1 = (35 : Int))) (x := C19 [1,1,0,1,0,1,1,1,1,1,1,1,1,1,0]) (y := C19 [1,1,0,1,0,1,1,1,1,1,1,1,1,1,1]) (o := .tmp 57) kf kf kf h5 ?_
       refine ar (id := 12) 4 ?_
       refine sp 59 (.pointer (some ⟨b0_0, 4, none⟩)) ?_
       refine sl 60 (.int .i64 p.line) (load1 (off := 4) (fun _ => kf) (holds_own (.there (.there (.there .here)))) kf) ?_
       refine sp 61 (.pointer (some ⟨b1_29, 4, none⟩)) ?_
       refine s_do kf kf (st_store (off := 4) (vs := [.int .i64 p.line]) (c' := #[.int .i64 (wr ((1 : Int) + y1_2)), .int .i64 y1_6, .int .i64 y1_9, .int .i64 y1_12, .int .i64 p.line, .int .i64 (wr (y1_18 - (1 : Int))), .int .i64 y1_22, .bool p.flag, .slice a1_27_00 (List.length y1_27) c1_27_00]) (fun _ => kf) .here kf kf kf) ?_
       rintro _ _ ⟨rfl, rfl⟩
       refine ops_end ?_
       refine ae [(4, .pointer (some ⟨b0_1, 0, none⟩)), (5, .pointer (some ⟨b1_29, 0, none⟩))] ?_
       refine at_in_normal ?_
       refine at_then_normal ?_
       refine aq (x := C19 [1,1,1,0]) (y := C19 [1,1,1,1]) ?_
       refine ar (id := 21) 2 ?_
       refine sl 84 (.agg #[.int .i64 (wr ((1 : Int) + y1_2)), .int .i64 y1_6, .int .i64 y1_9, .int .i64 y1_12, .int .i64 p.line, .int .i64 (wr (y1_18 - (1 : Int))), .int .i64 y1_22, .bool p.flag, .slice a1_27_00 (List.length y1_27) c1_27_00]) (loadN (off := 0) (vs := [.int .i64 (wr ((1 : Int) + y1_2)), .int .i64 y1_6, .int .i64 y1_9, .int .i64 y1_12, .int .i64 p.line, .int .i64 (wr (y1_18 - (1 : Int))), .int .i64 y1_22, .bool p.flag, .slice a1_27_00 (List.length y1_27) c1_27_00]) 9 (fun _ => kf) (holds_own .here) rfl (by exact ⟨rfl, rfl, rfl, rfl, rfl, rfl, rfl, rfl, rfl, trivial⟩)) ?_
       refine s_do kf kf (st_store (off := 0) (vs := [.int .i64 (wr ((1 : Int) + y1_2)), .int .i64 y1_6, .int .i64 y1_9, .int .i64 y1_12, .int .i64 p.line, .int .i64 (wr (y1_18 - (1 : Int))), .int .i64 y1_22, .bool p.flag, .slice a1_27_00 (List.length y1_27) c1_27_00]) (c' := #[.int .i64 (wr ((1 : Int) + y1_2)), .int .i64 y1_6, .int .i64 y1_9, .int .i64 y1_12, .int .i64 p.line, .int .i64 (wr (y1_18 - (1 : Int))), .int .i64 y1_22, .bool p.flag, .slice a1_27_00 (List.length y1_27) c1_27_00]) (fun _ => kf) (.there (.there .here)) kf kf kf) ?_
       rintro _ _ ⟨rfl, rfl⟩
       refine ops_end ?_
       refine ae [(4, .pointer (some ⟨b0_1, 0, none⟩))] ?_
       refine at_then_normal ?_
       refine at_ret kf ?_
       obtain rfl := someE H
       refine at_backR [.agg #[.int .i64 (wr ((1 : Int) + y1_2)), .int .i64 y1_6, .int .i64 y1_9, .int .i64 y1_12, .int .i64 p.line, .int .i64 (wr (y1_18 - (1 : Int))), .int .i64 y1_22, .bool p.flag, .slice a1_27_00 (List.length y1_27) c1_27_00]] ((IntsA a1_27_00 c1_27_00 y1_27) :: Γ) (rs := [.cell 4 32]) kf (.cons (.cell kf (retN (off := 0) (vs := [.int .i64 (wr ((1 : Int) + y1_2)), .int .i64 y1_6, .int .i64 y1_9, .int .i64 y1_12, .int .i64 p.line, .int .i64 (wr (y1_18 - (1 : Int))), .int .i64 y1_22, .bool p.flag, .slice a1_27_00 (List.length y1_27) c1_27_00]) 9 (fun _ => kf) (holds_own .here) rfl (by exact ⟨rfl, rfl, rfl, rfl, rfl, rfl, rfl, rfl, rfl, trivial⟩))) .nil) (fun w hw => (Sat.less (.take (.there (.there .here)) (.drop .here (.drop .here (.drop .here .refl)))) hw)) ?_
       exact ⟨a1_27_00, c1_27_00, rfl, rfl⟩
      ·replace H := bifF H h5
       refine at_false (t := decide (y2_1 = (35 : Int))) (x := C19 [1,1,0,1,0,1,1,1,1,1,1,1,1,1,0]) (y := C19 [1,1,0,1,0,1,1,1,1,1,1,1,1,1,1]) (o := .tmp 57) kf kf kf h5 ?_
       refine aq (x := C19 [1,1,0,1,0,1,1,1,1,1,1,1,1,1,1,0]) (y := C19 [1,1,0,1,0,1,1,1,1,1,1,1,1,1,1,1]) ?_
       refine ar (id := 13) 2 ?_
       refine sp 63 (.bool (decide (y2_1 = (36 : Int)))) ?_
       refine sp 62 (.bool (decide (y2_1 = (36 : Int)))) ?_
       refine ops_end ?_
       refine ae [(2, .pointer (some ⟨b0_0, 0, none⟩)), (4, .pointer (some ⟨b0_1, 0, none⟩)), (5, .pointer (some ⟨b1_29, 0, none⟩)), (36, .int .i64 y2_1), (62, .bool (decide (y2_1 = (36 : Int))))] ?_
       refine at_then_normal ?_
       rcases Bool.eq_false_or_eq_true (decide (y2_1 = (36 : Int))) with h6 | h6
       ·replace H := bifT H h6
        refine at_true (t := decide (y2_1 = (36 : Int))) (x := C19 [1,1,0,1,0,1,1,1,1,1,1,1,1,1,1,1,0]) (y := C19 [1,1,0,1,0,1,1,1,1,1,1,1,1,1,1,1,1]) (o := .tmp 62) kf kf kf h6 ?_
        refine ar (id := 14) 4 ?_
        refine sp 64 (.pointer (some ⟨b0_0, 5, none⟩)) ?_
        refine sl 65 (.int .i64 p.ptr) (load1 (off := 5) (fun _ => kf) (holds_own (.there (.there (.there .here)))) kf) ?_
        refine sp 66 (.pointer (some ⟨b1_29, 5, none⟩)) ?_
        refine s_do kf kf (st_store (off := 5) (vs := [.int .i64 p.ptr]) (c' := #[.int .i64 (wr ((1 : Int) + y1_2)), .int .i64 y1_6, .int .i64 y1_9, .int .i64 y1_12, .int .i64 y1_15, .int .i64 p.ptr, .int .i64 y1_22, .bool p.flag, .slice a1_27_00 (List.length y1_27) c1_27_00]) (fun _ => kf) .here kf kf kf) ?_
        rintro _ _ ⟨rfl, rfl⟩
        refine ops_end ?_
        refine ae [(4, .pointer (some ⟨b0_1, 0, none⟩)), (5, .pointer (some ⟨b1_29, 0, none⟩))] ?_
        refine at_in_normal ?_
        refine at_then_normal ?_
        refine aq (x := C19 [1,1,1,0]) (y := C19 [1,1,1,1]) ?_
        refine ar (id := 21) 2 ?_
        refine sl 84 (.agg #[.int .i64 (wr ((1 : Int) + y1_2)), .int .i64 y1_6, .int .i64 y1_9, .int .i64 y1_12, .int .i64 y1_15, .int .i64 p.ptr, .int .i64 y1_22, .bool p.flag, .slice a1_27_00 (List.length y1_27) c1_27_00]) (loadN (off := 0) (vs := [.int .i64 (wr ((1 : Int) + y1_2)), .int .i64 y1_6, .int .i64 y1_9, .int .i64 y1_12, .int .i64 y1_15, .int .i64 p.ptr, .int .i64 y1_22, .bool p.flag, .slice a1_27_00 (List.length y1_27) c1_27_00]) 9 (fun _ => kf) (holds_own .here) rfl (by exact ⟨rfl, rfl, rfl, rfl, rfl, rfl, rfl, rfl, rfl, trivial⟩)) ?_
        refine s_do kf kf (st_store (off := 0) (vs := [.int .i64 (wr ((1 : Int) + y1_2)), .int .i64 y1_6, .int .i64 y1_9, .int .i64 y1_12, .int .i64 y1_15, .int .i64 p.ptr, .int .i64 y1_22, .bool p.flag, .slice a1_27_00 (List.length y1_27) c1_27_00]) (c' := #[.int .i64 (wr ((1 : Int) + y1_2)), .int .i64 y1_6, .int .i64 y1_9, .int .i64 y1_12, .int .i64 y1_15, .int .i64 p.ptr, .int .i64 y1_22, .bool p.flag, .slice a1_27_00 (List.length y1_27) c1_27_00]) (fun _ => kf) (.there (.there .here)) kf kf kf) ?_
        rintro _ _ ⟨rfl, rfl⟩
        refine ops_end ?_
        refine ae [(4, .pointer (some ⟨b0_1, 0, none⟩))] ?_
        refine at_then_normal ?_
        refine at_ret kf ?_
        obtain rfl := someE H
        refine at_backR [.agg #[.int .i64 (wr ((1 : Int) + y1_2)), .int .i64 y1_6, .int .i64 y1_9, .int .i64 y1_12, .int .i64 y1_15, .int .i64 p.ptr, .int .i64 y1_22, .bool p.flag, .slice a1_27_00 (List.length y1_27) c1_27_00]] ((IntsA a1_27_00 c1_27_00 y1_27) :: Γ) (rs := [.cell 4 32]) kf (.cons (.cell kf (retN (off := 0) (vs := [.int .i64 (wr ((1 : Int) + y1_2)), .int .i64 y1_6, .int .i64 y1_9, .int .i64 y1_12, .int .i64 y1_15, .int .i64 p.ptr, .int .i64 y1_22, .bool p.flag, .slice a1_27_00 (List.length y1_27) c1_27_00]) 9 (fun _ => kf) (holds_own .here) rfl (by exact ⟨rfl, rfl, rfl, rfl, rfl, rfl, rfl, rfl, rfl, trivial⟩))) .nil) (fun w hw => (Sat.less (.take (.there (.there .here)) (.drop .here (.drop .here (.drop .here .refl)))) hw)) ?_
        exact ⟨a1_27_00, c1_27_00, rfl, rfl⟩
       ·replace H := bifF H h6
        refine at_false (t := decide (y2_1 = (36 : Int))) (x := C19 [1,1,0,1,0,1,1,1,1,1,1,1,1,1,1,1,0]) (y := C19 [1,1,0,1,0,1,1,1,1,1,1,1,1,1,1,1,1]) (o := .tmp 62) kf kf kf h6 ?_
        refine aq (x := C19 [1,1,0,1,0,1,1,1,1,1,1,1,1,1,1,1,1,0]) (y := C19 [1,1,0,1,0,1,1,1,1,1,1,1,1,1,1,1,1,1]) ?_
        refine ar (id := 15) 2 ?_
        refine sp 68 (.bool (decide (y2_1 = (37 : Int)))) ?_
        refine sp 67 (.bool (decide (y2_1 = (37 : Int)))) ?_
        refine ops_end ?_
        refine ae [(2, .pointer (some ⟨b0_0, 0, none⟩)), (4, .pointer (some ⟨b0_1, 0, none⟩)), (5, .pointer (some ⟨b1_29, 0, none⟩)), (36, .int .i64 y2_1), (67, .bool (decide (y2_1 = (37 : Int))))] ?_
        refine at_then_normal ?_
        rcases Bool.eq_false_or_eq_true (decide (y2_1 = (37 : Int))) with h7 | h7
        ·replace H := bifT H h7
         refine at_true (t := decide (y2_1 = (37 : Int))) (x := C19 [1,1,0,1,0,1,1,1,1,1,1,1,1,1,1,1,1,1,0]) (y := C19 [1,1,0,1,0,1,1,1,1,1,1,1,1,1,1,1,1,1,1]) (o := .tmp 67) kf kf kf h7 ?_
         refine ar (id := 16) 4 ?_
         refine sp 69 (.pointer (some ⟨b0_0, 6, none⟩)) ?_
         refine sl 70 (.int .i64 p.state) (load1 (off := 6) (fun _ => kf) (holds_own (.there (.there (.there .here)))) kf) ?_
         refine sp 71 (.pointer (some ⟨b1_29, 6, none⟩)) ?_
         refine s_do kf kf (st_store (off := 6) (vs := [.int .i64 p.state]) (c' := #[.int .i64 (wr ((1 : Int) + y1_2)), .int .i64 y1_6, .int .i64 y1_9, .int .i64 y1_12, .int .i64 y1_15, .int .i64 (wr (y1_18 - (1 : Int))), .int .i64 p.state, .bool p.flag, .slice a1_27_00 (List.length y1_27) c1_27_00]) (fun _ => kf) .here kf kf kf) ?_
         rintro _ _ ⟨rfl, rfl⟩
         refine ops_end ?_
         refine ae [(4, .pointer (some ⟨b0_1, 0, none⟩)), (5, .pointer (some ⟨b1_29, 0, none⟩))] ?_
         refine at_in_normal ?_
         refine at_then_normal ?_
         refine aq (x := C19 [1,1,1,0]) (y := C19 [1,1,1,1]) ?_
         refine ar (id := 21) 2 ?_
         refine sl 84 (.agg #[.int .i64 (wr ((1 : Int) + y1_2)), .int .i64 y1_6, .int .i64 y1_9, .int .i64 y1_12, .int .i64 y1_15, .int .i64 (wr (y1_18 - (1 : Int))), .int .i64 p.state, .bool p.flag, .slice a1_27_00 (List.length y1_27) c1_27_00]) (loadN (off := 0) (vs := [.int .i64 (wr ((1 : Int) + y1_2)), .int .i64 y1_6, .int .i64 y1_9, .int .i64 y1_12, .int .i64 y1_15, .int .i64 (wr (y1_18 - (1 : Int))), .int .i64 p.state, .bool p.flag, .slice a1_27_00 (List.length y1_27) c1_27_00]) 9 (fun _ => kf) (holds_own .here) rfl (by exact ⟨rfl, rfl, rfl, rfl, rfl, rfl, rfl, rfl, rfl, trivial⟩)) ?_
         refine s_do kf kf (st_store (off := 0) (vs := [.int .i64 (wr ((1 : Int) + y1_2)), .int .i64 y1_6, .int .i64 y1_9, .int .i64 y1_12, .int .i64 y1_15, .int .i64 (wr (y1_18 - (1 : Int))), .int .i64 p.state, .bool p.flag, .slice a1_27_00 (List.length y1_27) c1_27_00]) (c' := #[.int .i64 (wr ((1 : Int) + y1_2)), .int .i64 y1_6, .int .i64 y1_9, .int .i64 y1_12, .int .i64 y1_15, .int .i64 (wr (y1_18 - (1 : Int))), .int .i64 p.state, .bool p.flag, .slice a1_27_00 (List.length y1_27) c1_27_00]) (fun _ => kf) (.there (.there .here)) kf kf kf) ?_
         rintro _ _ ⟨rfl, rfl⟩
         refine ops_end ?_
         refine ae [(4, .pointer (some ⟨b0_1, 0, none⟩))] ?_
         refine at_then_normal ?_
         refine at_ret kf ?_
         obtain rfl := someE H
         refine at_backR [.agg #[.int .i64 (wr ((1 : Int) + y1_2)), .int .i64 y1_6, .int .i64 y1_9, .int .i64 y1_12, .int .i64 y1_15, .int .i64 (wr (y1_18 - (1 : Int))), .int .i64 p.state, .bool p.flag, .slice a1_27_00 (List.length y1_27) c1_27_00]] ((IntsA a1_27_00 c1_27_00 y1_27) :: Γ) (rs := [.cell 4 32]) kf (.cons (.cell kf (retN (off := 0) (vs := [.int .i64 (wr ((1 : Int) + y1_2)), .int .i64 y1_6, .int .i64 y1_9, .int .i64 y1_12, .int .i64 y1_15, .int .i64 (wr (y1_18 - (1 : Int))), .int .i64 p.state, .bool p.flag, .slice a1_27_00 (List.length y1_27) c1_27_00]) 9 (fun _ => kf) (holds_own .here) rfl (by exact ⟨rfl, rfl, rfl, rfl, rfl, rfl, rfl, rfl, rfl, trivial⟩))) .nil) (fun w hw => (Sat.less (.take (.there (.there .here)) (.drop .here (.drop .here (.drop .here .refl)))) hw)) ?_
         exact ⟨a1_27_00, c1_27_00, rfl, rfl⟩
        ·replace H := bifF H h7
         refine at_false (t := decide (y2_1 = (37 : Int))) (x := C19 [1,1,0,1,0,1,1,1,1,1,1,1,1,1,1,1,1,1,0]) (y := C19 [1,1,0,1,0,1,1,1,1,1,1,1,1,1,1,1,1,1,1]) (o := .tmp 67) kf kf kf h7 ?_
         refine aq (x := C19 [1,1,0,1,0,1,1,1,1,1,1,1,1,1,1,1,1,1,1,0]) (y := C19 [1,1,0,1,0,1,1,1,1,1,1,1,1,1,1,1,1,1,1,1]) ?_
         refine ar (id := 17) 2 ?_
         refine sp 73 (.bool (decide (y2_1 = (38 : Int)))) ?_
         refine sp 72 (.bool (decide (y2_1 = (38 : Int)))) ?_
         refine ops_end ?_
         refine ae [(2, .pointer (some ⟨b0_0, 0, none⟩)), (4, .pointer (some ⟨b0_1, 0, none⟩)), (5, .pointer (some ⟨b1_29, 0, none⟩)), (36, .int .i64 y2_1), (72, .bool (decide (y2_1 = (38 : Int))))] ?_
         refine at_then_normal ?_
         rcases Bool.eq_false_or_eq_true (decide (y2_1 = (38 : Int))) with h8 | h8
         ·replace H := bifT H h8
          refine at_true (t := decide (y2_1 = (38 : Int))) (x := C19 [1,1,0,1,0,1,1,1,1,1,1,1,1,1,1,1,1,1,1,1,0]) (y := C19 [1,1,0,1,0,1,1,1,1,1,1,1,1,1,1,1,1,1,1,1,1]) (o := .tmp 72) kf kf kf h8 ?_
          refine ar (id := 18) 5 ?_
          refine sp 74 (.pointer (some ⟨b0_0, 8, none⟩)) ?_
          refine sl 75 (.slice pa (List.length p.data) pcap) (load1 (off := 8) (fun _ => kf) (holds_own (.there (.there (.there .here)))) kf) ?_
          obtain ⟨y18_2, hy18_2, H⟩ := bindE H
          refine s_call 76 21 #[.slice pa (List.length p.data) pcap, .int .i64 (6)] kf kf (fun _ => kf) (CutF_tr pa pcap p.data (6 : Int) (Reads.conv (fun w hw => hw.less (.drop .here (.drop .here (.drop .here (.drop .here .refl))))) hrpa) hcpa y18_2 hy18_2) ?_
          rintro _ _ ⟨a18_2_00, c18_2_00, rfl, rfl⟩
          refine sp 77 (.pointer (some ⟨b1_29, 8, none⟩)) ?_
          refine s_do kf kf (st_store (off := 8) (vs := [.slice a18_2_00 (List.length y18_2) c18_2_00]) (c' := #[.int .i64 (wr ((1 : Int) + y1_2)), .int .i64 y1_6, .int .i64 y1_9, .int .i64 y1_12, .int .i64 y1_15, .int .i64 (wr (y1_18 - (1 : Int))), .int .i64 y1_22, .bool p.flag, .slice a18_2_00 (List.length y18_2) c18_2_00]) (fun _ => kf) (.there .here) kf kf kf) ?_
          rintro _ _ ⟨rfl, rfl⟩
          refine ops_end ?_
          refine ae [(4, .pointer (some ⟨b0_1, 0, none⟩)), (5, .pointer (some ⟨b1_29, 0, none⟩))] ?_
          refine at_in_normal ?_
          refine at_then_normal ?_
          refine aq (x := C19 [1,1,1,0]) (y := C19 [1,1,1,1]) ?_
          refine ar (id := 21) 2 ?_
          refine sl 84 (.agg #[.int .i64 (wr ((1 : Int) + y1_2)), .int .i64 y1_6, .int .i64 y1_9, .int .i64 y1_12, .int .i64 y1_15, .int .i64 (wr (y1_18 - (1 : Int))), .int .i64 y1_22, .bool p.flag, .slice a18_2_00 (List.length y18_2) c18_2_00]) (loadN (off := 0) (vs := [.int .i64 (wr ((1 : Int) + y1_2)), .int .i64 y1_6, .int .i64 y1_9, .int .i64 y1_12, .int .i64 y1_15, .int .i64 (wr (y1_18 - (1 : Int))), .int .i64 y1_22, .bool p.flag, .slice a18_2_00 (List.length y18_2) c18_2_00]) 9 (fun _ => kf) (holds_own .here) rfl (by exact ⟨rfl, rfl, rfl, rfl, rfl, rfl, rfl, rfl, rfl, trivial⟩)) ?_
          refine s_do kf kf (st_store (off := 0) (vs := [.int .i64 (wr ((1 : Int) + y1_2)), .int .i64 y1_6, .int .i64 y1_9, .int .i64 y1_12, .int .i64 y1_15, .int .i64 (wr (y1_18 - (1 : Int))), .int .i64 y1_22, .bool p.flag, .slice a18_2_00 (List.length y18_2) c18_2_00]) (c' := #[.int .i64 (wr ((1 : Int) + y1_2)), .int .i64 y1_6, .int .i64 y1_9, .int .i64 y1_12, .int .i64 y1_15, .int .i64 (wr (y1_18 - (1 : Int))), .int .i64 y1_22, .bool p.flag, .slice a18_2_00 (List.length y18_2) c18_2_00]) (fun _ => kf) (.there (.there (.there .here))) kf kf kf) ?_
          rintro _ _ ⟨rfl, rfl⟩
          refine ops_end ?_
          refine ae [(4, .pointer (some ⟨b0_1, 0, none⟩))] ?_
          refine at_then_normal ?_
          refine at_ret kf ?_
          obtain rfl := someE H
          refine at_backR [.agg #[.int .i64 (wr ((1 : Int) + y1_2)), .int .i64 y1_6, .int .i64 y1_9, .int .i64 y1_12, .int .i64 y1_15, .int .i64 (wr (y1_18 - (1 : Int))), .int .i64 y1_22, .bool p.flag, .slice a18_2_00 (List.length y18_2) c18_2_00]] ((IntsA a18_2_00 c18_2_00 y18_2) :: Γ) (rs := [.cell 4 32]) kf (.cons (.cell kf (retN (off := 0) (vs := [.int .i64 (wr ((1 : Int) + y1_2)), .int .i64 y1_6, .int .i64 y1_9, .int .i64 y1_12, .int .i64 y1_15, .int .i64 (wr (y1_18 - (1 : Int))), .int .i64 y1_22, .bool p.flag, .slice a18_2_00 (List.length y18_2) c18_2_00]) 9 (fun _ => kf) (holds_own .here) rfl (by exact ⟨rfl, rfl, rfl, rfl, rfl, rfl, rfl, rfl, rfl, trivial⟩))) .nil) (fun w hw => (Sat.less (.take (.there (.there .here)) (.drop .here (.drop .here (.drop .here (.drop .here .refl))))) hw)) ?_
          exact ⟨a18_2_00, c18_2_00, rfl, rfl⟩
         ·replace H := bifF H h8
          refine at_false (t := decide (y2_1 = (38 : Int))) (x := C19 [1,1,0,1,0,1,1,1,1,1,1,1,1,1,1,1,1,1,1,1,0]) (y := C19 [1,1,0,1,0,1,1,1,1,1,1,1,1,1,1,1,1,1,1,1,1]) (o := .tmp 72) kf kf kf h8 ?_
          refine aq (x := C19 [1,1,0,1,0,1,1,1,1,1,1,1,1,1,1,1,1,1,1,1,1,0]) (y := C19 [1,1,0,1,0,1,1,1,1,1,1,1,1,1,1,1,1,1,1,1,1,1]) ?_
          refine ar (id := 19) 2 ?_
          refine sp 79 (.bool (decide (y2_1 = (39 : Int)))) ?_
          refine sp 78 (.bool (decide (y2_1 = (39 : Int)))) ?_
          refine ops_end ?_
          refine ae [(2, .pointer (some ⟨b0_0, 0, none⟩)), (4, .pointer (some ⟨b0_1, 0, none⟩)), (5, .pointer (some ⟨b1_29, 0, none⟩)), (78, .bool (decide (y2_1 = (39 : Int))))] ?_
          refine at_then_normal ?_
          rcases Bool.eq_false_or_eq_true (decide (y2_1 = (39 : Int))) with h9 | h9
          ·replace H := bifT H h9
           refine at_true (t := decide (y2_1 = (39 : Int))) (x := C19 [1,1,0,1,0,1,1,1,1,1,1,1,1,1,1,1,1,1,1,1,1,1,0]) (y := C19 [1,1,0,1,0,1,1,1,1,1,1,1,1,1,1,1,1,1,1,1,1,1,1]) (o := .tmp 78) kf kf kf h9 ?_
           refine ar (id := 20) 5 ?_
           refine sp 80 (.pointer (some ⟨b0_0, 3, none⟩)) ?_
           refine sl 81 (.int .i64 p.id) (load1 (off := 3) (fun _ => kf) (holds_own (.there (.there (.there .here)))) kf) ?_
           obtain ⟨y20_2, hy20_2, H⟩ := bindE H
           refine s_quiet 82 (.int .i64 y20_2) 9 #[.int .i64 p.id, .int .i64 (4096)] kf kf (fun _ => kf) (WithinF_tr p.id (4096 : Int) y20_2 hy20_2) ?_
           refine sp 83 (.pointer (some ⟨b1_29, 3, none⟩)) ?_
           refine s_do kf kf (st_store (off := 3) (vs := [.int .i64 y20_2]) (c' := #[.int .i64 (wr ((1 : Int) + y1_2)), .int .i64 y1_6, .int .i64 y1_9, .int .i64 y20_2, .int .i64 y1_15, .int .i64 (wr (y1_18 - (1 : Int))), .int .i64 y1_22, .bool p.flag, .slice a1_27_00 (List.length y1_27) c1_27_00]) (fun _ => kf) .here kf kf kf) ?_
           rintro _ _ ⟨rfl, rfl⟩
           refine ops_end ?_
           refine ae [(4, .pointer (some ⟨b0_1, 0, none⟩)), (5, .pointer (some ⟨b1_29, 0, none⟩))] ?_
           refine at_in_normal ?_
           refine at_then_normal ?_
           refine aq (x := C19 [1,1,1,0]) (y := C19 [1,1,1,1]) ?_
           refine ar (id := 21) 2 ?_
           refine sl 84 (.agg #[.int .i64 (wr ((1 : Int) + y1_2)), .int .i64 y1_6, .int .i64 y1_9, .int .i64 y20_2, .int .i64 y1_15, .int .i64 (wr (y1_18 - (1 : Int))), .int .i64 y1_22, .bool p.flag, .slice a1_27_00 (List.length y1_27) c1_27_00]) (loadN (off := 0) (vs := [.int .i64 (wr ((1 : Int) + y1_2)), .int .i64 y1_6, .int .i64 y1_9, .int .i64 y20_2, .int .i64 y1_15, .int .i64 (wr (y1_18 - (1 : Int))), .int .i64 y1_22, .bool p.flag, .slice a1_27_00 (List.length y1_27) c1_27_00]) 9 (fun _ => kf) (holds_own .here) rfl (by exact ⟨rfl, rfl, rfl, rfl, rfl, rfl, rfl, rfl, rfl, trivial⟩)) ?_
           refine s_do kf kf (st_store (off := 0) (vs := [.int .i64 (wr ((1 : Int) + y1_2)), .int .i64 y1_6, .int .i64 y1_9, .int .i64 y20_2, .int .i64 y1_15, .int .i64 (wr (y1_18 - (1 : Int))), .int .i64 y1_22, .bool p.flag, .slice a1_27_00 (List.length y1_27) c1_27_00]) (c' := #[.int .i64 (wr ((1 : Int) + y1_2)), .int .i64 y1_6, .int .i64 y1_9, .int .i64 y20_2, .int .i64 y1_15, .int .i64 (wr (y1_18 - (1 : Int))), .int .i64 y1_22, .bool p.flag, .slice a1_27_00 (List.length y1_27) c1_27_00]) (fun _ => kf) (.there (.there .here)) kf kf kf) ?_
           rintro _ _ ⟨rfl, rfl⟩
           refine ops_end ?_
           refine ae [(4, .pointer (some ⟨b0_1, 0, none⟩))] ?_
           refine at_then_normal ?_
           refine at_ret kf ?_
           obtain rfl := someE H
           refine at_backR [.agg #[.int .i64 (wr ((1 : Int) + y1_2)), .int .i64 y1_6, .int .i64 y1_9, .int .i64 y20_2, .int .i64 y1_15, .int .i64 (wr (y1_18 - (1 : Int))), .int .i64 y1_22, .bool p.flag, .slice a1_27_00 (List.length y1_27) c1_27_00]] ((IntsA a1_27_00 c1_27_00 y1_27) :: Γ) (rs := [.cell 4 32]) kf (.cons (.cell kf (retN (off := 0) (vs := [.int .i64 (wr ((1 : Int) + y1_2)), .int .i64 y1_6, .int .i64 y1_9, .int .i64 y20_2, .int .i64 y1_15, .int .i64 (wr (y1_18 - (1 : Int))), .int .i64 y1_22, .bool p.flag, .slice a1_27_00 (List.length y1_27) c1_27_00]) 9 (fun _ => kf) (holds_own .here) rfl (by exact ⟨rfl, rfl, rfl, rfl, rfl, rfl, rfl, rfl, rfl, trivial⟩))) .nil) (fun w hw => (Sat.less (.take (.there (.there .here)) (.drop .here (.drop .here (.drop .here .refl)))) hw)) ?_
           exact ⟨a1_27_00, c1_27_00, rfl, rfl⟩
          ·replace H := bifF H h9
           refine at_false (t := decide (y2_1 = (39 : Int))) (x := C19 [1,1,0,1,0,1,1,1,1,1,1,1,1,1,1,1,1,1,1,1,1,1,0]) (y := C19 [1,1,0,1,0,1,1,1,1,1,1,1,1,1,1,1,1,1,1,1,1,1,1]) (o := .tmp 78) kf kf kf h9 ?_
           refine at_skip kf ?_
           refine at_in_normal ?_
           refine at_then_normal ?_
           refine aq (x := C19 [1,1,1,0]) (y := C19 [1,1,1,1]) ?_
           refine ar (id := 21) 2 ?_
           refine sl 84 (.agg #[.int .i64 (wr ((1 : Int) + y1_2)), .int .i64 y1_6, .int .i64 y1_9, .int .i64 y1_12, .int .i64 y1_15, .int .i64 (wr (y1_18 - (1 : Int))), .int .i64 y1_22, .bool p.flag, .slice a1_27_00 (List.length y1_27) c1_27_00]) (loadN (off := 0) (vs := [.int .i64 (wr ((1 : Int) + y1_2)), .int .i64 y1_6, .int .i64 y1_9, .int .i64 y1_12, .int .i64 y1_15, .int .i64 (wr (y1_18 - (1 : Int))), .int .i64 y1_22, .bool p.flag, .slice a1_27_00 (List.length y1_27) c1_27_00]) 9 (fun _ => kf) (holds_own .here) rfl (by exact ⟨rfl, rfl, rfl, rfl, rfl, rfl, rfl, rfl, rfl, trivial⟩)) ?_
           refine s_do kf kf (st_store (off := 0) (vs := [.int .i64 (wr ((1 : Int) + y1_2)), .int .i64 y1_6, .int .i64 y1_9, .int .i64 y1_12, .int .i64 y1_15, .int .i64 (wr (y1_18 - (1 : Int))), .int .i64 y1_22, .bool p.flag, .slice a1_27_00 (List.length y1_27) c1_27_00]) (c' := #[.int .i64 (wr ((1 : Int) + y1_2)), .int .i64 y1_6, .int .i64 y1_9, .int .i64 y1_12, .int .i64 y1_15, .int .i64 (wr (y1_18 - (1 : Int))), .int .i64 y1_22, .bool p.flag, .slice a1_27_00 (List.length y1_27) c1_27_00]) (fun _ => kf) (.there (.there .here)) kf kf kf) ?_
           rintro _ _ ⟨rfl, rfl⟩
           refine ops_end ?_
           refine ae [(4, .pointer (some ⟨b0_1, 0, none⟩))] ?_
           refine at_then_normal ?_
           refine at_ret kf ?_
           obtain rfl := someE H
           refine at_backR [.agg #[.int .i64 (wr ((1 : Int) + y1_2)), .int .i64 y1_6, .int .i64 y1_9, .int .i64 y1_12, .int .i64 y1_15, .int .i64 (wr (y1_18 - (1 : Int))), .int .i64 y1_22, .bool p.flag, .slice a1_27_00 (List.length y1_27) c1_27_00]] ((IntsA a1_27_00 c1_27_00 y1_27) :: Γ) (rs := [.cell 4 32]) kf (.cons (.cell kf (retN (off := 0) (vs := [.int .i64 (wr ((1 : Int) + y1_2)), .int .i64 y1_6, .int .i64 y1_9, .int .i64 y1_12, .int .i64 y1_15, .int .i64 (wr (y1_18 - (1 : Int))), .int .i64 y1_22, .bool p.flag, .slice a1_27_00 (List.length y1_27) c1_27_00]) 9 (fun _ => kf) (holds_own .here) rfl (by exact ⟨rfl, rfl, rfl, rfl, rfl, rfl, rfl, rfl, rfl, trivial⟩))) .nil) (fun w hw => (Sat.less (.take (.there (.there .here)) (.drop .here (.drop .here (.drop .here .refl)))) hw)) ?_
           exact ⟨a1_27_00, c1_27_00, rfl, rfl⟩
 ·refine at_region_draw (id := 1) kf kf ?_
  refine dp 0 6 (.pointer (some ⟨b0_0, 0, none⟩)) ?_
  refine dl 1 7 (.int .i64 p.kind) (load1 (off := 0) (fun _ => kf) (holds_own (.there .here)) kf) ?_
  obtain ⟨y1_2, hy1_2, H⟩ := bindE H
  refine d_quiet 2 8 (.int .i64 y1_2) 9 #[.int .i64 p.kind, .int .i64 (9)] kf kf kf (fun _ => kf) (fun _ => (WithinF_tr p.kind (9 : Int) y1_2 hy1_2)) ?_
  refine dp 3 9 (.int .i64 (wr ((1 : Int) + y1_2))) ?_
  refine dp 4 10 (.pointer (some ⟨b0_0, 1, none⟩)) ?_
  refine dl 5 11 (.int .i64 p.src) (load1 (off := 1) (fun _ => kf) (holds_own (.there .here)) kf) ?_
  obtain ⟨y1_6, hy1_6, H⟩ := bindE H
  refine d_quiet 6 12 (.int .i64 y1_6) 9 #[.int .i64 p.src, .int .i64 (4)] kf kf kf (fun _ => kf) (fun _ => (WithinF_tr p.src (4 : Int) y1_6 hy1_6)) ?_
  refine dp 7 13 (.pointer (some ⟨b0_0, 2, none⟩)) ?_
  refine dl 8 14 (.int .i64 p.dst) (load1 (off := 2) (fun _ => kf) (holds_own (.there .here)) kf) ?_
  obtain ⟨y1_9, hy1_9, H⟩ := bindE H
  refine d_quiet 9 15 (.int .i64 y1_9) 9 #[.int .i64 p.dst, .int .i64 (4)] kf kf kf (fun _ => kf) (fun _ => (WithinF_tr p.dst (4 : Int) y1_9 hy1_9)) ?_
  refine dp 10 16 (.pointer (some ⟨b0_0, 3, none⟩)) ?_
  refine dl 11 17 (.int .i64 p.id) (load1 (off := 3) (fun _ => kf) (holds_own (.there .here)) kf) ?_
  obtain ⟨y1_12, hy1_12, H⟩ := bindE H
  refine d_quiet 12 18 (.int .i64 y1_12) 9 #[.int .i64 p.id, .int .i64 (5)] kf kf kf (fun _ => kf) (fun _ => (WithinF_tr p.id (5 : Int) y1_12 hy1_12)) ?_
  refine dp 13 19 (.pointer (some ⟨b0_0, 4, none⟩)) ?_
  refine dl 14 20 (.int .i64 p.line) (load1 (off := 4) (fun _ => kf) (holds_own (.there .here)) kf) ?_
  obtain ⟨y1_15, hy1_15, H⟩ := bindE H
  refine d_quiet 15 21 (.int .i64 y1_15) 9 #[.int .i64 p.line, .int .i64 (4)] kf kf kf (fun _ => kf) (fun _ => (WithinF_tr p.line (4 : Int) y1_15 hy1_15)) ?_
  refine dp 16 22 (.pointer (some ⟨b0_0, 5, none⟩)) ?_
  refine dl 17 23 (.int .i64 p.ptr) (load1 (off := 5) (fun _ => kf) (holds_own (.there .here)) kf) ?_
  obtain ⟨y1_18, hy1_18, H⟩ := bindE H
  refine d_quiet 18 24 (.int .i64 y1_18) 9 #[.int .i64 p.ptr, .int .i64 (5)] kf kf kf (fun _ => kf) (fun _ => (WithinF_tr p.ptr (5 : Int) y1_18 hy1_18)) ?_
  refine dp 19 25 (.int .i64 (wr (y1_18 - (1 : Int)))) ?_
  refine dp 20 26 (.pointer (some ⟨b0_0, 6, none⟩)) ?_
  refine dl 21 27 (.int .i64 p.state) (load1 (off := 6) (fun _ => kf) (holds_own (.there .here)) kf) ?_
  obtain ⟨y1_22, hy1_22, H⟩ := bindE H
  refine d_quiet 22 28 (.int .i64 y1_22) 9 #[.int .i64 p.state, .int .i64 (3)] kf kf kf (fun _ => kf) (fun _ => (WithinF_tr p.state (3 : Int) y1_22 hy1_22)) ?_
  refine dp 23 29 (.pointer (some ⟨b0_0, 7, none⟩)) ?_
  refine dl 24 30 (.bool p.flag) (load1 (off := 7) (fun _ => kf) (holds_own (.there .here)) kf) ?_
  refine dp 25 31 (.pointer (some ⟨b0_0, 8, none⟩)) ?_
  refine dl 26 32 (.slice pa (List.length p.data) pcap) (load1 (off := 8) (fun _ => kf) (holds_own (.there .here)) kf) ?_
  refine draw_turns 27 [29] kf (turns_cons ?_ (turns_cons ?_ turns_nil))
  ·obtain ⟨y1_27, hy1_27, H⟩ := bindE H
   refine t_call 27 33 [26, 22, 25, 21, 18, 20, 17, 15, 16, 14, 12, 13, 11, 9, 10, 8, 6, 7, 5, 2, 4, 1, 0] [23, 19, 3] [24] 21 #[.slice pa (List.length p.data) pcap, .int .i64 (4)] kf kf kf (fun _ => kf) (CutF_tr pa pcap p.data (4 : Int) (Reads.conv (fun w hw => hw.less (.drop .here (.drop .here .refl))) hrpa) hcpa y1_27 hy1_27) ?_
   rintro _ _ ⟨a1_27_00, c1_27_00, rfl, rfl⟩
   refine ⟨(stable_cons 24 30 (.bool p.flag) kf kf kf (load1 (off := 7) (fun _ => kf) (holds_own (.there (.there .here))) kf) stable_nil), ?_⟩
   refine dp 28 34 (.agg #[.int .i64 (wr ((1 : Int) + y1_2)), .int .i64 y1_6, .int .i64 y1_9, .int .i64 y1_12, .int .i64 y1_15, .int .i64 (wr (y1_18 - (1 : Int))), .int .i64 y1_22, .bool p.flag, .slice a1_27_00 (List.length y1_27) c1_27_00]) ?_
   refine d_step 29 5 [] [28, 23, 19, 3] [24] kf kf kf (st_new (T := 32) (cells := #[.int .i64 (0), .int .i64 (0), .int .i64 (0), .int .i64 (0), .int .i64 (0), .int .i64 (0), .int .i64 (0), .bool false, .slice none 0 0]) (fun a => .pointer (some a)) (fun _ => kf)) ?_
   rintro _ _ ⟨b1_29, rfl, rfl⟩
   refine ⟨(stable_cons 24 30 (.bool p.flag) kf kf kf (load1 (off := 7) (fun _ => kf) (holds_own (.there (.there (.there .here)))) kf) stable_nil), ?_⟩
   refine d_do 30 [29, 28, 27, 0, 1, 2, 3, 4, 5, 6, 7, 8, 9, 10, 11, 12, 13, 14, 15, 16, 17, 18, 19, 20, 21, 22, 23, 24, 25, 26] [] [] kf kf kf (st_store (off := 0) (vs := [.int .i64 (wr ((1 : Int) + y1_2)), .int .i64 y1_6, .int .i64 y1_9, .int .i64 y1_12, .int .i64 y1_15, .int .i64 (wr (y1_18 - (1 : Int))), .int .i64 y1_22, .bool p.flag, .slice a1_27_00 (List.length y1_27) c1_27_00]) (c' := #[.int .i64 (wr ((1 : Int) + y1_2)), .int .i64 y1_6, .int .i64 y1_9, .int .i64 y1_12, .int .i64 y1_15, .int .i64 (wr (y1_18 - (1 : Int))), .int .i64 y1_22, .bool p.flag, .slice a1_27_00 (List.length y1_27) c1_27_00]) (fun _ => kf) .here kf kf kf) ?_
   rintro _ _ ⟨rfl, rfl⟩
   refine ⟨stable_nil, ?_⟩
   refine draw_end kf ?_
   refine ae [(1, .int .i64 how), (2, .pointer (some ⟨b0_0, 0, none⟩)), (4, .pointer (some ⟨b0_1, 0, none⟩)), (5, .pointer (some ⟨b1_29, 0, none⟩))] ?_
   refine at_round_normal ?_
   exact at_join_mk [(1, .int .i64 how), (2, .pointer (some ⟨b0_0, 0, none⟩)), (4, .pointer (some ⟨b0_1, 0, none⟩)), (5, .pointer (some ⟨b1_29, 0, none⟩))] ((Asn.own b1_29 (.cells #[.int .i64 (wr ((1 : Int) + y1_2)), .int .i64 y1_6, .int .i64 y1_9, .int .i64 y1_12, .int .i64 y1_15, .int .i64 (wr (y1_18 - (1 : Int))), .int .i64 y1_22, .bool p.flag, .slice a1_27_00 (List.length y1_27) c1_27_00] 32 (0, 0))) :: (IntsA a1_27_00 c1_27_00 y1_27) :: (Asn.own b0_1 (.cells #[.int .i64 (0), .int .i64 (0), .int .i64 (0), .int .i64 (0), .int .i64 (0), .int .i64 (0), .int .i64 (0), .bool false, .slice none 0 0] 32 (0, 0))) :: (Asn.own b0_0 (.cells #[.int .i64 p.kind, .int .i64 p.src, .int .i64 p.dst, .int .i64 p.id, .int .i64 p.line, .int .i64 p.ptr, .int .i64 p.state, .bool p.flag, .slice pa (List.length p.data) pcap] 32 (0, 0))) :: Γ) ⟨kf, kf, kf, kf, trivial⟩ (fun w hw => (Sat.less (.take .here (.take .here (.take .here (.take .here .refl)))) hw)) ⟨b1_29, y1_2, y1_6, y1_9, y1_12, y1_15, y1_18, y1_22, a1_27_00, y1_27, c1_27_00, H, rfl, rfl⟩
  ·refine t_step 29 5 [] [25, 23, 22, 20, 19, 18, 16, 15, 13, 12, 10, 9, 7, 6, 4, 3, 2, 0] [26, 24, 21, 17, 14, 11, 8, 5, 1] kf kf kf (st_new (T := 32) (cells := #[.int .i64 (0), .int .i64 (0), .int .i64 (0), .int .i64 (0), .int .i64 (0), .int .i64 (0), .int .i64 (0), .bool false, .slice none 0 0]) (fun a => .pointer (some a)) (fun _ => kf)) ?_
   rintro _ _ ⟨b1_29, rfl, rfl⟩
   refine ⟨(stable_cons 26 32 (.slice pa (List.length p.data) pcap) kf kf kf (load1 (off := 8) (fun _ => kf) (holds_own (.there (.there .here))) kf) (stable_cons 24 30 (.bool p.flag) kf kf kf (load1 (off := 7) (fun _ => kf) (holds_own (.there (.there .here))) kf) (stable_cons 21 27 (.int .i64 p.state) kf kf kf (load1 (off := 6) (fun _ => kf) (holds_own (.there (.there .here))) kf) (stable_cons 17 23 (.int .i64 p.ptr) kf kf kf (load1 (off := 5) (fun _ => kf) (holds_own (.there (.there .here))) kf) (stable_cons 14 20 (.int .i64 p.line) kf kf kf (load1 (off := 4) (fun _ => kf) (holds_own (.there (.there .here))) kf) (stable_cons 11 17 (.int .i64 p.id) kf kf kf (load1 (off := 3) (fun _ => kf) (holds_own (.there (.there .here))) kf) (stable_cons 8 14 (.int .i64 p.dst) kf kf kf (load1 (off := 2) (fun _ => kf) (holds_own (.there (.there .here))) kf) (stable_cons 5 11 (.int .i64 p.src) kf kf kf (load1 (off := 1) (fun _ => kf) (holds_own (.there (.there .here))) kf) (stable_cons 1 7 (.int .i64 p.kind) kf kf kf (load1 (off := 0) (fun _ => kf) (holds_own (.there (.there .here))) kf) stable_nil))))))))), ?_⟩
   obtain ⟨y1_27, hy1_27, H⟩ := bindE H
   refine d_call 27 33 [26, 22, 25, 21, 18, 20, 17, 15, 16, 14, 12, 13, 11, 9, 10, 8, 6, 7, 5, 2, 4, 1, 0] [23, 19, 3] [24] 21 #[.slice pa (List.length p.data) pcap, .int .i64 (4)] kf kf kf (fun _ => kf) (CutF_tr pa pcap p.data (4 : Int) (Reads.conv (fun w hw => hw.less (.drop .here (.drop .here (.drop .here .refl)))) hrpa) hcpa y1_27 hy1_27) ?_
   rintro _ _ ⟨a1_27_00, c1_27_00, rfl, rfl⟩
   refine ⟨(stable_cons 24 30 (.bool p.flag) kf kf kf (load1 (off := 7) (fun _ => kf) (holds_own (.there (.there (.there .here)))) kf) stable_nil), ?_⟩
   refine dp 28 34 (.agg #[.int .i64 (wr ((1 : Int) + y1_2)), .int .i64 y1_6, .int .i64 y1_9, .int .i64 y1_12, .int .i64 y1_15, .int .i64 (wr (y1_18 - (1 : Int))), .int .i64 y1_22, .bool p.flag, .slice a1_27_00 (List.length y1_27) c1_27_00]) ?_
   refine d_do 30 [29, 28, 27, 0, 1, 2, 3, 4, 5, 6, 7, 8, 9, 10, 11, 12, 13, 14, 15, 16, 17, 18, 19, 20, 21, 22, 23, 24, 25, 26] [] [] kf kf kf (st_store (off := 0) (vs := [.int .i64 (wr ((1 : Int) + y1_2)), .int .i64 y1_6, .int .i64 y1_9, .int .i64 y1_12, .int .i64 y1_15, .int .i64 (wr (y1_18 - (1 : Int))), .int .i64 y1_22, .bool p.flag, .slice a1_27_00 (List.length y1_27) c1_27_00]) (c' := #[.int .i64 (wr ((1 : Int) + y1_2)), .int .i64 y1_6, .int .i64 y1_9, .int .i64 y1_12, .int .i64 y1_15, .int .i64 (wr (y1_18 - (1 : Int))), .int .i64 y1_22, .bool p.flag, .slice a1_27_00 (List.length y1_27) c1_27_00]) (fun _ => kf) (.there .here) kf kf kf) ?_
   rintro _ _ ⟨rfl, rfl⟩
   refine ⟨stable_nil, ?_⟩
   refine draw_end kf ?_
   refine ae [(1, .int .i64 how), (2, .pointer (some ⟨b0_0, 0, none⟩)), (4, .pointer (some ⟨b0_1, 0, none⟩)), (5, .pointer (some ⟨b1_29, 0, none⟩))] ?_
   refine at_round_normal ?_
   exact at_join_mk [(1, .int .i64 how), (2, .pointer (some ⟨b0_0, 0, none⟩)), (4, .pointer (some ⟨b0_1, 0, none⟩)), (5, .pointer (some ⟨b1_29, 0, none⟩))] ((Asn.own b1_29 (.cells #[.int .i64 (wr ((1 : Int) + y1_2)), .int .i64 y1_6, .int .i64 y1_9, .int .i64 y1_12, .int .i64 y1_15, .int .i64 (wr (y1_18 - (1 : Int))), .int .i64 y1_22, .bool p.flag, .slice a1_27_00 (List.length y1_27) c1_27_00] 32 (0, 0))) :: (IntsA a1_27_00 c1_27_00 y1_27) :: (Asn.own b0_1 (.cells #[.int .i64 (0), .int .i64 (0), .int .i64 (0), .int .i64 (0), .int .i64 (0), .int .i64 (0), .int .i64 (0), .bool false, .slice none 0 0] 32 (0, 0))) :: (Asn.own b0_0 (.cells #[.int .i64 p.kind, .int .i64 p.src, .int .i64 p.dst, .int .i64 p.id, .int .i64 p.line, .int .i64 p.ptr, .int .i64 p.state, .bool p.flag, .slice pa (List.length p.data) pcap] 32 (0, 0))) :: Γ) ⟨kf, kf, kf, kf, trivial⟩ (fun w hw => (Sat.less (.take .here (.take .here (.take .here (.take .here .refl)))) hw)) ⟨b1_29, y1_2, y1_6, y1_9, y1_12, y1_15, y1_18, y1_22, a1_27_00, y1_27, c1_27_00, H, rfl, rfl⟩
end Go.Proofs.Ytcigheahollkcaa
