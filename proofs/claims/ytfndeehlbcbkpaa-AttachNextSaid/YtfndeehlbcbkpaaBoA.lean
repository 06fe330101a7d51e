/- Both caches; packets by small numbers. -/
import Derived.Test.YtfndeehlbcbkpaaSmA
namespace Go.Proofs.Ytfndeehlbcbkpaa
open Go Go.RowKit
set_option linter.unusedVariables false
set_option linter.unusedSimpArgs false
def plpacketS_j0 (how : Int) (p : PktS) (y1_6 : Int) (y1_9 : Int) (y1_12 : Int) (y1_15 : Int) (y1_18 : Int) (y1_22 : Int) (y1_27 : (List Int)) (y1_2 : Int) : Option (PktS) :=
 (withinS how (40 : Int)).bind fun y2_1 => (bif decide (y2_1 = (31 : Int)) then some (⟨p.kind, y1_6, y1_9, y1_12, y1_15, wr (y1_18 - (1 : Int)), y1_22, p.flag, y1_27⟩ : PktS) else (bif decide (y2_1 = (32 : Int)) then some (⟨wr ((1 : Int) + y1_2), p.src, y1_9, y1_12, y1_15, wr (y1_18 - (1 : Int)), y1_22, p.flag, y1_27⟩ : PktS) else (bif decide (y2_1 = (33 : Int)) then some (⟨wr ((1 : Int) + y1_2), y1_6, p.dst, y1_12, y1_15, wr (y1_18 - (1 : Int)), y1_22, p.flag, y1_27⟩ : PktS) else (bif decide (y2_1 = (34 : Int)) then some (⟨wr ((1 : Int) + y1_2), y1_6, y1_9, p.id, y1_15, wr (y1_18 - (1 : Int)), y1_22, p.flag, y1_27⟩ : PktS) else (bif decide (y2_1 = (35 : Int)) then some (⟨wr ((1 : Int) + y1_2), y1_6, y1_9, y1_12, p.line, wr (y1_18 - (1 : Int)), y1_22, p.flag, y1_27⟩ : PktS) else (bif decide (y2_1 = (36 : Int)) then some (⟨wr ((1 : Int) + y1_2), y1_6, y1_9, y1_12, y1_15, p.ptr, y1_22, p.flag, y1_27⟩ : PktS) else (bif decide (y2_1 = (37 : Int)) then some (⟨wr ((1 : Int) + y1_2), y1_6, y1_9, y1_12, y1_15, wr (y1_18 - (1 : Int)), p.state, p.flag, y1_27⟩ : PktS) else (bif decide (y2_1 = (38 : Int)) then (cutS p.data (6 : Int)).bind fun y18_2 => some (⟨wr ((1 : Int) + y1_2), y1_6, y1_9, y1_12, y1_15, wr (y1_18 - (1 : Int)), y1_22, p.flag, y18_2⟩ : PktS) else (bif decide (y2_1 = (39 : Int)) then (withinS p.id (4096 : Int)).bind fun y20_2 => some (⟨wr ((1 : Int) + y1_2), y1_6, y1_9, y20_2, y1_15, wr (y1_18 - (1 : Int)), y1_22, p.flag, y1_27⟩ : PktS) else some (⟨wr ((1 : Int) + y1_2), y1_6, y1_9, y1_12, y1_15, wr (y1_18 - (1 : Int)), y1_22, p.flag, y1_27⟩ : PktS))))))))))
def plpacketS (p : PktS) (how : Int) : Option (PktS) :=
 (withinS p.kind (9 : Int)).bind fun y1_2 => (withinS p.src (4 : Int)).bind fun y1_6 => (withinS p.dst (4 : Int)).bind fun y1_9 => (withinS p.id (5 : Int)).bind fun y1_12 => (withinS p.line (4 : Int)).bind fun y1_15 => (withinS p.ptr (5 : Int)).bind fun y1_18 => (withinS p.state (3 : Int)).bind fun y1_22 => (cutS p.data (4 : Int)).bind fun y1_27 => plpacketS_j0 how p y1_6 y1_9 y1_12 y1_15 y1_18 y1_22 y1_27 y1_2
noncomputable def C21 (p : List Nat) : Code := codeAt (bodyOf Try.f21) p
set_option maxRecDepth 100000 in
set_option maxHeartbeats 8000000 in
theorem PlPacketF_tr {W0 : World} {Γ : List Asn} (pa : Option Addr) (pcap : Nat) (p : PktS) (how : Int) (hrpa : Reads W0 Γ pa (ints p.data)) (hcpa : p.data.length ≤ pcap) (y : PktS) (H : plpacketS p how = some y) : Tr Try.prog 21 #[.agg #[.int .i64 p.kind, .int .i64 p.src, .int .i64 p.dst, .int .i64 p.id, .int .i64 p.line, .int .i64 p.ptr, .int .i64 p.state, .bool p.flag, .slice pa (List.length p.data) pcap], .int .i64 how] W0 (Γ) (fun r Δ => ∃ (a0_0 : Option Addr) (c0_0 : Nat), r = .agg #[.int .i64 y.kind, .int .i64 y.src, .int .i64 y.dst, .int .i64 y.id, .int .i64 y.line, .int .i64 y.ptr, .int .i64 y.state, .bool y.flag, .slice a0_0 (List.length y.data) c0_0] ∧ Δ = (IntsA a0_0 c0_0 y.data) :: Γ) := by
 unfold plpacketS at H
 refine Tr.enter (fn := Try.f21) (c := C21 []) (args := [.agg #[.int .i64 p.kind, .int .i64 p.src, .int .i64 p.dst, .int .i64 p.id, .int .i64 p.line, .int .i64 p.ptr, .int .i64 p.state, .bool p.flag, .slice pa (List.length p.data) pcap], .int .i64 how]) 85 Try.func21 (by kernel_rfl) (by kernel_rfl) ?_
 refine ae [(0, .agg #[.int .i64 p.kind, .int .i64 p.src, .int .i64 p.dst, .int .i64 p.id, .int .i64 p.line, .int .i64 p.ptr, .int .i64 p.state, .bool p.flag, .slice pa (List.length p.data) pcap]), (1, .int .i64 how)] ?_
 refine aq (x := C21 [0]) (y := C21 [1]) ?_
 refine ar (id := 0) 2 ?_
 refine s_step 2 (by kernel_rfl) (by kernel_rfl) (st_new (T := 33) (cells := #[.int .i64 p.kind, .int .i64 p.src, .int .i64 p.dst, .int .i64 p.id, .int .i64 p.line, .int .i64 p.ptr, .int .i64 p.state, .bool p.flag, .slice pa (List.length p.data) pcap]) (fun a => .pointer (some a)) (fun _ => by kernel_rfl)) ?_
 rintro _ _ ⟨b0_0, rfl, rfl⟩
 refine s_step 4 (by kernel_rfl) (by kernel_rfl) (st_new (T := 33) (cells := #[.int .i64 (0), .int .i64 (0), .int .i64 (0), .int .i64 (0), .int .i64 (0), .int .i64 (0), .int .i64 (0), .bool false, .slice none 0 0]) (fun a => .pointer (some a)) (fun _ => by kernel_rfl)) ?_
 rintro _ _ ⟨b0_1, rfl, rfl⟩
 refine ops_end ?_
 refine ae [(1, .int .i64 how), (2, .pointer (some ⟨b0_0, 0, none⟩)), (4, .pointer (some ⟨b0_1, 0, none⟩))] ?_
 refine at_then_normal ?_
 refine at_seq_join (x := C21 [1,0]) (y := C21 [1,1]) (fun ff ΔΔ => ∃ (b1_29 : Nat) (y1_2 : Int) (y1_6 : Int) (y1_9 : Int) (y1_12 : Int) (y1_15 : Int) (y1_18 : Int) (y1_22 : Int) (a1_27_00 : Option Addr) (y1_27 : (List Int)) (c1_27_00 : Nat), plpacketS_j0 how p y1_6 y1_9 y1_12 y1_15 y1_18 y1_22 y1_27 y1_2 = some y ∧ ff = [(1, .int .i64 how), (2, .pointer (some ⟨b0_0, 0, none⟩)), (4, .pointer (some ⟨b0_1, 0, none⟩)), (5, .pointer (some ⟨b1_29, 0, none⟩))] ∧ (Asn.own b1_29 (.cells #[.int .i64 (wr ((1 : Int) + y1_2)), .int .i64 y1_6, .int .i64 y1_9, .int .i64 y1_12, .int .i64 y1_15, .int .i64 (wr (y1_18 - (1 : Int))), .int .i64 y1_22, .bool p.flag, .slice a1_27_00 (List.length y1_27) c1_27_00] 33 (0, 0))) :: (IntsA a1_27_00 c1_27_00 y1_27) :: (Asn.own b0_1 (.cells #[.int .i64 (0), .int .i64 (0), .int .i64 (0), .int .i64 (0), .int .i64 (0), .int .i64 (0), .int .i64 (0), .bool false, .slice none 0 0] 33 (0, 0))) :: (Asn.own b0_0 (.cells #[.int .i64 p.kind, .int .i64 p.src, .int .i64 p.dst, .int .i64 p.id, .int .i64 p.line, .int .i64 p.ptr, .int .i64 p.state, .bool p.flag, .slice pa (List.length p.data) pcap] 33 (0, 0))) :: Γ = ΔΔ) (by kernel_rfl) ?_ ?_
 ·rintro _ _ ⟨b1_29, y1_2, y1_6, y1_9, y1_12, y1_15, y1_18, y1_22, a1_27_00, y1_27, c1_27_00, H, rfl, rfl⟩
  rw [plpacketS_j0] at H
  refine aq (x := C21 [1,1,0]) (y := C21 [1,1,1]) ?_
  refine aq (x := C21 [1,1,0,0]) (y := C21 [1,1,0,1]) ?_
  refine ar (id := 2) 2 ?_
  refine sp 35 (.int .i64 how) ?_
  obtain ⟨y2_1, hy2_1, H⟩ := bindE H
  refine s_quiet 36 (.int .i64 y2_1) 8 #[.int .i64 how, .int .i64 (40)] (by kernel_rfl) (by kernel_rfl) (fun _ => by kernel_rfl) (WithinF_tr how (40 : Int) y2_1 hy2_1) ?_
  refine ops_end ?_
  refine ae [(2, .pointer (some ⟨b0_0, 0, none⟩)), (4, .pointer (some ⟨b0_1, 0, none⟩)), (5, .pointer (some ⟨b1_29, 0, none⟩)), (36, .int .i64 y2_1)] ?_
  refine at_then_normal ?_
  refine at_block (i := 0) (x := C21 [1,1,0,1,0]) (by kernel_rfl) ?_
  refine aq (x := C21 [1,1,0,1,0,0]) (y := C21 [1,1,0,1,0,1]) ?_
  refine ar (id := 3) 2 ?_
  refine sp 38 (.bool (decide (y2_1 = (31 : Int)))) ?_
  refine sp 37 (.bool (decide (y2_1 = (31 : Int)))) ?_
  refine ops_end ?_
  refine ae [(2, .pointer (some ⟨b0_0, 0, none⟩)), (4, .pointer (some ⟨b0_1, 0, none⟩)), (5, .pointer (some ⟨b1_29, 0, none⟩)), (36, .int .i64 y2_1), (37, .bool (decide (y2_1 = (31 : Int))))] ?_
  refine at_then_normal ?_
  rcases Bool.eq_false_or_eq_true (decide (y2_1 = (31 : Int))) with h1 | h1
  ·replace H := bifT H h1
   refine at_true (t := decide (y2_1 = (31 : Int))) (x := C21 [1,1,0,1,0,1,0]) (y := C21 [1,1,0,1,0,1,1]) (o := .tmp 37) (by kernel_rfl) (by kernel_rfl) (by kernel_rfl) h1 ?_
   refine ar (id := 4) 4 ?_
   refine sp 39 (.pointer (some ⟨b0_0, 0, none⟩)) ?_
   refine sl 40 (.int .i64 p.kind) (load1 (off := 0) (fun _ => by kernel_rfl) (holds_own (.there (.there (.there .here)))) (by kernel_rfl)) ?_
   refine sp 41 (.pointer (some ⟨b1_29, 0, none⟩)) ?_
   refine s_do (by kernel_rfl) (by kernel_rfl) (st_store (off := 0) (vs := [.int .i64 p.kind]) (c' := #[.int .i64 p.kind, .int .i64 y1_6, .int .i64 y1_9, .int .i64 y1_12, .int .i64 y1_15, .int .i64 (wr (y1_18 - (1 : Int))), .int .i64 y1_22, .bool p.flag, .slice a1_27_00 (List.length y1_27) c1_27_00]) (fun _ => by kernel_rfl) .here (by kernel_rfl) (by kernel_rfl) (by kernel_rfl)) ?_
   rintro _ _ ⟨rfl, rfl⟩
   refine ops_end ?_
   refine ae [(4, .pointer (some ⟨b0_1, 0, none⟩)), (5, .pointer (some ⟨b1_29, 0, none⟩))] ?_
   refine at_in_normal ?_
   refine at_then_normal ?_
   refine aq (x := C21 [1,1,1,0]) (y := C21 [1,1,1,1]) ?_
   refine ar (id := 21) 2 ?_
   refine sl 84 (.agg #[.int .i64 p.kind, .int .i64 y1_6, .int .i64 y1_9, .int .i64 y1_12, .int .i64 y1_15, .int .i64 (wr (y1_18 - (1 : Int))), .int .i64 y1_22, .bool p.flag, .slice a1_27_00 (List.length y1_27) c1_27_00]) (loadN (off := 0) (vs := [.int .i64 p.kind, .int .i64 y1_6, .int .i64 y1_9, .int .i64 y1_12, .int .i64 y1_15, .int .i64 (wr (y1_18 - (1 : Int))), .int .i64 y1_22, .bool p.flag, .slice a1_27_00 (List.length y1_27) c1_27_00]) 9 (fun _ => by kernel_rfl) (holds_own .here) rfl (by exact ⟨rfl, rfl, rfl, rfl, rfl, rfl, rfl, rfl, rfl, trivial⟩)) ?_
   refine s_do (by kernel_rfl) (by kernel_rfl) (st_store (off := 0) (vs := [.int .i64 p.kind, .int .i64 y1_6, .int .i64 y1_9, .int .i64 y1_12, .int .i64 y1_15, .int .i64 (wr (y1_18 - (1 : Int))), .int .i64 y1_22, .bool p.flag, .slice a1_27_00 (List.length y1_27) c1_27_00]) (c' := #[.int .i64 p.kind, .int .i64 y1_6, .int .i64 y1_9, .int .i64 y1_12, .int .i64 y1_15, .int .i64 (wr (y1_18 - (1 : Int))), .int .i64 y1_22, .bool p.flag, .slice a1_27_00 (List.length y1_27) c1_27_00]) (fun _ => by kernel_rfl) (.there (.there .here)) (by kernel_rfl) (by kernel_rfl) (by kernel_rfl)) ?_
   rintro _ _ ⟨rfl, rfl⟩
   refine ops_end ?_
   refine ae [(4, .pointer (some ⟨b0_1, 0, none⟩))] ?_
   refine at_then_normal ?_
   refine at_ret (by kernel_rfl) ?_
   obtain rfl := someE H
   refine at_backR [.agg #[.int .i64 p.kind, .int .i64 y1_6, .int .i64 y1_9, .int .i64 y1_12, .int .i64 y1_15, .int .i64 (wr (y1_18 - (1 : Int))), .int .i64 y1_22, .bool p.flag, .slice a1_27_00 (List.length y1_27) c1_27_00]] ((IntsA a1_27_00 c1_27_00 y1_27) :: Γ) (rs := [.cell 4 33]) (by kernel_rfl) (.cons (.cell (by kernel_rfl) (retN (off := 0) (vs := [.int .i64 p.kind, .int .i64 y1_6, .int .i64 y1_9, .int .i64 y1_12, .int .i64 y1_15, .int .i64 (wr (y1_18 - (1 : Int))), .int .i64 y1_22, .bool p.flag, .slice a1_27_00 (List.length y1_27) c1_27_00]) 9 (fun _ => by kernel_rfl) (holds_own .here) rfl (by exact ⟨rfl, rfl, rfl, rfl, rfl, rfl, rfl, rfl, rfl, trivial⟩))) .nil) (fun w hw => (Sat.less (.take (.there (.there .here)) (.drop .here (.drop .here (.drop .here .refl)))) hw)) ?_
   exact ⟨a1_27_00, c1_27_00, rfl, rfl⟩
  ·replace H := bifF H h1
   refine at_false (t := decide (y2_1 = (31 : Int))) (x := C21 [1,1,0,1,0,1,0]) (y := C21 [1,1,0,1,0,1,1]) (o := .tmp 37) (by kernel_rfl) (by kernel_rfl) (by kernel_rfl) h1 ?_
   refine aq (x := C21 [1,1,0,1,0,1,1,0]) (y := C21 [1,1,0,1,0,1,1,1]) ?_
   refine ar (id := 5) 2 ?_
   refine sp 43 (.bool (decide (y2_1 = (32 : Int)))) ?_
   refine sp 42 (.bool (decide (y2_1 = (32 : Int)))) ?_
   refine ops_end ?_
   refine ae [(2, .pointer (some ⟨b0_0, 0, none⟩)), (4, .pointer (some ⟨b0_1, 0, none⟩)), (5, .pointer (some ⟨b1_29, 0, none⟩)), (36, .int .i64 y2_1), (42, .bool (decide (y2_1 = (32 : Int))))] ?_
   refine at_then_normal ?_
   rcases Bool.eq_false_or_eq_true (decide (y2_1 = (32 : Int))) with h2 | h2
   ·replace H := bifT H h2
    refine at_true (t := decide (y2_1 = (32 : Int))) (x := C21 [1,1,0,1,0,1,1,1,0]) (y := C21 [1,1,0,1,0,1,1,1,1]) (o := .tmp 42) (by kernel_rfl) (by kernel_rfl) (by kernel_rfl) h2 ?_
    refine ar (id := 6) 4 ?_
    refine sp 44 (.pointer (some ⟨b0_0, 1, none⟩)) ?_
    refine sl 45 (.int .i64 p.src) (load1 (off := 1) (fun _ => by kernel_rfl) (holds_own (.there (.there (.there .here)))) (by kernel_rfl)) ?_
    refine sp 46 (.pointer (some ⟨b1_29, 1, none⟩)) ?_
    refine s_do (by kernel_rfl) (by kernel_rfl) (st_store (off := 1) (vs := [.int .i64 p.src]) (c' := #[.int .i64 (wr ((1 : Int) + y1_2)), .int .i64 p.src, .int .i64 y1_9, .int .i64 y1_12, .int .i64 y1_15, .int .i64 (wr (y1_18 - (1 : Int))), .int .i64 y1_22, .bool p.flag, .slice a1_27_00 (List.length y1_27) c1_27_00]) (fun _ => by kernel_rfl) .here (by kernel_rfl) (by kernel_rfl) (by kernel_rfl)) ?_
    rintro _ _ ⟨rfl, rfl⟩
    refine ops_end ?_
    refine ae [(4, .pointer (some ⟨b0_1, 0, none⟩)), (5, .pointer (some ⟨b1_29, 0, none⟩))] ?_
    refine at_in_normal ?_
    refine at_then_normal ?_
    refine aq (x := C21 [1,1,1,0]) (y := C21 [1,1,1,1]) ?_
    refine ar (id := 21) 2 ?_
    refine sl 84 (.agg #[.int .i64 (wr ((1 : Int) + y1_2)), .int .i64 p.src, .int .i64 y1_9, .int .i64 y1_12, .int .i64 y1_15, .int .i64 (wr (y1_18 - (1 : Int))), .int .i64 y1_22, .bool p.flag, .slice a1_27_00 (List.length y1_27) c1_27_00]) (loadN (off := 0) (vs := [.int .i64 (wr ((1 : Int) + y1_2)), .int .i64 p.src, .int .i64 y1_9, .int .i64 y1_12, .int .i64 y1_15, .int .i64 (wr (y1_18 - (1 : Int))), .int .i64 y1_22, .bool p.flag, .slice a1_27_00 (List.length y1_27) c1_27_00]) 9 (fun _ => by kernel_rfl) (holds_own .here) rfl (by exact ⟨rfl, rfl, rfl, rfl, rfl, rfl, rfl, rfl, rfl, trivial⟩)) ?_
    refine s_do (by kernel_rfl) (by kernel_rfl) (st_store (off := 0) (vs := [.int .i64 (wr ((1 : Int) + y1_2)), .int .i64 p.src, .int .i64 y1_9, .int .i64 y1_12, .int .i64 y1_15, .int .i64 (wr (y1_18 - (1 : Int))), .int .i64 y1_22, .bool p.flag, .slice a1_27_00 (List.length y1_27) c1_27_00]) (c' := #[.int .i64 (wr ((1 : Int) + y1_2)), .int .i64 p.src, .int .i64 y1_9, .int .i64 y1_12, .int .i64 y1_15, .int .i64 (wr (y1_18 - (1 : Int))), .int .i64 y1_22, .bool p.flag, .slice a1_27_00 (List.length y1_27) c1_27_00]) (fun _ => by kernel_rfl) (.there (.there .here)) (by kernel_rfl) (by kernel_rfl) (by kernel_rfl)) ?_
    rintro _ _ ⟨rfl, rfl⟩
    refine ops_end ?_
    refine ae [(4, .pointer (some ⟨b0_1, 0, none⟩))] ?_
    refine at_then_normal ?_
    refine at_ret (by kernel_rfl) ?_
    obtain rfl := someE H
    refine at_backR [.agg #[.int .i64 (wr ((1 : Int) + y1_2)), .int .i64 p.src, .int .i64 y1_9, .int .i64 y1_12, .int .i64 y1_15, .int .i64 (wr (y1_18 - (1 : Int))), .int .i64 y1_22, .bool p.flag, .slice a1_27_00 (List.length y1_27) c1_27_00]] ((IntsA a1_27_00 c1_27_00 y1_27) :: Γ) (rs := [.cell 4 33]) (by kernel_rfl) (.cons (.cell (by kernel_rfl) (retN (off := 0) (vs := [.int .i64 (wr ((1 : Int) + y1_2)), .int .i64 p.src, .int .i64 y1_9, .int .i64 y1_12, .int .i64 y1_15, .int .i64 (wr (y1_18 - (1 : Int))), .int .i64 y1_22, .bool p.flag, .slice a1_27_00 (List.length y1_27) c1_27_00]) 9 (fun _ => by kernel_rfl) (holds_own .here) rfl (by exact ⟨rfl, rfl, rfl, rfl, rfl, rfl, rfl, rfl, rfl, trivial⟩))) .nil) (fun w hw => (Sat.less (.take (.there (.there .here)) (.drop .here (.drop .here (.drop .here .refl)))) hw)) ?_
    exact ⟨a1_27_00, c1_27_00, rfl, rfl⟩
   ·replace H := bifF H h2
    refine at_false (t := decide (y2_1 = (32 : Int))) (x := C21 [1,1,0,1,0,1,1,1,0]) (y := C21 [1,1,0,1,0,1,1,1,1]) (o := .tmp 42) (by kernel_rfl) (by kernel_rfl) (by kernel_rfl) h2 ?_
    refine aq (x := C21 [1,1,0,1,0,1,1,1,1,0]) (y := C21 [1,1,0,1,0,1,1,1,1,1]) ?_
    refine ar (id := 7) 2 ?_
    refine sp 48 (.bool (decide (y2_1 = (33 : Int)))) ?_
    refine sp 47 (.bool (decide (y2_1 = (33 : Int)))) ?_
    refine ops_end ?_
    refine ae [(2, .pointer (some ⟨b0_0, 0, none⟩)), (4, .pointer (some ⟨b0_1, 0, none⟩)), (5, .pointer (some ⟨b1_29, 0, none⟩)), (36, .int .i64 y2_1), (47, .bool (decide (y2_1 = (33 : Int))))] ?_
    refine at_then_normal ?_
    rcases Bool.eq_false_or_eq_true (decide (y2_1 = (33 : Int))) with h3 | h3
    ·replace H := bifT H h3
     refine at_true (t := decide (y2_1 = (33 : Int))) (x := C21 [1,1,0,1,0,1,1,1,1,1,0]) (y := C21 [1,1,0,1,0,1,1,1,1,1,1]) (o := .tmp 47) (by kernel_rfl) (by kernel_rfl) (by kernel_rfl) h3 ?_
     refine ar (id := 8) 4 ?_
     refine sp 49 (.pointer (some ⟨b0_0, 2, none⟩)) ?_
     refine sl 50 (.int .i64 p.dst) (load1 (off := 2) (fun _ => by kernel_rfl) (holds_own (.there (.there (.there .here)))) (by kernel_rfl)) ?_
     refine sp 51 (.pointer (some ⟨b1_29, 2, none⟩)) ?_
     refine s_do (by kernel_rfl) (by kernel_rfl) (st_store (off := 2) (vs := [.int .i64 p.dst]) (c' := #[.int .i64 (wr ((1 : Int) + y1_2)), .int .i64 y1_6, .int .i64 p.dst, .int .i64 y1_12, .int .i64 y1_15, .int .i64 (wr (y1_18 - (1 : Int))), .int .i64 y1_22, .bool p.flag, .slice a1_27_00 (List.length y1_27) c1_27_00]) (fun _ => by kernel_rfl) .here (by kernel_rfl) (by kernel_rfl) (by kernel_rfl)) ?_
     rintro _ _ ⟨rfl, rfl⟩
     refine ops_end ?_
     refine ae [(4, .pointer (some ⟨b0_1, 0, none⟩)), (5, .pointer (some ⟨b1_29, 0, none⟩))] ?_
     refine at_in_normal ?_
     refine at_then_normal ?_
     refine aq (x := C21 [1,1,1,0]) (y := C21 [1,1,1,1]) ?_
     refine ar (id := 21) 2 ?_
     refine sl 84 (.agg #[.int .i64 (wr ((1 : Int) + y1_2)), .int .i64 y1_6, .int .i64 p.dst, .int .i64 y1_12, .int .i64 y1_15, .int .i64 (wr (y1_18 - (1 : Int))), .int .i64 y1_22, .bool p.flag, .slice a1_27_00 (List.length y1_27) c1_27_00]) (loadN (off := 0) (vs := [.int .i64 (wr ((1 : Int) + y1_2)), .int .i64 y1_6, .int .i64 p.dst, .int .i64 y1_12, .int .i64 y1_15, .int .i64 (wr (y1_18 - (1 : Int))), .int .i64 y1_22, .bool p.flag, .slice a1_27_00 (List.length y1_27) c1_27_00]) 9 (fun _ => by kernel_rfl) (holds_own .here) rfl (by exact ⟨rfl, rfl, rfl, rfl, rfl, rfl, rfl, rfl, rfl, trivial⟩)) ?_
     refine s_do (by kernel_rfl) (by kernel_rfl) (st_store (off := 0) (vs := [.int .i64 (wr ((1 : Int) + y1_2)), .int .i64 y1_6, .int .i64 p.dst, .int .i64 y1_12, .int .i64 y1_15, .int .i64 (wr (y1_18 - (1 : Int))), .int .i64 y1_22, .bool p.flag, .slice a1_27_00 (List.length y1_27) c1_27_00]) (c' := #[.int .i64 (wr ((1 : Int) + y1_2)), .int .i64 y1_6, .int .i64 p.dst, .int .i64 y1_12, .int .i64 y1_15, .int .i64 (wr (y1_18 - (1 : Int))), .int .i64 y1_22, .bool p.flag, .slice a1_27_00 (List.length y1_27) c1_27_00]) (fun _ => by kernel_rfl) (.there (.there .here)) (by kernel_rfl) (by kernel_rfl) (by kernel_rfl)) ?_
     rintro _ _ ⟨rfl, rfl⟩
     refine ops_end ?_
     refine ae [(4, .pointer (some ⟨b0_1, 0, none⟩))] ?_
     refine at_then_normal ?_
     refine at_ret (by kernel_rfl) ?_
     obtain rfl := someE H
     refine at_backR [.agg #[.int .i64 (wr ((1 : Int) + y1_2)), .int .i64 y1_6, .int .i64 p.dst, .int .i64 y1_12, .int .i64 y1_15, .int .i64 (wr (y1_18 - (1 : Int))), .int .i64 y1_22, .bool p.flag, .slice a1_27_00 (List.length y1_27) c1_27_00]] ((IntsA a1_27_00 c1_27_00 y1_27) :: Γ) (rs := [.cell 4 33]) (by kernel_rfl) (.cons (.cell (by kernel_rfl) (retN (off := 0) (vs := [.int .i64 (wr ((1 : Int) + y1_2)), .int .i64 y1_6, .int .i64 p.dst, .int .i64 y1_12, .int .i64 y1_15, .int .i64 (wr (y1_18 - (1 : Int))), .int .i64 y1_22, .bool p.flag, .slice a1_27_00 (List.length y1_27) c1_27_00]) 9 (fun _ => by kernel_rfl) (holds_own .here) rfl (by exact ⟨rfl, rfl, rfl, rfl, rfl, rfl, rfl, rfl, rfl, trivial⟩))) .nil) (fun w hw => (Sat.less (.take (.there (.there .here)) (.drop .here (.drop .here (.drop .here .refl)))) hw)) ?_
     exact ⟨a1_27_00, c1_27_00, rfl, rfl⟩
    ·replace H := bifF H h3
     refine at_false (t := decide (y2_1 = (33 : Int))) (x := C21 [1,1,0,1,0,1,1,1,1,1,0]) (y := C21 [1,1,0,1,0,1,1,1,1,1,1]) (o := .tmp 47) (by kernel_rfl) (by kernel_rfl) (by kernel_rfl) h3 ?_
     refine aq (x := C21 [1,1,0,1,0,1,1,1,1,1,1,0]) (y := C21 [1,1,0,1,0,1,1,1,1,1,1,1]) ?_
     refine ar (id := 9) 2 ?_
     refine sp 53 (.bool (decide (y2_1 = (34 : Int)))) ?_
     refine sp 52 (.bool (decide (y2_1 = (34 : Int)))) ?_
     refine ops_end ?_
     refine ae [(2, .pointer (some ⟨b0_0, 0, none⟩)), (4, .pointer (some ⟨b0_1, 0, none⟩)), (5, .pointer (some ⟨b1_29, 0, none⟩)), (36, .int .i64 y2_1), (52, .bool (decide (y2_1 = (34 : Int))))] ?_
     refine at_then_normal ?_
     rcases Bool.eq_false_or_eq_true (decide (y2_1 = (34 : Int))) with h4 | h4
     ·replace H := bifT H h4
      refine at_true (t := decide (y2_1 = (34 : Int))) (x := C21 [1,1,0,1,0,1,1,1,1,1,1,1,0]) (y := C21 [1,1,0,1,0,1,1,1,1,1,1,1,1]) (o := .tmp 52) (by kernel_rfl) (by kernel_rfl) (by kernel_rfl) h4 ?_
      refine ar (id := 10) 4 ?_
      refine sp 54 (.pointer (some ⟨b0_0, 3, none⟩)) ?_
      refine sl 55 (.int .i64 p.id) (load1 (off := 3) (fun _ => by kernel_rfl) (holds_own (.there (.there (.there .here)))) (by kernel_rfl)) ?_
      refine sp 56 (.pointer (some ⟨b1_29, 3, none⟩)) ?_
      refine s_do (by kernel_rfl) (by kernel_rfl) (st_store (off := 3) (vs := [.int .i64 p.id]) (c' := #[.int .i64 (wr ((1 : Int) + y1_2)), .int .i64 y1_6, .int .i64 y1_9, .int .i64 p.id, .int .i64 y1_15, .int .i64 (wr (y1_18 - (1 : Int))), .int .i64 y1_22, .bool p.flag, .slice a1_27_00 (List.length y1_27) c1_27_00]) (fun _ => by kernel_rfl) .here (by kernel_rfl) (by kernel_rfl) (by kernel_rfl)) ?_
      rintro _ _ ⟨rfl, rfl⟩
      refine ops_end ?_
      refine ae [(4, .pointer (some ⟨b0_1, 0, none⟩)), (5, .pointer (some ⟨b1_29, 0, none⟩))] ?_
      refine at_in_normal ?_
      refine at_then_normal ?_
      refine aq (x := C21 [1,1,1,0]) (y := C21 [1,1,1,1]) ?_
      refine ar (id := 21) 2 ?_
      refine sl 84 (.agg #[.int .i64 (wr ((1 : Int) + y1_2)), .int .i64 y1_6, .int .i64 y1_9, .int .i64 p.id, .int .i64 y1_15, .int .i64 (wr (y1_18 - (1 : Int))), .int .i64 y1_22, .bool p.flag, .slice a1_27_00 (List.length y1_27) c1_27_00]) (loadN (off := 0) (vs := [.int .i64 (wr ((1 : Int) + y1_2)), .int .i64 y1_6, .int .i64 y1_9, .int .i64 p.id, .int .i64 y1_15, .int .i64 (wr (y1_18 - (1 : Int))), .int .i64 y1_22, .bool p.flag, .slice a1_27_00 (List.length y1_27) c1_27_00]) 9 (fun _ => by kernel_rfl) (holds_own .here) rfl (by exact ⟨rfl, rfl, rfl, rfl, rfl, rfl, rfl, rfl, rfl, trivial⟩)) ?_
      refine s_do (by kernel_rfl) (by kernel_rfl) (st_store (off := 0) (vs := [.int .i64 (wr ((1 : Int) + y1_2)), .int .i64 y1_6, .int .i64 y1_9, .int .i64 p.id, .int .i64 y1_15, .int .i64 (wr (y1_18 - (1 : Int))), .int .i64 y1_22, .bool p.flag, .slice a1_27_00 (List.length y1_27) c1_27_00]) (c' := #[.int .i64 (wr ((1 : Int) + y1_2)), .int .i64 y1_6, .int .i64 y1_9, .int .i64 p.id, .int .i64 y1_15, .int .i64 (wr (y1_18 - (1 : Int))), .int .i64 y1_22, .bool p.flag, .slice a1_27_00 (List.length y1_27) c1_27_00]) (fun _ => by kernel_rfl) (.there (.there .here)) (by kernel_rfl) (by kernel_rfl) (by kernel_rfl)) ?_
      rintro _ _ ⟨rfl, rfl⟩
      refine ops_end ?_
      refine ae [(4, .pointer (some ⟨b0_1, 0, none⟩))] ?_
      refine at_then_normal ?_
      refine at_ret (by kernel_rfl) ?_
      obtain rfl := someE H
      refine at_backR [.agg #[.int .i64 (wr ((1 : Int) + y1_2)), .int .i64 y1_6, .int .i64 y1_9, .int .i64 p.id, .int .i64 y1_15, .int .i64 (wr (y1_18 - (1 : Int))), .int .i64 y1_22, .bool p.flag, .slice a1_27_00 (List.length y1_27) c1_27_00]] ((IntsA a1_27_00 c1_27_00 y1_27) :: Γ) (rs := [.cell 4 33]) (by kernel_rfl) (.cons (.cell (by kernel_rfl) (retN (off := 0) (vs := [.int .i64 (wr ((1 : Int) + y1_2)), .int .i64 y1_6, .int .i64 y1_9, .int .i64 p.id, .int .i64 y1_15, .int .i64 (wr (y1_18 - (1 : Int))), .int .i64 y1_22, .bool p.flag, .slice a1_27_00 (List.length y1_27) c1_27_00]) 9 (fun _ => by kernel_rfl) (holds_own .here) rfl (by exact ⟨rfl, rfl, rfl, rfl, rfl, rfl, rfl, rfl, rfl, trivial⟩))) .nil) (fun w hw => (Sat.less (.take (.there (.there .here)) (.drop .here (.drop .here (.drop .here .refl)))) hw)) ?_
      exact ⟨a1_27_00, c1_27_00, rfl, rfl⟩
     ·replace H := bifF H h4
      refine at_false (t := decide (y2_1 = (34 : Int))) (x := C21 [1,1,0,1,0,1,1,1,1,1,1,1,0]) (y := C21 [1,1,0,1,0,1,1,1,1,1,1,1,1]) (o := .tmp 52) (by kernel_rfl) (by kernel_rfl) (by kernel_rfl) h4 ?_
      refine aq (x := C21 [1,1,0,1,0,1,1,1,1,1,1,1,1,0]) (y := C21 [1,1,0,1,0,1,1,1,1,1,1,1,1,1]) ?_
      refine ar (id := 11) 2 ?_
      refine sp 58 (.bool (decide (y2_1 = (35 : Int)))) ?_
      refine sp 57 (.bool (decide (y2_1 = (35 : Int)))) ?_
      refine ops_end ?_
      refine ae [(2, .pointer (some ⟨b0_0, 0, none⟩)), (4, .pointer (some ⟨b0_1, 0, none⟩)), (5, .pointer (some ⟨b1_29, 0, none⟩)), (36, .int .i64 y2_1), (57, .bool (decide (y2_1 = (35 : Int))))] ?_
      refine at_then_normal ?_
      rcases Bool.eq_false_or_eq_true (decide (y2_1 = (35 : Int))) with h5 | h5
      ·replace H := bifT H h5
       refine at_true (t := decide (y2_1 = (35 : Int))) (x := C21 [1,1,0,1,0,1,1,1,1,1,1,1,1,1,0]) (y := C21 [1,1,0,1,0,1,1,1,1,1,1,1,1,1,1]) (o := .tmp 57) (by kernel_rfl) (by kernel_rfl) (by kernel_rfl) h5 ?_
       refine ar (id := 12) 4 ?_
       refine sp 59 (.pointer (some ⟨b0_0, 4, none⟩)) ?_
       refine sl 60 (.int .i64 p.line) (load1 (off := 4) (fun _ => by kernel_rfl) (holds_own (.there (.there (.there .here)))) (by kernel_rfl)) ?_
       refine sp 61 (.pointer (some ⟨b1_29, 4, none⟩)) ?_
       refine s_do (by kernel_rfl) (by kernel_rfl) (st_store (off := 4) (vs := [.int .i64 p.line]) (c' := #[.int .i64 (wr ((1 : Int) + y1_2)), .int .i64 y1_6, .int .i64 y1_9, .int .i64 y1_12, .int .i64 p.line, .int .i64 (wr (y1_18 - (1 : Int))), .int .i64 y1_22, .bool p.flag, .slice a1_27_00 (List.length y1_27) c1_27_00]) (fun _ => by kernel_rfl) .here (by kernel_rfl) (by kernel_rfl) (by kernel_rfl)) ?_
       rintro _ _ ⟨rfl, rfl⟩
       refine ops_end ?_
       refine ae [(4, .pointer (some ⟨b0_1, 0, none⟩)), (5, .pointer (some ⟨b1_29, 0, none⟩))] ?_
       refine at_in_normal ?_
       refine at_then_normal ?_
       refine aq (x := C21 [1,1,1,0]) (y := C21 [1,1,1,1]) ?_
       refine ar (id := 21) 2 ?_
       refine sl 84 (.agg #[.int .i64 (wr ((1 : Int) + y1_2)), .int .i64 y1_6, .int .i64 y1_9, .int .i64 y1_12, .int .i64 p.line, .int .i64 (wr (y1_18 - (1 : Int))), .int .i64 y1_22, .bool p.flag, .slice a1_27_00 (List.length y1_27) c1_27_00]) (loadN (off := 0) (vs := [.int .i64 (wr ((1 : Int) + y1_2)), .int .i64 y1_6, .int .i64 y1_9, .int .i64 y1_12, .int .i64 p.line, .int .i64 (wr (y1_18 - (1 : Int))), .int .i64 y1_22, .bool p.flag, .slice a1_27_00 (List.length y1_27) c1_27_00]) 9 (fun _ => by kernel_rfl) (holds_own .here) rfl (by exact ⟨rfl, rfl, rfl, rfl, rfl, rfl, rfl, rfl, rfl, trivial⟩)) ?_
       refine s_do (by kernel_rfl) (by kernel_rfl) (st_store (off := 0) (vs := [.int .i64 (wr ((1 : Int) + y1_2)), .int .i64 y1_6, .int .i64 y1_9, .int .i64 y1_12, .int .i64 p.line, .int .i64 (wr (y1_18 - (1 : Int))), .int .i64 y1_22, .bool p.flag, .slice a1_27_00 (List.length y1_27) c1_27_00]) (c' := #[.int .i64 (wr ((1 : Int) + y1_2)), .int .i64 y1_6, .int .i64 y1_9, .int .i64 y1_12, .int .i64 p.line, .int .i64 (wr (y1_18 - (1 : Int))), .int .i64 y1_22, .bool p.flag, .slice a1_27_00 (List.length y1_27) c1_27_00]) (fun _ => by kernel_rfl) (.there (.there .here)) (by kernel_rfl) (by kernel_rfl) (by kernel_rfl)) ?_
       rintro _ _ ⟨rfl, rfl⟩
       refine ops_end ?_
       refine ae [(4, .pointer (some ⟨b0_1, 0, none⟩))] ?_
       refine at_then_normal ?_
       refine at_ret (by kernel_rfl) ?_
       obtain rfl := someE H
       refine at_backR [.agg #[.int .i64 (wr ((1 : Int) + y1_2)), .int .i64 y1_6, .int .i64 y1_9, .int .i64 y1_12, .int .i64 p.line, .int .i64 (wr (y1_18 - (1 : Int))), .int .i64 y1_22, .bool p.flag, .slice a1_27_00 (List.length y1_27) c1_27_00]] ((IntsA a1_27_00 c1_27_00 y1_27) :: Γ) (rs := [.cell 4 33]) (by kernel_rfl) (.cons (.cell (by kernel_rfl) (retN (off := 0) (vs := [.int .i64 (wr ((1 : Int) + y1_2)), .int .i64 y1_6, .int .i64 y1_9, .int .i64 y1_12, .int .i64 p.line, .int .i64 (wr (y1_18 - (1 : Int))), .int .i64 y1_22, .bool p.flag, .slice a1_27_00 (List.length y1_27) c1_27_00]) 9 (fun _ => by kernel_rfl) (holds_own .here) rfl (by exact ⟨rfl, rfl, rfl, rfl, rfl, rfl, rfl, rfl, rfl, trivial⟩))) .nil) (fun w hw => (Sat.less (.take (.there (.there .here)) (.drop .here (.drop .here (.drop .here .refl)))) hw)) ?_
       exact ⟨a1_27_00, c1_27_00, rfl, rfl⟩
      ·replace H := bifF H h5
       refine at_false (t := decide (y2_1 = (35 : Int))) (x := C21 [1,1,0,1,0,1,1,1,1,1,1,1,1,1,0]) (y := C21 [1,1,0,1,0,1,1,1,1,1,1,1,1,1,1]) (o := .tmp 57) (by kernel_rfl) (by kernel_rfl) (by kernel_rfl) h5 ?_
       refine aq (x := C21 [1,1,0,1,0,1,1,1,1,1,1,1,1,1,1,0]) (y := C21 [1,1,0,1,0,1,1,1,1,1,1,1,1,1,1,1]) ?_
       refine ar (id := 13) 2 ?_
       refine sp 63 (.bool (decide (y2_1 = (36 : Int)))) ?_
       refine sp 62 (.bool (decide (y2_1 = (36 : Int)))) ?_
       refine ops_end ?_
       refine ae [(2, .pointer (some ⟨b0_0, 0, none⟩)), (4, .pointer (some ⟨b0_1, 0, none⟩)), (5, .pointer (some ⟨b1_29, 0, none⟩)), (36, .int .i64 y2_1), (62, .bool (decide (y2_1 = (36 : Int))))] ?_
       refine at_then_normal ?_
       rcases Bool.eq_false_or_eq_true (decide (y2_1 = (36 : Int))) with h6 | h6
       ·replace H := bifT H h6
        refine at_true (t := decide (y2_1 = (36 : Int))) (x := C21 [1,1,0,1,0,1,1,1,1,1,1,1,1,1,1,1,0]) (y := C21 [1,1,0,1,0,1,1,1,1,1,1,1,1,1,1,1,1]) (o := .tmp 62) (by kernel_rfl) (by kernel_rfl) (by kernel_rfl) h6 ?_
        refine ar (id := 14) 4 ?_
        refine sp 64 (.pointer (some ⟨b0_0, 5, none⟩)) ?_
        refine sl 65 (.int .i64 p.ptr) (load1 (off := 5) (fun _ => by kernel_rfl) (holds_own (.there (.there (.there .here)))) (by kernel_rfl)) ?_
        refine sp 66 (.pointer (some ⟨b1_29, 5, none⟩)) ?_
        refine s_do (by kernel_rfl) (by kernel_rfl) (st_store (off := 5) (vs := [.int .i64 p.ptr]) (c' := #[.int .i64 (wr ((1 : Int) + y1_2)), .int .i64 y1_6, .int .i64 y1_9, .int .i64 y1_12, .int .i64 y1_15, .int .i64 p.ptr, .int .i64 y1_22, .bool p.flag, .slice a1_27_00 (List.length y1_27) c1_27_00]) (fun _ => by kernel_rfl) .here (by kernel_rfl) (by kernel_rfl) (by kernel_rfl)) ?_
        rintro _ _ ⟨rfl, rfl⟩
        refine ops_end ?_
        refine ae [(4, .pointer (some ⟨b0_1, 0, none⟩)), (5, .pointer (some ⟨b1_29, 0, none⟩))] ?_
        refine at_in_normal ?_
        refine at_then_normal ?_
        refine aq (x := C21 [1,1,1,0]) (y := C21 [1,1,1,1]) ?_
        refine ar (id := 21) 2 ?_
        refine sl 84 (.agg #[.int .i64 (wr ((1 : Int) + y1_2)), .int .i64 y1_6, .int .i64 y1_9, .int .i64 y1_12, .int .i64 y1_15, .int .i64 p.ptr, .int .i64 y1_22, .bool p.flag, .slice a1_27_00 (List.length y1_27) c1_27_00]) (loadN (off := 0) (vs := [.int .i64 (wr ((1 : Int) + y1_2)), .int .i64 y1_6, .int .i64 y1_9, .int .i64 y1_12, .int .i64 y1_15, .int .i64 p.ptr, .int .i64 y1_22, .bool p.flag, .slice a1_27_00 (List.length y1_27) c1_27_00]) 9 (fun _ => by kernel_rfl) (holds_own .here) rfl (by exact ⟨rfl, rfl, rfl, rfl, rfl, rfl, rfl, rfl, rfl, trivial⟩)) ?_
        refine s_do (by kernel_rfl) (by kernel_rfl) (st_store (off := 0) (vs := [.int .i64 (wr ((1 : Int) + y1_2)), .int .i64 y1_6, .int .i64 y1_9, .int .i64 y1_12, .int .i64 y1_15, .int .i64 p.ptr, .int .i64 y1_22, .bool p.flag, .slice a1_27_00 (List.length y1_27) c1_27_00]) (c' := #[.int .i64 (wr ((1 : Int) + y1_2)), .int .i64 y1_6, .int .i64 y1_9, .int .i64 y1_12, .int .i64 y1_15, .int .i64 p.ptr, .int .i64 y1_22, .bool p.flag, .slice a1_27_00 (List.length y1_27) c1_27_00]) (fun _ => by kernel_rfl) (.there (.there .here)) (by kernel_rfl) (by kernel_rfl) (by kernel_rfl)) ?_
        rintro _ _ ⟨rfl, rfl⟩
        refine ops_end ?_
        refine ae [(4, .pointer (some ⟨b0_1, 0, none⟩))] ?_
        refine at_then_normal ?_
        refine at_ret (by kernel_rfl) ?_
        obtain rfl := someE H
        refine at_backR [.agg #[.int .i64 (wr ((1 : Int) + y1_2)), .int .i64 y1_6, .int .i64 y1_9, .int .i64 y1_12, .int .i64 y1_15, .int .i64 p.ptr, .int .i64 y1_22, .bool p.flag, .slice a1_27_00 (List.length y1_27) c1_27_00]] ((IntsA a1_27_00 c1_27_00 y1_27) :: Γ) (rs := [.cell 4 33]) (by kernel_rfl) (.cons (.cell (by kernel_rfl) (retN (off := 0) (vs := [.int .i64 (wr ((1 : Int) + y1_2)), .int .i64 y1_6, .int .i64 y1_9, .int .i64 y1_12, .int .i64 y1_15, .int .i64 p.ptr, .int .i64 y1_22, .bool p.flag, .slice a1_27_00 (List.length y1_27) c1_27_00]) 9 (fun _ => by kernel_rfl) (holds_own .here) rfl (by exact ⟨rfl, rfl, rfl, rfl, rfl, rfl, rfl, rfl, rfl, trivial⟩))) .nil) (fun w hw => (Sat.less (.take (.there (.there .here)) (.drop .here (.drop .here (.drop .here .refl)))) hw)) ?_
        exact ⟨a1_27_00, c1_27_00, rfl, rfl⟩
       ·replace H := bifF H h6
        refine at_false (t := decide (y2_1 = (36 : Int))) (x := C21 [1,1,0,1,0,1,1,1,1,1,1,1,1,1,1,1,0]) (y := C21 [1,1,0,1,0,1,1,1,1,1,1,1,1,1,1,1,1]) (o := .tmp 62) (by kernel_rfl) (by kernel_rfl) (by kernel_rfl) h6 ?_
        refine aq (x := C21 [1,1,0,1,0,1,1,1,1,1,1,1,1,1,1,1,1,0]) (y := C21 [1,1,0,1,0,1,1,1,1,1,1,1,1,1,1,1,1,1]) ?_
        refine ar (id := 15) 2 ?_
        refine sp 68 (.bool (decide (y2_1 = (37 : Int)))) ?_
        refine sp 67 (.bool (decide (y2_1 = (37 : Int)))) ?_
        refine ops_end ?_
        refine ae [(2, .pointer (some ⟨b0_0, 0, none⟩)), (4, .pointer (some ⟨b0_1, 0, none⟩)), (5, .pointer (some ⟨b1_29, 0, none⟩)), (36, .int .i64 y2_1), (67, .bool (decide (y2_1 = (37 : Int))))] ?_
        refine at_then_normal ?_
        rcases Bool.eq_false_or_eq_true (decide (y2_1 = (37 : Int))) with h7 | h7
        ·replace H := bifT H h7
         refine at_true (t := decide (y2_1 = (37 : Int))) (x := C21 [1,1,0,1,0,1,1,1,1,1,1,1,1,1,1,1,1,1,0]) (y := C21 [1,1,0,1,0,1,1,1,1,1,1,1,1,1,1,1,1,1,1]) (o := .tmp 67) (by kernel_rfl) (by kernel_rfl) (by kernel_rfl) h7 ?_
         refine ar (id := 16) 4 ?_
         refine sp 69 (.pointer (some ⟨b0_0, 6, none⟩)) ?_
         refine sl 70 (.int .i64 p.state) (load1 (off := 6) (fun _ => by kernel_rfl) (holds_own (.there (.there (.there .here)))) (by kernel_rfl)) ?_
         refine sp 71 (.pointer (some ⟨b1_29, 6, none⟩)) ?_
         refine s_do (by kernel_rfl) (by kernel_rfl) (st_store (off := 6) (vs := [.int .i64 p.state]) (c' := #[.int .i64 (wr ((1 : Int) + y1_2)), .int .i64 y1_6, .int .i64 y1_9, .int .i64 y1_12, .int .i64 y1_15, .int .i64 (wr (y1_18 - (1 : Int))), .int .i64 p.state, .bool p.flag, .slice a1_27_00 (List.length y1_27) c1_27_00]) (fun _ => by kernel_rfl) .here (by kernel_rfl) (by kernel_rfl) (by kernel_rfl)) ?_
         rintro _ _ ⟨rfl, rfl⟩
         refine ops_end ?_
         refine ae [(4, .pointer (some ⟨b0_1, 0, none⟩)), (5, .pointer (some ⟨b1_29, 0, none⟩))] ?_
         refine at_in_normal ?_
         refine at_then_normal ?_
         refine aq (x := C21 [1,1,1,0]) (y := C21 [1,1,1,1]) ?_
         refine ar (id := 21) 2 ?_
         refine sl 84 (.agg #[.int .i64 (wr ((1 : Int) + y1_2)), .int .i64 y1_6, .int .i64 y1_9, .int .i64 y1_12, .int .i64 y1_15, .int .i64 (wr (y1_18 - (1 : Int))), .int .i64 p.state, .bool p.flag, .slice a1_27_00 (List.length y1_27) c1_27_00]) (loadN (off := 0) (vs := [.int .i64 (wr ((1 : Int) + y1_2)), .int .i64 y1_6, .int .i64 y1_9, .int .i64 y1_12, .int .i64 y1_15, .int .i64 (wr (y1_18 - (1 : Int))), .int .i64 p.state, .bool p.flag, .slice a1_27_00 (List.length y1_27) c1_27_00]) 9 (fun _ => by kernel_rfl) (holds_own .here) rfl (by exact ⟨rfl, rfl, rfl, rfl, rfl, rfl, rfl, rfl, rfl, trivial⟩)) ?_
         refine s_do (by kernel_rfl) (by kernel_rfl) (st_store (off := 0) (vs := [.int .i64 (wr ((1 : Int) + y1_2)), .int .i64 y1_6, .int .i64 y1_9, .int .i64 y1_12, .int .i64 y1_15, .int .i64 (wr (y1_18 - (1 : Int))), .int .i64 p.state, .bool p.flag, .slice a1_27_00 (List.length y1_27) c1_27_00]) (c' := #[.int .i64 (wr ((1 : Int) + y1_2)), .int .i64 y1_6, .int .i64 y1_9, .int .i64 y1_12, .int .i64 y1_15, .int .i64 (wr (y1_18 - (1 : Int))), .int .i64 p.state, .bool p.flag, .slice a1_27_00 (List.length y1_27) c1_27_00]) (fun _ => by kernel_rfl) (.there (.there .here)) (by kernel_rfl) (by kernel_rfl) (by kernel_rfl)) ?_
         rintro _ _ ⟨rfl, rfl⟩
         refine ops_end ?_
         refine ae [(4, .pointer (some ⟨b0_1, 0, none⟩))] ?_
         refine at_then_normal ?_
         refine at_ret (by kernel_rfl) ?_
         obtain rfl := someE H
         refine at_backR [.agg #[.int .i64 (wr ((1 : Int) + y1_2)), .int .i64 y1_6, .int .i64 y1_9, .int .i64 y1_12, .int .i64 y1_15, .int .i64 (wr (y1_18 - (1 : Int))), .int .i64 p.state, .bool p.flag, .slice a1_27_00 (List.length y1_27) c1_27_00]] ((IntsA a1_27_00 c1_27_00 y1_27) :: Γ) (rs := [.cell 4 33]) (by kernel_rfl) (.cons (.cell (by kernel_rfl) (retN (off := 0) (vs := [.int .i64 (wr ((1 : Int) + y1_2)), .int .i64 y1_6, .int .i64 y1_9, .int .i64 y1_12, .int .i64 y1_15, .int .i64 (wr (y1_18 - (1 : Int))), .int .i64 p.state, .bool p.flag, .slice a1_27_00 (List.length y1_27) c1_27_00]) 9 (fun _ => by kernel_rfl) (holds_own .here) rfl (by exact ⟨rfl, rfl, rfl, rfl, rfl, rfl, rfl, rfl, rfl, trivial⟩))) .nil) (fun w hw => (Sat.less (.take (.there (.there .here)) (.drop .here (.drop .here (.drop .here .refl)))) hw)) ?_
         exact ⟨a1_27_00, c1_27_00, rfl, rfl⟩
        ·replace H := bifF H h7
         refine at_false (t := decide (y2_1 = (37 : Int))) (x := C21 [1,1,0,1,0,1,1,1,1,1,1,1,1,1,1,1,1,1,0]) (y := C21 [1,1,0,1,0,1,1,1,1,1,1,1,1,1,1,1,1,1,1]) (o := .tmp 67) (by kernel_rfl) (by kernel_rfl) (by kernel_rfl) h7 ?_
         refine aq (x := C21 [1,1,0,1,0,1,1,1,1,1,1,1,1,1,1,1,1,1,1,0]) (y := C21 [1,1,0,1,0,1,1,1,1,1,1,1,1,1,1,1,1,1,1,1]) ?_
         refine ar (id := 17) 2 ?_
         refine sp 73 (.bool (decide (y2_1 = (38 : Int)))) ?_
         refine sp 72 (.bool (decide (y2_1 = (38 : Int)))) ?_
         refine ops_end ?_
         refine ae [(2, .pointer (some ⟨b0_0, 0, none⟩)), (4, .pointer (some ⟨b0_1, 0, none⟩)), (5, .pointer (some ⟨b1_29, 0, none⟩)), (36, .int .i64 y2_1), (72, .bool (decide (y2_1 = (38 : Int))))] ?_
         refine at_then_normal ?_
         rcases Bool.eq_false_or_eq_true (decide (y2_1 = (38 : Int))) with h8 | h8
         ·replace H := bifT H h8
          refine at_true (t := decide (y2_1 = (38 : Int))) (x := C21 [1,1,0,1,0,1,1,1,1,1,1,1,1,1,1,1,1,1,1,1,0]) (y := C21 [1,1,0,1,0,1,1,1,1,1,1,1,1,1,1,1,1,1,1,1,1]) (o := .tmp 72) (by kernel_rfl) (by kernel_rfl) (by kernel_rfl) h8 ?_
          refine ar (id := 18) 5 ?_
          refine sp 74 (.pointer (some ⟨b0_0, 8, none⟩)) ?_
          refine sl 75 (.slice pa (List.length p.data) pcap) (load1 (off := 8) (fun _ => by kernel_rfl) (holds_own (.there (.there (.there .here)))) (by kernel_rfl)) ?_
          obtain ⟨y18_2, hy18_2, H⟩ := bindE H
          refine s_call 76 32 #[.slice pa (List.length p.data) pcap, .int .i64 (6)] (by kernel_rfl) (by kernel_rfl) (fun _ => by kernel_rfl) (CutF_tr pa pcap p.data (6 : Int) (Reads.conv (fun w hw => hw.less (.drop .here (.drop .here (.drop .here (.drop .here .refl))))) hrpa) hcpa y18_2 hy18_2) ?_
          rintro _ _ ⟨a18_2_00, c18_2_00, rfl, rfl⟩
          refine sp 77 (.pointer (some ⟨b1_29, 8, none⟩)) ?_
          refine s_do (by kernel_rfl) (by kernel_rfl) (st_store (off := 8) (vs := [.slice a18_2_00 (List.length y18_2) c18_2_00]) (c' := #[.int .i64 (wr ((1 : Int) + y1_2)), .int .i64 y1_6, .int .i64 y1_9, .int .i64 y1_12, .int .i64 y1_15, .int .i64 (wr (y1_18 - (1 : Int))), .int .i64 y1_22, .bool p.flag, .slice a18_2_00 (List.length y18_2) c18_2_00]) (fun _ => by kernel_rfl) (.there .here) (by kernel_rfl) (by kernel_rfl) (by kernel_rfl)) ?_
          rintro _ _ ⟨rfl, rfl⟩
          refine ops_end ?_
          refine ae [(4, .pointer (some ⟨b0_1, 0, none⟩)), (5, .pointer (some ⟨b1_29, 0, none⟩))] ?_
          refine at_in_normal ?_
          refine at_then_normal ?_
          refine aq (x := C21 [1,1,1,0]) (y := C21 [1,1,1,1]) ?_
          refine ar (id := 21) 2 ?_
          refine sl 84 (.agg #[.int .i64 (wr ((1 : Int) + y1_2)), .int .i64 y1_6, .int .i64 y1_9, .int .i64 y1_12, .int .i64 y1_15, .int .i64 (wr (y1_18 - (1 : Int))), .int .i64 y1_22, .bool p.flag, .slice a18_2_00 (List.length y18_2) c18_2_00]) (loadN (off := 0) (vs := [.int .i64 (wr ((1 : Int) + y1_2)), .int .i64 y1_6, .int .i64 y1_9, .int .i64 y1_12, .int .i64 y1_15, .int .i64 (wr (y1_18 - (1 : Int))), .int .i64 y1_22, .bool p.flag, .slice a18_2_00 (List.length y18_2) c18_2_00]) 9 (fun _ => by kernel_rfl) (holds_own .here) rfl (by exact ⟨rfl, rfl, rfl, rfl, rfl, rfl, rfl, rfl, rfl, trivial⟩)) ?_
          refine s_do (by kernel_rfl) (by kernel_rfl) (st_store (off := 0) (vs := [.int .i64 (wr ((1 : Int) + y1_2)), .int .i64 y1_6, .int .i64 y1_9, .int .i64 y1_12, .int .i64 y1_15, .int .i64 (wr (y1_18 - (1 : Int))), .int .i64 y1_22, .bool p.flag, .slice a18_2_00 (List.length y18_2) c18_2_00]) (c' := #[.int .i64 (wr ((1 : Int) + y1_2)), .int .i64 y1_6, .int .i64 y1_9, .int .i64 y1_12, .int .i64 y1_15, .int .i64 (wr (y1_18 - (1 : Int))), .int .i64 y1_22, .bool p.flag, .slice a18_2_00 (List.length y18_2) c18_2_00]) (fun _ => by kernel_rfl) (.there (.there (.there .here))) (by kernel_rfl) (by kernel_rfl) (by kernel_rfl)) ?_
          rintro _ _ ⟨rfl, rfl⟩
          refine ops_end ?_
          refine ae [(4, .pointer (some ⟨b0_1, 0, none⟩))] ?_
          refine at_then_normal ?_
          refine at_ret (by kernel_rfl) ?_
          obtain rfl := someE H
          refine at_backR [.agg #[.int .i64 (wr ((1 : Int) + y1_2)), .int .i64 y1_6, .int .i64 y1_9, .int .i64 y1_12, .int .i64 y1_15, .int .i64 (wr (y1_18 - (1 : Int))), .int .i64 y1_22, .bool p.flag, .slice a18_2_00 (List.length y18_2) c18_2_00]] ((IntsA a18_2_00 c18_2_00 y18_2) :: Γ) (rs := [.cell 4 33]) (by kernel_rfl) (.cons (.cell (by kernel_rfl) (retN (off := 0) (vs := [.int .i64 (wr ((1 : Int) + y1_2)), .int .i64 y1_6, .int .i64 y1_9, .int .i64 y1_12, .int .i64 y1_15, .int .i64 (wr (y1_18 - (1 : Int))), .int .i64 y1_22, .bool p.flag, .slice a18_2_00 (List.length y18_2) c18_2_00]) 9 (fun _ => by kernel_rfl) (holds_own .here) rfl (by exact ⟨rfl, rfl, rfl, rfl, rfl, rfl, rfl, rfl, rfl, trivial⟩))) .nil) (fun w hw => (Sat.less (.take (.there (.there .here)) (.drop .here (.drop .here (.drop .here (.drop .here .refl))))) hw)) ?_
          exact ⟨a18_2_00, c18_2_00, rfl, rfl⟩
         ·replace H := bifF H h8
          refine at_false (t := decide (y2_1 = (38 : Int))) (x := C21 [1,1,0,1,0,1,1,1,1,1,1,1,1,1,1,1,1,1,1,1,0]) (y := C21 [1,1,0,1,0,1,1,1,1,1,1,1,1,1,1,1,1,1,1,1,1]) (o := .tmp 72) (by kernel_rfl) (by kernel_rfl) (by kernel_rfl) h8 ?_
          refine aq (x := C21 [1,1,0,1,0,1,1,1,1,1,1,1,1,1,1,1,1,1,1,1,1,0]) (y := C21 [1,1,0,1,0,1,1,1,1,1,1,1,1,1,1,1,1,1,1,1,1,1]) ?_
          refine ar (id := 19) 2 ?_
          refine sp 79 (.bool (decide (y2_1 = (39 : Int)))) ?_
          refine sp 78 (.bool (decide (y2_1 = (39 : Int)))) ?_
          refine ops_end ?_
          refine ae [(2, .pointer (some ⟨b0_0, 0, none⟩)), (4, .pointer (some ⟨b0_1, 0, none⟩)), (5, .pointer (some ⟨b1_29, 0, none⟩)), (78, .bool (decide (y2_1 = (39 : Int))))] ?_
          refine at_then_normal ?_
          rcases Bool.eq_false_or_eq_true (decide (y2_1 = (39 : Int))) with h9 | h9
          ·replace H := bifT H h9
           refine at_true (t := decide (y2_1 = (39 : Int))) (x := C21 [1,1,0,1,0,1,1,1,1,1,1,1,1,1,1,1,1,1,1,1,1,1,0]) (y := C21 [1,1,0,1,0,1,1,1,1,1,1,1,1,1,1,1,1,1,1,1,1,1,1]) (o := .tmp 78) (by kernel_rfl) (by kernel_rfl) (by kernel_rfl) h9 ?_
           refine ar (id := 20) 5 ?_
           refine sp 80 (.pointer (some ⟨b0_0, 3, none⟩)) ?_
           refine sl 81 (.int .i64 p.id) (load1 (off := 3) (fun _ => by kernel_rfl) (holds_own (.there (.there (.there .here)))) (by kernel_rfl)) ?_
           obtain ⟨y20_2, hy20_2, H⟩ := bindE H
           refine s_quiet 82 (.int .i64 y20_2) 8 #[.int .i64 p.id, .int .i64 (4096)] (by kernel_rfl) (by kernel_rfl) (fun _ => by kernel_rfl) (WithinF_tr p.id (4096 : Int) y20_2 hy20_2) ?_
           refine sp 83 (.pointer (some ⟨b1_29, 3, none⟩)) ?_
           refine s_do (by kernel_rfl) (by kernel_rfl) (st_store (off := 3) (vs := [.int .i64 y20_2]) (c' := #[.int .i64 (wr ((1 : Int) + y1_2)), .int .i64 y1_6, .int .i64 y1_9, .int .i64 y20_2, .int .i64 y1_15, .int .i64 (wr (y1_18 - (1 : Int))), .int .i64 y1_22, .bool p.flag, .slice a1_27_00 (List.length y1_27) c1_27_00]) (fun _ => by kernel_rfl) .here (by kernel_rfl) (by kernel_rfl) (by kernel_rfl)) ?_
           rintro _ _ ⟨rfl, rfl⟩
           refine ops_end ?_
           refine ae [(4, .pointer (some ⟨b0_1, 0, none⟩)), (5, .pointer (some ⟨b1_29, 0, none⟩))] ?_
           refine at_in_normal ?_
           refine at_then_normal ?_
           refine aq (x := C21 [1,1,1,0]) (y := C21 [1,1,1,1]) ?_
           refine ar (id := 21) 2 ?_
           refine sl 84 (.agg #[.int .i64 (wr ((1 : Int) + y1_2)), .int .i64 y1_6, .int .i64 y1_9, .int .i64 y20_2, .int .i64 y1_15, .int .i64 (wr (y1_18 - (1 : Int))), .int .i64 y1_22, .bool p.flag, .slice a1_27_00 (List.length y1_27) c1_27_00]) (loadN (off := 0) (vs := [.int .i64 (wr ((1 : Int) + y1_2)), .int .i64 y1_6, .int .i64 y1_9, .int .i64 y20_2, .int .i64 y1_15, .int .i64 (wr (y1_18 - (1 : Int))), .int .i64 y1_22, .bool p.flag, .slice a1_27_00 (List.length y1_27) c1_27_00]) 9 (fun _ => by kernel_rfl) (holds_own .here) rfl (by exact ⟨rfl, rfl, rfl, rfl, rfl, rfl, rfl, rfl, rfl, trivial⟩)) ?_
           refine s_do (by kernel_rfl) (by kernel_rfl) (st_store (off := 0) (vs := [.int .i64 (wr ((1 : Int) + y1_2)), .int .i64 y1_6, .int .i64 y1_9, .int .i64 y20_2, .int .i64 y1_15, .int .i64 (wr (y1_18 - (1 : Int))), .int .i64 y1_22, .bool p.flag, .slice a1_27_00 (List.length y1_27) c1_27_00]) (c' := #[.int .i64 (wr ((1 : Int) + y1_2)), .int .i64 y1_6, .int .i64 y1_9, .int .i64 y20_2, .int .i64 y1_15, .int .i64 (wr (y1_18 - (1 : Int))), .int .i64 y1_22, .bool p.flag, .slice a1_27_00 (List.length y1_27) c1_27_00]) (fun _ => by kernel_rfl) (.there (.there .here)) (by kernel_rfl) (by kernel_rfl) (by kernel_rfl)) ?_
           rintro _ _ ⟨rfl, rfl⟩
           refine ops_end ?_
           refine ae [(4, .pointer (some ⟨b0_1, 0, none⟩))] ?_
           refine at_then_normal ?_
           refine at_ret (by kernel_rfl) ?_
           obtain rfl := someE H
           refine at_backR [.agg #[.int .i64 (wr ((1 : Int) + y1_2)), .int .i64 y1_6, .int .i64 y1_9, .int .i64 y20_2, .int .i64 y1_15, .int .i64 (wr (y1_18 - (1 : Int))), .int .i64 y1_22, .bool p.flag, .slice a1_27_00 (List.length y1_27) c1_27_00]] ((IntsA a1_27_00 c1_27_00 y1_27) :: Γ) (rs := [.cell 4 33]) (by kernel_rfl) (.cons (.cell (by kernel_rfl) (retN (off := 0) (vs := [.int .i64 (wr ((1 : Int) + y1_2)), .int .i64 y1_6, .int .i64 y1_9, .int .i64 y20_2, .int .i64 y1_15, .int .i64 (wr (y1_18 - (1 : Int))), .int .i64 y1_22, .bool p.flag, .slice a1_27_00 (List.length y1_27) c1_27_00]) 9 (fun _ => by kernel_rfl) (holds_own .here) rfl (by exact ⟨rfl, rfl, rfl, rfl, rfl, rfl, rfl, rfl, rfl, trivial⟩))) .nil) (fun w hw => (Sat.less (.take (.there (.there .here)) (.drop .here (.drop .here (.drop .here .refl)))) hw)) ?_
           exact ⟨a1_27_00, c1_27_00, rfl, rfl⟩
          ·replace H := bifF H h9
           refine at_false (t := decide (y2_1 = (39 : Int))) (x := C21 [1,1,0,1,0,1,1,1,1,1,1,1,1,1,1,1,1,1,1,1,1,1,0]) (y := C21 [1,1,0,1,0,1,1,1,1,1,1,1,1,1,1,1,1,1,1,1,1,1,1]) (o := .tmp 78) (by kernel_rfl) (by kernel_rfl) (by kernel_rfl) h9 ?_
           refine at_skip (by kernel_rfl) ?_
           refine at_in_normal ?_
           refine at_then_normal ?_
           refine aq (x := C21 [1,1,1,0]) (y := C21 [1,1,1,1]) ?_
           refine ar (id := 21) 2 ?_
           refine sl 84 (.agg #[.int .i64 (wr ((1 : Int) + y1_2)), .int .i64 y1_6, .int .i64 y1_9, .int .i64 y1_12, .int .i64 y1_15, .int .i64 (wr (y1_18 - (1 : Int))), .int .i64 y1_22, .bool p.flag, .slice a1_27_00 (List.length y1_27) c1_27_00]) (loadN (off := 0) (vs := [.int .i64 (wr ((1 : Int) + y1_2)), .int .i64 y1_6, .int .i64 y1_9, .int .i64 y1_12, .int .i64 y1_15, .int .i64 (wr (y1_18 - (1 : Int))), .int .i64 y1_22, .bool p.flag, .slice a1_27_00 (List.length y1_27) c1_27_00]) 9 (fun _ => by kernel_rfl) (holds_own .here) rfl (by exact ⟨rfl, rfl, rfl, rfl, rfl, rfl, rfl, rfl, rfl, trivial⟩)) ?_
           refine s_do (by kernel_rfl) (by kernel_rfl) (st_store (off := 0) (vs := [.int .i64 (wr ((1 : Int) + y1_2)), .int .i64 y1_6, .int .i64 y1_9, .int .i64 y1_12, .int .i64 y1_15, .int .i64 (wr (y1_18 - (1 : Int))), .int .i64 y1_22, .bool p.flag, .slice a1_27_00 (List.length y1_27) c1_27_00]) (c' := #[.int .i64 (wr ((1 : Int) + y1_2)), .int .i64 y1_6, .int .i64 y1_9, .int .i64 y1_12, .int .i64 y1_15, .int .i64 (wr (y1_18 - (1 : Int))), .int .i64 y1_22, .bool p.flag, .slice a1_27_00 (List.length y1_27) c1_27_00]) (fun _ => by kernel_rfl) (.there (.there .here)) (by kernel_rfl) (by kernel_rfl) (by kernel_rfl)) ?_
           rintro _ _ ⟨rfl, rfl⟩
           refine ops_end ?_
           refine ae [(4, .pointer (some ⟨b0_1, 0, none⟩))] ?_
           refine at_then_normal ?_
           refine at_ret (by kernel_rfl) ?_
           obtain rfl := someE H
           refine at_backR [.agg #[.int .i64 (wr ((1 : Int) + y1_2)), .int .i64 y1_6, .int .i64 y1_9, .int .i64 y1_12, .int .i64 y1_15, .int .i64 (wr (y1_18 - (1 : Int))), .int .i64 y1_22, .bool p.flag, .slice a1_27_00 (List.length y1_27) c1_27_00]] ((IntsA a1_27_00 c1_27_00 y1_27) :: Γ) (rs := [.cell 4 33]) (by kernel_rfl) (.cons (.cell (by kernel_rfl) (retN (off := 0) (vs := [.int .i64 (wr ((1 : Int) + y1_2)), .int .i64 y1_6, .int .i64 y1_9, .int .i64 y1_12, .int .i64 y1_15, .int .i64 (wr (y1_18 - (1 : Int))), .int .i64 y1_22, .bool p.flag, .slice a1_27_00 (List.length y1_27) c1_27_00]) 9 (fun _ => by kernel_rfl) (holds_own .here) rfl (by exact ⟨rfl, rfl, rfl, rfl, rfl, rfl, rfl, rfl, rfl, trivial⟩))) .nil) (fun w hw => (Sat.less (.take (.there (.there .here)) (.drop .here (.drop .here (.drop .here .refl)))) hw)) ?_
           exact ⟨a1_27_00, c1_27_00, rfl, rfl⟩
 ·refine at_region_draw (id := 1) (by kernel_rfl) (by kernel_rfl) ?_
  refine dp 0 6 (.pointer (some ⟨b0_0, 0, none⟩)) ?_
  refine dl 1 7 (.int .i64 p.kind) (load1 (off := 0) (fun _ => by kernel_rfl) (holds_own (.there .here)) (by kernel_rfl)) ?_
  obtain ⟨y1_2, hy1_2, H⟩ := bindE H
  refine d_quiet 2 8 (.int .i64 y1_2) 8 #[.int .i64 p.kind, .int .i64 (9)] (by kernel_rfl) (by kernel_rfl) (by kernel_rfl) (fun _ => by kernel_rfl) (fun _ => (WithinF_tr p.kind (9 : Int) y1_2 hy1_2)) ?_
  refine dp 3 9 (.int .i64 (wr ((1 : Int) + y1_2))) ?_
  refine dp 4 10 (.pointer (some ⟨b0_0, 1, none⟩)) ?_
  refine dl 5 11 (.int .i64 p.src) (load1 (off := 1) (fun _ => by kernel_rfl) (holds_own (.there .here)) (by kernel_rfl)) ?_
  obtain ⟨y1_6, hy1_6, H⟩ := bindE H
  refine d_quiet 6 12 (.int .i64 y1_6) 8 #[.int .i64 p.src, .int .i64 (4)] (by kernel_rfl) (by kernel_rfl) (by kernel_rfl) (fun _ => by kernel_rfl) (fun _ => (WithinF_tr p.src (4 : Int) y1_6 hy1_6)) ?_
  refine dp 7 13 (.pointer (some ⟨b0_0, 2, none⟩)) ?_
  refine dl 8 14 (.int .i64 p.dst) (load1 (off := 2) (fun _ => by kernel_rfl) (holds_own (.there .here)) (by kernel_rfl)) ?_
  obtain ⟨y1_9, hy1_9, H⟩ := bindE H
  refine d_quiet 9 15 (.int .i64 y1_9) 8 #[.int .i64 p.dst, .int .i64 (4)] (by kernel_rfl) (by kernel_rfl) (by kernel_rfl) (fun _ => by kernel_rfl) (fun _ => (WithinF_tr p.dst (4 : Int) y1_9 hy1_9)) ?_
  refine dp 10 16 (.pointer (some ⟨b0_0, 3, none⟩)) ?_
  refine dl 11 17 (.int .i64 p.id) (load1 (off := 3) (fun _ => by kernel_rfl) (holds_own (.there .here)) (by kernel_rfl)) ?_
  obtain ⟨y1_12, hy1_12, H⟩ := bindE H
  refine d_quiet 12 18 (.int .i64 y1_12) 8 #[.int .i64 p.id, .int .i64 (5)] (by kernel_rfl) (by kernel_rfl) (by kernel_rfl) (fun _ => by kernel_rfl) (fun _ => (WithinF_tr p.id (5 : Int) y1_12 hy1_12)) ?_
  refine dp 13 19 (.pointer (some ⟨b0_0, 4, none⟩)) ?_
  refine dl 14 20 (.int .i64 p.line) (load1 (off := 4) (fun _ => by kernel_rfl) (holds_own (.there .here)) (by kernel_rfl)) ?_
  obtain ⟨y1_15, hy1_15, H⟩ := bindE H
  refine d_quiet 15 21 (.int .i64 y1_15) 8 #[.int .i64 p.line, .int .i64 (4)] (by kernel_rfl) (by kernel_rfl) (by kernel_rfl) (fun _ => by kernel_rfl) (fun _ => (WithinF_tr p.line (4 : Int) y1_15 hy1_15)) ?_
  refine dp 16 22 (.pointer (some ⟨b0_0, 5, none⟩)) ?_
  refine dl 17 23 (.int .i64 p.ptr) (load1 (off := 5) (fun _ => by kernel_rfl) (holds_own (.there .here)) (by kernel_rfl)) ?_
  obtain ⟨y1_18, hy1_18, H⟩ := bindE H
  refine d_quiet 18 24 (.int .i64 y1_18) 8 #[.int .i64 p.ptr, .int .i64 (5)] (by kernel_rfl) (by kernel_rfl) (by kernel_rfl) (fun _ => by kernel_rfl) (fun _ => (WithinF_tr p.ptr (5 : Int) y1_18 hy1_18)) ?_
  refine dp 19 25 (.int .i64 (wr (y1_18 - (1 : Int)))) ?_
  refine dp 20 26 (.pointer (some ⟨b0_0, 6, none⟩)) ?_
  refine dl 21 27 (.int .i64 p.state) (load1 (off := 6) (fun _ => by kernel_rfl) (holds_own (.there .here)) (by kernel_rfl)) ?_
  obtain ⟨y1_22, hy1_22, H⟩ := bindE H
  refine d_quiet 22 28 (.int .i64 y1_22) 8 #[.int .i64 p.state, .int .i64 (3)] (by kernel_rfl) (by kernel_rfl) (by kernel_rfl) (fun _ => by kernel_rfl) (fun _ => (WithinF_tr p.state (3 : Int) y1_22 hy1_22)) ?_
  refine dp 23 29 (.pointer (some ⟨b0_0, 7, none⟩)) ?_
  refine dl 24 30 (.bool p.flag) (load1 (off := 7) (fun _ => by kernel_rfl) (holds_own (.there .here)) (by kernel_rfl)) ?_
  refine dp 25 31 (.pointer (some ⟨b0_0, 8, none⟩)) ?_
  refine dl 26 32 (.slice pa (List.length p.data) pcap) (load1 (off := 8) (fun _ => by kernel_rfl) (holds_own (.there .here)) (by kernel_rfl)) ?_
  refine draw_turns 27 [29] (by kernel_rfl) (turns_cons ?_ (turns_cons ?_ turns_nil))
  ·obtain ⟨y1_27, hy1_27, H⟩ := bindE H
   refine t_call 27 33 [26, 22, 25, 21, 18, 20, 17, 15, 16, 14, 12, 13, 11, 9, 10, 8, 6, 7, 5, 2, 4, 1, 0] [23, 19, 3] [24] 32 #[.slice pa (List.length p.data) pcap, .int .i64 (4)] (by kernel_rfl) (by kernel_rfl) (by kernel_rfl) (fun _ => by kernel_rfl) (CutF_tr pa pcap p.data (4 : Int) (Reads.conv (fun w hw => hw.less (.drop .here (.drop .here .refl))) hrpa) hcpa y1_27 hy1_27) ?_
   rintro _ _ ⟨a1_27_00, c1_27_00, rfl, rfl⟩
   refine ⟨(stable_cons 24 30 (.bool p.flag) (by kernel_rfl) (by kernel_rfl) (by kernel_rfl) (load1 (off := 7) (fun _ => by kernel_rfl) (holds_own (.there (.there .here))) (by kernel_rfl)) stable_nil), ?_⟩
   refine dp 28 34 (.agg #[.int .i64 (wr ((1 : Int) + y1_2)), .int .i64 y1_6, .int .i64 y1_9, .int .i64 y1_12, .int .i64 y1_15, .int .i64 (wr (y1_18 - (1 : Int))), .int .i64 y1_22, .bool p.flag, .slice a1_27_00 (List.length y1_27) c1_27_00]) ?_
   refine d_step 29 5 [] [28, 23, 19, 3] [24] (by kernel_rfl) (by kernel_rfl) (by kernel_rfl) (st_new (T := 33) (cells := #[.int .i64 (0), .int .i64 (0), .int .i64 (0), .int .i64 (0), .int .i64 (0), .int .i64 (0), .int .i64 (0), .bool false, .slice none 0 0]) (fun a => .pointer (some a)) (fun _ => by kernel_rfl)) ?_
   rintro _ _ ⟨b1_29, rfl, rfl⟩
   refine ⟨(stable_cons 24 30 (.bool p.flag) (by kernel_rfl) (by kernel_rfl) (by kernel_rfl) (load1 (off := 7) (fun _ => by kernel_rfl) (holds_own (.there (.there (.there .here)))) (by kernel_rfl)) stable_nil), ?_⟩
   refine d_do 30 [29, 28, 27, 0, 1, 2, 3, 4, 5, 6, 7, 8, 9, 10, 11, 12, 13, 14, 15, 16, 17, 18, 19, 20, 21, 22, 23, 24, 25, 26] [] [] (by kernel_rfl) (by kernel_rfl) (by kernel_rfl) (st_store (off := 0) (vs := [.int .i64 (wr ((1 : Int) + y1_2)), .int .i64 y1_6, .int .i64 y1_9, .int .i64 y1_12, .int .i64 y1_15, .int .i64 (wr (y1_18 - (1 : Int))), .int .i64 y1_22, .bool p.flag, .slice a1_27_00 (List.length y1_27) c1_27_00]) (c' := #[.int .i64 (wr ((1 : Int) + y1_2)), .int .i64 y1_6, .int .i64 y1_9, .int .i64 y1_12, .int .i64 y1_15, .int .i64 (wr (y1_18 - (1 : Int))), .int .i64 y1_22, .bool p.flag, .slice a1_27_00 (List.length y1_27) c1_27_00]) (fun _ => by kernel_rfl) .here (by kernel_rfl) (by kernel_rfl) (by kernel_rfl)) ?_
   rintro _ _ ⟨rfl, rfl⟩
   refine ⟨stable_nil, ?_⟩
   refine draw_end (by kernel_rfl) ?_
   refine ae [(1, .int .i64 how), (2, .pointer (some ⟨b0_0, 0, none⟩)), (4, .pointer (some ⟨b0_1, 0, none⟩)), (5, .pointer (some ⟨b1_29, 0, none⟩))] ?_
   refine at_round_normal ?_
   exact at_join_mk [(1, .int .i64 how), (2, .pointer (some ⟨b0_0, 0, none⟩)), (4, .pointer (some ⟨b0_1, 0, none⟩)), (5, .pointer (some ⟨b1_29, 0, none⟩))] ((Asn.own b1_29 (.cells #[.int .i64 (wr ((1 : Int) + y1_2)), .int .i64 y1_6, .int .i64 y1_9, .int .i64 y1_12, .int .i64 y1_15, .int .i64 (wr (y1_18 - (1 : Int))), .int .i64 y1_22, .bool p.flag, .slice a1_27_00 (List.length y1_27) c1_27_00] 33 (0, 0))) :: (IntsA a1_27_00 c1_27_00 y1_27) :: (Asn.own b0_1 (.cells #[.int .i64 (0), .int .i64 (0), .int .i64 (0), .int .i64 (0), .int .i64 (0), .int .i64 (0), .int .i64 (0), .bool false, .slice none 0 0] 33 (0, 0))) :: (Asn.own b0_0 (.cells #[.int .i64 p.kind, .int .i64 p.src, .int .i64 p.dst, .int .i64 p.id, .int .i64 p.line, .int .i64 p.ptr, .int .i64 p.state, .bool p.flag, .slice pa (List.length p.data) pcap] 33 (0, 0))) :: Γ) ⟨by kernel_rfl, by kernel_rfl, by kernel_rfl, by kernel_rfl, trivial⟩ (fun w hw => (Sat.less (.take .here (.take .here (.take .here (.take .here .refl)))) hw)) ⟨b1_29, y1_2, y1_6, y1_9, y1_12, y1_15, y1_18, y1_22, a1_27_00, y1_27, c1_27_00, H, rfl, rfl⟩
  ·refine t_step 29 5 [] [25, 23, 22, 20, 19, 18, 16, 15, 13, 12, 10, 9, 7, 6, 4, 3, 2, 0] [26, 24, 21, 17, 14, 11, 8, 5, 1] (by kernel_rfl) (by kernel_rfl) (by kernel_rfl) (st_new (T := 33) (cells := #[.int .i64 (0), .int .i64 (0), .int .i64 (0), .int .i64 (0), .int .i64 (0), .int .i64 (0), .int .i64 (0), .bool false, .slice none 0 0]) (fun a => .pointer (some a)) (fun _ => by kernel_rfl)) ?_
   rintro _ _ ⟨b1_29, rfl, rfl⟩
   refine ⟨(stable_cons 26 32 (.slice pa (List.length p.data) pcap) (by kernel_rfl) (by kernel_rfl) (by kernel_rfl) (load1 (off := 8) (fun _ => by kernel_rfl) (holds_own (.there (.there .here))) (by kernel_rfl)) (stable_cons 24 30 (.bool p.flag) (by kernel_rfl) (by kernel_rfl) (by kernel_rfl) (load1 (off := 7) (fun _ => by kernel_rfl) (holds_own (.there (.there .here))) (by kernel_rfl)) (stable_cons 21 27 (.int .i64 p.state) (by kernel_rfl) (by kernel_rfl) (by kernel_rfl) (load1 (off := 6) (fun _ => by kernel_rfl) (holds_own (.there (.there .here))) (by kernel_rfl)) (stable_cons 17 23 (.int .i64 p.ptr) (by kernel_rfl) (by kernel_rfl) (by kernel_rfl) (load1 (off := 5) (fun _ => by kernel_rfl) (holds_own (.there (.there .here))) (by kernel_rfl)) (stable_cons 14 20 (.int .i64 p.line) (by kernel_rfl) (by kernel_rfl) (by kernel_rfl) (load1 (off := 4) (fun _ => by kernel_rfl) (holds_own (.there (.there .here))) (by kernel_rfl)) (stable_cons 11 17 (.int .i64 p.id) (by kernel_rfl) (by kernel_rfl) (by kernel_rfl) (load1 (off := 3) (fun _ => by kernel_rfl) (holds_own (.there (.there .here))) (by kernel_rfl)) (stable_cons 8 14 (.int .i64 p.dst) (by kernel_rfl) (by kernel_rfl) (by kernel_rfl) (load1 (off := 2) (fun _ => by kernel_rfl) (holds_own (.there (.there .here))) (by kernel_rfl)) (stable_cons 5 11 (.int .i64 p.src) (by kernel_rfl) (by kernel_rfl) (by kernel_rfl) (load1 (off := 1) (fun _ => by kernel_rfl) (holds_own (.there (.there .here))) (by kernel_rfl)) (stable_cons 1 7 (.int .i64 p.kind) (by kernel_rfl) (by kernel_rfl) (by kernel_rfl) (load1 (off := 0) (fun _ => by kernel_rfl) (holds_own (.there (.there .here))) (by kernel_rfl)) stable_nil))))))))), ?_⟩
   obtain ⟨y1_27, hy1_27, H⟩ := bindE H
   refine d_call 27 33 [26, 22, 25, 21, 18, 20, 17, 15, 16, 14, 12, 13, 11, 9, 10, 8, 6, 7, 5, 2, 4, 1, 0] [23, 19, 3] [24] 32 #[.slice pa (List.length p.data) pcap, .int .i64 (4)] (by kernel_rfl) (by kernel_rfl) (by kernel_rfl) (fun _ => by kernel_rfl) (CutF_tr pa pcap p.data (4 : Int) (Reads.conv (fun w hw => hw.less (.drop .here (.drop .here (.drop .here .refl)))) hrpa) hcpa y1_27 hy1_27) ?_
   rintro _ _ ⟨a1_27_00, c1_27_00, rfl, rfl⟩
   refine ⟨(stable_cons 24 30 (.bool p.flag) (by kernel_rfl) (by kernel_rfl) (by kernel_rfl) (load1 (off := 7) (fun _ => by kernel_rfl) (holds_own (.there (.there (.there .here)))) (by kernel_rfl)) stable_nil), ?_⟩
   refine dp 28 34 (.agg #[.int .i64 (wr ((1 : Int) + y1_2)), .int .i64 y1_6, .int .i64 y1_9, .int .i64 y1_12, .int .i64 y1_15, .int .i64 (wr (y1_18 - (1 : Int))), .int .i64 y1_22, .bool p.flag, .slice a1_27_00 (List.length y1_27) c1_27_00]) ?_
   refine d_do 30 [29, 28, 27, 0, 1, 2, 3, 4, 5, 6, 7, 8, 9, 10, 11, 12, 13, 14, 15, 16, 17, 18, 19, 20, 21, 22, 23, 24, 25, 26] [] [] (by kernel_rfl) (by kernel_rfl) (by kernel_rfl) (st_store (off := 0) (vs := [.int .i64 (wr ((1 : Int) + y1_2)), .int .i64 y1_6, .int .i64 y1_9, .int .i64 y1_12, .int .i64 y1_15, .int .i64 (wr (y1_18 - (1 : Int))), .int .i64 y1_22, .bool p.flag, .slice a1_27_00 (List.length y1_27) c1_27_00]) (c' := #[.int .i64 (wr ((1 : Int) + y1_2)), .int .i64 y1_6, .int .i64 y1_9, .int .i64 y1_12, .int .i64 y1_15, .int .i64 (wr (y1_18 - (1 : Int))), .int .i64 y1_22, .bool p.flag, .slice a1_27_00 (List.length y1_27) c1_27_00]) (fun _ => by kernel_rfl) (.there .here) (by kernel_rfl) (by kernel_rfl) (by kernel_rfl)) ?_
   rintro _ _ ⟨rfl, rfl⟩
   refine ⟨stable_nil, ?_⟩
   refine draw_end (by kernel_rfl) ?_
   refine ae [(1, .int .i64 how), (2, .pointer (some ⟨b0_0, 0, none⟩)), (4, .pointer (some ⟨b0_1, 0, none⟩)), (5, .pointer (some ⟨b1_29, 0, none⟩))] ?_
   refine at_round_normal ?_
   exact at_join_mk [(1, .int .i64 how), (2, .pointer (some ⟨b0_0, 0, none⟩)), (4, .pointer (some ⟨b0_1, 0, none⟩)), (5, .pointer (some ⟨b1_29, 0, none⟩))] ((Asn.own b1_29 (.cells #[.int .i64 (wr ((1 : Int) + y1_2)), .int .i64 y1_6, .int .i64 y1_9, .int .i64 y1_12, .int .i64 y1_15, .int .i64 (wr (y1_18 - (1 : Int))), .int .i64 y1_22, .bool p.flag, .slice a1_27_00 (List.length y1_27) c1_27_00] 33 (0, 0))) :: (IntsA a1_27_00 c1_27_00 y1_27) :: (Asn.own b0_1 (.cells #[.int .i64 (0), .int .i64 (0), .int .i64 (0), .int .i64 (0), .int .i64 (0), .int .i64 (0), .int .i64 (0), .bool false, .slice none 0 0] 33 (0, 0))) :: (Asn.own b0_0 (.cells #[.int .i64 p.kind, .int .i64 p.src, .int .i64 p.dst, .int .i64 p.id, .int .i64 p.line, .int .i64 p.ptr, .int .i64 p.state, .bool p.flag, .slice pa (List.length p.data) pcap] 33 (0, 0))) :: Γ) ⟨by kernel_rfl, by kernel_rfl, by kernel_rfl, by kernel_rfl, trivial⟩ (fun w hw => (Sat.less (.take .here (.take .here (.take .here (.take .here .refl)))) hw)) ⟨b1_29, y1_2, y1_6, y1_9, y1_12, y1_15, y1_18, y1_22, a1_27_00, y1_27, c1_27_00, H, rfl, rfl⟩
def bothS_j3 (v0_b1_0 : CacheS) (y8_18 : Ent) (v0_b1_1 : CacheS) (v0_10 : Int) (r0 : Int → CacheS → CacheS → Option (CacheS × CacheS)) : Option (CacheS × CacheS) :=
 (putS v0_b1_0 y8_18).bind fun y9_2 => (rputS v0_b1_1 y8_18).bind fun y10_3 => chk (inR (v0_10 + (1 : Int))) (r0 (v0_10 + (1 : Int)) y10_3.2 y9_2.2)
def bothS_j2 (v0_10 : Int) (lines : List Int) (data : List Int) (v0_b1_0 : CacheS) (v0_b1_1 : CacheS) (r0 : Int → CacheS → CacheS → Option (CacheS × CacheS)) (e2_11 : Int) (e2_12 : Int) : Option (CacheS × CacheS) :=
 chk (0 ≤ v0_10 ∧ v0_10 < ((lines.length : Nat) : Int)) ((withinS (nth lines v0_10) (4 : Int)).bind fun y8_4 => chk (0 ≤ v0_10 ∧ v0_10 < ((lines.length : Nat) : Int)) (chk (inR ((1 : Int) + (v0_10.tmod (3 : Int)))) ((cutS data ((1 : Int) + (v0_10.tmod (3 : Int)))).bind fun y8_17 => (enewS y8_4 e2_11 e2_12 (decide (((nth lines v0_10).tmod (5 : Int)) = (0 : Int))) y8_17).bind fun y8_18 => bothS_j3 v0_b1_0 y8_18 v0_b1_1 v0_10 r0)))
def bothS_j1 (v0_10 : Int) (links : List Int) (lines : List Int) (data : List Int) (v0_b1_0 : CacheS) (v0_b1_1 : CacheS) (r0 : Int → CacheS → CacheS → Option (CacheS × CacheS)) (k0 : Int → CacheS → CacheS → Option (CacheS × CacheS)) (e1_27 : Bool) : Option (CacheS × CacheS) :=
 (bif e1_27 then (bif decide (v0_10 < (((List.length links) : Nat) : Int)) then chk (0 ≤ v0_10 ∧ v0_10 < ((links.length : Nat) : Int)) ((withinS (nth links v0_10) (5 : Int)).bind fun y7_4 => chk (0 ≤ v0_10 ∧ v0_10 < ((links.length : Nat) : Int)) ((withinS (wr ((nth links v0_10).tdiv (5 : Int))) (5 : Int)).bind fun y7_11 => bothS_j2 v0_10 lines data v0_b1_0 v0_b1_1 r0 (wr (y7_4 - (1 : Int))) (wr (y7_11 - (1 : Int))))) else bothS_j2 v0_10 lines data v0_b1_0 v0_b1_1 r0 (-1) (-1)) else k0 v0_10 v0_b1_1 v0_b1_0)
def bothS_k0 (e0_10 : Int) (e0_b1_1 : CacheS) (e0_b1_0 : CacheS) : Option (CacheS × CacheS) :=
 some (e0_b1_0, e0_b1_1)
def bothS_l0 (lines : List Int) (links : List Int) (data : List Int) (k0 : Int → CacheS → CacheS → Option (CacheS × CacheS)) : Nat → Int → CacheS → CacheS → Option (CacheS × CacheS)
 | 0 => fun _ _ _ => none
 | m + 1 => fun v0_10 v0_b1_1 v0_b1_0 => (bif decide (v0_10 < (((List.length lines) : Nat) : Int)) then bothS_j1 v0_10 links lines data v0_b1_0 v0_b1_1 (bothS_l0 lines links data k0 m) k0 (decide (v0_10 < (5 : Int))) else bothS_j1 v0_10 links lines data v0_b1_0 v0_b1_1 (bothS_l0 lines links data k0 m) k0 false)
def bothS (lines : List Int) (links : List Int) (data : List Int) : Option (CacheS × CacheS) :=
 letP (newC (2 : Int) (2 : Int)) fun y1_0 => (rnewcS (2 : Int) (2 : Int)).bind fun y1_1 => bothS_l0 lines links data (bothS_k0 ) 64 0 y1_1 y1_0
noncomputable def C7 (p : List Nat) : Code := codeAt (bodyOf Try.f7) p
set_option maxRecDepth 100000 in
set_option maxHeartbeats 8000000 in
theorem BothF_tr {W0 : World} {Γ : List Asn} (linesa : Option Addr) (linescap : Nat) (lines : List Int) (linksa : Option Addr) (linkscap : Nat) (links : List Int) (dataa : Option Addr) (datacap : Nat) (data : List Int) (hrlinesa : Reads W0 Γ linesa (ints lines)) (hrlinksa : Reads W0 Γ linksa (ints links)) (hrdataa : Reads W0 Γ dataa (ints data)) (hcdataa : data.length ≤ datacap) (y : CacheS × CacheS) (H : bothS lines links data = some y) : Tr Try.prog 7 #[.slice linesa (List.length lines) linescap, .slice linksa (List.length links) linkscap, .slice dataa (List.length data) datacap] W0 (Γ) (fun r Δ => ∃ (b0 : Nat) (b1 : Nat), r = .tuple #[.pointer (some ⟨b0, 0, none⟩), .pointer (some ⟨b1, 0, none⟩)] ∧ Δ = (CacheA b0 y.1) :: (RChA b1 y.2) :: Γ) := by
 unfold bothS at H
 refine Tr.enter (fn := Try.f7) (c := C7 []) (args := [.slice linesa (List.length lines) linescap, .slice linksa (List.length links) linkscap, .slice dataa (List.length data) datacap]) 75 Try.func7 (by kernel_rfl) (by kernel_rfl) ?_
 refine ae [(0, .slice linesa (List.length lines) linescap), (1, .slice linksa (List.length links) linkscap), (2, .slice dataa (List.length data) datacap)] ?_
 refine aq (x := C7 [0]) (y := C7 [1]) ?_
 refine ar (id := 0) 2 ?_
 refine sp 6 (.pointer none) ?_
 refine sp 7 (.pointer none) ?_
 refine ops_end ?_
 refine ae [(0, .slice linesa (List.length lines) linescap), (1, .slice linksa (List.length links) linkscap), (2, .slice dataa (List.length data) datacap)] ?_
 refine at_then_normal ?_
 refine aq (x := C7 [1,0]) (y := C7 [1,1]) ?_
 refine ar (id := 1) 4 ?_
 obtain ⟨y1_0, hy1_0, H⟩ := letE H
 refine s_call 14 29 #[.int .i64 (2), .int .i64 (2)] (by kernel_rfl) (by kernel_rfl) (fun _ => by kernel_rfl) (NewF_tr (2 : Int) (2 : Int) y1_0 hy1_0) ?_
 rintro _ _ ⟨b1_0, rfl, rfl⟩
 obtain ⟨y1_1, hy1_1, H⟩ := bindE H
 refine s_call 15 30 #[.int .i64 (2), .int .i64 (2)] (by kernel_rfl) (by kernel_rfl) (fun _ => by kernel_rfl) (RNewCF_tr (2 : Int) (2 : Int) y1_1 hy1_1) ?_
 rintro _ _ ⟨b1_1, rfl, rfl⟩
 refine sp 8 (.pointer (some ⟨b1_0, 0, none⟩)) ?_
 refine sp 9 (.pointer (some ⟨b1_1, 0, none⟩)) ?_
 refine ops_end ?_
 refine ae [(0, .slice linesa (List.length lines) linescap), (1, .slice linksa (List.length links) linkscap), (2, .slice dataa (List.length data) datacap), (8, .pointer (some ⟨b1_0, 0, none⟩)), (9, .pointer (some ⟨b1_1, 0, none⟩))] ?_
 refine at_then_normal ?_
 refine aq (x := C7 [1,1,0]) (y := C7 [1,1,1]) ?_
 refine aq (x := C7 [1,1,0,0]) (y := C7 [1,1,0,1]) ?_
 refine ar (id := 2) 1 ?_
 refine sp 10 (.int .i64 (0)) ?_
 refine ops_end ?_
 refine ae [(0, .slice linesa (List.length lines) linescap), (1, .slice linksa (List.length links) linkscap), (2, .slice dataa (List.length data) datacap), (8, .pointer (some ⟨b1_0, 0, none⟩)), (9, .pointer (some ⟨b1_1, 0, none⟩)), (10, .int .i64 (0))] ?_
 refine at_then_normal ?_
 refine at_block (i := 0) (x := C7 [1,1,0,1,0]) (by kernel_rfl) ?_
 refine At.conv (Γ' := (RChA b1_1 y1_1) :: (CacheA b1_0 y1_0) :: Γ) (fun w hw => (Sat.less (.take .here (.take .here .refl)) hw)) ?_
 refine at_loopR (x := C7 [1,1,0,1,0,0]) (fun mm ff ΔΔ => ∃ (fuel : Nat) (v0_10 : Int) (v0_b1_1 : CacheS) (v0_b1_0 : CacheS), bothS_l0 lines links data (bothS_k0 ) fuel v0_10 v0_b1_1 v0_b1_0 = some y ∧ fuel = mm ∧ ff = [(0, .slice linesa (List.length lines) linescap), (1, .slice linksa (List.length links) linkscap), (2, .slice dataa (List.length data) datacap), (8, .pointer (some ⟨b1_0, 0, none⟩)), (9, .pointer (some ⟨b1_1, 0, none⟩)), (10, .int .i64 v0_10)] ∧ (RChA b1_1 v0_b1_1) :: (CacheA b1_0 v0_b1_0) :: Γ = ΔΔ) (64) (by kernel_rfl) [(0, .slice linesa (List.length lines) linescap), (1, .slice linksa (List.length links) linkscap), (2, .slice dataa (List.length data) datacap), (8, .pointer (some ⟨b1_0, 0, none⟩)), (9, .pointer (some ⟨b1_1, 0, none⟩)), (10, .int .i64 0)] ⟨by kernel_rfl, by kernel_rfl, by kernel_rfl, by kernel_rfl, by kernel_rfl, by kernel_rfl, trivial⟩ ⟨64, 0, y1_1, y1_0, H, rfl, rfl, rfl⟩ ?_
 rintro _ _ _ ⟨fuel1, v0_10, v0_b1_1, v0_b1_0, H, rfl, rfl, rfl⟩
 rcases fuel1 with _ | fuel1
 ·exact (noneE H).elim
 rw [bothS_l0] at H
 refine aq (x := C7 [1,1,0,1,0,0,0]) (y := C7 [1,1,0,1,0,0,1]) ?_
 refine at_seq_join (x := C7 [1,1,0,1,0,0,0,0]) (y := C7 [1,1,0,1,0,0,0,1]) (fun ff ΔΔ => ∃ (e1_27 : Bool), bothS_j1 v0_10 links lines data v0_b1_0 v0_b1_1 (bothS_l0 lines links data (bothS_k0 ) fuel1) (bothS_k0 ) e1_27 = some y ∧ ff = [(0, .slice linesa (List.length lines) linescap), (1, .slice linksa (List.length links) linkscap), (2, .slice dataa (List.length data) datacap), (8, .pointer (some ⟨b1_0, 0, none⟩)), (9, .pointer (some ⟨b1_1, 0, none⟩)), (10, .int .i64 v0_10), (27, .bool e1_27)] ∧ (RChA b1_1 v0_b1_1) :: (CacheA b1_0 v0_b1_0) :: Γ = ΔΔ) (by kernel_rfl) ?_ ?_
 ·rintro _ _ ⟨e1_27, H, rfl, rfl⟩
  rw [bothS_j1] at H
  rcases Bool.eq_false_or_eq_true (e1_27) with h1 | h1
  ·replace H := bifT H h1
   refine at_true (t := e1_27) (x := C7 [1,1,0,1,0,0,0,1,0]) (y := C7 [1,1,0,1,0,0,0,1,1]) (o := .tmp 27) (by kernel_rfl) (by kernel_rfl) (by kernel_rfl) h1 ?_
   refine at_skip (by kernel_rfl) ?_
   refine at_then_normal ?_
   refine aq (x := C7 [1,1,0,1,0,0,1,0]) (y := C7 [1,1,0,1,0,0,1,1]) ?_
   refine at_block (i := 1) (x := C7 [1,1,0,1,0,0,1,0,0]) (by kernel_rfl) ?_
   refine aq (x := C7 [1,1,0,1,0,0,1,0,0,0]) (y := C7 [1,1,0,1,0,0,1,0,0,1]) ?_
   refine ar (id := 5) 2 ?_
   refine sp 11 (.int .i64 (-1)) ?_
   refine sp 12 (.int .i64 (-1)) ?_
   refine ops_end ?_
   refine ae [(0, .slice linesa (List.length lines) linescap), (1, .slice linksa (List.length links) linkscap), (2, .slice dataa (List.length data) datacap), (8, .pointer (some ⟨b1_0, 0, none⟩)), (9, .pointer (some ⟨b1_1, 0, none⟩)), (10, .int .i64 v0_10), (11, .int .i64 (-1)), (12, .int .i64 (-1))] ?_
   refine at_then_normal ?_
   refine at_seq_join (x := C7 [1,1,0,1,0,0,1,0,0,1,0]) (y := C7 [1,1,0,1,0,0,1,0,0,1,1]) (fun ff ΔΔ => ∃ (e2_11 : Int) (e2_12 : Int), bothS_j2 v0_10 lines data v0_b1_0 v0_b1_1 (bothS_l0 lines links data (bothS_k0 ) fuel1) e2_11 e2_12 = some y ∧ ff = [(0, .slice linesa (List.length lines) linescap), (1, .slice linksa (List.length links) linkscap), (2, .slice dataa (List.length data) datacap), (8, .pointer (some ⟨b1_0, 0, none⟩)), (9, .pointer (some ⟨b1_1, 0, none⟩)), (10, .int .i64 v0_10), (11, .int .i64 e2_11), (12, .int .i64 e2_12)] ∧ (RChA b1_1 v0_b1_1) :: (CacheA b1_0 v0_b1_0) :: Γ = ΔΔ) (by kernel_rfl) ?_ ?_
   ·rintro _ _ ⟨e2_11, e2_12, H, rfl, rfl⟩
    rw [bothS_j2] at H
    refine at_seq_join (x := C7 [1,1,0,1,0,0,1,0,0,1,1,0]) (y := C7 [1,1,0,1,0,0,1,0,0,1,1,1]) (fun ff ΔΔ => ∃ (b8_19 : Nat) (y8_18 : Ent) (a8_18_00 : Option Addr) (c8_18_00 : Nat), bothS_j3 v0_b1_0 y8_18 v0_b1_1 v0_10 (bothS_l0 lines links data (bothS_k0 ) fuel1) = some y ∧ ff = [(0, .slice linesa (List.length lines) linescap), (1, .slice linksa (List.length links) linkscap), (2, .slice dataa (List.length data) datacap), (8, .pointer (some ⟨b1_0, 0, none⟩)), (9, .pointer (some ⟨b1_1, 0, none⟩)), (10, .int .i64 v0_10), (13, .pointer (some ⟨b8_19, 0, none⟩))] ∧ (Asn.own b8_19 (.cells #[.int .i64 y8_18.fwd, .int .i64 y8_18.back, .int .i64 y8_18.line, .int .i64 y8_18.used, .bool y8_18.dirty, .slice a8_18_00 (List.length y8_18.data) c8_18_00] 46 (0, 0))) :: (IntsA a8_18_00 c8_18_00 y8_18.data) :: (RChA b1_1 v0_b1_1) :: (CacheA b1_0 v0_b1_0) :: Γ = ΔΔ) (by kernel_rfl) ?_ ?_
    ·rintro _ _ ⟨b8_19, y8_18, a8_18_00, c8_18_00, H, rfl, rfl⟩
     rw [bothS_j3] at H
     refine aq (x := C7 [1,1,0,1,0,0,1,0,0,1,1,1,0]) (y := C7 [1,1,0,1,0,0,1,0,0,1,1,1,1]) ?_
     refine ar (id := 9) 3 ?_
     refine sp 66 (.pointer (some ⟨b1_0, 0, none⟩)) ?_
     refine sl 67 (.agg #[.int .i64 y8_18.fwd, .int .i64 y8_18.back, .int .i64 y8_18.line, .int .i64 y8_18.used, .bool y8_18.dirty, .slice a8_18_00 (List.length y8_18.data) c8_18_00]) (loadN (off := 0) (vs := [.int .i64 y8_18.fwd, .int .i64 y8_18.back, .int .i64 y8_18.line, .int .i64 y8_18.used, .bool y8_18.dirty, .slice a8_18_00 (List.length y8_18.data) c8_18_00]) 6 (fun _ => by kernel_rfl) (holds_own .here) rfl (by exact ⟨rfl, rfl, rfl, rfl, rfl, rfl, trivial⟩)) ?_
     obtain ⟨y9_2, hy9_2, H⟩ := bindE H
     refine s_call 68 33 #[.pointer (some ⟨b1_0, 0, none⟩), .agg #[.int .i64 y8_18.fwd, .int .i64 y8_18.back, .int .i64 y8_18.line, .int .i64 y8_18.used, .bool y8_18.dirty, .slice a8_18_00 (List.length y8_18.data) c8_18_00]] (by kernel_rfl) (by kernel_rfl) (fun _ => by kernel_rfl) (Tr.conv (Γ' := (CacheA b1_0 v0_b1_0) :: (Asn.own b8_19 (.cells #[.int .i64 y8_18.fwd, .int .i64 y8_18.back, .int .i64 y8_18.line, .int .i64 y8_18.used, .bool y8_18.dirty, .slice a8_18_00 (List.length y8_18.data) c8_18_00] 46 (0, 0))) :: (IntsA a8_18_00 c8_18_00 y8_18.data) :: (RChA b1_1 v0_b1_1) :: Γ) (fun w hw => (Sat.less (.take (.there (.there (.there .here))) (.take .here (.take .here (.take .here .refl)))) hw)) (PutF_tr b1_0 v0_b1_0 a8_18_00 c8_18_00 y8_18 (RowsA.reads (k := 1) (.there .here)) y9_2 hy9_2)) ?_
     rintro _ _ ⟨rfl, rfl⟩
     refine ops_end ?_
     refine ae [(0, .slice linesa (List.length lines) linescap), (1, .slice linksa (List.length links) linkscap), (2, .slice dataa (List.length data) datacap), (8, .pointer (some ⟨b1_0, 0, none⟩)), (9, .pointer (some ⟨b1_1, 0, none⟩)), (10, .int .i64 v0_10), (13, .pointer (some ⟨b8_19, 0, none⟩))] ?_
     refine at_then_normal ?_
     refine ar (id := 10) 4 ?_
     refine sp 69 (.pointer (some ⟨b1_1, 0, none⟩)) ?_
     refine sl 70 (.agg #[.int .i64 y8_18.fwd, .int .i64 y8_18.back, .int .i64 y8_18.line, .int .i64 y8_18.used, .bool y8_18.dirty, .slice a8_18_00 (List.length y8_18.data) c8_18_00]) (loadN (off := 0) (vs := [.int .i64 y8_18.fwd, .int .i64 y8_18.back, .int .i64 y8_18.line, .int .i64 y8_18.used, .bool y8_18.dirty, .slice a8_18_00 (List.length y8_18.data) c8_18_00]) 6 (fun _ => by kernel_rfl) (holds_own (.there .here)) rfl (by exact ⟨rfl, rfl, rfl, rfl, rfl, rfl, trivial⟩)) ?_
     refine s_call 71 35 #[.agg #[.int .i64 y8_18.fwd, .int .i64 y8_18.back, .int .i64 y8_18.line, .int .i64 y8_18.used, .bool y8_18.dirty, .slice a8_18_00 (List.length y8_18.data) c8_18_00]] (by kernel_rfl) (by kernel_rfl) (fun _ => by kernel_rfl) (Ref_tr y8_18.fwd y8_18.back y8_18.line y8_18.used y8_18.dirty a8_18_00 (List.length y8_18.data) c8_18_00 ) ?_
     rintro _ _ ⟨rfl, rfl⟩
     obtain ⟨y10_3, hy10_3, H⟩ := bindE H
     refine s_call 72 34 #[.pointer (some ⟨b1_1, 0, none⟩), .agg #[.int .i64 y8_18.fwd, .int .i64 y8_18.back, .int .i64 y8_18.line, .int .i64 y8_18.used, .bool y8_18.dirty, .slice a8_18_00 (List.length y8_18.data) c8_18_00]] (by kernel_rfl) (by kernel_rfl) (fun _ => by kernel_rfl) (Tr.conv (Γ' := (RChA b1_1 v0_b1_1) :: (CacheA b1_0 y9_2.2) :: (Asn.own b8_19 (.cells #[.int .i64 y8_18.fwd, .int .i64 y8_18.back, .int .i64 y8_18.line, .int .i64 y8_18.used, .bool y8_18.dirty, .slice a8_18_00 (List.length y8_18.data) c8_18_00] 46 (0, 0))) :: (IntsA a8_18_00 c8_18_00 y8_18.data) :: Γ) (fun w hw => (Sat.less (.take (.there (.there (.there .here))) (.take .here (.take .here (.take .here .refl)))) hw)) (RPutF_tr b1_1 v0_b1_1 a8_18_00 c8_18_00 y8_18 (RowsA.reads (k := 1) (.there (.there .here))) y10_3 hy10_3)) ?_
     rintro _ _ ⟨rfl, rfl⟩
     refine ops_end ?_
     refine ae [(0, .slice linesa (List.length lines) linescap), (1, .slice linksa (List.length links) linkscap), (2, .slice dataa (List.length data) datacap), (8, .pointer (some ⟨b1_0, 0, none⟩)), (9, .pointer (some ⟨b1_1, 0, none⟩)), (10, .int .i64 v0_10)] ?_
     refine at_in_normal ?_
     refine at_then_normal ?_
     refine ar (id := 4) 3 ?_
     refine sp 28 (.int .i64 v0_10) ?_
     obtain ⟨hc4_1_0, H⟩ := chkE H
     refine sr 29 (.int .i64 (v0_10 + (1 : Int))) (run_eq (v := .int .i64 (IntKind.i64.wrap (v0_10 + (1 : Int)))) (fun _ => by kernel_rfl) (by rw [inR.wrap hc4_1_0])) ?_
     refine sp 10 (.int .i64 (v0_10 + (1 : Int))) ?_
     refine ops_end ?_
     refine ae [(0, .slice linesa (List.length lines) linescap), (1, .slice linksa (List.length links) linkscap), (2, .slice dataa (List.length data) datacap), (8, .pointer (some ⟨b1_0, 0, none⟩)), (9, .pointer (some ⟨b1_1, 0, none⟩)), (10, .int .i64 (v0_10 + (1 : Int)))] ?_
     refine at_round_normal ?_
     exact at_roundR fuel1 [(0, .slice linesa (List.length lines) linescap), (1, .slice linksa (List.length links) linkscap), (2, .slice dataa (List.length data) datacap), (8, .pointer (some ⟨b1_0, 0, none⟩)), (9, .pointer (some ⟨b1_1, 0, none⟩)), (10, .int .i64 (v0_10 + (1 : Int)))] ((RChA b1_1 y10_3.2) :: (CacheA b1_0 y9_2.2) :: Γ) (Nat.lt_succ_self _) ⟨by kernel_rfl, by kernel_rfl, by kernel_rfl, by kernel_rfl, by kernel_rfl, by kernel_rfl, trivial⟩ (fun w hw => (Sat.less (.take .here (.take .here (.drop .here (.drop .here .refl)))) hw)) ⟨fuel1, v0_10 + (1 : Int), y10_3.2, y9_2.2, H, rfl, rfl, rfl⟩
    ·refine at_region_draw (id := 8) (by kernel_rfl) (by kernel_rfl) ?_
     refine dp 0 47 (.slice linesa (List.length lines) linescap) ?_
     refine dp 1 48 (.int .i64 v0_10) ?_
     obtain ⟨hc8_2_0, H⟩ := chkE H
     refine reads_at_draw (Reads.conv (fun w hw => hw.less (.drop .here (.drop .here .refl))) hrlinesa) (by have := hc8_2_0; omega) ?_
     intro bb1 oo1 ha1
     refine d_pure 2 49 (.pointer (some ⟨bb1, oo1 + ((v0_10).toNat * 1 + 0), none⟩)) (by kernel_rfl) (by kernel_rfl) (by kernel_rfl) (index_at (t := 22) (sz := 1) (E := 3) (a := linesa) (m := (List.length lines)) (c := linescap) (b := bb1) (off := oo1) (i := (v0_10).toNat) (tinfo 3) (fun _ => by kernel_rfl) (by kernel_rfl) (by kernel_rfl) (by kernel_rfl) ha1 (idx_cast hc8_2_0) (idx_nat hc8_2_0) rfl) ?_
     refine dl 3 50 (.int .i64 (nth lines v0_10)) (load1_at (off := oo1 + ((v0_10).toNat * 1 + 0)) (v := .int .i64 (nth lines v0_10)) (fun _ => by kernel_rfl) rfl (reads_cell (k := 1) (Reads.conv (fun w hw => hw.less (.drop .here (.drop .here .refl))) hrlinesa) (ints_rows _) ha1 (nth_row hc8_2_0) (show [(.int .i64 (nth lines v0_10) : Value)][0]? = some _ from rfl))) ?_
     obtain ⟨y8_4, hy8_4, H⟩ := bindE H
     refine d_quiet 4 51 (.int .i64 y8_4) 8 #[.int .i64 (nth lines v0_10), .int .i64 (4)] (by kernel_rfl) (by kernel_rfl) (by kernel_rfl) (fun _ => by kernel_rfl) (fun _ => (WithinF_tr (nth lines v0_10) (4 : Int) y8_4 hy8_4)) ?_
     refine dp 5 52 (.int .i64 e2_11) ?_
     refine dp 6 53 (.int .i64 e2_12) ?_
     refine dp 7 54 (.slice linesa (List.length lines) linescap) ?_
     refine dp 8 55 (.int .i64 v0_10) ?_
     obtain ⟨hc8_9_0, H⟩ := chkE H
     refine d_pure 9 56 (.pointer (some ⟨bb1, oo1 + ((v0_10).toNat * 1 + 0), none⟩)) (by kernel_rfl) (by kernel_rfl) (by kernel_rfl) (index_at (t := 22) (sz := 1) (E := 3) (a := linesa) (m := (List.length lines)) (c := linescap) (b := bb1) (off := oo1) (i := (v0_10).toNat) (tinfo 3) (fun _ => by kernel_rfl) (by kernel_rfl) (by kernel_rfl) (by kernel_rfl) ha1 (idx_cast hc8_9_0) (idx_nat hc8_9_0) rfl) ?_
     refine dl 10 57 (.int .i64 (nth lines v0_10)) (load1_at (off := oo1 + ((v0_10).toNat * 1 + 0)) (v := .int .i64 (nth lines v0_10)) (fun _ => by kernel_rfl) rfl (reads_cell (k := 1) (Reads.conv (fun w hw => hw.less (.drop .here (.drop .here .refl))) hrlinesa) (ints_rows _) ha1 (nth_row hc8_9_0) (show [(.int .i64 (nth lines v0_10) : Value)][0]? = some _ from rfl))) ?_
     refine d_pure 11 58 (.int .i64 ((nth lines v0_10).tmod (5 : Int))) (by kernel_rfl) (by kernel_rfl) (by kernel_rfl) (run_remP (a := nth lines v0_10) (b := 5) (fun _ => by kernel_rfl) (by decide)) ?_
     refine dp 12 59 (.bool (decide (((nth lines v0_10).tmod (5 : Int)) = (0 : Int)))) ?_
     refine dp 13 60 (.slice dataa (List.length data) datacap) ?_
     refine dp 14 61 (.int .i64 v0_10) ?_
     refine d_pure 15 62 (.int .i64 (v0_10.tmod (3 : Int))) (by kernel_rfl) (by kernel_rfl) (by kernel_rfl) (run_remP (a := v0_10) (b := 3) (fun _ => by kernel_rfl) (by decide)) ?_
     obtain ⟨hc8_16_0, H⟩ := chkE H
     refine d_pure 16 63 (.int .i64 ((1 : Int) + (v0_10.tmod (3 : Int)))) (by kernel_rfl) (by kernel_rfl) (by kernel_rfl) (run_eq (v := .int .i64 (IntKind.i64.wrap ((1 : Int) + (v0_10.tmod (3 : Int))))) (fun _ => by kernel_rfl) (by rw [inR.wrap hc8_16_0])) ?_
     refine draw_turns 17 [19] (by kernel_rfl) (turns_cons ?_ (turns_cons ?_ turns_nil))
     ·obtain ⟨y8_17, hy8_17, H⟩ := bindE H
      refine t_call 17 64 [13, 16, 4, 15, 3, 14, 2, 0, 1] [12, 11, 9, 8, 7, 6, 5] [10] 32 #[.slice dataa (List.length data) datacap, .int .i64 ((1 : Int) + (v0_10.tmod (3 : Int)))] (by kernel_rfl) (by kernel_rfl) (by kernel_rfl) (fun _ => by kernel_rfl) (CutF_tr dataa datacap data ((1 : Int) + (v0_10.tmod (3 : Int))) (Reads.conv (fun w hw => hw.less (.drop .here (.drop .here .refl))) hrdataa) hcdataa y8_17 hy8_17) ?_
      rintro _ _ ⟨a8_17_00, c8_17_00, rfl, rfl⟩
      refine ⟨(stable_cons 10 57 (.int .i64 (nth lines v0_10)) (by kernel_rfl) (by kernel_rfl) (by kernel_rfl) (load1_at (off := oo1 + ((v0_10).toNat * 1 + 0)) (v := .int .i64 (nth lines v0_10)) (fun _ => by kernel_rfl) rfl (reads_cell (k := 1) (Reads.conv (fun w hw => hw.less (.drop .here (.drop .here (.drop .here .refl)))) hrlinesa) (ints_rows _) ha1 (nth_row hc8_9_0) (show [(.int .i64 (nth lines v0_10) : Value)][0]? = some _ from rfl))) stable_nil), ?_⟩
      refine draw_turns 18 [19] (by kernel_rfl) (turns_cons ?_ (turns_cons ?_ turns_nil))
      ·obtain ⟨y8_18, hy8_18, H⟩ := bindE H
       refine t_call 18 65 [4, 5, 6, 12, 17, 3, 11, 13, 16, 2, 10, 15, 0, 1, 9, 14, 7, 8] [] [] 31 #[.int .i64 y8_4, .int .i64 e2_11, .int .i64 e2_12, .bool (decide (((nth lines v0_10).tmod (5 : Int)) = (0 : Int))), .slice a8_17_00 (List.length y8_17) c8_17_00] (by kernel_rfl) (by kernel_rfl) (by kernel_rfl) (fun _ => by kernel_rfl) (ENewF_tr y8_4 e2_11 e2_12 (decide (((nth lines v0_10).tmod (5 : Int)) = (0 : Int))) a8_17_00 c8_17_00 y8_17 (RowsA.reads (k := 1) .here) y8_18 hy8_18) ?_
       rintro _ _ ⟨a8_18_00, c8_18_00, rfl, rfl⟩
       refine ⟨stable_nil, ?_⟩
       refine d_step 19 13 [] [] [] (by kernel_rfl) (by kernel_rfl) (by kernel_rfl) (st_new (T := 46) (cells := #[.int .i64 (0), .int .i64 (0), .int .i64 (0), .int .i64 (0), .bool false, .slice none 0 0]) (fun a => .pointer (some a)) (fun _ => by kernel_rfl)) ?_
       rintro _ _ ⟨b8_19, rfl, rfl⟩
       refine ⟨stable_nil, ?_⟩
       refine d_do 20 [19, 18, 0, 1, 2, 3, 4, 5, 6, 7, 8, 9, 10, 11, 12, 13, 14, 15, 16, 17] [] [] (by kernel_rfl) (by kernel_rfl) (by kernel_rfl) (st_store (off := 0) (vs := [.int .i64 y8_18.fwd, .int .i64 y8_18.back, .int .i64 y8_18.line, .int .i64 y8_18.used, .bool y8_18.dirty, .slice a8_18_00 (List.length y8_18.data) c8_18_00]) (c' := #[.int .i64 y8_18.fwd, .int .i64 y8_18.back, .int .i64 y8_18.line, .int .i64 y8_18.used, .bool y8_18.dirty, .slice a8_18_00 (List.length y8_18.data) c8_18_00]) (fun _ => by kernel_rfl) .here (by kernel_rfl) (by kernel_rfl) (by kernel_rfl)) ?_
       rintro _ _ ⟨rfl, rfl⟩
       refine ⟨stable_nil, ?_⟩
       refine draw_end (by kernel_rfl) ?_
       refine ae [(0, .slice linesa (List.length lines) linescap), (1, .slice linksa (List.length links) linkscap), (2, .slice dataa (List.length data) datacap), (8, .pointer (some ⟨b1_0, 0, none⟩)), (9, .pointer (some ⟨b1_1, 0, none⟩)), (10, .int .i64 v0_10), (13, .pointer (some ⟨b8_19, 0, none⟩))] ?_
       refine at_round_normal ?_
       exact at_join_mk [(0, .slice linesa (List.length lines) linescap), (1, .slice linksa (List.length links) linkscap), (2, .slice dataa (List.length data) datacap), (8, .pointer (some ⟨b1_0, 0, none⟩)), (9, .pointer (some ⟨b1_1, 0, none⟩)), (10, .int .i64 v0_10), (13, .pointer (some ⟨b8_19, 0, none⟩))] ((Asn.own b8_19 (.cells #[.int .i64 y8_18.fwd, .int .i64 y8_18.back, .int .i64 y8_18.line, .int .i64 y8_18.used, .bool y8_18.dirty, .slice a8_18_00 (List.length y8_18.data) c8_18_00] 46 (0, 0))) :: (IntsA a8_18_00 c8_18_00 y8_18.data) :: (RChA b1_1 v0_b1_1) :: (CacheA b1_0 v0_b1_0) :: Γ) ⟨by kernel_rfl, by kernel_rfl, by kernel_rfl, by kernel_rfl, by kernel_rfl, by kernel_rfl, by kernel_rfl, trivial⟩ (fun w hw => (Sat.less (.take .here (.take .here (.take (.there .here) (.take (.there .here) (.drop .here .refl))))) hw)) ⟨b8_19, y8_18, a8_18_00, c8_18_00, H, rfl, rfl⟩
      ·refine t_step 19 13 [] [12, 11, 9, 8, 7, 6, 5] [10] (by kernel_rfl) (by kernel_rfl) (by kernel_rfl) (st_new (T := 46) (cells := #[.int .i64 (0), .int .i64 (0), .int .i64 (0), .int .i64 (0), .bool false, .slice none 0 0]) (fun a => .pointer (some a)) (fun _ => by kernel_rfl)) ?_
       rintro _ _ ⟨b8_19, rfl, rfl⟩
       refine ⟨(stable_cons 10 57 (.int .i64 (nth lines v0_10)) (by kernel_rfl) (by kernel_rfl) (by kernel_rfl) (load1_at (off := oo1 + ((v0_10).toNat * 1 + 0)) (v := .int .i64 (nth lines v0_10)) (fun _ => by kernel_rfl) rfl (reads_cell (k := 1) (Reads.conv (fun w hw => hw.less (.drop .here (.drop .here (.drop .here (.drop .here .refl))))) hrlinesa) (ints_rows _) ha1 (nth_row hc8_9_0) (show [(.int .i64 (nth lines v0_10) : Value)][0]? = some _ from rfl))) stable_nil), ?_⟩
       obtain ⟨y8_18, hy8_18, H⟩ := bindE H
       refine d_call 18 65 [4, 5, 6, 12, 17, 3, 11, 13, 16, 2, 10, 15, 0, 1, 9, 14, 7, 8] [] [] 31 #[.int .i64 y8_4, .int .i64 e2_11, .int .i64 e2_12, .bool (decide (((nth lines v0_10).tmod (5 : Int)) = (0 : Int))), .slice a8_17_00 (List.length y8_17) c8_17_00] (by kernel_rfl) (by kernel_rfl) (by kernel_rfl) (fun _ => by kernel_rfl) (ENewF_tr y8_4 e2_11 e2_12 (decide (((nth lines v0_10).tmod (5 : Int)) = (0 : Int))) a8_17_00 c8_17_00 y8_17 (RowsA.reads (k := 1) (.there .here)) y8_18 hy8_18) ?_
       rintro _ _ ⟨a8_18_00, c8_18_00, rfl, rfl⟩
       refine ⟨stable_nil, ?_⟩
       refine d_do 20 [19, 18, 0, 1, 2, 3, 4, 5, 6, 7, 8, 9, 10, 11, 12, 13, 14, 15, 16, 17] [] [] (by kernel_rfl) (by kernel_rfl) (by kernel_rfl) (st_store (off := 0) (vs := [.int .i64 y8_18.fwd, .int .i64 y8_18.back, .int .i64 y8_18.line, .int .i64 y8_18.used, .bool y8_18.dirty, .slice a8_18_00 (List.length y8_18.data) c8_18_00]) (c' := #[.int .i64 y8_18.fwd, .int .i64 y8_18.back, .int .i64 y8_18.line, .int .i64 y8_18.used, .bool y8_18.dirty, .slice a8_18_00 (List.length y8_18.data) c8_18_00]) (fun _ => by kernel_rfl) (.there .here) (by kernel_rfl) (by kernel_rfl) (by kernel_rfl)) ?_
       rintro _ _ ⟨rfl, rfl⟩
       refine ⟨stable_nil, ?_⟩
       refine draw_end (by kernel_rfl) ?_
       refine ae [(0, .slice linesa (List.length lines) linescap), (1, .slice linksa (List.length links) linkscap), (2, .slice dataa (List.length data) datacap), (8, .pointer (some ⟨b1_0, 0, none⟩)), (9, .pointer (some ⟨b1_1, 0, none⟩)), (10, .int .i64 v0_10), (13, .pointer (some ⟨b8_19, 0, none⟩))] ?_
       refine at_round_normal ?_
       exact at_join_mk [(0, .slice linesa (List.length lines) linescap), (1, .slice linksa (List.length links) linkscap), (2, .slice dataa (List.length data) datacap), (8, .pointer (some ⟨b1_0, 0, none⟩)), (9, .pointer (some ⟨b1_1, 0, none⟩)), (10, .int .i64 v0_10), (13, .pointer (some ⟨b8_19, 0, none⟩))] ((Asn.own b8_19 (.cells #[.int .i64 y8_18.fwd, .int .i64 y8_18.back, .int .i64 y8_18.line, .int .i64 y8_18.used, .bool y8_18.dirty, .slice a8_18_00 (List.length y8_18.data) c8_18_00] 46 (0, 0))) :: (IntsA a8_18_00 c8_18_00 y8_18.data) :: (RChA b1_1 v0_b1_1) :: (CacheA b1_0 v0_b1_0) :: Γ) ⟨by kernel_rfl, by kernel_rfl, by kernel_rfl, by kernel_rfl, by kernel_rfl, by kernel_rfl, by kernel_rfl, trivial⟩ (fun w hw => (Sat.less (.take .here (.take .here (.take (.there .here) (.take (.there .here) (.drop .here .refl))))) hw)) ⟨b8_19, y8_18, a8_18_00, c8_18_00, H, rfl, rfl⟩
     ·refine t_step 19 13 [] [16, 15, 14, 13, 12, 11, 9, 8, 7, 6, 5, 4, 2, 1, 0] [10, 3] (by kernel_rfl) (by kernel_rfl) (by kernel_rfl) (st_new (T := 46) (cells := #[.int .i64 (0), .int .i64 (0), .int .i64 (0), .int .i64 (0), .bool false, .slice none 0 0]) (fun a => .pointer (some a)) (fun _ => by kernel_rfl)) ?_
      rintro _ _ ⟨b8_19, rfl, rfl⟩
      refine ⟨(stable_cons 10 57 (.int .i64 (nth lines v0_10)) (by kernel_rfl) (by kernel_rfl) (by kernel_rfl) (load1_at (off := oo1 + ((v0_10).toNat * 1 + 0)) (v := .int .i64 (nth lines v0_10)) (fun _ => by kernel_rfl) rfl (reads_cell (k := 1) (Reads.conv (fun w hw => hw.less (.drop .here (.drop .here (.drop .here .refl)))) hrlinesa) (ints_rows _) ha1 (nth_row hc8_9_0) (show [(.int .i64 (nth lines v0_10) : Value)][0]? = some _ from rfl))) (stable_cons 3 50 (.int .i64 (nth lines v0_10)) (by kernel_rfl) (by kernel_rfl) (by kernel_rfl) (load1_at (off := oo1 + ((v0_10).toNat * 1 + 0)) (v := .int .i64 (nth lines v0_10)) (fun _ => by kernel_rfl) rfl (reads_cell (k := 1) (Reads.conv (fun w hw => hw.less (.drop .here (.drop .here (.drop .here .refl)))) hrlinesa) (ints_rows _) ha1 (nth_row hc8_2_0) (show [(.int .i64 (nth lines v0_10) : Value)][0]? = some _ from rfl))) stable_nil)), ?_⟩
      obtain ⟨y8_17, hy8_17, H⟩ := bindE H
      refine d_call 17 64 [13, 16, 4, 15, 3, 14, 2, 0, 1] [12, 11, 9, 8, 7, 6, 5] [10] 32 #[.slice dataa (List.length data) datacap, .int .i64 ((1 : Int) + (v0_10.tmod (3 : Int)))] (by kernel_rfl) (by kernel_rfl) (by kernel_rfl) (fun _ => by kernel_rfl) (CutF_tr dataa datacap data ((1 : Int) + (v0_10.tmod (3 : Int))) (Reads.conv (fun w hw => hw.less (.drop .here (.drop .here (.drop .here .refl)))) hrdataa) hcdataa y8_17 hy8_17) ?_
      rintro _ _ ⟨a8_17_00, c8_17_00, rfl, rfl⟩
      refine ⟨(stable_cons 10 57 (.int .i64 (nth lines v0_10)) (by kernel_rfl) (by kernel_rfl) (by kernel_rfl) (load1_at (off := oo1 + ((v0_10).toNat * 1 + 0)) (v := .int .i64 (nth lines v0_10)) (fun _ => by kernel_rfl) rfl (reads_cell (k := 1) (Reads.conv (fun w hw => hw.less (.drop .here (.drop .here (.drop .here (.drop .here .refl))))) hrlinesa) (ints_rows _) ha1 (nth_row hc8_9_0) (show [(.int .i64 (nth lines v0_10) : Value)][0]? = some _ from rfl))) stable_nil), ?_⟩
      obtain ⟨y8_18, hy8_18, H⟩ := bindE H
      refine d_call 18 65 [4, 5, 6, 12, 17, 3, 11, 13, 16, 2, 10, 15, 0, 1, 9, 14, 7, 8] [] [] 31 #[.int .i64 y8_4, .int .i64 e2_11, .int .i64 e2_12, .bool (decide (((nth lines v0_10).tmod (5 : Int)) = (0 : Int))), .slice a8_17_00 (List.length y8_17) c8_17_00] (by kernel_rfl) (by kernel_rfl) (by kernel_rfl) (fun _ => by kernel_rfl) (ENewF_tr y8_4 e2_11 e2_12 (decide (((nth lines v0_10).tmod (5 : Int)) = (0 : Int))) a8_17_00 c8_17_00 y8_17 (RowsA.reads (k := 1) .here) y8_18 hy8_18) ?_
      rintro _ _ ⟨a8_18_00, c8_18_00, rfl, rfl⟩
      refine ⟨stable_nil, ?_⟩
      refine d_do 20 [19, 18, 0, 1, 2, 3, 4, 5, 6, 7, 8, 9, 10, 11, 12, 13, 14, 15, 16, 17] [] [] (by kernel_rfl) (by kernel_rfl) (by kernel_rfl) (st_store (off := 0) (vs := [.int .i64 y8_18.fwd, .int .i64 y8_18.back, .int .i64 y8_18.line, .int .i64 y8_18.used, .bool y8_18.dirty, .slice a8_18_00 (List.length y8_18.data) c8_18_00]) (c' := #[.int .i64 y8_18.fwd, .int .i64 y8_18.back, .int .i64 y8_18.line, .int .i64 y8_18.used, .bool y8_18.dirty, .slice a8_18_00 (List.length y8_18.data) c8_18_00]) (fun _ => by kernel_rfl) (.there (.there .here)) (by kernel_rfl) (by kernel_rfl) (by kernel_rfl)) ?_
      rintro _ _ ⟨rfl, rfl⟩
      refine ⟨stable_nil, ?_⟩
      refine draw_end (by kernel_rfl) ?_
      refine ae [(0, .slice linesa (List.length lines) linescap), (1, .slice linksa (List.length links) linkscap), (2, .slice dataa (List.length data) datacap), (8, .pointer (some ⟨b1_0, 0, none⟩)), (9, .pointer (some ⟨b1_1, 0, none⟩)), (10, .int .i64 v0_10), (13, .pointer (some ⟨b8_19, 0, none⟩))] ?_
      refine at_round_normal ?_
      exact at_join_mk [(0, .slice linesa (List.length lines) linescap), (1, .slice linksa (List.length links) linkscap), (2, .slice dataa (List.length data) datacap), (8, .pointer (some ⟨b1_0, 0, none⟩)), (9, .pointer (some ⟨b1_1, 0, none⟩)), (10, .int .i64 v0_10), (13, .pointer (some ⟨b8_19, 0, none⟩))] ((Asn.own b8_19 (.cells #[.int .i64 y8_18.fwd, .int .i64 y8_18.back, .int .i64 y8_18.line, .int .i64 y8_18.used, .bool y8_18.dirty, .slice a8_18_00 (List.length y8_18.data) c8_18_00] 46 (0, 0))) :: (IntsA a8_18_00 c8_18_00 y8_18.data) :: (RChA b1_1 v0_b1_1) :: (CacheA b1_0 v0_b1_0) :: Γ) ⟨by kernel_rfl, by kernel_rfl, by kernel_rfl, by kernel_rfl, by kernel_rfl, by kernel_rfl, by kernel_rfl, trivial⟩ (fun w hw => (Sat.less (.take .here (.take .here (.take (.there .here) (.take (.there .here) (.drop .here .refl))))) hw)) ⟨b8_19, y8_18, a8_18_00, c8_18_00, H, rfl, rfl⟩
   ·refine aq (x := C7 [1,1,0,1,0,0,1,0,0,1,0,0]) (y := C7 [1,1,0,1,0,0,1,0,0,1,0,1]) ?_
    refine ar (id := 6) 4 ?_
    refine sp 30 (.int .i64 v0_10) ?_
    refine sp 31 (.slice linksa (List.length links) linkscap) ?_
    refine sp 32 (.int .i64 (((List.length links) : Nat) : Int)) ?_
    refine sp 33 (.bool (decide (v0_10 < (((List.length links) : Nat) : Int)))) ?_
    refine ops_end ?_
    refine ae [(0, .slice linesa (List.length lines) linescap), (1, .slice linksa (List.length links) linkscap), (2, .slice dataa (List.length data) datacap), (8, .pointer (some ⟨b1_0, 0, none⟩)), (9, .pointer (some ⟨b1_1, 0, none⟩)), (10, .int .i64 v0_10), (11, .int .i64 (-1)), (12, .int .i64 (-1)), (33, .bool (decide (v0_10 < (((List.length links) : Nat) : Int))))] ?_
    refine at_then_normal ?_
    rcases Bool.eq_false_or_eq_true (decide (v0_10 < (((List.length links) : Nat) : Int))) with h2 | h2
    ·replace H := bifT H h2
     refine at_true (t := decide (v0_10 < (((List.length links) : Nat) : Int))) (x := C7 [1,1,0,1,0,0,1,0,0,1,0,1,0]) (y := C7 [1,1,0,1,0,0,1,0,0,1,0,1,1]) (o := .tmp 33) (by kernel_rfl) (by kernel_rfl) (by kernel_rfl) h2 ?_
     refine at_region_draw (id := 7) (by kernel_rfl) (by kernel_rfl) ?_
     refine dp 0 34 (.slice linksa (List.length links) linkscap) ?_
     refine dp 1 35 (.int .i64 v0_10) ?_
     obtain ⟨hc7_2_0, H⟩ := chkE H
     refine reads_at_draw (Reads.conv (fun w hw => hw.less (.drop .here (.drop .here .refl))) hrlinksa) (by have := hc7_2_0; omega) ?_
     intro bb2 oo2 ha2
     refine d_pure 2 36 (.pointer (some ⟨bb2, oo2 + ((v0_10).toNat * 1 + 0), none⟩)) (by kernel_rfl) (by kernel_rfl) (by kernel_rfl) (index_at (t := 22) (sz := 1) (E := 3) (a := linksa) (m := (List.length links)) (c := linkscap) (b := bb2) (off := oo2) (i := (v0_10).toNat) (tinfo 3) (fun _ => by kernel_rfl) (by kernel_rfl) (by kernel_rfl) (by kernel_rfl) ha2 (idx_cast hc7_2_0) (idx_nat hc7_2_0) rfl) ?_
     refine dl 3 37 (.int .i64 (nth links v0_10)) (load1_at (off := oo2 + ((v0_10).toNat * 1 + 0)) (v := .int .i64 (nth links v0_10)) (fun _ => by kernel_rfl) rfl (reads_cell (k := 1) (Reads.conv (fun w hw => hw.less (.drop .here (.drop .here .refl))) hrlinksa) (ints_rows _) ha2 (nth_row hc7_2_0) (show [(.int .i64 (nth links v0_10) : Value)][0]? = some _ from rfl))) ?_
     obtain ⟨y7_4, hy7_4, H⟩ := bindE H
     refine d_quiet 4 38 (.int .i64 y7_4) 8 #[.int .i64 (nth links v0_10), .int .i64 (5)] (by kernel_rfl) (by kernel_rfl) (by kernel_rfl) (fun _ => by kernel_rfl) (fun _ => (WithinF_tr (nth links v0_10) (5 : Int) y7_4 hy7_4)) ?_
     refine dp 5 39 (.int .i64 (wr (y7_4 - (1 : Int)))) ?_
     refine dp 6 40 (.slice linksa (List.length links) linkscap) ?_
     refine dp 7 41 (.int .i64 v0_10) ?_
     obtain ⟨hc7_8_0, H⟩ := chkE H
     refine d_pure 8 42 (.pointer (some ⟨bb2, oo2 + ((v0_10).toNat * 1 + 0), none⟩)) (by kernel_rfl) (by kernel_rfl) (by kernel_rfl) (index_at (t := 22) (sz := 1) (E := 3) (a := linksa) (m := (List.length links)) (c := linkscap) (b := bb2) (off := oo2) (i := (v0_10).toNat) (tinfo 3) (fun _ => by kernel_rfl) (by kernel_rfl) (by kernel_rfl) (by kernel_rfl) ha2 (idx_cast hc7_8_0) (idx_nat hc7_8_0) rfl) ?_
     refine dl 9 43 (.int .i64 (nth links v0_10)) (load1_at (off := oo2 + ((v0_10).toNat * 1 + 0)) (v := .int .i64 (nth links v0_10)) (fun _ => by kernel_rfl) rfl (reads_cell (k := 1) (Reads.conv (fun w hw => hw.less (.drop .here (.drop .here .refl))) hrlinksa) (ints_rows _) ha2 (nth_row hc7_8_0) (show [(.int .i64 (nth links v0_10) : Value)][0]? = some _ from rfl))) ?_
     refine d_pure 10 44 (.int .i64 (wr ((nth links v0_10).tdiv (5 : Int)))) (by kernel_rfl) (by kernel_rfl) (by kernel_rfl) (run_quoP (a := nth links v0_10) (b := 5) (fun _ => by kernel_rfl) (by decide)) ?_
     obtain ⟨y7_11, hy7_11, H⟩ := bindE H
     refine d_quiet 11 45 (.int .i64 y7_11) 8 #[.int .i64 (wr ((nth links v0_10).tdiv (5 : Int))), .int .i64 (5)] (by kernel_rfl) (by kernel_rfl) (by kernel_rfl) (fun _ => by kernel_rfl) (fun _ => (WithinF_tr (wr ((nth links v0_10).tdiv (5 : Int))) (5 : Int) y7_11 hy7_11)) ?_
     refine dp 12 46 (.int .i64 (wr (y7_11 - (1 : Int)))) ?_
     refine dp 13 11 (.int .i64 (wr (y7_4 - (1 : Int)))) ?_
     refine dp 14 12 (.int .i64 (wr (y7_11 - (1 : Int)))) ?_
     refine draw_end (by kernel_rfl) ?_
     refine ae [(0, .slice linesa (List.length lines) linescap), (1, .slice linksa (List.length links) linkscap), (2, .slice dataa (List.length data) datacap), (8, .pointer (some ⟨b1_0, 0, none⟩)), (9, .pointer (some ⟨b1_1, 0, none⟩)), (10, .int .i64 v0_10), (11, .int .i64 (wr (y7_4 - (1 : Int)))), (12, .int .i64 (wr (y7_11 - (1 : Int))))] ?_
     refine at_round_normal ?_
     exact at_join_mk [(0, .slice linesa (List.length lines) linescap), (1, .slice linksa (List.length links) linkscap), (2, .slice dataa (List.length data) datacap), (8, .pointer (some ⟨b1_0, 0, none⟩)), (9, .pointer (some ⟨b1_1, 0, none⟩)), (10, .int .i64 v0_10), (11, .int .i64 (wr (y7_4 - (1 : Int)))), (12, .int .i64 (wr (y7_11 - (1 : Int))))] ((RChA b1_1 v0_b1_1) :: (CacheA b1_0 v0_b1_0) :: Γ) ⟨by kernel_rfl, by kernel_rfl, by kernel_rfl, by kernel_rfl, by kernel_rfl, by kernel_rfl, by kernel_rfl, by kernel_rfl, trivial⟩ (fun w hw => (Sat.less (.take .here (.take .here .refl)) hw)) ⟨wr (y7_4 - (1 : Int)), wr (y7_11 - (1 : Int)), H, rfl, rfl⟩
    ·replace H := bifF H h2
     refine at_false (t := decide (v0_10 < (((List.length links) : Nat) : Int))) (x := C7 [1,1,0,1,0,0,1,0,0,1,0,1,0]) (y := C7 [1,1,0,1,0,0,1,0,0,1,0,1,1]) (o := .tmp 33) (by kernel_rfl) (by kernel_rfl) (by kernel_rfl) h2 ?_
     refine at_skip (by kernel_rfl) ?_
     refine at_round_normal ?_
     exact at_join_mk [(0, .slice linesa (List.length lines) linescap), (1, .slice linksa (List.length links) linkscap), (2, .slice dataa (List.length data) datacap), (8, .pointer (some ⟨b1_0, 0, none⟩)), (9, .pointer (some ⟨b1_1, 0, none⟩)), (10, .int .i64 v0_10), (11, .int .i64 (-1)), (12, .int .i64 (-1))] ((RChA b1_1 v0_b1_1) :: (CacheA b1_0 v0_b1_0) :: Γ) ⟨by kernel_rfl, by kernel_rfl, by kernel_rfl, by kernel_rfl, by kernel_rfl, by kernel_rfl, by kernel_rfl, by kernel_rfl, trivial⟩ (fun w hw => (Sat.less (.take .here (.take .here .refl)) hw)) ⟨(-1), (-1), H, rfl, rfl⟩
  ·replace H := bifF H h1
   refine at_false (t := e1_27) (x := C7 [1,1,0,1,0,0,0,1,0]) (y := C7 [1,1,0,1,0,0,0,1,1]) (o := .tmp 27) (by kernel_rfl) (by kernel_rfl) (by kernel_rfl) h1 ?_
   refine at_exit (i := 0) (by kernel_rfl) ?_
   refine at_then_exit ?_
   refine at_then_exit ?_
   rw [bothS_k0] at H
   refine ae [(0, .slice linesa (List.length lines) linescap), (1, .slice linksa (List.length links) linkscap), (2, .slice dataa (List.length data) datacap), (8, .pointer (some ⟨b1_0, 0, none⟩)), (9, .pointer (some ⟨b1_1, 0, none⟩)), (10, .int .i64 v0_10)] ?_
   refine At.conv (Γ' := (RChA b1_1 v0_b1_1) :: (CacheA b1_0 v0_b1_0) :: Γ) (fun w hw => (Sat.less (.take .here (.take .here .refl)) hw)) ?_
   refine at_in_here ?_
   refine at_then_normal ?_
   refine aq (x := C7 [1,1,1,0]) (y := C7 [1,1,1,1]) ?_
   refine ar (id := 11) 4 ?_
   refine sp 73 (.pointer (some ⟨b1_0, 0, none⟩)) ?_
   refine sp 74 (.pointer (some ⟨b1_1, 0, none⟩)) ?_
   refine sp 6 (.pointer (some ⟨b1_0, 0, none⟩)) ?_
   refine sp 7 (.pointer (some ⟨b1_1, 0, none⟩)) ?_
   refine ops_end ?_
   refine ae [(6, .pointer (some ⟨b1_0, 0, none⟩)), (7, .pointer (some ⟨b1_1, 0, none⟩))] ?_
   refine at_then_normal ?_
   refine at_ret (by kernel_rfl) ?_
   obtain rfl := someE H
   refine at_backR [.pointer (some ⟨b1_0, 0, none⟩), .pointer (some ⟨b1_1, 0, none⟩)] ((CacheA b1_0 v0_b1_0) :: (RChA b1_1 v0_b1_1) :: Γ) (rs := [.tmp 6, .tmp 7]) (by kernel_rfl) (.cons (.tmp (by kernel_rfl)) (.cons (.tmp (by kernel_rfl)) .nil)) (fun w hw => (Sat.less (.take (.there .here) (.take .here .refl)) hw)) ?_
   exact ⟨b1_0, b1_1, rfl, rfl⟩
 ·refine ar (id := 3) 12 ?_
  refine sp 16 (.pointer (some ⟨b1_0, 0, none⟩)) ?_
  refine sp 17 (.bool true) ?_
  refine sp 18 (.bool true) ?_
  refine sp 19 (.int .i64 v0_10) ?_
  refine sp 20 (.slice linesa (List.length lines) linescap) ?_
  refine sp 21 (.int .i64 (((List.length lines) : Nat) : Int)) ?_
  refine sp 22 (.bool (decide (v0_10 < (((List.length lines) : Nat) : Int)))) ?_
  refine sp 23 (.bool (decide (v0_10 < (((List.length lines) : Nat) : Int)))) ?_
  rcases Bool.eq_false_or_eq_true (decide (v0_10 < (((List.length lines) : Nat) : Int))) with h3 | h3
  ·replace H := bifT H h3
   refine sr 24 (.bool true) (run_eq (v := .bool (decide (v0_10 < (((List.length lines) : Nat) : Int)))) (fun _ => by kernel_rfl) (congrArg Value.bool h3)) ?_
   refine sp 25 (.int .i64 v0_10) ?_
   refine sp 26 (.bool (decide (v0_10 < (5 : Int)))) ?_
   refine sp 27 (.bool (decide (v0_10 < (5 : Int)))) ?_
   refine ops_end ?_
   refine ae [(0, .slice linesa (List.length lines) linescap), (1, .slice linksa (List.length links) linkscap), (2, .slice dataa (List.length data) datacap), (8, .pointer (some ⟨b1_0, 0, none⟩)), (9, .pointer (some ⟨b1_1, 0, none⟩)), (10, .int .i64 v0_10), (27, .bool (decide (v0_10 < (5 : Int))))] ?_
   refine at_round_normal ?_
   exact at_join_mk [(0, .slice linesa (List.length lines) linescap), (1, .slice linksa (List.length links) linkscap), (2, .slice dataa (List.length data) datacap), (8, .pointer (some ⟨b1_0, 0, none⟩)), (9, .pointer (some ⟨b1_1, 0, none⟩)), (10, .int .i64 v0_10), (27, .bool (decide (v0_10 < (5 : Int))))] ((RChA b1_1 v0_b1_1) :: (CacheA b1_0 v0_b1_0) :: Γ) ⟨by kernel_rfl, by kernel_rfl, by kernel_rfl, by kernel_rfl, by kernel_rfl, by kernel_rfl, by kernel_rfl, trivial⟩ (fun w hw => (Sat.less (.take .here (.take .here .refl)) hw)) ⟨decide (v0_10 < (5 : Int)), H, rfl, rfl⟩
  ·replace H := bifF H h3
   refine sr 24 (.bool false) (run_eq (v := .bool (decide (v0_10 < (((List.length lines) : Nat) : Int)))) (fun _ => by kernel_rfl) (congrArg Value.bool h3)) ?_
   refine sa 25 ?_
   refine sa 26 ?_
   refine sp 27 (.bool false) ?_
   refine ops_end ?_
   refine ae [(0, .slice linesa (List.length lines) linescap), (1, .slice linksa (List.length links) linkscap), (2, .slice dataa (List.length data) datacap), (8, .pointer (some ⟨b1_0, 0, none⟩)), (9, .pointer (some ⟨b1_1, 0, none⟩)), (10, .int .i64 v0_10), (27, .bool false)] ?_
   refine at_round_normal ?_
   exact at_join_mk [(0, .slice linesa (List.length lines) linescap), (1, .slice linksa (List.length links) linkscap), (2, .slice dataa (List.length data) datacap), (8, .pointer (some ⟨b1_0, 0, none⟩)), (9, .pointer (some ⟨b1_1, 0, none⟩)), (10, .int .i64 v0_10), (27, .bool false)] ((RChA b1_1 v0_b1_1) :: (CacheA b1_0 v0_b1_0) :: Γ) ⟨by kernel_rfl, by kernel_rfl, by kernel_rfl, by kernel_rfl, by kernel_rfl, by kernel_rfl, by kernel_rfl, trivial⟩ (fun w hw => (Sat.less (.take .here (.take .here .refl)) hw)) ⟨false, H, rfl, rfl⟩
end Go.Proofs.Ytfndeehlbcbkpaa
