/- Attach: what comes of an answer. -/
import Derived.Test.YtlnjnkbnppnbkaaPdB
namespace Go.Proofs.Ytlnjnkbnppnbkaa
open Go Go.RowKit
set_option linter.unusedVariables false
set_option linter.unusedSimpArgs false
def alockedS (d : DealS) (node : Int) (cc : CacheS) (p : PktS) : Option (DealS × Bool × CacheS) :=
  (copyS p.data).bind fun y1_8 => (bif !(decide (p.state = (0 : Int))) then some ((⟨d.kind, d.line, d.id, 2, p.state, p.ptr, y1_8, d.next, p.ptr⟩ : DealS), true, cc) else (enewS d.line ((-1) : Int) ((-1) : Int) false p.data).bind fun y5_5 => (putS cc y5_5).bind fun y5_6 => some ((⟨d.kind, d.line, d.id, 6, 1, node, ([] : List Int), d.next, p.ptr⟩ : DealS), true, y5_6.2))
noncomputable def C47 (p : List Nat) : Code := codeAt (bodyOf Try.f47) p
set_option maxRecDepth 100000 in
set_option maxHeartbeats 8000000 in
theorem ALockedF_tr {W0 : World} {Γ : List Asn} (da : Option Addr) (dcap : Nat) (d : DealS) (node : Int) (c : Nat) (cc : CacheS) (pa : Option Addr) (pcap : Nat) (p : PktS) (hrpa : Reads W0 Γ pa (ints p.data)) (y : DealS × Bool × CacheS) (H : alockedS d node cc p = some y) : Tr Try.prog 47 #[.agg #[.int .i64 d.kind, .int .i64 d.line, .int .i64 d.id, .int .i64 d.step, .int .i64 d.state, .int .i64 d.head, .slice da (List.length d.data) dcap, .int .i64 d.next, .int .i64 d.told], .int .i64 node, .pointer (some ⟨c, 0, none⟩), .agg #[.int .i64 p.kind, .int .i64 p.src, .int .i64 p.dst, .int .i64 p.id, .int .i64 p.line, .int .i64 p.ptr, .int .i64 p.state, .bool p.flag, .slice pa (List.length p.data) pcap]] W0 ((ImmI da d.data) :: (CacheA c cc) :: Γ) (fun r Δ => ∃ (a0_0 : Option Addr) (c0_0 : Nat), r = .tuple #[.agg #[.int .i64 y.1.kind, .int .i64 y.1.line, .int .i64 y.1.id, .int .i64 y.1.step, .int .i64 y.1.state, .int .i64 y.1.head, .slice a0_0 (List.length y.1.data) c0_0, .int .i64 y.1.next, .int .i64 y.1.told], .bool y.2.1] ∧ Δ = (ImmI a0_0 y.1.data) :: (CacheA c y.2.2) :: Γ) := by
  unfold alockedS at H
  refine Tr.enter (fn := Try.f47) (c := C47 []) (args := [.agg #[.int .i64 d.kind, .int .i64 d.line, .int .i64 d.id, .int .i64 d.step, .int .i64 d.state, .int .i64 d.head, .slice da (List.length d.data) dcap, .int .i64 d.next, .int .i64 d.told], .int .i64 node, .pointer (some ⟨c, 0, none⟩), .agg #[.int .i64 p.kind, .int .i64 p.src, .int .i64 p.dst, .int .i64 p.id, .int .i64 p.line, .int .i64 p.ptr, .int .i64 p.state, .bool p.flag, .slice pa (List.length p.data) pcap]]) 41 Try.func47 (by kernel_rfl) (by kernel_rfl) ?_
  refine At.env [(0, .agg #[.int .i64 d.kind, .int .i64 d.line, .int .i64 d.id, .int .i64 d.step, .int .i64 d.state, .int .i64 d.head, .slice da (List.length d.data) dcap, .int .i64 d.next, .int .i64 d.told]), (1, .int .i64 node), (2, .pointer (some ⟨c, 0, none⟩)), (3, .agg #[.int .i64 p.kind, .int .i64 p.src, .int .i64 p.dst, .int .i64 p.id, .int .i64 p.line, .int .i64 p.ptr, .int .i64 p.state, .bool p.flag, .slice pa (List.length p.data) pcap])] ⟨by kernel_rfl, by kernel_rfl, by kernel_rfl, by kernel_rfl, trivial⟩ ?_
  refine at_seq (x := C47 [0]) (y := C47 [1]) (by kernel_rfl) ?_
  refine at_region (id := 0) 4 (by kernel_rfl) (by kernel_rfl) ?_
  refine s_step 4 (by kernel_rfl) (by kernel_rfl) (st_new (T := 35) (cells := #[.int .i64 d.kind, .int .i64 d.line, .int .i64 d.id, .int .i64 d.step, .int .i64 d.state, .int .i64 d.head, .slice da (List.length d.data) dcap, .int .i64 d.next, .int .i64 d.told]) (fun a => .pointer (some a)) (fun _ => by kernel_rfl)) ?_
  rintro _ _ ⟨b0_0, rfl, rfl⟩
  refine s_step 7 (by kernel_rfl) (by kernel_rfl) (st_new (T := 40) (cells := #[.int .i64 p.kind, .int .i64 p.src, .int .i64 p.dst, .int .i64 p.id, .int .i64 p.line, .int .i64 p.ptr, .int .i64 p.state, .bool p.flag, .slice pa (List.length p.data) pcap]) (fun a => .pointer (some a)) (fun _ => by kernel_rfl)) ?_
  rintro _ _ ⟨b0_1, rfl, rfl⟩
  refine s_step 8 (by kernel_rfl) (by kernel_rfl) (st_new (T := 35) (cells := #[.int .i64 (0), .int .i64 (0), .int .i64 (0), .int .i64 (0), .int .i64 (0), .int .i64 (0), .slice none 0 0, .int .i64 (0), .int .i64 (0)]) (fun a => .pointer (some a)) (fun _ => by kernel_rfl)) ?_
  rintro _ _ ⟨b0_2, rfl, rfl⟩
  refine s_pure 9 (.bool false) (by kernel_rfl) (by kernel_rfl) (fun _ => by kernel_rfl) ?_
  refine ops_end ?_
  refine At.env [(0, .agg #[.int .i64 d.kind, .int .i64 d.line, .int .i64 d.id, .int .i64 d.step, .int .i64 d.state, .int .i64 d.head, .slice da (List.length d.data) dcap, .int .i64 d.next, .int .i64 d.told]), (1, .int .i64 node), (2, .pointer (some ⟨c, 0, none⟩)), (3, .agg #[.int .i64 p.kind, .int .i64 p.src, .int .i64 p.dst, .int .i64 p.id, .int .i64 p.line, .int .i64 p.ptr, .int .i64 p.state, .bool p.flag, .slice pa (List.length p.data) pcap]), (4, .pointer (some ⟨b0_0, 0, none⟩)), (7, .pointer (some ⟨b0_1, 0, none⟩)), (8, .pointer (some ⟨b0_2, 0, none⟩)), (9, .bool false)] ⟨by kernel_rfl, by kernel_rfl, by kernel_rfl, by kernel_rfl, by kernel_rfl, by kernel_rfl, by kernel_rfl, by kernel_rfl, trivial⟩ ?_
  refine at_then_normal ?_
  refine at_seq (x := C47 [1, 0]) (y := C47 [1, 1]) (by kernel_rfl) ?_
  refine at_region_draw (id := 1) (by kernel_rfl) (by kernel_rfl) ?_
  refine d_pure 0 10 (.pointer (some ⟨b0_1, 6, none⟩)) (by kernel_rfl) (by kernel_rfl) (by kernel_rfl) (fun _ => by kernel_rfl) ?_
  refine d_load 1 11 (.int .i64 p.state) (by kernel_rfl) (by kernel_rfl) (by kernel_rfl) (load1 (off := 6) (fun _ => by kernel_rfl) (holds_own (.there .here)) (by kernel_rfl)) ?_
  refine d_pure 2 12 (.pointer (some ⟨b0_1, 5, none⟩)) (by kernel_rfl) (by kernel_rfl) (by kernel_rfl) (fun _ => by kernel_rfl) ?_
  refine d_load 3 13 (.int .i64 p.ptr) (by kernel_rfl) (by kernel_rfl) (by kernel_rfl) (load1 (off := 5) (fun _ => by kernel_rfl) (holds_own (.there .here)) (by kernel_rfl)) ?_
  refine d_pure 4 14 (.pointer (some ⟨b0_1, 5, none⟩)) (by kernel_rfl) (by kernel_rfl) (by kernel_rfl) (fun _ => by kernel_rfl) ?_
  refine d_load 5 15 (.int .i64 p.ptr) (by kernel_rfl) (by kernel_rfl) (by kernel_rfl) (load1 (off := 5) (fun _ => by kernel_rfl) (holds_own (.there .here)) (by kernel_rfl)) ?_
  refine d_pure 6 16 (.pointer (some ⟨b0_1, 8, none⟩)) (by kernel_rfl) (by kernel_rfl) (by kernel_rfl) (fun _ => by kernel_rfl) ?_
  refine d_load 7 17 (.slice pa (List.length p.data) pcap) (by kernel_rfl) (by kernel_rfl) (by kernel_rfl) (load1 (off := 8) (fun _ => by kernel_rfl) (holds_own (.there .here)) (by kernel_rfl)) ?_
  refine d_pure 9 19 (.pointer (some ⟨b0_0, 4, none⟩)) (by kernel_rfl) (by kernel_rfl) (by kernel_rfl) (fun _ => by kernel_rfl) ?_
  obtain ⟨y1_8, hy1_8, H⟩ := bindE H
  refine d_call 8 18 [7, 6] [9, 4, 2, 0] [5, 3, 1] 41 #[.slice pa (List.length p.data) pcap] (by kernel_rfl) (by kernel_rfl) (by kernel_rfl) (fun _ => by kernel_rfl) (CloneF_tr pa pcap p.data (Reads.conv (fun w hw => hw.less (.drop .here (.drop .here (.drop .here (.drop .here (.drop .here .refl)))))) hrpa) y1_8 hy1_8) ?_
  rintro _ _ ⟨a1_8_00, c1_8_00, rfl, rfl⟩
  refine ⟨(stable_cons 5 15 (.int .i64 p.ptr) (by kernel_rfl) (by kernel_rfl) (by kernel_rfl) (load1 (off := 5) (fun _ => by kernel_rfl) (holds_own (.there (.there .here))) (by kernel_rfl)) (stable_cons 3 13 (.int .i64 p.ptr) (by kernel_rfl) (by kernel_rfl) (by kernel_rfl) (load1 (off := 5) (fun _ => by kernel_rfl) (holds_own (.there (.there .here))) (by kernel_rfl)) (stable_cons 1 11 (.int .i64 p.state) (by kernel_rfl) (by kernel_rfl) (by kernel_rfl) (load1 (off := 6) (fun _ => by kernel_rfl) (holds_own (.there (.there .here))) (by kernel_rfl)) stable_nil))), ?_⟩
  refine d_do 10 [9, 1, 8, 0, 7, 6] [4, 2] [5, 3] (by kernel_rfl) (by kernel_rfl) (by kernel_rfl) (st_store (off := 4) (vs := [.int .i64 p.state]) (c' := #[.int .i64 d.kind, .int .i64 d.line, .int .i64 d.id, .int .i64 d.step, .int .i64 p.state, .int .i64 d.head, .slice da (List.length d.data) dcap, .int .i64 d.next, .int .i64 d.told]) (fun _ => by kernel_rfl) (.there (.there (.there .here))) (by kernel_rfl) (by kernel_rfl) (by kernel_rfl)) ?_
  rintro _ _ ⟨rfl, rfl⟩
  refine ⟨(stable_cons 5 15 (.int .i64 p.ptr) (by kernel_rfl) (by kernel_rfl) (by kernel_rfl) (load1 (off := 5) (fun _ => by kernel_rfl) (holds_own (.there (.there (.there .here)))) (by kernel_rfl)) (stable_cons 3 13 (.int .i64 p.ptr) (by kernel_rfl) (by kernel_rfl) (by kernel_rfl) (load1 (off := 5) (fun _ => by kernel_rfl) (holds_own (.there (.there (.there .here)))) (by kernel_rfl)) stable_nil)), ?_⟩
  refine d_pure 11 20 (.pointer (some ⟨b0_0, 5, none⟩)) (by kernel_rfl) (by kernel_rfl) (by kernel_rfl) (fun _ => by kernel_rfl) ?_
  refine d_do 12 [11, 3, 10, 0, 1, 2, 9, 8, 7, 6] [4] [5] (by kernel_rfl) (by kernel_rfl) (by kernel_rfl) (st_store (off := 5) (vs := [.int .i64 p.ptr]) (c' := #[.int .i64 d.kind, .int .i64 d.line, .int .i64 d.id, .int .i64 d.step, .int .i64 p.state, .int .i64 p.ptr, .slice da (List.length d.data) dcap, .int .i64 d.next, .int .i64 d.told]) (fun _ => by kernel_rfl) .here (by kernel_rfl) (by kernel_rfl) (by kernel_rfl)) ?_
  rintro _ _ ⟨rfl, rfl⟩
  refine ⟨(stable_cons 5 15 (.int .i64 p.ptr) (by kernel_rfl) (by kernel_rfl) (by kernel_rfl) (load1 (off := 5) (fun _ => by kernel_rfl) (holds_own (.there (.there (.there .here)))) (by kernel_rfl)) stable_nil), ?_⟩
  refine d_pure 13 21 (.pointer (some ⟨b0_0, 8, none⟩)) (by kernel_rfl) (by kernel_rfl) (by kernel_rfl) (fun _ => by kernel_rfl) ?_
  refine d_do 14 [13, 5, 12, 0, 1, 2, 3, 4, 9, 10, 11, 8, 7, 6] [] [] (by kernel_rfl) (by kernel_rfl) (by kernel_rfl) (st_store (off := 8) (vs := [.int .i64 p.ptr]) (c' := #[.int .i64 d.kind, .int .i64 d.line, .int .i64 d.id, .int .i64 d.step, .int .i64 p.state, .int .i64 p.ptr, .slice da (List.length d.data) dcap, .int .i64 d.next, .int .i64 p.ptr]) (fun _ => by kernel_rfl) .here (by kernel_rfl) (by kernel_rfl) (by kernel_rfl)) ?_
  rintro _ _ ⟨rfl, rfl⟩
  refine ⟨stable_nil, ?_⟩
  refine d_pure 15 22 (.pointer (some ⟨b0_0, 6, none⟩)) (by kernel_rfl) (by kernel_rfl) (by kernel_rfl) (fun _ => by kernel_rfl) ?_
  refine d_do 16 [15, 8, 14, 0, 1, 2, 3, 4, 5, 6, 7, 9, 10, 11, 12, 13] [] [] (by kernel_rfl) (by kernel_rfl) (by kernel_rfl) (st_store (off := 6) (vs := [.slice a1_8_00 (List.length y1_8) c1_8_00]) (c' := #[.int .i64 d.kind, .int .i64 d.line, .int .i64 d.id, .int .i64 d.step, .int .i64 p.state, .int .i64 p.ptr, .slice a1_8_00 (List.length y1_8) c1_8_00, .int .i64 d.next, .int .i64 p.ptr]) (fun _ => by kernel_rfl) .here (by kernel_rfl) (by kernel_rfl) (by kernel_rfl)) ?_
  rintro _ _ ⟨rfl, rfl⟩
  refine ⟨stable_nil, ?_⟩
  refine draw_end (by kernel_rfl) ?_
  refine At.env [(0, .agg #[.int .i64 d.kind, .int .i64 d.line, .int .i64 d.id, .int .i64 d.step, .int .i64 d.state, .int .i64 d.head, .slice da (List.length d.data) dcap, .int .i64 d.next, .int .i64 d.told]), (1, .int .i64 node), (2, .pointer (some ⟨c, 0, none⟩)), (3, .agg #[.int .i64 p.kind, .int .i64 p.src, .int .i64 p.dst, .int .i64 p.id, .int .i64 p.line, .int .i64 p.ptr, .int .i64 p.state, .bool p.flag, .slice pa (List.length p.data) pcap]), (4, .pointer (some ⟨b0_0, 0, none⟩)), (7, .pointer (some ⟨b0_1, 0, none⟩)), (8, .pointer (some ⟨b0_2, 0, none⟩)), (9, .bool false)] ⟨by kernel_rfl, by kernel_rfl, by kernel_rfl, by kernel_rfl, by kernel_rfl, by kernel_rfl, by kernel_rfl, by kernel_rfl, trivial⟩ ?_
  refine at_then_normal ?_
  refine at_seq (x := C47 [1, 1, 0]) (y := C47 [1, 1, 1]) (by kernel_rfl) ?_
  refine at_seq (x := C47 [1, 1, 0, 0]) (y := C47 [1, 1, 0, 1]) (by kernel_rfl) ?_
  refine at_region (id := 2) 3 (by kernel_rfl) (by kernel_rfl) ?_
  refine s_pure 23 (.pointer (some ⟨b0_0, 4, none⟩)) (by kernel_rfl) (by kernel_rfl) (fun _ => by kernel_rfl) ?_
  refine s_load 24 (.int .i64 p.state) (by kernel_rfl) (by kernel_rfl) (load1 (off := 4) (fun _ => by kernel_rfl) (holds_own .here) (by kernel_rfl)) ?_
  refine s_pure 25 (.bool (!(decide (p.state = (0 : Int))))) (by kernel_rfl) (by kernel_rfl) (fun _ => by kernel_rfl) ?_
  refine ops_end ?_
  refine At.env [(0, .agg #[.int .i64 d.kind, .int .i64 d.line, .int .i64 d.id, .int .i64 d.step, .int .i64 d.state, .int .i64 d.head, .slice da (List.length d.data) dcap, .int .i64 d.next, .int .i64 d.told]), (1, .int .i64 node), (2, .pointer (some ⟨c, 0, none⟩)), (3, .agg #[.int .i64 p.kind, .int .i64 p.src, .int .i64 p.dst, .int .i64 p.id, .int .i64 p.line, .int .i64 p.ptr, .int .i64 p.state, .bool p.flag, .slice pa (List.length p.data) pcap]), (4, .pointer (some ⟨b0_0, 0, none⟩)), (7, .pointer (some ⟨b0_1, 0, none⟩)), (8, .pointer (some ⟨b0_2, 0, none⟩)), (9, .bool false), (25, .bool (!(decide (p.state = (0 : Int)))))] ⟨by kernel_rfl, by kernel_rfl, by kernel_rfl, by kernel_rfl, by kernel_rfl, by kernel_rfl, by kernel_rfl, by kernel_rfl, by kernel_rfl, trivial⟩ ?_
  refine at_then_normal ?_
  rcases Bool.eq_false_or_eq_true (!(decide (p.state = (0 : Int)))) with h1 | h1
  · replace H := bifT H h1
    refine at_true (t := !(decide (p.state = (0 : Int)))) (x := C47 [1, 1, 0, 1, 0]) (y := C47 [1, 1, 0, 1, 1]) (o := .tmp 25) (by kernel_rfl) (by kernel_rfl) (by kernel_rfl) h1 ?_
    refine at_seq (x := C47 [1, 1, 0, 1, 0, 0]) (y := C47 [1, 1, 0, 1, 0, 1]) (by kernel_rfl) ?_
    refine at_region (id := 3) 2 (by kernel_rfl) (by kernel_rfl) ?_
    refine s_pure 26 (.pointer (some ⟨b0_0, 3, none⟩)) (by kernel_rfl) (by kernel_rfl) (fun _ => by kernel_rfl) ?_
    refine s_do (by kernel_rfl) (by kernel_rfl) (st_store (off := 3) (vs := [.int .i64 (2)]) (c' := #[.int .i64 d.kind, .int .i64 d.line, .int .i64 d.id, .int .i64 (2), .int .i64 p.state, .int .i64 p.ptr, .slice a1_8_00 (List.length y1_8) c1_8_00, .int .i64 d.next, .int .i64 p.ptr]) (fun _ => by kernel_rfl) .here (by kernel_rfl) (by kernel_rfl) (by kernel_rfl)) ?_
    rintro _ _ ⟨rfl, rfl⟩
    refine ops_end ?_
    refine At.env [(0, .agg #[.int .i64 d.kind, .int .i64 d.line, .int .i64 d.id, .int .i64 d.step, .int .i64 d.state, .int .i64 d.head, .slice da (List.length d.data) dcap, .int .i64 d.next, .int .i64 d.told]), (1, .int .i64 node), (2, .pointer (some ⟨c, 0, none⟩)), (3, .agg #[.int .i64 p.kind, .int .i64 p.src, .int .i64 p.dst, .int .i64 p.id, .int .i64 p.line, .int .i64 p.ptr, .int .i64 p.state, .bool p.flag, .slice pa (List.length p.data) pcap]), (4, .pointer (some ⟨b0_0, 0, none⟩)), (7, .pointer (some ⟨b0_1, 0, none⟩)), (8, .pointer (some ⟨b0_2, 0, none⟩)), (9, .bool false), (25, .bool (!(decide (p.state = (0 : Int)))))] ⟨by kernel_rfl, by kernel_rfl, by kernel_rfl, by kernel_rfl, by kernel_rfl, by kernel_rfl, by kernel_rfl, by kernel_rfl, by kernel_rfl, trivial⟩ ?_
    refine at_then_normal ?_
    refine at_seq (x := C47 [1, 1, 0, 1, 0, 1, 0]) (y := C47 [1, 1, 0, 1, 0, 1, 1]) (by kernel_rfl) ?_
    refine at_region (id := 4) 3 (by kernel_rfl) (by kernel_rfl) ?_
    refine s_load 27 (.agg #[.int .i64 d.kind, .int .i64 d.line, .int .i64 d.id, .int .i64 (2), .int .i64 p.state, .int .i64 p.ptr, .slice a1_8_00 (List.length y1_8) c1_8_00, .int .i64 d.next, .int .i64 p.ptr]) (by kernel_rfl) (by kernel_rfl) (loadN (off := 0) (vs := [.int .i64 d.kind, .int .i64 d.line, .int .i64 d.id, .int .i64 (2), .int .i64 p.state, .int .i64 p.ptr, .slice a1_8_00 (List.length y1_8) c1_8_00, .int .i64 d.next, .int .i64 p.ptr]) 9 (fun _ => by kernel_rfl) (holds_own .here) rfl (by exact ⟨rfl, rfl, rfl, rfl, rfl, rfl, rfl, rfl, rfl, trivial⟩)) ?_
    refine s_do (by kernel_rfl) (by kernel_rfl) (st_store (off := 0) (vs := [.int .i64 d.kind, .int .i64 d.line, .int .i64 d.id, .int .i64 (2), .int .i64 p.state, .int .i64 p.ptr, .slice a1_8_00 (List.length y1_8) c1_8_00, .int .i64 d.next, .int .i64 p.ptr]) (c' := #[.int .i64 d.kind, .int .i64 d.line, .int .i64 d.id, .int .i64 (2), .int .i64 p.state, .int .i64 p.ptr, .slice a1_8_00 (List.length y1_8) c1_8_00, .int .i64 d.next, .int .i64 p.ptr]) (fun _ => by kernel_rfl) (.there (.there .here)) (by kernel_rfl) (by kernel_rfl) (by kernel_rfl)) ?_
    rintro _ _ ⟨rfl, rfl⟩
    refine s_pure 9 (.bool true) (by kernel_rfl) (by kernel_rfl) (fun _ => by kernel_rfl) ?_
    refine ops_end ?_
    refine At.env [(0, .agg #[.int .i64 d.kind, .int .i64 d.line, .int .i64 d.id, .int .i64 d.step, .int .i64 d.state, .int .i64 d.head, .slice da (List.length d.data) dcap, .int .i64 d.next, .int .i64 d.told]), (1, .int .i64 node), (2, .pointer (some ⟨c, 0, none⟩)), (3, .agg #[.int .i64 p.kind, .int .i64 p.src, .int .i64 p.dst, .int .i64 p.id, .int .i64 p.line, .int .i64 p.ptr, .int .i64 p.state, .bool p.flag, .slice pa (List.length p.data) pcap]), (4, .pointer (some ⟨b0_0, 0, none⟩)), (7, .pointer (some ⟨b0_1, 0, none⟩)), (8, .pointer (some ⟨b0_2, 0, none⟩)), (9, .bool true), (25, .bool (!(decide (p.state = (0 : Int)))))] ⟨by kernel_rfl, by kernel_rfl, by kernel_rfl, by kernel_rfl, by kernel_rfl, by kernel_rfl, by kernel_rfl, by kernel_rfl, by kernel_rfl, trivial⟩ ?_
    refine at_then_normal ?_
    refine at_ret (by kernel_rfl) ?_
    refine at_then_ret ?_
    obtain rfl := someE H
    refine at_backR [.agg #[.int .i64 d.kind, .int .i64 d.line, .int .i64 d.id, .int .i64 (2), .int .i64 p.state, .int .i64 p.ptr, .slice a1_8_00 (List.length y1_8) c1_8_00, .int .i64 d.next, .int .i64 p.ptr], .bool true] ((ImmI a1_8_00 y1_8) :: (CacheA c cc) :: Γ) (rs := [.cell 8 35, .tmp 9]) (by kernel_rfl) (.cons (.cell (by kernel_rfl) (retN (off := 0) (vs := [.int .i64 d.kind, .int .i64 d.line, .int .i64 d.id, .int .i64 (2), .int .i64 p.state, .int .i64 p.ptr, .slice a1_8_00 (List.length y1_8) c1_8_00, .int .i64 d.next, .int .i64 p.ptr]) 9 (fun _ => by kernel_rfl) (holds_own .here) rfl (by exact ⟨rfl, rfl, rfl, rfl, rfl, rfl, rfl, rfl, rfl, trivial⟩))) (.cons (.tmp (by kernel_rfl)) .nil)) (fun w hw => (Sat.less (.take .here (.take (.there (.there (.there (.there .here)))) (.drop .here (.drop .here (.drop .here (.drop .here .refl)))))) (RowsA.freeze (Sat.less (.take (.there (.there .here)) (.take .here (.take .here (.take .here (.take .here (.take .here .refl)))))) hw)))) ?_
    exact ⟨a1_8_00, c1_8_00, rfl, rfl⟩
  · replace H := bifF H h1
    refine at_false (t := !(decide (p.state = (0 : Int)))) (x := C47 [1, 1, 0, 1, 0]) (y := C47 [1, 1, 0, 1, 1]) (o := .tmp 25) (by kernel_rfl) (by kernel_rfl) (by kernel_rfl) h1 ?_
    refine at_skip (by kernel_rfl) ?_
    refine at_then_normal ?_
    refine at_seq (x := C47 [1, 1, 1, 0]) (y := C47 [1, 1, 1, 1]) (by kernel_rfl) ?_
    refine at_region (id := 5) 7 (by kernel_rfl) (by kernel_rfl) ?_
    refine s_pure 28 (.pointer (some ⟨c, 0, none⟩)) (by kernel_rfl) (by kernel_rfl) (fun _ => by kernel_rfl) ?_
    refine s_pure 29 (.pointer (some ⟨b0_0, 1, none⟩)) (by kernel_rfl) (by kernel_rfl) (fun _ => by kernel_rfl) ?_
    refine s_load 30 (.int .i64 d.line) (by kernel_rfl) (by kernel_rfl) (load1 (off := 1) (fun _ => by kernel_rfl) (holds_own .here) (by kernel_rfl)) ?_
    refine s_pure 31 (.pointer (some ⟨b0_1, 8, none⟩)) (by kernel_rfl) (by kernel_rfl) (fun _ => by kernel_rfl) ?_
    refine s_load 32 (.slice pa (List.length p.data) pcap) (by kernel_rfl) (by kernel_rfl) (load1 (off := 8) (fun _ => by kernel_rfl) (holds_own (.there (.there (.there .here)))) (by kernel_rfl)) ?_
    obtain ⟨y5_5, hy5_5, H⟩ := bindE H
    refine s_call 33 15 #[.int .i64 d.line, .int .i64 (-1), .int .i64 (-1), .bool false, .slice pa (List.length p.data) pcap] (by kernel_rfl) (by kernel_rfl) (fun _ => by kernel_rfl) (ENewF_tr d.line ((-1) : Int) ((-1) : Int) false pa pcap p.data (Reads.conv (fun w hw => hw.less (.drop .here (.drop .here (.drop .here (.drop .here (.drop .here (.drop .here .refl))))))) hrpa) y5_5 hy5_5) ?_
    rintro _ _ ⟨a5_5_00, c5_5_00, rfl, rfl⟩
    obtain ⟨y5_6, hy5_6, H⟩ := bindE H
    refine s_call 34 14 #[.pointer (some ⟨c, 0, none⟩), .agg #[.int .i64 y5_5.fwd, .int .i64 y5_5.back, .int .i64 y5_5.line, .int .i64 y5_5.used, .bool y5_5.dirty, .slice a5_5_00 (List.length y5_5.data) c5_5_00]] (by kernel_rfl) (by kernel_rfl) (fun _ => by kernel_rfl) (Tr.conv (Γ' := (CacheA c cc) :: (IntsA a5_5_00 c5_5_00 y5_5.data) :: (Asn.own b0_0 (.cells #[.int .i64 d.kind, .int .i64 d.line, .int .i64 d.id, .int .i64 d.step, .int .i64 p.state, .int .i64 p.ptr, .slice a1_8_00 (List.length y1_8) c1_8_00, .int .i64 d.next, .int .i64 p.ptr] 35 (0, 0))) :: (IntsA a1_8_00 c1_8_00 y1_8) :: (Asn.own b0_2 (.cells #[.int .i64 (0), .int .i64 (0), .int .i64 (0), .int .i64 (0), .int .i64 (0), .int .i64 (0), .slice none 0 0, .int .i64 (0), .int .i64 (0)] 35 (0, 0))) :: (Asn.own b0_1 (.cells #[.int .i64 p.kind, .int .i64 p.src, .int .i64 p.dst, .int .i64 p.id, .int .i64 p.line, .int .i64 p.ptr, .int .i64 p.state, .bool p.flag, .slice pa (List.length p.data) pcap] 40 (0, 0))) :: (ImmI da d.data) :: Γ) (fun w hw => (Sat.less (.take (.there (.there (.there (.there (.there (.there .here)))))) (.take .here (.take .here (.take .here (.take .here (.take .here (.take .here .refl))))))) hw)) (PutF_tr c cc a5_5_00 c5_5_00 y5_5 (RowsA.reads (k := 1) .here) y5_6 hy5_6)) ?_
    rintro _ _ ⟨rfl, rfl⟩
    refine ops_end ?_
    refine At.env [(0, .agg #[.int .i64 d.kind, .int .i64 d.line, .int .i64 d.id, .int .i64 d.step, .int .i64 d.state, .int .i64 d.head, .slice da (List.length d.data) dcap, .int .i64 d.next, .int .i64 d.told]), (1, .int .i64 node), (2, .pointer (some ⟨c, 0, none⟩)), (3, .agg #[.int .i64 p.kind, .int .i64 p.src, .int .i64 p.dst, .int .i64 p.id, .int .i64 p.line, .int .i64 p.ptr, .int .i64 p.state, .bool p.flag, .slice pa (List.length p.data) pcap]), (4, .pointer (some ⟨b0_0, 0, none⟩)), (7, .pointer (some ⟨b0_1, 0, none⟩)), (8, .pointer (some ⟨b0_2, 0, none⟩)), (9, .bool false), (25, .bool (!(decide (p.state = (0 : Int)))))] ⟨by kernel_rfl, by kernel_rfl, by kernel_rfl, by kernel_rfl, by kernel_rfl, by kernel_rfl, by kernel_rfl, by kernel_rfl, by kernel_rfl, trivial⟩ ?_
    refine at_then_normal ?_
    refine at_seq (x := C47 [1, 1, 1, 1, 0]) (y := C47 [1, 1, 1, 1, 1]) (by kernel_rfl) ?_
    refine at_region (id := 6) 9 (by kernel_rfl) (by kernel_rfl) ?_
    refine s_pure 35 (.int .i64 node) (by kernel_rfl) (by kernel_rfl) (fun _ => by kernel_rfl) ?_
    refine s_pure 36 (.pointer (some ⟨b0_0, 3, none⟩)) (by kernel_rfl) (by kernel_rfl) (fun _ => by kernel_rfl) ?_
    refine s_do (by kernel_rfl) (by kernel_rfl) (st_store (off := 3) (vs := [.int .i64 (6)]) (c' := #[.int .i64 d.kind, .int .i64 d.line, .int .i64 d.id, .int .i64 (6), .int .i64 p.state, .int .i64 p.ptr, .slice a1_8_00 (List.length y1_8) c1_8_00, .int .i64 d.next, .int .i64 p.ptr]) (fun _ => by kernel_rfl) (.there (.there .here)) (by kernel_rfl) (by kernel_rfl) (by kernel_rfl)) ?_
    rintro _ _ ⟨rfl, rfl⟩
    refine s_pure 37 (.pointer (some ⟨b0_0, 4, none⟩)) (by kernel_rfl) (by kernel_rfl) (fun _ => by kernel_rfl) ?_
    refine s_do (by kernel_rfl) (by kernel_rfl) (st_store (off := 4) (vs := [.int .i64 (1)]) (c' := #[.int .i64 d.kind, .int .i64 d.line, .int .i64 d.id, .int .i64 (6), .int .i64 (1), .int .i64 p.ptr, .slice a1_8_00 (List.length y1_8) c1_8_00, .int .i64 d.next, .int .i64 p.ptr]) (fun _ => by kernel_rfl) .here (by kernel_rfl) (by kernel_rfl) (by kernel_rfl)) ?_
    rintro _ _ ⟨rfl, rfl⟩
    refine s_pure 38 (.pointer (some ⟨b0_0, 5, none⟩)) (by kernel_rfl) (by kernel_rfl) (fun _ => by kernel_rfl) ?_
    refine s_do (by kernel_rfl) (by kernel_rfl) (st_store (off := 5) (vs := [.int .i64 node]) (c' := #[.int .i64 d.kind, .int .i64 d.line, .int .i64 d.id, .int .i64 (6), .int .i64 (1), .int .i64 node, .slice a1_8_00 (List.length y1_8) c1_8_00, .int .i64 d.next, .int .i64 p.ptr]) (fun _ => by kernel_rfl) .here (by kernel_rfl) (by kernel_rfl) (by kernel_rfl)) ?_
    rintro _ _ ⟨rfl, rfl⟩
    refine s_pure 39 (.pointer (some ⟨b0_0, 6, none⟩)) (by kernel_rfl) (by kernel_rfl) (fun _ => by kernel_rfl) ?_
    refine s_do (by kernel_rfl) (by kernel_rfl) (st_store (off := 6) (vs := [.slice none 0 0]) (c' := #[.int .i64 d.kind, .int .i64 d.line, .int .i64 d.id, .int .i64 (6), .int .i64 (1), .int .i64 node, .slice none 0 0, .int .i64 d.next, .int .i64 p.ptr]) (fun _ => by kernel_rfl) .here (by kernel_rfl) (by kernel_rfl) (by kernel_rfl)) ?_
    rintro _ _ ⟨rfl, rfl⟩
    refine ops_end ?_
    refine At.env [(0, .agg #[.int .i64 d.kind, .int .i64 d.line, .int .i64 d.id, .int .i64 d.step, .int .i64 d.state, .int .i64 d.head, .slice da (List.length d.data) dcap, .int .i64 d.next, .int .i64 d.told]), (1, .int .i64 node), (2, .pointer (some ⟨c, 0, none⟩)), (3, .agg #[.int .i64 p.kind, .int .i64 p.src, .int .i64 p.dst, .int .i64 p.id, .int .i64 p.line, .int .i64 p.ptr, .int .i64 p.state, .bool p.flag, .slice pa (List.length p.data) pcap]), (4, .pointer (some ⟨b0_0, 0, none⟩)), (7, .pointer (some ⟨b0_1, 0, none⟩)), (8, .pointer (some ⟨b0_2, 0, none⟩)), (9, .bool false), (25, .bool (!(decide (p.state = (0 : Int)))))] ⟨by kernel_rfl, by kernel_rfl, by kernel_rfl, by kernel_rfl, by kernel_rfl, by kernel_rfl, by kernel_rfl, by kernel_rfl, by kernel_rfl, trivial⟩ ?_
    refine at_then_normal ?_
    refine at_seq (x := C47 [1, 1, 1, 1, 1, 0]) (y := C47 [1, 1, 1, 1, 1, 1]) (by kernel_rfl) ?_
    refine at_region (id := 7) 3 (by kernel_rfl) (by kernel_rfl) ?_
    refine s_load 40 (.agg #[.int .i64 d.kind, .int .i64 d.line, .int .i64 d.id, .int .i64 (6), .int .i64 (1), .int .i64 node, .slice none 0 0, .int .i64 d.next, .int .i64 p.ptr]) (by kernel_rfl) (by kernel_rfl) (loadN (off := 0) (vs := [.int .i64 d.kind, .int .i64 d.line, .int .i64 d.id, .int .i64 (6), .int .i64 (1), .int .i64 node, .slice none 0 0, .int .i64 d.next, .int .i64 p.ptr]) 9 (fun _ => by kernel_rfl) (holds_own .here) rfl (by exact ⟨rfl, rfl, rfl, rfl, rfl, rfl, rfl, rfl, rfl, trivial⟩)) ?_
    refine s_do (by kernel_rfl) (by kernel_rfl) (st_store (off := 0) (vs := [.int .i64 d.kind, .int .i64 d.line, .int .i64 d.id, .int .i64 (6), .int .i64 (1), .int .i64 node, .slice none 0 0, .int .i64 d.next, .int .i64 p.ptr]) (c' := #[.int .i64 d.kind, .int .i64 d.line, .int .i64 d.id, .int .i64 (6), .int .i64 (1), .int .i64 node, .slice none 0 0, .int .i64 d.next, .int .i64 p.ptr]) (fun _ => by kernel_rfl) (.there (.there (.there (.there .here)))) (by kernel_rfl) (by kernel_rfl) (by kernel_rfl)) ?_
    rintro _ _ ⟨rfl, rfl⟩
    refine s_pure 9 (.bool true) (by kernel_rfl) (by kernel_rfl) (fun _ => by kernel_rfl) ?_
    refine ops_end ?_
    refine At.env [(0, .agg #[.int .i64 d.kind, .int .i64 d.line, .int .i64 d.id, .int .i64 d.step, .int .i64 d.state, .int .i64 d.head, .slice da (List.length d.data) dcap, .int .i64 d.next, .int .i64 d.told]), (1, .int .i64 node), (2, .pointer (some ⟨c, 0, none⟩)), (3, .agg #[.int .i64 p.kind, .int .i64 p.src, .int .i64 p.dst, .int .i64 p.id, .int .i64 p.line, .int .i64 p.ptr, .int .i64 p.state, .bool p.flag, .slice pa (List.length p.data) pcap]), (4, .pointer (some ⟨b0_0, 0, none⟩)), (7, .pointer (some ⟨b0_1, 0, none⟩)), (8, .pointer (some ⟨b0_2, 0, none⟩)), (9, .bool true), (25, .bool (!(decide (p.state = (0 : Int)))))] ⟨by kernel_rfl, by kernel_rfl, by kernel_rfl, by kernel_rfl, by kernel_rfl, by kernel_rfl, by kernel_rfl, by kernel_rfl, by kernel_rfl, trivial⟩ ?_
    refine at_then_normal ?_
    refine at_ret (by kernel_rfl) ?_
    obtain rfl := someE H
    refine at_backR [.agg #[.int .i64 d.kind, .int .i64 d.line, .int .i64 d.id, .int .i64 (6), .int .i64 (1), .int .i64 node, .slice none 0 0, .int .i64 d.next, .int .i64 p.ptr], .bool true] ((ImmI none ([] : List Int)) :: (CacheA c y5_6.2) :: Γ) (rs := [.cell 8 35, .tmp 9]) (by kernel_rfl) (.cons (.cell (by kernel_rfl) (retN (off := 0) (vs := [.int .i64 d.kind, .int .i64 d.line, .int .i64 d.id, .int .i64 (6), .int .i64 (1), .int .i64 node, .slice none 0 0, .int .i64 d.next, .int .i64 p.ptr]) 9 (fun _ => by kernel_rfl) (holds_own .here) rfl (by exact ⟨rfl, rfl, rfl, rfl, rfl, rfl, rfl, rfl, rfl, trivial⟩))) (.cons (.tmp (by kernel_rfl)) .nil)) (fun w hw => (Sat.less (.take .here (.take (.there (.there .here)) (.drop .here (.drop .here (.drop .here (.drop .here (.drop .here (.drop .here .refl)))))))) (ImmR.nil_mk (k := 1) (a := none) hw))) ?_
    exact ⟨none, 0, rfl, rfl⟩
def atoldS (d : DealS) (node : Int) (cc : CacheS) (p : PktS) : Option (DealS × Bool × CacheS) :=
  (enewS d.line d.head ((-1) : Int) false p.data).bind fun y1_7 => (putS cc y1_7).bind fun y1_8 => (bif p.flag then (copyS p.data).bind fun y4_2 => some ((⟨d.kind, d.line, d.id, 6, 1, node, y4_2, d.next, d.told⟩ : DealS), true, y1_8.2) else some ((⟨d.kind, d.line, d.id, 6, 1, node, ([] : List Int), d.next, d.told⟩ : DealS), true, y1_8.2))
noncomputable def C48 (p : List Nat) : Code := codeAt (bodyOf Try.f48) p
set_option maxRecDepth 100000 in
set_option maxHeartbeats 8000000 in
theorem AToldF_tr {W0 : World} {Γ : List Asn} (da : Option Addr) (dcap : Nat) (d : DealS) (node : Int) (c : Nat) (cc : CacheS) (pa : Option Addr) (pcap : Nat) (p : PktS) (hrpa : Reads W0 Γ pa (ints p.data)) (y : DealS × Bool × CacheS) (H : atoldS d node cc p = some y) : Tr Try.prog 48 #[.agg #[.int .i64 d.kind, .int .i64 d.line, .int .i64 d.id, .int .i64 d.step, .int .i64 d.state, .int .i64 d.head, .slice da (List.length d.data) dcap, .int .i64 d.next, .int .i64 d.told], .int .i64 node, .pointer (some ⟨c, 0, none⟩), .agg #[.int .i64 p.kind, .int .i64 p.src, .int .i64 p.dst, .int .i64 p.id, .int .i64 p.line, .int .i64 p.ptr, .int .i64 p.state, .bool p.flag, .slice pa (List.length p.data) pcap]] W0 ((ImmI da d.data) :: (CacheA c cc) :: Γ) (fun r Δ => ∃ (a0_0 : Option Addr) (c0_0 : Nat), r = .tuple #[.agg #[.int .i64 y.1.kind, .int .i64 y.1.line, .int .i64 y.1.id, .int .i64 y.1.step, .int .i64 y.1.state, .int .i64 y.1.head, .slice a0_0 (List.length y.1.data) c0_0, .int .i64 y.1.next, .int .i64 y.1.told], .bool y.2.1] ∧ Δ = (ImmI a0_0 y.1.data) :: (CacheA c y.2.2) :: Γ) := by
  unfold atoldS at H
  refine Tr.enter (fn := Try.f48) (c := C48 []) (args := [.agg #[.int .i64 d.kind, .int .i64 d.line, .int .i64 d.id, .int .i64 d.step, .int .i64 d.state, .int .i64 d.head, .slice da (List.length d.data) dcap, .int .i64 d.next, .int .i64 d.told], .int .i64 node, .pointer (some ⟨c, 0, none⟩), .agg #[.int .i64 p.kind, .int .i64 p.src, .int .i64 p.dst, .int .i64 p.id, .int .i64 p.line, .int .i64 p.ptr, .int .i64 p.state, .bool p.flag, .slice pa (List.length p.data) pcap]]) 31 Try.func48 (by kernel_rfl) (by kernel_rfl) ?_
  refine At.env [(0, .agg #[.int .i64 d.kind, .int .i64 d.line, .int .i64 d.id, .int .i64 d.step, .int .i64 d.state, .int .i64 d.head, .slice da (List.length d.data) dcap, .int .i64 d.next, .int .i64 d.told]), (1, .int .i64 node), (2, .pointer (some ⟨c, 0, none⟩)), (3, .agg #[.int .i64 p.kind, .int .i64 p.src, .int .i64 p.dst, .int .i64 p.id, .int .i64 p.line, .int .i64 p.ptr, .int .i64 p.state, .bool p.flag, .slice pa (List.length p.data) pcap])] ⟨by kernel_rfl, by kernel_rfl, by kernel_rfl, by kernel_rfl, trivial⟩ ?_
  refine at_seq (x := C48 [0]) (y := C48 [1]) (by kernel_rfl) ?_
  refine at_region (id := 0) 4 (by kernel_rfl) (by kernel_rfl) ?_
  refine s_step 4 (by kernel_rfl) (by kernel_rfl) (st_new (T := 35) (cells := #[.int .i64 d.kind, .int .i64 d.line, .int .i64 d.id, .int .i64 d.step, .int .i64 d.state, .int .i64 d.head, .slice da (List.length d.data) dcap, .int .i64 d.next, .int .i64 d.told]) (fun a => .pointer (some a)) (fun _ => by kernel_rfl)) ?_
  rintro _ _ ⟨b0_0, rfl, rfl⟩
  refine s_step 7 (by kernel_rfl) (by kernel_rfl) (st_new (T := 40) (cells := #[.int .i64 p.kind, .int .i64 p.src, .int .i64 p.dst, .int .i64 p.id, .int .i64 p.line, .int .i64 p.ptr, .int .i64 p.state, .bool p.flag, .slice pa (List.length p.data) pcap]) (fun a => .pointer (some a)) (fun _ => by kernel_rfl)) ?_
  rintro _ _ ⟨b0_1, rfl, rfl⟩
  refine s_step 8 (by kernel_rfl) (by kernel_rfl) (st_new (T := 35) (cells := #[.int .i64 (0), .int .i64 (0), .int .i64 (0), .int .i64 (0), .int .i64 (0), .int .i64 (0), .slice none 0 0, .int .i64 (0), .int .i64 (0)]) (fun a => .pointer (some a)) (fun _ => by kernel_rfl)) ?_
  rintro _ _ ⟨b0_2, rfl, rfl⟩
  refine s_pure 9 (.bool false) (by kernel_rfl) (by kernel_rfl) (fun _ => by kernel_rfl) ?_
  refine ops_end ?_
  refine At.env [(0, .agg #[.int .i64 d.kind, .int .i64 d.line, .int .i64 d.id, .int .i64 d.step, .int .i64 d.state, .int .i64 d.head, .slice da (List.length d.data) dcap, .int .i64 d.next, .int .i64 d.told]), (1, .int .i64 node), (2, .pointer (some ⟨c, 0, none⟩)), (3, .agg #[.int .i64 p.kind, .int .i64 p.src, .int .i64 p.dst, .int .i64 p.id, .int .i64 p.line, .int .i64 p.ptr, .int .i64 p.state, .bool p.flag, .slice pa (List.length p.data) pcap]), (4, .pointer (some ⟨b0_0, 0, none⟩)), (7, .pointer (some ⟨b0_1, 0, none⟩)), (8, .pointer (some ⟨b0_2, 0, none⟩)), (9, .bool false)] ⟨by kernel_rfl, by kernel_rfl, by kernel_rfl, by kernel_rfl, by kernel_rfl, by kernel_rfl, by kernel_rfl, by kernel_rfl, trivial⟩ ?_
  refine at_then_normal ?_
  refine at_seq (x := C48 [1, 0]) (y := C48 [1, 1]) (by kernel_rfl) ?_
  refine at_region (id := 1) 9 (by kernel_rfl) (by kernel_rfl) ?_
  refine s_pure 10 (.pointer (some ⟨c, 0, none⟩)) (by kernel_rfl) (by kernel_rfl) (fun _ => by kernel_rfl) ?_
  refine s_pure 11 (.pointer (some ⟨b0_0, 1, none⟩)) (by kernel_rfl) (by kernel_rfl) (fun _ => by kernel_rfl) ?_
  refine s_load 12 (.int .i64 d.line) (by kernel_rfl) (by kernel_rfl) (load1 (off := 1) (fun _ => by kernel_rfl) (holds_own (.there (.there .here))) (by kernel_rfl)) ?_
  refine s_pure 13 (.pointer (some ⟨b0_0, 5, none⟩)) (by kernel_rfl) (by kernel_rfl) (fun _ => by kernel_rfl) ?_
  refine s_load 14 (.int .i64 d.head) (by kernel_rfl) (by kernel_rfl) (load1 (off := 5) (fun _ => by kernel_rfl) (holds_own (.there (.there .here))) (by kernel_rfl)) ?_
  refine s_pure 15 (.pointer (some ⟨b0_1, 8, none⟩)) (by kernel_rfl) (by kernel_rfl) (fun _ => by kernel_rfl) ?_
  refine s_load 16 (.slice pa (List.length p.data) pcap) (by kernel_rfl) (by kernel_rfl) (load1 (off := 8) (fun _ => by kernel_rfl) (holds_own (.there .here)) (by kernel_rfl)) ?_
  obtain ⟨y1_7, hy1_7, H⟩ := bindE H
  refine s_call 17 15 #[.int .i64 d.line, .int .i64 d.head, .int .i64 (-1), .bool false, .slice pa (List.length p.data) pcap] (by kernel_rfl) (by kernel_rfl) (fun _ => by kernel_rfl) (ENewF_tr d.line d.head ((-1) : Int) false pa pcap p.data (Reads.conv (fun w hw => hw.less (.drop .here (.drop .here (.drop .here (.drop .here (.drop .here .refl)))))) hrpa) y1_7 hy1_7) ?_
  rintro _ _ ⟨a1_7_00, c1_7_00, rfl, rfl⟩
  obtain ⟨y1_8, hy1_8, H⟩ := bindE H
  refine s_call 18 14 #[.pointer (some ⟨c, 0, none⟩), .agg #[.int .i64 y1_7.fwd, .int .i64 y1_7.back, .int .i64 y1_7.line, .int .i64 y1_7.used, .bool y1_7.dirty, .slice a1_7_00 (List.length y1_7.data) c1_7_00]] (by kernel_rfl) (by kernel_rfl) (fun _ => by kernel_rfl) (Tr.conv (Γ' := (CacheA c cc) :: (IntsA a1_7_00 c1_7_00 y1_7.data) :: (Asn.own b0_2 (.cells #[.int .i64 (0), .int .i64 (0), .int .i64 (0), .int .i64 (0), .int .i64 (0), .int .i64 (0), .slice none 0 0, .int .i64 (0), .int .i64 (0)] 35 (0, 0))) :: (Asn.own b0_1 (.cells #[.int .i64 p.kind, .int .i64 p.src, .int .i64 p.dst, .int .i64 p.id, .int .i64 p.line, .int .i64 p.ptr, .int .i64 p.state, .bool p.flag, .slice pa (List.length p.data) pcap] 40 (0, 0))) :: (Asn.own b0_0 (.cells #[.int .i64 d.kind, .int .i64 d.line, .int .i64 d.id, .int .i64 d.step, .int .i64 d.state, .int .i64 d.head, .slice da (List.length d.data) dcap, .int .i64 d.next, .int .i64 d.told] 35 (0, 0))) :: (ImmI da d.data) :: Γ) (fun w hw => (Sat.less (.take (.there (.there (.there (.there (.there .here))))) (.take .here (.take .here (.take .here (.take .here (.take .here .refl)))))) hw)) (PutF_tr c cc a1_7_00 c1_7_00 y1_7 (RowsA.reads (k := 1) .here) y1_8 hy1_8)) ?_
  rintro _ _ ⟨rfl, rfl⟩
  refine ops_end ?_
  refine At.env [(0, .agg #[.int .i64 d.kind, .int .i64 d.line, .int .i64 d.id, .int .i64 d.step, .int .i64 d.state, .int .i64 d.head, .slice da (List.length d.data) dcap, .int .i64 d.next, .int .i64 d.told]), (1, .int .i64 node), (2, .pointer (some ⟨c, 0, none⟩)), (3, .agg #[.int .i64 p.kind, .int .i64 p.src, .int .i64 p.dst, .int .i64 p.id, .int .i64 p.line, .int .i64 p.ptr, .int .i64 p.state, .bool p.flag, .slice pa (List.length p.data) pcap]), (4, .pointer (some ⟨b0_0, 0, none⟩)), (7, .pointer (some ⟨b0_1, 0, none⟩)), (8, .pointer (some ⟨b0_2, 0, none⟩)), (9, .bool false)] ⟨by kernel_rfl, by kernel_rfl, by kernel_rfl, by kernel_rfl, by kernel_rfl, by kernel_rfl, by kernel_rfl, by kernel_rfl, trivial⟩ ?_
  refine at_then_normal ?_
  refine at_seq (x := C48 [1, 1, 0]) (y := C48 [1, 1, 1]) (by kernel_rfl) ?_
  refine at_region (id := 2) 9 (by kernel_rfl) (by kernel_rfl) ?_
  refine s_pure 19 (.int .i64 node) (by kernel_rfl) (by kernel_rfl) (fun _ => by kernel_rfl) ?_
  refine s_pure 20 (.pointer (some ⟨b0_0, 3, none⟩)) (by kernel_rfl) (by kernel_rfl) (fun _ => by kernel_rfl) ?_
  refine s_do (by kernel_rfl) (by kernel_rfl) (st_store (off := 3) (vs := [.int .i64 (6)]) (c' := #[.int .i64 d.kind, .int .i64 d.line, .int .i64 d.id, .int .i64 (6), .int .i64 d.state, .int .i64 d.head, .slice da (List.length d.data) dcap, .int .i64 d.next, .int .i64 d.told]) (fun _ => by kernel_rfl) (.there (.there (.there (.there .here)))) (by kernel_rfl) (by kernel_rfl) (by kernel_rfl)) ?_
  rintro _ _ ⟨rfl, rfl⟩
  refine s_pure 21 (.pointer (some ⟨b0_0, 4, none⟩)) (by kernel_rfl) (by kernel_rfl) (fun _ => by kernel_rfl) ?_
  refine s_do (by kernel_rfl) (by kernel_rfl) (st_store (off := 4) (vs := [.int .i64 (1)]) (c' := #[.int .i64 d.kind, .int .i64 d.line, .int .i64 d.id, .int .i64 (6), .int .i64 (1), .int .i64 d.head, .slice da (List.length d.data) dcap, .int .i64 d.next, .int .i64 d.told]) (fun _ => by kernel_rfl) .here (by kernel_rfl) (by kernel_rfl) (by kernel_rfl)) ?_
  rintro _ _ ⟨rfl, rfl⟩
  refine s_pure 22 (.pointer (some ⟨b0_0, 5, none⟩)) (by kernel_rfl) (by kernel_rfl) (fun _ => by kernel_rfl) ?_
  refine s_do (by kernel_rfl) (by kernel_rfl) (st_store (off := 5) (vs := [.int .i64 node]) (c' := #[.int .i64 d.kind, .int .i64 d.line, .int .i64 d.id, .int .i64 (6), .int .i64 (1), .int .i64 node, .slice da (List.length d.data) dcap, .int .i64 d.next, .int .i64 d.told]) (fun _ => by kernel_rfl) .here (by kernel_rfl) (by kernel_rfl) (by kernel_rfl)) ?_
  rintro _ _ ⟨rfl, rfl⟩
  refine s_pure 23 (.pointer (some ⟨b0_0, 6, none⟩)) (by kernel_rfl) (by kernel_rfl) (fun _ => by kernel_rfl) ?_
  refine s_do (by kernel_rfl) (by kernel_rfl) (st_store (off := 6) (vs := [.slice none 0 0]) (c' := #[.int .i64 d.kind, .int .i64 d.line, .int .i64 d.id, .int .i64 (6), .int .i64 (1), .int .i64 node, .slice none 0 0, .int .i64 d.next, .int .i64 d.told]) (fun _ => by kernel_rfl) .here (by kernel_rfl) (by kernel_rfl) (by kernel_rfl)) ?_
  rintro _ _ ⟨rfl, rfl⟩
  refine ops_end ?_
  refine At.env [(0, .agg #[.int .i64 d.kind, .int .i64 d.line, .int .i64 d.id, .int .i64 d.step, .int .i64 d.state, .int .i64 d.head, .slice da (List.length d.data) dcap, .int .i64 d.next, .int .i64 d.told]), (1, .int .i64 node), (2, .pointer (some ⟨c, 0, none⟩)), (3, .agg #[.int .i64 p.kind, .int .i64 p.src, .int .i64 p.dst, .int .i64 p.id, .int .i64 p.line, .int .i64 p.ptr, .int .i64 p.state, .bool p.flag, .slice pa (List.length p.data) pcap]), (4, .pointer (some ⟨b0_0, 0, none⟩)), (7, .pointer (some ⟨b0_1, 0, none⟩)), (8, .pointer (some ⟨b0_2, 0, none⟩)), (9, .bool false)] ⟨by kernel_rfl, by kernel_rfl, by kernel_rfl, by kernel_rfl, by kernel_rfl, by kernel_rfl, by kernel_rfl, by kernel_rfl, trivial⟩ ?_
  refine at_then_normal ?_
  refine at_seq (x := C48 [1, 1, 1, 0]) (y := C48 [1, 1, 1, 1]) (by kernel_rfl) ?_
  refine at_seq (x := C48 [1, 1, 1, 0, 0]) (y := C48 [1, 1, 1, 0, 1]) (by kernel_rfl) ?_
  refine at_region (id := 3) 2 (by kernel_rfl) (by kernel_rfl) ?_
  refine s_pure 24 (.pointer (some ⟨b0_1, 7, none⟩)) (by kernel_rfl) (by kernel_rfl) (fun _ => by kernel_rfl) ?_
  refine s_load 25 (.bool p.flag) (by kernel_rfl) (by kernel_rfl) (load1 (off := 7) (fun _ => by kernel_rfl) (holds_own (.there (.there (.there (.there .here))))) (by kernel_rfl)) ?_
  refine ops_end ?_
  refine At.env [(0, .agg #[.int .i64 d.kind, .int .i64 d.line, .int .i64 d.id, .int .i64 d.step, .int .i64 d.state, .int .i64 d.head, .slice da (List.length d.data) dcap, .int .i64 d.next, .int .i64 d.told]), (1, .int .i64 node), (2, .pointer (some ⟨c, 0, none⟩)), (3, .agg #[.int .i64 p.kind, .int .i64 p.src, .int .i64 p.dst, .int .i64 p.id, .int .i64 p.line, .int .i64 p.ptr, .int .i64 p.state, .bool p.flag, .slice pa (List.length p.data) pcap]), (4, .pointer (some ⟨b0_0, 0, none⟩)), (7, .pointer (some ⟨b0_1, 0, none⟩)), (8, .pointer (some ⟨b0_2, 0, none⟩)), (9, .bool false), (25, .bool p.flag)] ⟨by kernel_rfl, by kernel_rfl, by kernel_rfl, by kernel_rfl, by kernel_rfl, by kernel_rfl, by kernel_rfl, by kernel_rfl, by kernel_rfl, trivial⟩ ?_
  refine at_then_normal ?_
  rcases Bool.eq_false_or_eq_true (p.flag) with h1 | h1
  · replace H := bifT H h1
    refine at_true (t := p.flag) (x := C48 [1, 1, 1, 0, 1, 0]) (y := C48 [1, 1, 1, 0, 1, 1]) (o := .tmp 25) (by kernel_rfl) (by kernel_rfl) (by kernel_rfl) h1 ?_
    refine at_region (id := 4) 5 (by kernel_rfl) (by kernel_rfl) ?_
    refine s_pure 26 (.pointer (some ⟨b0_1, 8, none⟩)) (by kernel_rfl) (by kernel_rfl) (fun _ => by kernel_rfl) ?_
    refine s_load 27 (.slice pa (List.length p.data) pcap) (by kernel_rfl) (by kernel_rfl) (load1 (off := 8) (fun _ => by kernel_rfl) (holds_own (.there (.there (.there (.there .here))))) (by kernel_rfl)) ?_
    obtain ⟨y4_2, hy4_2, H⟩ := bindE H
    refine s_call 28 41 #[.slice pa (List.length p.data) pcap] (by kernel_rfl) (by kernel_rfl) (fun _ => by kernel_rfl) (CloneF_tr pa pcap p.data (Reads.conv (fun w hw => hw.less (.drop .here (.drop .here (.drop .here (.drop .here (.drop .here (.drop .here .refl))))))) hrpa) y4_2 hy4_2) ?_
    rintro _ _ ⟨a4_2_00, c4_2_00, rfl, rfl⟩
    refine s_pure 29 (.pointer (some ⟨b0_0, 6, none⟩)) (by kernel_rfl) (by kernel_rfl) (fun _ => by kernel_rfl) ?_
    refine s_do (by kernel_rfl) (by kernel_rfl) (st_store (off := 6) (vs := [.slice a4_2_00 (List.length y4_2) c4_2_00]) (c' := #[.int .i64 d.kind, .int .i64 d.line, .int .i64 d.id, .int .i64 (6), .int .i64 (1), .int .i64 node, .slice a4_2_00 (List.length y4_2) c4_2_00, .int .i64 d.next, .int .i64 d.told]) (fun _ => by kernel_rfl) (.there .here) (by kernel_rfl) (by kernel_rfl) (by kernel_rfl)) ?_
    rintro _ _ ⟨rfl, rfl⟩
    refine ops_end ?_
    refine At.env [(0, .agg #[.int .i64 d.kind, .int .i64 d.line, .int .i64 d.id, .int .i64 d.step, .int .i64 d.state, .int .i64 d.head, .slice da (List.length d.data) dcap, .int .i64 d.next, .int .i64 d.told]), (1, .int .i64 node), (2, .pointer (some ⟨c, 0, none⟩)), (3, .agg #[.int .i64 p.kind, .int .i64 p.src, .int .i64 p.dst, .int .i64 p.id, .int .i64 p.line, .int .i64 p.ptr, .int .i64 p.state, .bool p.flag, .slice pa (List.length p.data) pcap]), (4, .pointer (some ⟨b0_0, 0, none⟩)), (7, .pointer (some ⟨b0_1, 0, none⟩)), (8, .pointer (some ⟨b0_2, 0, none⟩)), (9, .bool false), (25, .bool p.flag)] ⟨by kernel_rfl, by kernel_rfl, by kernel_rfl, by kernel_rfl, by kernel_rfl, by kernel_rfl, by kernel_rfl, by kernel_rfl, by kernel_rfl, trivial⟩ ?_
    refine at_then_normal ?_
    refine at_seq (x := C48 [1, 1, 1, 1, 0]) (y := C48 [1, 1, 1, 1, 1]) (by kernel_rfl) ?_
    refine at_region (id := 5) 3 (by kernel_rfl) (by kernel_rfl) ?_
    refine s_load 30 (.agg #[.int .i64 d.kind, .int .i64 d.line, .int .i64 d.id, .int .i64 (6), .int .i64 (1), .int .i64 node, .slice a4_2_00 (List.length y4_2) c4_2_00, .int .i64 d.next, .int .i64 d.told]) (by kernel_rfl) (by kernel_rfl) (loadN (off := 0) (vs := [.int .i64 d.kind, .int .i64 d.line, .int .i64 d.id, .int .i64 (6), .int .i64 (1), .int .i64 node, .slice a4_2_00 (List.length y4_2) c4_2_00, .int .i64 d.next, .int .i64 d.told]) 9 (fun _ => by kernel_rfl) (holds_own .here) rfl (by exact ⟨rfl, rfl, rfl, rfl, rfl, rfl, rfl, rfl, rfl, trivial⟩)) ?_
    refine s_do (by kernel_rfl) (by kernel_rfl) (st_store (off := 0) (vs := [.int .i64 d.kind, .int .i64 d.line, .int .i64 d.id, .int .i64 (6), .int .i64 (1), .int .i64 node, .slice a4_2_00 (List.length y4_2) c4_2_00, .int .i64 d.next, .int .i64 d.told]) (c' := #[.int .i64 d.kind, .int .i64 d.line, .int .i64 d.id, .int .i64 (6), .int .i64 (1), .int .i64 node, .slice a4_2_00 (List.length y4_2) c4_2_00, .int .i64 d.next, .int .i64 d.told]) (fun _ => by kernel_rfl) (.there (.there (.there (.there .here)))) (by kernel_rfl) (by kernel_rfl) (by kernel_rfl)) ?_
    rintro _ _ ⟨rfl, rfl⟩
    refine s_pure 9 (.bool true) (by kernel_rfl) (by kernel_rfl) (fun _ => by kernel_rfl) ?_
    refine ops_end ?_
    refine At.env [(0, .agg #[.int .i64 d.kind, .int .i64 d.line, .int .i64 d.id, .int .i64 d.step, .int .i64 d.state, .int .i64 d.head, .slice da (List.length d.data) dcap, .int .i64 d.next, .int .i64 d.told]), (1, .int .i64 node), (2, .pointer (some ⟨c, 0, none⟩)), (3, .agg #[.int .i64 p.kind, .int .i64 p.src, .int .i64 p.dst, .int .i64 p.id, .int .i64 p.line, .int .i64 p.ptr, .int .i64 p.state, .bool p.flag, .slice pa (List.length p.data) pcap]), (4, .pointer (some ⟨b0_0, 0, none⟩)), (7, .pointer (some ⟨b0_1, 0, none⟩)), (8, .pointer (some ⟨b0_2, 0, none⟩)), (9, .bool true), (25, .bool p.flag)] ⟨by kernel_rfl, by kernel_rfl, by kernel_rfl, by kernel_rfl, by kernel_rfl, by kernel_rfl, by kernel_rfl, by kernel_rfl, by kernel_rfl, trivial⟩ ?_
    refine at_then_normal ?_
    refine at_ret (by kernel_rfl) ?_
    obtain rfl := someE H
    refine at_backR [.agg #[.int .i64 d.kind, .int .i64 d.line, .int .i64 d.id, .int .i64 (6), .int .i64 (1), .int .i64 node, .slice a4_2_00 (List.length y4_2) c4_2_00, .int .i64 d.next, .int .i64 d.told], .bool true] ((ImmI a4_2_00 y4_2) :: (CacheA c y1_8.2) :: Γ) (rs := [.cell 8 35, .tmp 9]) (by kernel_rfl) (.cons (.cell (by kernel_rfl) (retN (off := 0) (vs := [.int .i64 d.kind, .int .i64 d.line, .int .i64 d.id, .int .i64 (6), .int .i64 (1), .int .i64 node, .slice a4_2_00 (List.length y4_2) c4_2_00, .int .i64 d.next, .int .i64 d.told]) 9 (fun _ => by kernel_rfl) (holds_own .here) rfl (by exact ⟨rfl, rfl, rfl, rfl, rfl, rfl, rfl, rfl, rfl, trivial⟩))) (.cons (.tmp (by kernel_rfl)) .nil)) (fun w hw => (Sat.less (.take .here (.take (.there (.there .here)) (.drop .here (.drop .here (.drop .here (.drop .here (.drop .here .refl))))))) (RowsA.freeze (Sat.less (.take (.there (.there .here)) (.take .here (.take .here (.take .here (.take .here (.take .here (.take .here .refl))))))) hw)))) ?_
    exact ⟨a4_2_00, c4_2_00, rfl, rfl⟩
  · replace H := bifF H h1
    refine at_false (t := p.flag) (x := C48 [1, 1, 1, 0, 1, 0]) (y := C48 [1, 1, 1, 0, 1, 1]) (o := .tmp 25) (by kernel_rfl) (by kernel_rfl) (by kernel_rfl) h1 ?_
    refine at_skip (by kernel_rfl) ?_
    refine at_then_normal ?_
    refine at_seq (x := C48 [1, 1, 1, 1, 0]) (y := C48 [1, 1, 1, 1, 1]) (by kernel_rfl) ?_
    refine at_region (id := 5) 3 (by kernel_rfl) (by kernel_rfl) ?_
    refine s_load 30 (.agg #[.int .i64 d.kind, .int .i64 d.line, .int .i64 d.id, .int .i64 (6), .int .i64 (1), .int .i64 node, .slice none 0 0, .int .i64 d.next, .int .i64 d.told]) (by kernel_rfl) (by kernel_rfl) (loadN (off := 0) (vs := [.int .i64 d.kind, .int .i64 d.line, .int .i64 d.id, .int .i64 (6), .int .i64 (1), .int .i64 node, .slice none 0 0, .int .i64 d.next, .int .i64 d.told]) 9 (fun _ => by kernel_rfl) (holds_own .here) rfl (by exact ⟨rfl, rfl, rfl, rfl, rfl, rfl, rfl, rfl, rfl, trivial⟩)) ?_
    refine s_do (by kernel_rfl) (by kernel_rfl) (st_store (off := 0) (vs := [.int .i64 d.kind, .int .i64 d.line, .int .i64 d.id, .int .i64 (6), .int .i64 (1), .int .i64 node, .slice none 0 0, .int .i64 d.next, .int .i64 d.told]) (c' := #[.int .i64 d.kind, .int .i64 d.line, .int .i64 d.id, .int .i64 (6), .int .i64 (1), .int .i64 node, .slice none 0 0, .int .i64 d.next, .int .i64 d.told]) (fun _ => by kernel_rfl) (.there (.there (.there .here))) (by kernel_rfl) (by kernel_rfl) (by kernel_rfl)) ?_
    rintro _ _ ⟨rfl, rfl⟩
    refine s_pure 9 (.bool true) (by kernel_rfl) (by kernel_rfl) (fun _ => by kernel_rfl) ?_
    refine ops_end ?_
    refine At.env [(0, .agg #[.int .i64 d.kind, .int .i64 d.line, .int .i64 d.id, .int .i64 d.step, .int .i64 d.state, .int .i64 d.head, .slice da (List.length d.data) dcap, .int .i64 d.next, .int .i64 d.told]), (1, .int .i64 node), (2, .pointer (some ⟨c, 0, none⟩)), (3, .agg #[.int .i64 p.kind, .int .i64 p.src, .int .i64 p.dst, .int .i64 p.id, .int .i64 p.line, .int .i64 p.ptr, .int .i64 p.state, .bool p.flag, .slice pa (List.length p.data) pcap]), (4, .pointer (some ⟨b0_0, 0, none⟩)), (7, .pointer (some ⟨b0_1, 0, none⟩)), (8, .pointer (some ⟨b0_2, 0, none⟩)), (9, .bool true), (25, .bool p.flag)] ⟨by kernel_rfl, by kernel_rfl, by kernel_rfl, by kernel_rfl, by kernel_rfl, by kernel_rfl, by kernel_rfl, by kernel_rfl, by kernel_rfl, trivial⟩ ?_
    refine at_then_normal ?_
    refine at_ret (by kernel_rfl) ?_
    obtain rfl := someE H
    refine at_backR [.agg #[.int .i64 d.kind, .int .i64 d.line, .int .i64 d.id, .int .i64 (6), .int .i64 (1), .int .i64 node, .slice none 0 0, .int .i64 d.next, .int .i64 d.told], .bool true] ((ImmI none ([] : List Int)) :: (CacheA c y1_8.2) :: Γ) (rs := [.cell 8 35, .tmp 9]) (by kernel_rfl) (.cons (.cell (by kernel_rfl) (retN (off := 0) (vs := [.int .i64 d.kind, .int .i64 d.line, .int .i64 d.id, .int .i64 (6), .int .i64 (1), .int .i64 node, .slice none 0 0, .int .i64 d.next, .int .i64 d.told]) 9 (fun _ => by kernel_rfl) (holds_own .here) rfl (by exact ⟨rfl, rfl, rfl, rfl, rfl, rfl, rfl, rfl, rfl, trivial⟩))) (.cons (.tmp (by kernel_rfl)) .nil)) (fun w hw => (Sat.less (.take .here (.take (.there (.there .here)) (.drop .here (.drop .here (.drop .here (.drop .here (.drop .here .refl))))))) (ImmR.nil_mk (k := 1) (a := none) hw))) ?_
    exact ⟨none, 0, rfl, rfl⟩
def anextS_j0 (cc : CacheS) (d : DealS) (node : Int) (p : PktS) (e0_18 : Bool) : Option (DealS × Bool × CacheS) :=
  (bif e0_18 then some ((⟨0, 0, 0, 0, 0, 0, ([] : List Int), 0, 0⟩ : DealS), false, cc) else (bif decide (d.step = (1 : Int)) then (alockedS d node cc p).bind fun y5_4 => some (y5_4.1, y5_4.2.1, y5_4.2.2) else (bif decide (d.step = (2 : Int)) then (atoldS d node cc p).bind fun y7_4 => some (y7_4.1, y7_4.2.1, y7_4.2.2) else (bif decide (d.step = (6 : Int)) then some ((⟨d.kind, d.line, d.id, 0, d.state, d.head, d.data, d.next, d.told⟩ : DealS), true, cc) else some ((⟨0, 0, 0, 0, 0, 0, ([] : List Int), 0, 0⟩ : DealS), false, cc)))))
def anextS (d : DealS) (node : Int) (cc : CacheS) (p : PktS) : Option (DealS × Bool × CacheS) :=
  (bif !(decide (d.kind = (1 : Int))) then anextS_j0 cc d node p true else (dfitsS d p).bind fun y1_6 => anextS_j0 cc d node p !y1_6)
noncomputable def C25 (p : List Nat) : Code := codeAt (bodyOf Try.f25) p
set_option maxRecDepth 100000 in
set_option maxHeartbeats 8000000 in
theorem ANextF_tr {W0 : World} {Γ : List Asn} (da : Option Addr) (dcap : Nat) (d : DealS) (node : Int) (c : Nat) (cc : CacheS) (pa : Option Addr) (pcap : Nat) (p : PktS) (hrpa : Reads W0 Γ pa (ints p.data)) (y : DealS × Bool × CacheS) (H : anextS d node cc p = some y) : Tr Try.prog 25 #[.agg #[.int .i64 d.kind, .int .i64 d.line, .int .i64 d.id, .int .i64 d.step, .int .i64 d.state, .int .i64 d.head, .slice da (List.length d.data) dcap, .int .i64 d.next, .int .i64 d.told], .int .i64 node, .pointer (some ⟨c, 0, none⟩), .agg #[.int .i64 p.kind, .int .i64 p.src, .int .i64 p.dst, .int .i64 p.id, .int .i64 p.line, .int .i64 p.ptr, .int .i64 p.state, .bool p.flag, .slice pa (List.length p.data) pcap]] W0 ((ImmI da d.data) :: (CacheA c cc) :: Γ) (fun r Δ => ∃ (a0_0 : Option Addr) (c0_0 : Nat), r = .tuple #[.agg #[.int .i64 y.1.kind, .int .i64 y.1.line, .int .i64 y.1.id, .int .i64 y.1.step, .int .i64 y.1.state, .int .i64 y.1.head, .slice a0_0 (List.length y.1.data) c0_0, .int .i64 y.1.next, .int .i64 y.1.told], .bool y.2.1] ∧ Δ = (ImmI a0_0 y.1.data) :: (CacheA c y.2.2) :: Γ) := by
  unfold anextS at H
  refine Tr.enter (fn := Try.f25) (c := C25 []) (args := [.agg #[.int .i64 d.kind, .int .i64 d.line, .int .i64 d.id, .int .i64 d.step, .int .i64 d.state, .int .i64 d.head, .slice da (List.length d.data) dcap, .int .i64 d.next, .int .i64 d.told], .int .i64 node, .pointer (some ⟨c, 0, none⟩), .agg #[.int .i64 p.kind, .int .i64 p.src, .int .i64 p.dst, .int .i64 p.id, .int .i64 p.line, .int .i64 p.ptr, .int .i64 p.state, .bool p.flag, .slice pa (List.length p.data) pcap]]) 45 Try.func25 (by kernel_rfl) (by kernel_rfl) ?_
  refine At.env [(0, .agg #[.int .i64 d.kind, .int .i64 d.line, .int .i64 d.id, .int .i64 d.step, .int .i64 d.state, .int .i64 d.head, .slice da (List.length d.data) dcap, .int .i64 d.next, .int .i64 d.told]), (1, .int .i64 node), (2, .pointer (some ⟨c, 0, none⟩)), (3, .agg #[.int .i64 p.kind, .int .i64 p.src, .int .i64 p.dst, .int .i64 p.id, .int .i64 p.line, .int .i64 p.ptr, .int .i64 p.state, .bool p.flag, .slice pa (List.length p.data) pcap])] ⟨by kernel_rfl, by kernel_rfl, by kernel_rfl, by kernel_rfl, trivial⟩ ?_
  refine at_seq (x := C25 [0]) (y := C25 [1]) (by kernel_rfl) ?_
  refine at_region (id := 0) 4 (by kernel_rfl) (by kernel_rfl) ?_
  refine s_step 4 (by kernel_rfl) (by kernel_rfl) (st_new (T := 35) (cells := #[.int .i64 d.kind, .int .i64 d.line, .int .i64 d.id, .int .i64 d.step, .int .i64 d.state, .int .i64 d.head, .slice da (List.length d.data) dcap, .int .i64 d.next, .int .i64 d.told]) (fun a => .pointer (some a)) (fun _ => by kernel_rfl)) ?_
  rintro _ _ ⟨b0_0, rfl, rfl⟩
  refine s_step 7 (by kernel_rfl) (by kernel_rfl) (st_new (T := 40) (cells := #[.int .i64 p.kind, .int .i64 p.src, .int .i64 p.dst, .int .i64 p.id, .int .i64 p.line, .int .i64 p.ptr, .int .i64 p.state, .bool p.flag, .slice pa (List.length p.data) pcap]) (fun a => .pointer (some a)) (fun _ => by kernel_rfl)) ?_
  rintro _ _ ⟨b0_1, rfl, rfl⟩
  refine s_step 8 (by kernel_rfl) (by kernel_rfl) (st_new (T := 35) (cells := #[.int .i64 (0), .int .i64 (0), .int .i64 (0), .int .i64 (0), .int .i64 (0), .int .i64 (0), .slice none 0 0, .int .i64 (0), .int .i64 (0)]) (fun a => .pointer (some a)) (fun _ => by kernel_rfl)) ?_
  rintro _ _ ⟨b0_2, rfl, rfl⟩
  refine s_pure 9 (.bool false) (by kernel_rfl) (by kernel_rfl) (fun _ => by kernel_rfl) ?_
  refine ops_end ?_
  refine At.env [(0, .agg #[.int .i64 d.kind, .int .i64 d.line, .int .i64 d.id, .int .i64 d.step, .int .i64 d.state, .int .i64 d.head, .slice da (List.length d.data) dcap, .int .i64 d.next, .int .i64 d.told]), (1, .int .i64 node), (2, .pointer (some ⟨c, 0, none⟩)), (3, .agg #[.int .i64 p.kind, .int .i64 p.src, .int .i64 p.dst, .int .i64 p.id, .int .i64 p.line, .int .i64 p.ptr, .int .i64 p.state, .bool p.flag, .slice pa (List.length p.data) pcap]), (4, .pointer (some ⟨b0_0, 0, none⟩)), (7, .pointer (some ⟨b0_1, 0, none⟩)), (8, .pointer (some ⟨b0_2, 0, none⟩)), (9, .bool false)] ⟨by kernel_rfl, by kernel_rfl, by kernel_rfl, by kernel_rfl, by kernel_rfl, by kernel_rfl, by kernel_rfl, by kernel_rfl, trivial⟩ ?_
  refine at_then_normal ?_
  refine at_seq (x := C25 [1, 0]) (y := C25 [1, 1]) (by kernel_rfl) ?_
  refine at_seq_join (x := C25 [1, 0, 0]) (y := C25 [1, 0, 1]) (fun ff ΔΔ => ∃ (e0_18 : Bool), anextS_j0 cc d node p e0_18 = some y ∧ ff = [(1, .int .i64 node), (2, .pointer (some ⟨c, 0, none⟩)), (4, .pointer (some ⟨b0_0, 0, none⟩)), (7, .pointer (some ⟨b0_1, 0, none⟩)), (8, .pointer (some ⟨b0_2, 0, none⟩)), (9, .bool false), (18, .bool e0_18)] ∧ (Asn.own b0_2 (.cells #[.int .i64 (0), .int .i64 (0), .int .i64 (0), .int .i64 (0), .int .i64 (0), .int .i64 (0), .slice none 0 0, .int .i64 (0), .int .i64 (0)] 35 (0, 0))) :: (Asn.own b0_1 (.cells #[.int .i64 p.kind, .int .i64 p.src, .int .i64 p.dst, .int .i64 p.id, .int .i64 p.line, .int .i64 p.ptr, .int .i64 p.state, .bool p.flag, .slice pa (List.length p.data) pcap] 40 (0, 0))) :: (Asn.own b0_0 (.cells #[.int .i64 d.kind, .int .i64 d.line, .int .i64 d.id, .int .i64 d.step, .int .i64 d.state, .int .i64 d.head, .slice da (List.length d.data) dcap, .int .i64 d.next, .int .i64 d.told] 35 (0, 0))) :: (ImmI da d.data) :: (CacheA c cc) :: Γ = ΔΔ) (by kernel_rfl) ?_ ?_
  · rintro _ _ ⟨e0_18, H, rfl, rfl⟩
    rw [anextS_j0] at H
    rcases Bool.eq_false_or_eq_true (e0_18) with h1 | h1
    · replace H := bifT H h1
      refine at_true (t := e0_18) (x := C25 [1, 0, 1, 0]) (y := C25 [1, 0, 1, 1]) (o := .tmp 18) (by kernel_rfl) (by kernel_rfl) (by kernel_rfl) h1 ?_
      refine at_seq (x := C25 [1, 0, 1, 0, 0]) (y := C25 [1, 0, 1, 0, 1]) (by kernel_rfl) ?_
      refine at_region (id := 2) 3 (by kernel_rfl) (by kernel_rfl) ?_
      refine s_pure 19 (.agg #[.int .i64 (0), .int .i64 (0), .int .i64 (0), .int .i64 (0), .int .i64 (0), .int .i64 (0), .slice none 0 0, .int .i64 (0), .int .i64 (0)]) (by kernel_rfl) (by kernel_rfl) (fun _ => by kernel_rfl) ?_
      refine s_do (by kernel_rfl) (by kernel_rfl) (st_store (off := 0) (vs := [.int .i64 (0), .int .i64 (0), .int .i64 (0), .int .i64 (0), .int .i64 (0), .int .i64 (0), .slice none 0 0, .int .i64 (0), .int .i64 (0)]) (c' := #[.int .i64 (0), .int .i64 (0), .int .i64 (0), .int .i64 (0), .int .i64 (0), .int .i64 (0), .slice none 0 0, .int .i64 (0), .int .i64 (0)]) (fun _ => by kernel_rfl) .here (by kernel_rfl) (by kernel_rfl) (by kernel_rfl)) ?_
      rintro _ _ ⟨rfl, rfl⟩
      refine s_pure 9 (.bool false) (by kernel_rfl) (by kernel_rfl) (fun _ => by kernel_rfl) ?_
      refine ops_end ?_
      refine At.env [(1, .int .i64 node), (2, .pointer (some ⟨c, 0, none⟩)), (4, .pointer (some ⟨b0_0, 0, none⟩)), (7, .pointer (some ⟨b0_1, 0, none⟩)), (8, .pointer (some ⟨b0_2, 0, none⟩)), (9, .bool false), (18, .bool e0_18)] ⟨by kernel_rfl, by kernel_rfl, by kernel_rfl, by kernel_rfl, by kernel_rfl, by kernel_rfl, by kernel_rfl, trivial⟩ ?_
      refine at_then_normal ?_
      refine at_ret (by kernel_rfl) ?_
      refine at_then_ret ?_
      obtain rfl := someE H
      refine at_backR [.agg #[.int .i64 (0), .int .i64 (0), .int .i64 (0), .int .i64 (0), .int .i64 (0), .int .i64 (0), .slice none 0 0, .int .i64 (0), .int .i64 (0)], .bool false] ((ImmI none ([] : List Int)) :: (CacheA c cc) :: Γ) (rs := [.cell 8 35, .tmp 9]) (by kernel_rfl) (.cons (.cell (by kernel_rfl) (retN (off := 0) (vs := [.int .i64 (0), .int .i64 (0), .int .i64 (0), .int .i64 (0), .int .i64 (0), .int .i64 (0), .slice none 0 0, .int .i64 (0), .int .i64 (0)]) 9 (fun _ => by kernel_rfl) (holds_own .here) rfl (by exact ⟨rfl, rfl, rfl, rfl, rfl, rfl, rfl, rfl, rfl, trivial⟩))) (.cons (.tmp (by kernel_rfl)) .nil)) (fun w hw => (Sat.less (.take .here (.take (.there (.there (.there (.there .here)))) (.drop .here (.drop .here (.drop .here (.drop .here .refl)))))) (ImmR.nil_mk (k := 1) (a := none) hw))) ?_
      exact ⟨none, 0, rfl, rfl⟩
    · replace H := bifF H h1
      refine at_false (t := e0_18) (x := C25 [1, 0, 1, 0]) (y := C25 [1, 0, 1, 1]) (o := .tmp 18) (by kernel_rfl) (by kernel_rfl) (by kernel_rfl) h1 ?_
      refine at_skip (by kernel_rfl) ?_
      refine at_then_normal ?_
      refine at_seq (x := C25 [1, 1, 0]) (y := C25 [1, 1, 1]) (by kernel_rfl) ?_
      refine at_seq (x := C25 [1, 1, 0, 0]) (y := C25 [1, 1, 0, 1]) (by kernel_rfl) ?_
      refine at_region (id := 3) 2 (by kernel_rfl) (by kernel_rfl) ?_
      refine s_pure 20 (.pointer (some ⟨b0_0, 3, none⟩)) (by kernel_rfl) (by kernel_rfl) (fun _ => by kernel_rfl) ?_
      refine s_load 21 (.int .i64 d.step) (by kernel_rfl) (by kernel_rfl) (load1 (off := 3) (fun _ => by kernel_rfl) (holds_own (.there (.there .here))) (by kernel_rfl)) ?_
      refine ops_end ?_
      refine At.env [(1, .int .i64 node), (2, .pointer (some ⟨c, 0, none⟩)), (4, .pointer (some ⟨b0_0, 0, none⟩)), (7, .pointer (some ⟨b0_1, 0, none⟩)), (8, .pointer (some ⟨b0_2, 0, none⟩)), (9, .bool false), (18, .bool e0_18), (21, .int .i64 d.step)] ⟨by kernel_rfl, by kernel_rfl, by kernel_rfl, by kernel_rfl, by kernel_rfl, by kernel_rfl, by kernel_rfl, by kernel_rfl, trivial⟩ ?_
      refine at_then_normal ?_
      refine at_block (i := 0) (x := C25 [1, 1, 0, 1, 0]) (by kernel_rfl) ?_
      refine at_seq (x := C25 [1, 1, 0, 1, 0, 0]) (y := C25 [1, 1, 0, 1, 0, 1]) (by kernel_rfl) ?_
      refine at_region (id := 4) 2 (by kernel_rfl) (by kernel_rfl) ?_
      refine s_pure 23 (.bool (decide (d.step = (1 : Int)))) (by kernel_rfl) (by kernel_rfl) (fun _ => by kernel_rfl) ?_
      refine s_pure 22 (.bool (decide (d.step = (1 : Int)))) (by kernel_rfl) (by kernel_rfl) (fun _ => by kernel_rfl) ?_
      refine ops_end ?_
      refine At.env [(1, .int .i64 node), (2, .pointer (some ⟨c, 0, none⟩)), (4, .pointer (some ⟨b0_0, 0, none⟩)), (7, .pointer (some ⟨b0_1, 0, none⟩)), (8, .pointer (some ⟨b0_2, 0, none⟩)), (9, .bool false), (18, .bool e0_18), (21, .int .i64 d.step), (22, .bool (decide (d.step = (1 : Int))))] ⟨by kernel_rfl, by kernel_rfl, by kernel_rfl, by kernel_rfl, by kernel_rfl, by kernel_rfl, by kernel_rfl, by kernel_rfl, by kernel_rfl, trivial⟩ ?_
      refine at_then_normal ?_
      rcases Bool.eq_false_or_eq_true (decide (d.step = (1 : Int))) with h2 | h2
      · replace H := bifT H h2
        refine at_true (t := decide (d.step = (1 : Int))) (x := C25 [1, 1, 0, 1, 0, 1, 0]) (y := C25 [1, 1, 0, 1, 0, 1, 1]) (o := .tmp 22) (by kernel_rfl) (by kernel_rfl) (by kernel_rfl) h2 ?_
        refine at_seq (x := C25 [1, 1, 0, 1, 0, 1, 0, 0]) (y := C25 [1, 1, 0, 1, 0, 1, 0, 1]) (by kernel_rfl) ?_
        refine at_region (id := 5) 9 (by kernel_rfl) (by kernel_rfl) ?_
        refine s_load 24 (.agg #[.int .i64 d.kind, .int .i64 d.line, .int .i64 d.id, .int .i64 d.step, .int .i64 d.state, .int .i64 d.head, .slice da (List.length d.data) dcap, .int .i64 d.next, .int .i64 d.told]) (by kernel_rfl) (by kernel_rfl) (loadN (off := 0) (vs := [.int .i64 d.kind, .int .i64 d.line, .int .i64 d.id, .int .i64 d.step, .int .i64 d.state, .int .i64 d.head, .slice da (List.length d.data) dcap, .int .i64 d.next, .int .i64 d.told]) 9 (fun _ => by kernel_rfl) (holds_own (.there (.there .here))) rfl (by exact ⟨rfl, rfl, rfl, rfl, rfl, rfl, rfl, rfl, rfl, trivial⟩)) ?_
        refine s_pure 25 (.int .i64 node) (by kernel_rfl) (by kernel_rfl) (fun _ => by kernel_rfl) ?_
        refine s_pure 26 (.pointer (some ⟨c, 0, none⟩)) (by kernel_rfl) (by kernel_rfl) (fun _ => by kernel_rfl) ?_
        refine s_load 27 (.agg #[.int .i64 p.kind, .int .i64 p.src, .int .i64 p.dst, .int .i64 p.id, .int .i64 p.line, .int .i64 p.ptr, .int .i64 p.state, .bool p.flag, .slice pa (List.length p.data) pcap]) (by kernel_rfl) (by kernel_rfl) (loadN (off := 0) (vs := [.int .i64 p.kind, .int .i64 p.src, .int .i64 p.dst, .int .i64 p.id, .int .i64 p.line, .int .i64 p.ptr, .int .i64 p.state, .bool p.flag, .slice pa (List.length p.data) pcap]) 9 (fun _ => by kernel_rfl) (holds_own (.there .here)) rfl (by exact ⟨rfl, rfl, rfl, rfl, rfl, rfl, rfl, rfl, rfl, trivial⟩)) ?_
        obtain ⟨y5_4, hy5_4, H⟩ := bindE H
        refine s_call 28 47 #[.agg #[.int .i64 d.kind, .int .i64 d.line, .int .i64 d.id, .int .i64 d.step, .int .i64 d.state, .int .i64 d.head, .slice da (List.length d.data) dcap, .int .i64 d.next, .int .i64 d.told], .int .i64 node, .pointer (some ⟨c, 0, none⟩), .agg #[.int .i64 p.kind, .int .i64 p.src, .int .i64 p.dst, .int .i64 p.id, .int .i64 p.line, .int .i64 p.ptr, .int .i64 p.state, .bool p.flag, .slice pa (List.length p.data) pcap]] (by kernel_rfl) (by kernel_rfl) (fun _ => by kernel_rfl) (Tr.conv (Γ' := (ImmI da d.data) :: (CacheA c cc) :: (ImmI da d.data) :: (Asn.own b0_2 (.cells #[.int .i64 (0), .int .i64 (0), .int .i64 (0), .int .i64 (0), .int .i64 (0), .int .i64 (0), .slice none 0 0, .int .i64 (0), .int .i64 (0)] 35 (0, 0))) :: (Asn.own b0_1 (.cells #[.int .i64 p.kind, .int .i64 p.src, .int .i64 p.dst, .int .i64 p.id, .int .i64 p.line, .int .i64 p.ptr, .int .i64 p.state, .bool p.flag, .slice pa (List.length p.data) pcap] 40 (0, 0))) :: (Asn.own b0_0 (.cells #[.int .i64 d.kind, .int .i64 d.line, .int .i64 d.id, .int .i64 d.step, .int .i64 d.state, .int .i64 d.head, .slice da (List.length d.data) dcap, .int .i64 d.next, .int .i64 d.told] 35 (0, 0))) :: Γ) (fun w hw => (Sat.less (.take .here (.take (.there (.there (.there (.there .here)))) (.take .here (.take .here (.take .here (.take .here .refl)))))) (ImmR.dup (Sat.less (.take (.there (.there (.there .here))) (.take .here (.take .here (.take .here (.take .here .refl))))) hw)))) (ALockedF_tr da dcap d node c cc pa pcap p (Reads.conv (fun w hw => hw.less (.drop .here (.drop .here (.drop .here (.drop .here .refl))))) hrpa) y5_4 hy5_4)) ?_
        rintro _ _ ⟨a5_4_00, c5_4_00, rfl, rfl⟩
        refine s_pure 29 (.agg #[.int .i64 y5_4.1.kind, .int .i64 y5_4.1.line, .int .i64 y5_4.1.id, .int .i64 y5_4.1.step, .int .i64 y5_4.1.state, .int .i64 y5_4.1.head, .slice a5_4_00 (List.length y5_4.1.data) c5_4_00, .int .i64 y5_4.1.next, .int .i64 y5_4.1.told]) (by kernel_rfl) (by kernel_rfl) (fun _ => by kernel_rfl) ?_
        refine s_pure 30 (.bool y5_4.2.1) (by kernel_rfl) (by kernel_rfl) (fun _ => by kernel_rfl) ?_
        refine s_do (by kernel_rfl) (by kernel_rfl) (st_store (off := 0) (vs := [.int .i64 y5_4.1.kind, .int .i64 y5_4.1.line, .int .i64 y5_4.1.id, .int .i64 y5_4.1.step, .int .i64 y5_4.1.state, .int .i64 y5_4.1.head, .slice a5_4_00 (List.length y5_4.1.data) c5_4_00, .int .i64 y5_4.1.next, .int .i64 y5_4.1.told]) (c' := #[.int .i64 y5_4.1.kind, .int .i64 y5_4.1.line, .int .i64 y5_4.1.id, .int .i64 y5_4.1.step, .int .i64 y5_4.1.state, .int .i64 y5_4.1.head, .slice a5_4_00 (List.length y5_4.1.data) c5_4_00, .int .i64 y5_4.1.next, .int .i64 y5_4.1.told]) (fun _ => by kernel_rfl) (.there (.there (.there .here))) (by kernel_rfl) (by kernel_rfl) (by kernel_rfl)) ?_
        rintro _ _ ⟨rfl, rfl⟩
        refine s_pure 9 (.bool y5_4.2.1) (by kernel_rfl) (by kernel_rfl) (fun _ => by kernel_rfl) ?_
        refine ops_end ?_
        refine At.env [(1, .int .i64 node), (2, .pointer (some ⟨c, 0, none⟩)), (4, .pointer (some ⟨b0_0, 0, none⟩)), (7, .pointer (some ⟨b0_1, 0, none⟩)), (8, .pointer (some ⟨b0_2, 0, none⟩)), (9, .bool y5_4.2.1), (18, .bool e0_18), (21, .int .i64 d.step), (22, .bool (decide (d.step = (1 : Int))))] ⟨by kernel_rfl, by kernel_rfl, by kernel_rfl, by kernel_rfl, by kernel_rfl, by kernel_rfl, by kernel_rfl, by kernel_rfl, by kernel_rfl, trivial⟩ ?_
        refine at_then_normal ?_
        refine at_ret (by kernel_rfl) ?_
        refine at_in_ret ?_
        refine at_then_ret ?_
        obtain rfl := someE H
        refine at_backR [.agg #[.int .i64 y5_4.1.kind, .int .i64 y5_4.1.line, .int .i64 y5_4.1.id, .int .i64 y5_4.1.step, .int .i64 y5_4.1.state, .int .i64 y5_4.1.head, .slice a5_4_00 (List.length y5_4.1.data) c5_4_00, .int .i64 y5_4.1.next, .int .i64 y5_4.1.told], .bool y5_4.2.1] ((ImmI a5_4_00 y5_4.1.data) :: (CacheA c y5_4.2.2) :: Γ) (rs := [.cell 8 35, .tmp 9]) (by kernel_rfl) (.cons (.cell (by kernel_rfl) (retN (off := 0) (vs := [.int .i64 y5_4.1.kind, .int .i64 y5_4.1.line, .int .i64 y5_4.1.id, .int .i64 y5_4.1.step, .int .i64 y5_4.1.state, .int .i64 y5_4.1.head, .slice a5_4_00 (List.length y5_4.1.data) c5_4_00, .int .i64 y5_4.1.next, .int .i64 y5_4.1.told]) 9 (fun _ => by kernel_rfl) (holds_own .here) rfl (by exact ⟨rfl, rfl, rfl, rfl, rfl, rfl, rfl, rfl, rfl, trivial⟩))) (.cons (.tmp (by kernel_rfl)) .nil)) (fun w hw => (Sat.less (.take (.there .here) (.take (.there .here) (.drop .here (.drop .here (.drop .here (.drop .here .refl)))))) hw)) ?_
        exact ⟨a5_4_00, c5_4_00, rfl, rfl⟩
      · replace H := bifF H h2
        refine at_false (t := decide (d.step = (1 : Int))) (x := C25 [1, 1, 0, 1, 0, 1, 0]) (y := C25 [1, 1, 0, 1, 0, 1, 1]) (o := .tmp 22) (by kernel_rfl) (by kernel_rfl) (by kernel_rfl) h2 ?_
        refine at_seq (x := C25 [1, 1, 0, 1, 0, 1, 1, 0]) (y := C25 [1, 1, 0, 1, 0, 1, 1, 1]) (by kernel_rfl) ?_
        refine at_region (id := 6) 2 (by kernel_rfl) (by kernel_rfl) ?_
        refine s_pure 32 (.bool (decide (d.step = (2 : Int)))) (by kernel_rfl) (by kernel_rfl) (fun _ => by kernel_rfl) ?_
        refine s_pure 31 (.bool (decide (d.step = (2 : Int)))) (by kernel_rfl) (by kernel_rfl) (fun _ => by kernel_rfl) ?_
        refine ops_end ?_
        refine At.env [(1, .int .i64 node), (2, .pointer (some ⟨c, 0, none⟩)), (4, .pointer (some ⟨b0_0, 0, none⟩)), (7, .pointer (some ⟨b0_1, 0, none⟩)), (8, .pointer (some ⟨b0_2, 0, none⟩)), (9, .bool false), (18, .bool e0_18), (21, .int .i64 d.step), (22, .bool (decide (d.step = (1 : Int)))), (31, .bool (decide (d.step = (2 : Int))))] ⟨by kernel_rfl, by kernel_rfl, by kernel_rfl, by kernel_rfl, by kernel_rfl, by kernel_rfl, by kernel_rfl, by kernel_rfl, by kernel_rfl, by kernel_rfl, trivial⟩ ?_
        refine at_then_normal ?_
        rcases Bool.eq_false_or_eq_true (decide (d.step = (2 : Int))) with h3 | h3
        · replace H := bifT H h3
          refine at_true (t := decide (d.step = (2 : Int))) (x := C25 [1, 1, 0, 1, 0, 1, 1, 1, 0]) (y := C25 [1, 1, 0, 1, 0, 1, 1, 1, 1]) (o := .tmp 31) (by kernel_rfl) (by kernel_rfl) (by kernel_rfl) h3 ?_
          refine at_seq (x := C25 [1, 1, 0, 1, 0, 1, 1, 1, 0, 0]) (y := C25 [1, 1, 0, 1, 0, 1, 1, 1, 0, 1]) (by kernel_rfl) ?_
          refine at_region (id := 7) 9 (by kernel_rfl) (by kernel_rfl) ?_
          refine s_load 33 (.agg #[.int .i64 d.kind, .int .i64 d.line, .int .i64 d.id, .int .i64 d.step, .int .i64 d.state, .int .i64 d.head, .slice da (List.length d.data) dcap, .int .i64 d.next, .int .i64 d.told]) (by kernel_rfl) (by kernel_rfl) (loadN (off := 0) (vs := [.int .i64 d.kind, .int .i64 d.line, .int .i64 d.id, .int .i64 d.step, .int .i64 d.state, .int .i64 d.head, .slice da (List.length d.data) dcap, .int .i64 d.next, .int .i64 d.told]) 9 (fun _ => by kernel_rfl) (holds_own (.there (.there .here))) rfl (by exact ⟨rfl, rfl, rfl, rfl, rfl, rfl, rfl, rfl, rfl, trivial⟩)) ?_
          refine s_pure 34 (.int .i64 node) (by kernel_rfl) (by kernel_rfl) (fun _ => by kernel_rfl) ?_
          refine s_pure 35 (.pointer (some ⟨c, 0, none⟩)) (by kernel_rfl) (by kernel_rfl) (fun _ => by kernel_rfl) ?_
          refine s_load 36 (.agg #[.int .i64 p.kind, .int .i64 p.src, .int .i64 p.dst, .int .i64 p.id, .int .i64 p.line, .int .i64 p.ptr, .int .i64 p.state, .bool p.flag, .slice pa (List.length p.data) pcap]) (by kernel_rfl) (by kernel_rfl) (loadN (off := 0) (vs := [.int .i64 p.kind, .int .i64 p.src, .int .i64 p.dst, .int .i64 p.id, .int .i64 p.line, .int .i64 p.ptr, .int .i64 p.state, .bool p.flag, .slice pa (List.length p.data) pcap]) 9 (fun _ => by kernel_rfl) (holds_own (.there .here)) rfl (by exact ⟨rfl, rfl, rfl, rfl, rfl, rfl, rfl, rfl, rfl, trivial⟩)) ?_
          obtain ⟨y7_4, hy7_4, H⟩ := bindE H
          refine s_call 37 48 #[.agg #[.int .i64 d.kind, .int .i64 d.line, .int .i64 d.id, .int .i64 d.step, .int .i64 d.state, .int .i64 d.head, .slice da (List.length d.data) dcap, .int .i64 d.next, .int .i64 d.told], .int .i64 node, .pointer (some ⟨c, 0, none⟩), .agg #[.int .i64 p.kind, .int .i64 p.src, .int .i64 p.dst, .int .i64 p.id, .int .i64 p.line, .int .i64 p.ptr, .int .i64 p.state, .bool p.flag, .slice pa (List.length p.data) pcap]] (by kernel_rfl) (by kernel_rfl) (fun _ => by kernel_rfl) (Tr.conv (Γ' := (ImmI da d.data) :: (CacheA c cc) :: (ImmI da d.data) :: (Asn.own b0_2 (.cells #[.int .i64 (0), .int .i64 (0), .int .i64 (0), .int .i64 (0), .int .i64 (0), .int .i64 (0), .slice none 0 0, .int .i64 (0), .int .i64 (0)] 35 (0, 0))) :: (Asn.own b0_1 (.cells #[.int .i64 p.kind, .int .i64 p.src, .int .i64 p.dst, .int .i64 p.id, .int .i64 p.line, .int .i64 p.ptr, .int .i64 p.state, .bool p.flag, .slice pa (List.length p.data) pcap] 40 (0, 0))) :: (Asn.own b0_0 (.cells #[.int .i64 d.kind, .int .i64 d.line, .int .i64 d.id, .int .i64 d.step, .int .i64 d.state, .int .i64 d.head, .slice da (List.length d.data) dcap, .int .i64 d.next, .int .i64 d.told] 35 (0, 0))) :: Γ) (fun w hw => (Sat.less (.take .here (.take (.there (.there (.there (.there .here)))) (.take .here (.take .here (.take .here (.take .here .refl)))))) (ImmR.dup (Sat.less (.take (.there (.there (.there .here))) (.take .here (.take .here (.take .here (.take .here .refl))))) hw)))) (AToldF_tr da dcap d node c cc pa pcap p (Reads.conv (fun w hw => hw.less (.drop .here (.drop .here (.drop .here (.drop .here .refl))))) hrpa) y7_4 hy7_4)) ?_
          rintro _ _ ⟨a7_4_00, c7_4_00, rfl, rfl⟩
          refine s_pure 38 (.agg #[.int .i64 y7_4.1.kind, .int .i64 y7_4.1.line, .int .i64 y7_4.1.id, .int .i64 y7_4.1.step, .int .i64 y7_4.1.state, .int .i64 y7_4.1.head, .slice a7_4_00 (List.length y7_4.1.data) c7_4_00, .int .i64 y7_4.1.next, .int .i64 y7_4.1.told]) (by kernel_rfl) (by kernel_rfl) (fun _ => by kernel_rfl) ?_
          refine s_pure 39 (.bool y7_4.2.1) (by kernel_rfl) (by kernel_rfl) (fun _ => by kernel_rfl) ?_
          refine s_do (by kernel_rfl) (by kernel_rfl) (st_store (off := 0) (vs := [.int .i64 y7_4.1.kind, .int .i64 y7_4.1.line, .int .i64 y7_4.1.id, .int .i64 y7_4.1.step, .int .i64 y7_4.1.state, .int .i64 y7_4.1.head, .slice a7_4_00 (List.length y7_4.1.data) c7_4_00, .int .i64 y7_4.1.next, .int .i64 y7_4.1.told]) (c' := #[.int .i64 y7_4.1.kind, .int .i64 y7_4.1.line, .int .i64 y7_4.1.id, .int .i64 y7_4.1.step, .int .i64 y7_4.1.state, .int .i64 y7_4.1.head, .slice a7_4_00 (List.length y7_4.1.data) c7_4_00, .int .i64 y7_4.1.next, .int .i64 y7_4.1.told]) (fun _ => by kernel_rfl) (.there (.there (.there .here))) (by kernel_rfl) (by kernel_rfl) (by kernel_rfl)) ?_
          rintro _ _ ⟨rfl, rfl⟩
          refine s_pure 9 (.bool y7_4.2.1) (by kernel_rfl) (by kernel_rfl) (fun _ => by kernel_rfl) ?_
          refine ops_end ?_
          refine At.env [(1, .int .i64 node), (2, .pointer (some ⟨c, 0, none⟩)), (4, .pointer (some ⟨b0_0, 0, none⟩)), (7, .pointer (some ⟨b0_1, 0, none⟩)), (8, .pointer (some ⟨b0_2, 0, none⟩)), (9, .bool y7_4.2.1), (18, .bool e0_18), (21, .int .i64 d.step), (22, .bool (decide (d.step = (1 : Int)))), (31, .bool (decide (d.step = (2 : Int))))] ⟨by kernel_rfl, by kernel_rfl, by kernel_rfl, by kernel_rfl, by kernel_rfl, by kernel_rfl, by kernel_rfl, by kernel_rfl, by kernel_rfl, by kernel_rfl, trivial⟩ ?_
          refine at_then_normal ?_
          refine at_ret (by kernel_rfl) ?_
          refine at_in_ret ?_
          refine at_then_ret ?_
          obtain rfl := someE H
          refine at_backR [.agg #[.int .i64 y7_4.1.kind, .int .i64 y7_4.1.line, .int .i64 y7_4.1.id, .int .i64 y7_4.1.step, .int .i64 y7_4.1.state, .int .i64 y7_4.1.head, .slice a7_4_00 (List.length y7_4.1.data) c7_4_00, .int .i64 y7_4.1.next, .int .i64 y7_4.1.told], .bool y7_4.2.1] ((ImmI a7_4_00 y7_4.1.data) :: (CacheA c y7_4.2.2) :: Γ) (rs := [.cell 8 35, .tmp 9]) (by kernel_rfl) (.cons (.cell (by kernel_rfl) (retN (off := 0) (vs := [.int .i64 y7_4.1.kind, .int .i64 y7_4.1.line, .int .i64 y7_4.1.id, .int .i64 y7_4.1.step, .int .i64 y7_4.1.state, .int .i64 y7_4.1.head, .slice a7_4_00 (List.length y7_4.1.data) c7_4_00, .int .i64 y7_4.1.next, .int .i64 y7_4.1.told]) 9 (fun _ => by kernel_rfl) (holds_own .here) rfl (by exact ⟨rfl, rfl, rfl, rfl, rfl, rfl, rfl, rfl, rfl, trivial⟩))) (.cons (.tmp (by kernel_rfl)) .nil)) (fun w hw => (Sat.less (.take (.there .here) (.take (.there .here) (.drop .here (.drop .here (.drop .here (.drop .here .refl)))))) hw)) ?_
          exact ⟨a7_4_00, c7_4_00, rfl, rfl⟩
        · replace H := bifF H h3
          refine at_false (t := decide (d.step = (2 : Int))) (x := C25 [1, 1, 0, 1, 0, 1, 1, 1, 0]) (y := C25 [1, 1, 0, 1, 0, 1, 1, 1, 1]) (o := .tmp 31) (by kernel_rfl) (by kernel_rfl) (by kernel_rfl) h3 ?_
          refine at_seq (x := C25 [1, 1, 0, 1, 0, 1, 1, 1, 1, 0]) (y := C25 [1, 1, 0, 1, 0, 1, 1, 1, 1, 1]) (by kernel_rfl) ?_
          refine at_region (id := 8) 2 (by kernel_rfl) (by kernel_rfl) ?_
          refine s_pure 41 (.bool (decide (d.step = (6 : Int)))) (by kernel_rfl) (by kernel_rfl) (fun _ => by kernel_rfl) ?_
          refine s_pure 40 (.bool (decide (d.step = (6 : Int)))) (by kernel_rfl) (by kernel_rfl) (fun _ => by kernel_rfl) ?_
          refine ops_end ?_
          refine At.env [(1, .int .i64 node), (2, .pointer (some ⟨c, 0, none⟩)), (4, .pointer (some ⟨b0_0, 0, none⟩)), (7, .pointer (some ⟨b0_1, 0, none⟩)), (8, .pointer (some ⟨b0_2, 0, none⟩)), (9, .bool false), (18, .bool e0_18), (21, .int .i64 d.step), (22, .bool (decide (d.step = (1 : Int)))), (31, .bool (decide (d.step = (2 : Int)))), (40, .bool (decide (d.step = (6 : Int))))] ⟨by kernel_rfl, by kernel_rfl, by kernel_rfl, by kernel_rfl, by kernel_rfl, by kernel_rfl, by kernel_rfl, by kernel_rfl, by kernel_rfl, by kernel_rfl, by kernel_rfl, trivial⟩ ?_
          refine at_then_normal ?_
          rcases Bool.eq_false_or_eq_true (decide (d.step = (6 : Int))) with h4 | h4
          · replace H := bifT H h4
            refine at_true (t := decide (d.step = (6 : Int))) (x := C25 [1, 1, 0, 1, 0, 1, 1, 1, 1, 1, 0]) (y := C25 [1, 1, 0, 1, 0, 1, 1, 1, 1, 1, 1]) (o := .tmp 40) (by kernel_rfl) (by kernel_rfl) (by kernel_rfl) h4 ?_
            refine at_seq (x := C25 [1, 1, 0, 1, 0, 1, 1, 1, 1, 1, 0, 0]) (y := C25 [1, 1, 0, 1, 0, 1, 1, 1, 1, 1, 0, 1]) (by kernel_rfl) ?_
            refine at_region (id := 9) 2 (by kernel_rfl) (by kernel_rfl) ?_
            refine s_pure 42 (.pointer (some ⟨b0_0, 3, none⟩)) (by kernel_rfl) (by kernel_rfl) (fun _ => by kernel_rfl) ?_
            refine s_do (by kernel_rfl) (by kernel_rfl) (st_store (off := 3) (vs := [.int .i64 (0)]) (c' := #[.int .i64 d.kind, .int .i64 d.line, .int .i64 d.id, .int .i64 (0), .int .i64 d.state, .int .i64 d.head, .slice da (List.length d.data) dcap, .int .i64 d.next, .int .i64 d.told]) (fun _ => by kernel_rfl) (.there (.there .here)) (by kernel_rfl) (by kernel_rfl) (by kernel_rfl)) ?_
            rintro _ _ ⟨rfl, rfl⟩
            refine ops_end ?_
            refine At.env [(1, .int .i64 node), (2, .pointer (some ⟨c, 0, none⟩)), (4, .pointer (some ⟨b0_0, 0, none⟩)), (7, .pointer (some ⟨b0_1, 0, none⟩)), (8, .pointer (some ⟨b0_2, 0, none⟩)), (9, .bool false), (18, .bool e0_18), (21, .int .i64 d.step), (22, .bool (decide (d.step = (1 : Int)))), (31, .bool (decide (d.step = (2 : Int)))), (40, .bool (decide (d.step = (6 : Int))))] ⟨by kernel_rfl, by kernel_rfl, by kernel_rfl, by kernel_rfl, by kernel_rfl, by kernel_rfl, by kernel_rfl, by kernel_rfl, by kernel_rfl, by kernel_rfl, by kernel_rfl, trivial⟩ ?_
            refine at_then_normal ?_
            refine at_seq (x := C25 [1, 1, 0, 1, 0, 1, 1, 1, 1, 1, 0, 1, 0]) (y := C25 [1, 1, 0, 1, 0, 1, 1, 1, 1, 1, 0, 1, 1]) (by kernel_rfl) ?_
            refine at_region (id := 10) 3 (by kernel_rfl) (by kernel_rfl) ?_
            refine s_load 43 (.agg #[.int .i64 d.kind, .int .i64 d.line, .int .i64 d.id, .int .i64 (0), .int .i64 d.state, .int .i64 d.head, .slice da (List.length d.data) dcap, .int .i64 d.next, .int .i64 d.told]) (by kernel_rfl) (by kernel_rfl) (loadN (off := 0) (vs := [.int .i64 d.kind, .int .i64 d.line, .int .i64 d.id, .int .i64 (0), .int .i64 d.state, .int .i64 d.head, .slice da (List.length d.data) dcap, .int .i64 d.next, .int .i64 d.told]) 9 (fun _ => by kernel_rfl) (holds_own .here) rfl (by exact ⟨rfl, rfl, rfl, rfl, rfl, rfl, rfl, rfl, rfl, trivial⟩)) ?_
            refine s_do (by kernel_rfl) (by kernel_rfl) (st_store (off := 0) (vs := [.int .i64 d.kind, .int .i64 d.line, .int .i64 d.id, .int .i64 (0), .int .i64 d.state, .int .i64 d.head, .slice da (List.length d.data) dcap, .int .i64 d.next, .int .i64 d.told]) (c' := #[.int .i64 d.kind, .int .i64 d.line, .int .i64 d.id, .int .i64 (0), .int .i64 d.state, .int .i64 d.head, .slice da (List.length d.data) dcap, .int .i64 d.next, .int .i64 d.told]) (fun _ => by kernel_rfl) (.there .here) (by kernel_rfl) (by kernel_rfl) (by kernel_rfl)) ?_
            rintro _ _ ⟨rfl, rfl⟩
            refine s_pure 9 (.bool true) (by kernel_rfl) (by kernel_rfl) (fun _ => by kernel_rfl) ?_
            refine ops_end ?_
            refine At.env [(1, .int .i64 node), (2, .pointer (some ⟨c, 0, none⟩)), (4, .pointer (some ⟨b0_0, 0, none⟩)), (7, .pointer (some ⟨b0_1, 0, none⟩)), (8, .pointer (some ⟨b0_2, 0, none⟩)), (9, .bool true), (18, .bool e0_18), (21, .int .i64 d.step), (22, .bool (decide (d.step = (1 : Int)))), (31, .bool (decide (d.step = (2 : Int)))), (40, .bool (decide (d.step = (6 : Int))))] ⟨by kernel_rfl, by kernel_rfl, by kernel_rfl, by kernel_rfl, by kernel_rfl, by kernel_rfl, by kernel_rfl, by kernel_rfl, by kernel_rfl, by kernel_rfl, by kernel_rfl, trivial⟩ ?_
            refine at_then_normal ?_
            refine at_ret (by kernel_rfl) ?_
            refine at_in_ret ?_
            refine at_then_ret ?_
            obtain rfl := someE H
            refine at_backR [.agg #[.int .i64 d.kind, .int .i64 d.line, .int .i64 d.id, .int .i64 (0), .int .i64 d.state, .int .i64 d.head, .slice da (List.length d.data) dcap, .int .i64 d.next, .int .i64 d.told], .bool true] ((ImmI da d.data) :: (CacheA c cc) :: Γ) (rs := [.cell 8 35, .tmp 9]) (by kernel_rfl) (.cons (.cell (by kernel_rfl) (retN (off := 0) (vs := [.int .i64 d.kind, .int .i64 d.line, .int .i64 d.id, .int .i64 (0), .int .i64 d.state, .int .i64 d.head, .slice da (List.length d.data) dcap, .int .i64 d.next, .int .i64 d.told]) 9 (fun _ => by kernel_rfl) (holds_own .here) rfl (by exact ⟨rfl, rfl, rfl, rfl, rfl, rfl, rfl, rfl, rfl, trivial⟩))) (.cons (.tmp (by kernel_rfl)) .nil)) (fun w hw => (Sat.less (.take (.there (.there (.there .here))) (.take (.there (.there (.there .here))) (.drop .here (.drop .here (.drop .here .refl))))) hw)) ?_
            exact ⟨da, dcap, rfl, rfl⟩
          · replace H := bifF H h4
            refine at_false (t := decide (d.step = (6 : Int))) (x := C25 [1, 1, 0, 1, 0, 1, 1, 1, 1, 1, 0]) (y := C25 [1, 1, 0, 1, 0, 1, 1, 1, 1, 1, 1]) (o := .tmp 40) (by kernel_rfl) (by kernel_rfl) (by kernel_rfl) h4 ?_
            refine at_skip (by kernel_rfl) ?_
            refine at_in_normal ?_
            refine at_then_normal ?_
            refine at_seq (x := C25 [1, 1, 1, 0]) (y := C25 [1, 1, 1, 1]) (by kernel_rfl) ?_
            refine at_region (id := 11) 3 (by kernel_rfl) (by kernel_rfl) ?_
            refine s_pure 44 (.agg #[.int .i64 (0), .int .i64 (0), .int .i64 (0), .int .i64 (0), .int .i64 (0), .int .i64 (0), .slice none 0 0, .int .i64 (0), .int .i64 (0)]) (by kernel_rfl) (by kernel_rfl) (fun _ => by kernel_rfl) ?_
            refine s_do (by kernel_rfl) (by kernel_rfl) (st_store (off := 0) (vs := [.int .i64 (0), .int .i64 (0), .int .i64 (0), .int .i64 (0), .int .i64 (0), .int .i64 (0), .slice none 0 0, .int .i64 (0), .int .i64 (0)]) (c' := #[.int .i64 (0), .int .i64 (0), .int .i64 (0), .int .i64 (0), .int .i64 (0), .int .i64 (0), .slice none 0 0, .int .i64 (0), .int .i64 (0)]) (fun _ => by kernel_rfl) .here (by kernel_rfl) (by kernel_rfl) (by kernel_rfl)) ?_
            rintro _ _ ⟨rfl, rfl⟩
            refine s_pure 9 (.bool false) (by kernel_rfl) (by kernel_rfl) (fun _ => by kernel_rfl) ?_
            refine ops_end ?_
            refine At.env [(1, .int .i64 node), (2, .pointer (some ⟨c, 0, none⟩)), (4, .pointer (some ⟨b0_0, 0, none⟩)), (7, .pointer (some ⟨b0_1, 0, none⟩)), (8, .pointer (some ⟨b0_2, 0, none⟩)), (9, .bool false), (18, .bool e0_18), (21, .int .i64 d.step), (22, .bool (decide (d.step = (1 : Int)))), (31, .bool (decide (d.step = (2 : Int)))), (40, .bool (decide (d.step = (6 : Int))))] ⟨by kernel_rfl, by kernel_rfl, by kernel_rfl, by kernel_rfl, by kernel_rfl, by kernel_rfl, by kernel_rfl, by kernel_rfl, by kernel_rfl, by kernel_rfl, by kernel_rfl, trivial⟩ ?_
            refine at_then_normal ?_
            refine at_ret (by kernel_rfl) ?_
            obtain rfl := someE H
            refine at_backR [.agg #[.int .i64 (0), .int .i64 (0), .int .i64 (0), .int .i64 (0), .int .i64 (0), .int .i64 (0), .slice none 0 0, .int .i64 (0), .int .i64 (0)], .bool false] ((ImmI none ([] : List Int)) :: (CacheA c cc) :: Γ) (rs := [.cell 8 35, .tmp 9]) (by kernel_rfl) (.cons (.cell (by kernel_rfl) (retN (off := 0) (vs := [.int .i64 (0), .int .i64 (0), .int .i64 (0), .int .i64 (0), .int .i64 (0), .int .i64 (0), .slice none 0 0, .int .i64 (0), .int .i64 (0)]) 9 (fun _ => by kernel_rfl) (holds_own .here) rfl (by exact ⟨rfl, rfl, rfl, rfl, rfl, rfl, rfl, rfl, rfl, trivial⟩))) (.cons (.tmp (by kernel_rfl)) .nil)) (fun w hw => (Sat.less (.take .here (.take (.there (.there (.there (.there .here)))) (.drop .here (.drop .here (.drop .here (.drop .here .refl)))))) (ImmR.nil_mk (k := 1) (a := none) hw))) ?_
            exact ⟨none, 0, rfl, rfl⟩
  · refine at_region (id := 1) 9 (by kernel_rfl) (by kernel_rfl) ?_
    refine s_pure 10 (.pointer (some ⟨b0_0, 0, none⟩)) (by kernel_rfl) (by kernel_rfl) (fun _ => by kernel_rfl) ?_
    refine s_load 11 (.int .i64 d.kind) (by kernel_rfl) (by kernel_rfl) (load1 (off := 0) (fun _ => by kernel_rfl) (holds_own (.there (.there .here))) (by kernel_rfl)) ?_
    refine s_pure 12 (.bool (!(decide (d.kind = (1 : Int))))) (by kernel_rfl) (by kernel_rfl) (fun _ => by kernel_rfl) ?_
    rcases Bool.eq_false_or_eq_true (!(decide (d.kind = (1 : Int)))) with h5 | h5
    · replace H := bifT H h5
      refine s_pure 13 (.bool true) (by kernel_rfl) (by kernel_rfl) (run_eq (v := .bool (!(decide (d.kind = (1 : Int))))) (fun _ => by kernel_rfl) (congrArg Value.bool h5)) ?_
      refine s_pass 14 (by kernel_rfl) (by kernel_rfl) ?_
      refine s_pass 15 (by kernel_rfl) (by kernel_rfl) ?_
      refine s_pass 16 (by kernel_rfl) (by kernel_rfl) ?_
      refine s_pass 17 (by kernel_rfl) (by kernel_rfl) ?_
      refine s_pure 18 (.bool true) (by kernel_rfl) (by kernel_rfl) (fun _ => by kernel_rfl) ?_
      refine ops_end ?_
      refine At.env [(0, .agg #[.int .i64 d.kind, .int .i64 d.line, .int .i64 d.id, .int .i64 d.step, .int .i64 d.state, .int .i64 d.head, .slice da (List.length d.data) dcap, .int .i64 d.next, .int .i64 d.told]), (1, .int .i64 node), (2, .pointer (some ⟨c, 0, none⟩)), (3, .agg #[.int .i64 p.kind, .int .i64 p.src, .int .i64 p.dst, .int .i64 p.id, .int .i64 p.line, .int .i64 p.ptr, .int .i64 p.state, .bool p.flag, .slice pa (List.length p.data) pcap]), (4, .pointer (some ⟨b0_0, 0, none⟩)), (7, .pointer (some ⟨b0_1, 0, none⟩)), (8, .pointer (some ⟨b0_2, 0, none⟩)), (9, .bool false), (18, .bool true)] ⟨by kernel_rfl, by kernel_rfl, by kernel_rfl, by kernel_rfl, by kernel_rfl, by kernel_rfl, by kernel_rfl, by kernel_rfl, by kernel_rfl, trivial⟩ ?_
      refine at_round_normal ?_
      exact at_join_mk [(1, .int .i64 node), (2, .pointer (some ⟨c, 0, none⟩)), (4, .pointer (some ⟨b0_0, 0, none⟩)), (7, .pointer (some ⟨b0_1, 0, none⟩)), (8, .pointer (some ⟨b0_2, 0, none⟩)), (9, .bool false), (18, .bool true)] ((Asn.own b0_2 (.cells #[.int .i64 (0), .int .i64 (0), .int .i64 (0), .int .i64 (0), .int .i64 (0), .int .i64 (0), .slice none 0 0, .int .i64 (0), .int .i64 (0)] 35 (0, 0))) :: (Asn.own b0_1 (.cells #[.int .i64 p.kind, .int .i64 p.src, .int .i64 p.dst, .int .i64 p.id, .int .i64 p.line, .int .i64 p.ptr, .int .i64 p.state, .bool p.flag, .slice pa (List.length p.data) pcap] 40 (0, 0))) :: (Asn.own b0_0 (.cells #[.int .i64 d.kind, .int .i64 d.line, .int .i64 d.id, .int .i64 d.step, .int .i64 d.state, .int .i64 d.head, .slice da (List.length d.data) dcap, .int .i64 d.next, .int .i64 d.told] 35 (0, 0))) :: (ImmI da d.data) :: (CacheA c cc) :: Γ) ⟨by kernel_rfl, by kernel_rfl, by kernel_rfl, by kernel_rfl, by kernel_rfl, by kernel_rfl, by kernel_rfl, trivial⟩ (fun w hw => (Sat.less (.take .here (.take .here (.take .here (.take .here (.take .here .refl))))) hw)) ⟨true, H, rfl, rfl⟩
    · replace H := bifF H h5
      refine s_pure 13 (.bool false) (by kernel_rfl) (by kernel_rfl) (run_eq (v := .bool (!(decide (d.kind = (1 : Int))))) (fun _ => by kernel_rfl) (congrArg Value.bool h5)) ?_
      refine s_load 14 (.agg #[.int .i64 d.kind, .int .i64 d.line, .int .i64 d.id, .int .i64 d.step, .int .i64 d.state, .int .i64 d.head, .slice da (List.length d.data) dcap, .int .i64 d.next, .int .i64 d.told]) (by kernel_rfl) (by kernel_rfl) (loadN (off := 0) (vs := [.int .i64 d.kind, .int .i64 d.line, .int .i64 d.id, .int .i64 d.step, .int .i64 d.state, .int .i64 d.head, .slice da (List.length d.data) dcap, .int .i64 d.next, .int .i64 d.told]) 9 (fun _ => by kernel_rfl) (holds_own (.there (.there .here))) rfl (by exact ⟨rfl, rfl, rfl, rfl, rfl, rfl, rfl, rfl, rfl, trivial⟩)) ?_
      refine s_load 15 (.agg #[.int .i64 p.kind, .int .i64 p.src, .int .i64 p.dst, .int .i64 p.id, .int .i64 p.line, .int .i64 p.ptr, .int .i64 p.state, .bool p.flag, .slice pa (List.length p.data) pcap]) (by kernel_rfl) (by kernel_rfl) (loadN (off := 0) (vs := [.int .i64 p.kind, .int .i64 p.src, .int .i64 p.dst, .int .i64 p.id, .int .i64 p.line, .int .i64 p.ptr, .int .i64 p.state, .bool p.flag, .slice pa (List.length p.data) pcap]) 9 (fun _ => by kernel_rfl) (holds_own (.there .here)) rfl (by exact ⟨rfl, rfl, rfl, rfl, rfl, rfl, rfl, rfl, rfl, trivial⟩)) ?_
      obtain ⟨y1_6, hy1_6, H⟩ := bindE H
      refine s_call 16 42 #[.agg #[.int .i64 d.kind, .int .i64 d.line, .int .i64 d.id, .int .i64 d.step, .int .i64 d.state, .int .i64 d.head, .slice da (List.length d.data) dcap, .int .i64 d.next, .int .i64 d.told], .agg #[.int .i64 p.kind, .int .i64 p.src, .int .i64 p.dst, .int .i64 p.id, .int .i64 p.line, .int .i64 p.ptr, .int .i64 p.state, .bool p.flag, .slice pa (List.length p.data) pcap]] (by kernel_rfl) (by kernel_rfl) (fun _ => by kernel_rfl) (DFitsF_tr da dcap d pa pcap p (ImmR.reads (k := 1) (.there (.there (.there .here)))) (Reads.conv (fun w hw => hw.less (.drop .here (.drop .here (.drop .here (.drop .here (.drop .here .refl)))))) hrpa) y1_6 hy1_6) ?_
      rintro _ _ ⟨rfl, rfl⟩
      refine s_pure 17 (.bool !y1_6) (by kernel_rfl) (by kernel_rfl) (fun _ => by kernel_rfl) ?_
      refine s_pure 18 (.bool !y1_6) (by kernel_rfl) (by kernel_rfl) (fun _ => by kernel_rfl) ?_
      refine ops_end ?_
      refine At.env [(0, .agg #[.int .i64 d.kind, .int .i64 d.line, .int .i64 d.id, .int .i64 d.step, .int .i64 d.state, .int .i64 d.head, .slice da (List.length d.data) dcap, .int .i64 d.next, .int .i64 d.told]), (1, .int .i64 node), (2, .pointer (some ⟨c, 0, none⟩)), (3, .agg #[.int .i64 p.kind, .int .i64 p.src, .int .i64 p.dst, .int .i64 p.id, .int .i64 p.line, .int .i64 p.ptr, .int .i64 p.state, .bool p.flag, .slice pa (List.length p.data) pcap]), (4, .pointer (some ⟨b0_0, 0, none⟩)), (7, .pointer (some ⟨b0_1, 0, none⟩)), (8, .pointer (some ⟨b0_2, 0, none⟩)), (9, .bool false), (18, .bool !y1_6)] ⟨by kernel_rfl, by kernel_rfl, by kernel_rfl, by kernel_rfl, by kernel_rfl, by kernel_rfl, by kernel_rfl, by kernel_rfl, by kernel_rfl, trivial⟩ ?_
      refine at_round_normal ?_
      exact at_join_mk [(1, .int .i64 node), (2, .pointer (some ⟨c, 0, none⟩)), (4, .pointer (some ⟨b0_0, 0, none⟩)), (7, .pointer (some ⟨b0_1, 0, none⟩)), (8, .pointer (some ⟨b0_2, 0, none⟩)), (9, .bool false), (18, .bool !y1_6)] ((Asn.own b0_2 (.cells #[.int .i64 (0), .int .i64 (0), .int .i64 (0), .int .i64 (0), .int .i64 (0), .int .i64 (0), .slice none 0 0, .int .i64 (0), .int .i64 (0)] 35 (0, 0))) :: (Asn.own b0_1 (.cells #[.int .i64 p.kind, .int .i64 p.src, .int .i64 p.dst, .int .i64 p.id, .int .i64 p.line, .int .i64 p.ptr, .int .i64 p.state, .bool p.flag, .slice pa (List.length p.data) pcap] 40 (0, 0))) :: (Asn.own b0_0 (.cells #[.int .i64 d.kind, .int .i64 d.line, .int .i64 d.id, .int .i64 d.step, .int .i64 d.state, .int .i64 d.head, .slice da (List.length d.data) dcap, .int .i64 d.next, .int .i64 d.told] 35 (0, 0))) :: (ImmI da d.data) :: (CacheA c cc) :: Γ) ⟨by kernel_rfl, by kernel_rfl, by kernel_rfl, by kernel_rfl, by kernel_rfl, by kernel_rfl, by kernel_rfl, trivial⟩ (fun w hw => (Sat.less (.take .here (.take .here (.take .here (.take .here (.take .here .refl))))) hw)) ⟨!y1_6, H, rfl, rfl⟩
def wakes14S_j0 (y4_4 : DealS × Bool × CacheS) (e0_37 : Bool) : Option (Bool) :=
  (bif e0_37 then some false else (anextS y4_4.1 (2 : Int) y4_4.2.2 (⟨8, 0, 0, 0, 1, 0, 0, false, ([] : List Int)⟩ : PktS)).bind fun y7_3 => (findS y7_3.2.2 (1 : Int)).bind fun y8_1 => (bif y7_3.2.1 then (bif decide (y7_3.1.step = (0 : Int)) then (bif y8_1.2 then (lonlyS (⟨y8_1.1.fwd, y8_1.1.back⟩ : LinkS)).bind fun y9_12 => (bif y9_12 then (ewordS y8_1.1 (0 : Int)).bind fun y9_16 => some (decide (y9_16 = (7 : Int))) else some false) else some false) else some false) else some false))
def wakes14S : Option (Bool) :=
  (bothNilS).bind fun y1_0 => (dbeginS (1 : Int) (1 : Int) (0 : Int)).bind fun y4_0 => letP ([7] : List Int) fun l4_2 => (anextS y4_0 (2 : Int) y1_0.1 (⟨7, 0, 0, 0, 1, (-1), 0, false, l4_2⟩ : PktS)).bind fun y4_4 => (bif !y4_4.2.1 then wakes14S_j0 y4_4 true else (bif !(decide (y4_4.1.step = (6 : Int))) then wakes14S_j0 y4_4 true else (bif !(decide (y4_4.1.head = (2 : Int))) then wakes14S_j0 y4_4 true else wakes14S_j0 y4_4 (!(decide (y4_4.1.state = (1 : Int)))))))
noncomputable def C28 (p : List Nat) : Code := codeAt (bodyOf Try.f28) p
set_option maxRecDepth 100000 in
set_option maxHeartbeats 8000000 in
theorem W14F_tr {W0 : World} {Γ : List Asn}   (y : Bool) (H : wakes14S = some y) : Tr Try.prog 28 #[] W0 (Γ) (fun r Δ => r = .bool y ∧ Δ = Γ) := by
  unfold wakes14S at H
  refine Tr.enter (fn := Try.f28) (c := C28 []) (args := []) 69 Try.func28 (by kernel_rfl) (by kernel_rfl) ?_
  refine At.env [] trivial ?_
  refine at_seq (x := C28 [0]) (y := C28 [1]) (by kernel_rfl) ?_
  refine at_region (id := 0) 1 (by kernel_rfl) (by kernel_rfl) ?_
  refine s_pure 0 (.bool false) (by kernel_rfl) (by kernel_rfl) (fun _ => by kernel_rfl) ?_
  refine ops_end ?_
  refine At.env [(0, .bool false)] ⟨by kernel_rfl, trivial⟩ ?_
  refine at_then_normal ?_
  refine at_seq (x := C28 [1, 0]) (y := C28 [1, 1]) (by kernel_rfl) ?_
  refine at_region (id := 1) 6 (by kernel_rfl) (by kernel_rfl) ?_
  obtain ⟨y1_0, hy1_0, H⟩ := bindE H
  refine s_call 8 13 #[.slice none 0 0, .slice none 0 0, .slice none 0 0] (by kernel_rfl) (by kernel_rfl) (fun _ => by kernel_rfl) (BothNilF_tr  y1_0 hy1_0) ?_
  rintro _ _ ⟨b1_0_0, b1_0_1, rfl, rfl⟩
  refine s_pure 7 (.tuple #[.pointer (some ⟨b1_0_0, 0, none⟩), .pointer (some ⟨b1_0_1, 0, none⟩)]) (by kernel_rfl) (by kernel_rfl) (fun _ => by kernel_rfl) ?_
  refine s_pure 9 (.pointer (some ⟨b1_0_0, 0, none⟩)) (by kernel_rfl) (by kernel_rfl) (fun _ => by kernel_rfl) ?_
  refine s_pure 10 (.pointer (some ⟨b1_0_1, 0, none⟩)) (by kernel_rfl) (by kernel_rfl) (fun _ => by kernel_rfl) ?_
  refine s_pure 1 (.pointer (some ⟨b1_0_0, 0, none⟩)) (by kernel_rfl) (by kernel_rfl) (fun _ => by kernel_rfl) ?_
  refine s_pure 2 (.pointer (some ⟨b1_0_1, 0, none⟩)) (by kernel_rfl) (by kernel_rfl) (fun _ => by kernel_rfl) ?_
  refine ops_end ?_
  refine At.env [(0, .bool false), (1, .pointer (some ⟨b1_0_0, 0, none⟩))] ⟨by kernel_rfl, by kernel_rfl, trivial⟩ ?_
  refine at_then_normal ?_
  refine at_seq (x := C28 [1, 1, 0]) (y := C28 [1, 1, 1]) (by kernel_rfl) ?_
  refine at_seq (x := C28 [1, 1, 0, 0]) (y := C28 [1, 1, 0, 1]) (by kernel_rfl) ?_
  refine at_region (id := 2) 2 (by kernel_rfl) (by kernel_rfl) ?_
  refine s_pure 11 (.pointer (some ⟨b1_0_0, 0, none⟩)) (by kernel_rfl) (by kernel_rfl) (fun _ => by kernel_rfl) ?_
  refine s_pure 12 (.bool false) (by kernel_rfl) (by kernel_rfl) (fun _ => by kernel_rfl) ?_
  refine ops_end ?_
  refine At.env [(0, .bool false), (1, .pointer (some ⟨b1_0_0, 0, none⟩)), (12, .bool false)] ⟨by kernel_rfl, by kernel_rfl, by kernel_rfl, trivial⟩ ?_
  refine at_then_normal ?_
  refine at_false (t := false) (x := C28 [1, 1, 0, 1, 0]) (y := C28 [1, 1, 0, 1, 1]) (o := .tmp 12) (by kernel_rfl) (by kernel_rfl) (by kernel_rfl) rfl ?_
  refine at_skip (by kernel_rfl) ?_
  refine at_then_normal ?_
  refine at_seq (x := C28 [1, 1, 1, 0]) (y := C28 [1, 1, 1, 1]) (by kernel_rfl) ?_
  refine at_region (id := 4) 11 (by kernel_rfl) (by kernel_rfl) ?_
  obtain ⟨y4_0, hy4_0, H⟩ := bindE H
  refine s_call 14 17 #[.int .i64 (1), .int .i64 (1), .int .i64 (0)] (by kernel_rfl) (by kernel_rfl) (fun _ => by kernel_rfl) (DBeginF_tr (1 : Int) (1 : Int) (0 : Int) y4_0 hy4_0) ?_
  rintro _ _ ⟨a4_0_00, c4_0_00, rfl, rfl⟩
  refine s_pure 15 (.pointer (some ⟨b1_0_0, 0, none⟩)) (by kernel_rfl) (by kernel_rfl) (fun _ => by kernel_rfl) ?_
  obtain ⟨l4_2, hl4_2, H⟩ := letE H
  refine s_step 16 (by kernel_rfl) (by kernel_rfl) (st_new_ints (T := 3) (xs := l4_2) 1 hl4_2 (fun _ => by kernel_rfl) (by kernel_rfl)) ?_
  rintro _ _ ⟨b4_2, rfl, rfl⟩
  refine s_pure 17 (.agg #[.int .i64 (7), .int .i64 (0), .int .i64 (0), .int .i64 (0), .int .i64 (1), .int .i64 (-1), .int .i64 (0), .bool false, .slice (some ⟨b4_2, 0, none⟩) (List.length l4_2) 1]) (by kernel_rfl) (by kernel_rfl) (fun _ => by kernel_rfl) ?_
  obtain ⟨y4_4, hy4_4, H⟩ := bindE H
  refine s_call 18 25 #[.agg #[.int .i64 y4_0.kind, .int .i64 y4_0.line, .int .i64 y4_0.id, .int .i64 y4_0.step, .int .i64 y4_0.state, .int .i64 y4_0.head, .slice a4_0_00 (List.length y4_0.data) c4_0_00, .int .i64 y4_0.next, .int .i64 y4_0.told], .int .i64 (2), .pointer (some ⟨b1_0_0, 0, none⟩), .agg #[.int .i64 (7), .int .i64 (0), .int .i64 (0), .int .i64 (0), .int .i64 (1), .int .i64 (-1), .int .i64 (0), .bool false, .slice (some ⟨b4_2, 0, none⟩) (List.length l4_2) 1]] (by kernel_rfl) (by kernel_rfl) (fun _ => by kernel_rfl) (Tr.conv (Γ' := (ImmI a4_0_00 y4_0.data) :: (CacheA b1_0_0 y1_0.1) :: (ImmI a4_0_00 y4_0.data) :: (IntsA (some ⟨b4_2, 0, none⟩) 1 l4_2) :: (RCacheA b1_0_1 y1_0.2) :: Γ) (fun w hw => (Sat.less (.take .here (.take (.there (.there .here)) (.take .here (.take .here (.take .here .refl))))) (ImmR.dup (Sat.less (.take (.there .here) (.take .here (.take .here (.take .here .refl)))) hw)))) (ANextF_tr a4_0_00 c4_0_00 y4_0 (2 : Int) b1_0_0 y1_0.1 (some ⟨b4_2, 0, none⟩) 1 (⟨7, 0, 0, 0, 1, (-1), 0, false, l4_2⟩ : PktS) (RowsA.reads (k := 1) (.there .here)) y4_4 hy4_4)) ?_
  rintro _ _ ⟨a4_4_00, c4_4_00, rfl, rfl⟩
  refine s_pure 13 (.tuple #[.agg #[.int .i64 y4_4.1.kind, .int .i64 y4_4.1.line, .int .i64 y4_4.1.id, .int .i64 y4_4.1.step, .int .i64 y4_4.1.state, .int .i64 y4_4.1.head, .slice a4_4_00 (List.length y4_4.1.data) c4_4_00, .int .i64 y4_4.1.next, .int .i64 y4_4.1.told], .bool y4_4.2.1]) (by kernel_rfl) (by kernel_rfl) (fun _ => by kernel_rfl) ?_
  refine s_pure 19 (.agg #[.int .i64 y4_4.1.kind, .int .i64 y4_4.1.line, .int .i64 y4_4.1.id, .int .i64 y4_4.1.step, .int .i64 y4_4.1.state, .int .i64 y4_4.1.head, .slice a4_4_00 (List.length y4_4.1.data) c4_4_00, .int .i64 y4_4.1.next, .int .i64 y4_4.1.told]) (by kernel_rfl) (by kernel_rfl) (fun _ => by kernel_rfl) ?_
  refine s_pure 20 (.bool y4_4.2.1) (by kernel_rfl) (by kernel_rfl) (fun _ => by kernel_rfl) ?_
  refine s_step 3 (by kernel_rfl) (by kernel_rfl) (st_new (T := 35) (cells := #[.int .i64 (0), .int .i64 (0), .int .i64 (0), .int .i64 (0), .int .i64 (0), .int .i64 (0), .slice none 0 0, .int .i64 (0), .int .i64 (0)]) (fun a => .pointer (some a)) (fun _ => by kernel_rfl)) ?_
  rintro _ _ ⟨b4_8, rfl, rfl⟩
  refine s_do (by kernel_rfl) (by kernel_rfl) (st_store (off := 0) (vs := [.int .i64 y4_4.1.kind, .int .i64 y4_4.1.line, .int .i64 y4_4.1.id, .int .i64 y4_4.1.step, .int .i64 y4_4.1.state, .int .i64 y4_4.1.head, .slice a4_4_00 (List.length y4_4.1.data) c4_4_00, .int .i64 y4_4.1.next, .int .i64 y4_4.1.told]) (c' := #[.int .i64 y4_4.1.kind, .int .i64 y4_4.1.line, .int .i64 y4_4.1.id, .int .i64 y4_4.1.step, .int .i64 y4_4.1.state, .int .i64 y4_4.1.head, .slice a4_4_00 (List.length y4_4.1.data) c4_4_00, .int .i64 y4_4.1.next, .int .i64 y4_4.1.told]) (fun _ => by kernel_rfl) .here (by kernel_rfl) (by kernel_rfl) (by kernel_rfl)) ?_
  rintro _ _ ⟨rfl, rfl⟩
  refine s_pure 4 (.bool y4_4.2.1) (by kernel_rfl) (by kernel_rfl) (fun _ => by kernel_rfl) ?_
  refine ops_end ?_
  refine At.env [(0, .bool false), (1, .pointer (some ⟨b1_0_0, 0, none⟩)), (3, .pointer (some ⟨b4_8, 0, none⟩)), (4, .bool y4_4.2.1), (12, .bool false)] ⟨by kernel_rfl, by kernel_rfl, by kernel_rfl, by kernel_rfl, by kernel_rfl, trivial⟩ ?_
  refine at_then_normal ?_
  refine at_seq (x := C28 [1, 1, 1, 1, 0]) (y := C28 [1, 1, 1, 1, 1]) (by kernel_rfl) ?_
  refine at_seq_join (x := C28 [1, 1, 1, 1, 0, 0]) (y := C28 [1, 1, 1, 1, 0, 1]) (fun ff ΔΔ => ∃ (e0_37 : Bool), wakes14S_j0 y4_4 e0_37 = some y ∧ ff = [(0, .bool false), (1, .pointer (some ⟨b1_0_0, 0, none⟩)), (3, .pointer (some ⟨b4_8, 0, none⟩)), (4, .bool y4_4.2.1), (37, .bool e0_37)] ∧ (Asn.own b4_8 (.cells #[.int .i64 y4_4.1.kind, .int .i64 y4_4.1.line, .int .i64 y4_4.1.id, .int .i64 y4_4.1.step, .int .i64 y4_4.1.state, .int .i64 y4_4.1.head, .slice a4_4_00 (List.length y4_4.1.data) c4_4_00, .int .i64 y4_4.1.next, .int .i64 y4_4.1.told] 35 (0, 0))) :: (ImmI a4_4_00 y4_4.1.data) :: (CacheA b1_0_0 y4_4.2.2) :: (RCacheA b1_0_1 y1_0.2) :: Γ = ΔΔ) (by kernel_rfl) ?_ ?_
  · rintro _ _ ⟨e0_37, H, rfl, rfl⟩
    rw [wakes14S_j0] at H
    rcases Bool.eq_false_or_eq_true (e0_37) with h1 | h1
    · replace H := bifT H h1
      refine at_true (t := e0_37) (x := C28 [1, 1, 1, 1, 0, 1, 0]) (y := C28 [1, 1, 1, 1, 0, 1, 1]) (o := .tmp 37) (by kernel_rfl) (by kernel_rfl) (by kernel_rfl) h1 ?_
      refine at_seq (x := C28 [1, 1, 1, 1, 0, 1, 0, 0]) (y := C28 [1, 1, 1, 1, 0, 1, 0, 1]) (by kernel_rfl) ?_
      refine at_region (id := 6) 1 (by kernel_rfl) (by kernel_rfl) ?_
      refine s_pure 0 (.bool false) (by kernel_rfl) (by kernel_rfl) (fun _ => by kernel_rfl) ?_
      refine ops_end ?_
      refine At.env [(0, .bool false), (1, .pointer (some ⟨b1_0_0, 0, none⟩)), (3, .pointer (some ⟨b4_8, 0, none⟩)), (4, .bool y4_4.2.1), (37, .bool e0_37)] ⟨by kernel_rfl, by kernel_rfl, by kernel_rfl, by kernel_rfl, by kernel_rfl, trivial⟩ ?_
      refine at_then_normal ?_
      refine at_ret (by kernel_rfl) ?_
      refine at_then_ret ?_
      obtain rfl := someE H
      refine at_backR [.bool false] (Γ) (rs := [.tmp 0]) (by kernel_rfl) (.cons (.tmp (by kernel_rfl)) .nil) (fun w hw => (Sat.less (.drop .here (.drop .here (.drop .here (.drop .here .refl)))) hw)) ?_
      exact ⟨rfl, rfl⟩
    · replace H := bifF H h1
      refine at_false (t := e0_37) (x := C28 [1, 1, 1, 1, 0, 1, 0]) (y := C28 [1, 1, 1, 1, 0, 1, 1]) (o := .tmp 37) (by kernel_rfl) (by kernel_rfl) (by kernel_rfl) h1 ?_
      refine at_skip (by kernel_rfl) ?_
      refine at_then_normal ?_
      refine at_seq (x := C28 [1, 1, 1, 1, 1, 0]) (y := C28 [1, 1, 1, 1, 1, 1]) (by kernel_rfl) ?_
      refine at_region (id := 7) 9 (by kernel_rfl) (by kernel_rfl) ?_
      refine s_load 39 (.agg #[.int .i64 y4_4.1.kind, .int .i64 y4_4.1.line, .int .i64 y4_4.1.id, .int .i64 y4_4.1.step, .int .i64 y4_4.1.state, .int .i64 y4_4.1.head, .slice a4_4_00 (List.length y4_4.1.data) c4_4_00, .int .i64 y4_4.1.next, .int .i64 y4_4.1.told]) (by kernel_rfl) (by kernel_rfl) (loadN (off := 0) (vs := [.int .i64 y4_4.1.kind, .int .i64 y4_4.1.line, .int .i64 y4_4.1.id, .int .i64 y4_4.1.step, .int .i64 y4_4.1.state, .int .i64 y4_4.1.head, .slice a4_4_00 (List.length y4_4.1.data) c4_4_00, .int .i64 y4_4.1.next, .int .i64 y4_4.1.told]) 9 (fun _ => by kernel_rfl) (holds_own .here) rfl (by exact ⟨rfl, rfl, rfl, rfl, rfl, rfl, rfl, rfl, rfl, trivial⟩)) ?_
      refine s_pure 40 (.pointer (some ⟨b1_0_0, 0, none⟩)) (by kernel_rfl) (by kernel_rfl) (fun _ => by kernel_rfl) ?_
      refine s_pure 41 (.agg #[.int .i64 (8), .int .i64 (0), .int .i64 (0), .int .i64 (0), .int .i64 (1), .int .i64 (0), .int .i64 (0), .bool false, .slice none 0 0]) (by kernel_rfl) (by kernel_rfl) (fun _ => by kernel_rfl) ?_
      obtain ⟨y7_3, hy7_3, H⟩ := bindE H
      refine s_call 42 25 #[.agg #[.int .i64 y4_4.1.kind, .int .i64 y4_4.1.line, .int .i64 y4_4.1.id, .int .i64 y4_4.1.step, .int .i64 y4_4.1.state, .int .i64 y4_4.1.head, .slice a4_4_00 (List.length y4_4.1.data) c4_4_00, .int .i64 y4_4.1.next, .int .i64 y4_4.1.told], .int .i64 (2), .pointer (some ⟨b1_0_0, 0, none⟩), .agg #[.int .i64 (8), .int .i64 (0), .int .i64 (0), .int .i64 (0), .int .i64 (1), .int .i64 (0), .int .i64 (0), .bool false, .slice none 0 0]] (by kernel_rfl) (by kernel_rfl) (fun _ => by kernel_rfl) (Tr.conv (Γ' := (ImmI a4_4_00 y4_4.1.data) :: (CacheA b1_0_0 y4_4.2.2) :: (ImmI a4_4_00 y4_4.1.data) :: (Asn.own b4_8 (.cells #[.int .i64 y4_4.1.kind, .int .i64 y4_4.1.line, .int .i64 y4_4.1.id, .int .i64 y4_4.1.step, .int .i64 y4_4.1.state, .int .i64 y4_4.1.head, .slice a4_4_00 (List.length y4_4.1.data) c4_4_00, .int .i64 y4_4.1.next, .int .i64 y4_4.1.told] 35 (0, 0))) :: (RCacheA b1_0_1 y1_0.2) :: Γ) (fun w hw => (Sat.less (.take .here (.take (.there (.there .here)) (.take .here (.take .here (.take .here .refl))))) (ImmR.dup (Sat.less (.take (.there .here) (.take .here (.take .here (.take .here .refl)))) hw)))) (ANextF_tr a4_4_00 c4_4_00 y4_4.1 (2 : Int) b1_0_0 y4_4.2.2 none 0 (⟨8, 0, 0, 0, 1, 0, 0, false, ([] : List Int)⟩ : PktS) Reads.nil y7_3 hy7_3)) ?_
      rintro _ _ ⟨a7_3_00, c7_3_00, rfl, rfl⟩
      refine s_pure 38 (.tuple #[.agg #[.int .i64 y7_3.1.kind, .int .i64 y7_3.1.line, .int .i64 y7_3.1.id, .int .i64 y7_3.1.step, .int .i64 y7_3.1.state, .int .i64 y7_3.1.head, .slice a7_3_00 (List.length y7_3.1.data) c7_3_00, .int .i64 y7_3.1.next, .int .i64 y7_3.1.told], .bool y7_3.2.1]) (by kernel_rfl) (by kernel_rfl) (fun _ => by kernel_rfl) ?_
      refine s_pure 43 (.agg #[.int .i64 y7_3.1.kind, .int .i64 y7_3.1.line, .int .i64 y7_3.1.id, .int .i64 y7_3.1.step, .int .i64 y7_3.1.state, .int .i64 y7_3.1.head, .slice a7_3_00 (List.length y7_3.1.data) c7_3_00, .int .i64 y7_3.1.next, .int .i64 y7_3.1.told]) (by kernel_rfl) (by kernel_rfl) (fun _ => by kernel_rfl) ?_
      refine s_pure 44 (.bool y7_3.2.1) (by kernel_rfl) (by kernel_rfl) (fun _ => by kernel_rfl) ?_
      refine s_do (by kernel_rfl) (by kernel_rfl) (st_store (off := 0) (vs := [.int .i64 y7_3.1.kind, .int .i64 y7_3.1.line, .int .i64 y7_3.1.id, .int .i64 y7_3.1.step, .int .i64 y7_3.1.state, .int .i64 y7_3.1.head, .slice a7_3_00 (List.length y7_3.1.data) c7_3_00, .int .i64 y7_3.1.next, .int .i64 y7_3.1.told]) (c' := #[.int .i64 y7_3.1.kind, .int .i64 y7_3.1.line, .int .i64 y7_3.1.id, .int .i64 y7_3.1.step, .int .i64 y7_3.1.state, .int .i64 y7_3.1.head, .slice a7_3_00 (List.length y7_3.1.data) c7_3_00, .int .i64 y7_3.1.next, .int .i64 y7_3.1.told]) (fun _ => by kernel_rfl) (.there (.there (.there .here))) (by kernel_rfl) (by kernel_rfl) (by kernel_rfl)) ?_
      rintro _ _ ⟨rfl, rfl⟩
      refine s_pure 4 (.bool y7_3.2.1) (by kernel_rfl) (by kernel_rfl) (fun _ => by kernel_rfl) ?_
      refine ops_end ?_
      refine At.env [(0, .bool false), (1, .pointer (some ⟨b1_0_0, 0, none⟩)), (3, .pointer (some ⟨b4_8, 0, none⟩)), (4, .bool y7_3.2.1), (37, .bool e0_37)] ⟨by kernel_rfl, by kernel_rfl, by kernel_rfl, by kernel_rfl, by kernel_rfl, trivial⟩ ?_
      refine at_then_normal ?_
      refine at_seq (x := C28 [1, 1, 1, 1, 1, 1, 0]) (y := C28 [1, 1, 1, 1, 1, 1, 1]) (by kernel_rfl) ?_
      refine at_region (id := 8) 8 (by kernel_rfl) (by kernel_rfl) ?_
      refine s_pure 46 (.pointer (some ⟨b1_0_0, 0, none⟩)) (by kernel_rfl) (by kernel_rfl) (fun _ => by kernel_rfl) ?_
      obtain ⟨y8_1, hy8_1, H⟩ := bindE H
      refine s_call 47 18 #[.pointer (some ⟨b1_0_0, 0, none⟩), .int .i64 (1)] (by kernel_rfl) (by kernel_rfl) (fun _ => by kernel_rfl) (Tr.conv (Γ' := (CacheA b1_0_0 y7_3.2.2) :: (Asn.own b4_8 (.cells #[.int .i64 y7_3.1.kind, .int .i64 y7_3.1.line, .int .i64 y7_3.1.id, .int .i64 y7_3.1.step, .int .i64 y7_3.1.state, .int .i64 y7_3.1.head, .slice a7_3_00 (List.length y7_3.1.data) c7_3_00, .int .i64 y7_3.1.next, .int .i64 y7_3.1.told] 35 (0, 0))) :: (ImmI a7_3_00 y7_3.1.data) :: (ImmI a4_4_00 y4_4.1.data) :: (RCacheA b1_0_1 y1_0.2) :: Γ) (fun w hw => (Sat.less (.take (.there (.there .here)) (.take .here (.take .here (.take .here (.take .here .refl))))) hw)) (FindF_tr b1_0_0 y7_3.2.2 (1 : Int) y8_1 hy8_1)) ?_
      rintro _ _ ⟨a8_1_00, c8_1_00, rfl, rfl⟩
      refine s_pure 45 (.tuple #[.agg #[.int .i64 y8_1.1.fwd, .int .i64 y8_1.1.back, .int .i64 y8_1.1.line, .int .i64 y8_1.1.used, .bool y8_1.1.dirty, .slice a8_1_00 (List.length y8_1.1.data) c8_1_00], .bool y8_1.2]) (by kernel_rfl) (by kernel_rfl) (fun _ => by kernel_rfl) ?_
      refine s_pure 48 (.agg #[.int .i64 y8_1.1.fwd, .int .i64 y8_1.1.back, .int .i64 y8_1.1.line, .int .i64 y8_1.1.used, .bool y8_1.1.dirty, .slice a8_1_00 (List.length y8_1.1.data) c8_1_00]) (by kernel_rfl) (by kernel_rfl) (fun _ => by kernel_rfl) ?_
      refine s_pure 49 (.bool y8_1.2) (by kernel_rfl) (by kernel_rfl) (fun _ => by kernel_rfl) ?_
      refine s_step 5 (by kernel_rfl) (by kernel_rfl) (st_new (T := 32) (cells := #[.int .i64 (0), .int .i64 (0), .int .i64 (0), .int .i64 (0), .bool false, .slice none 0 0]) (fun a => .pointer (some a)) (fun _ => by kernel_rfl)) ?_
      rintro _ _ ⟨b8_5, rfl, rfl⟩
      refine s_do (by kernel_rfl) (by kernel_rfl) (st_store (off := 0) (vs := [.int .i64 y8_1.1.fwd, .int .i64 y8_1.1.back, .int .i64 y8_1.1.line, .int .i64 y8_1.1.used, .bool y8_1.1.dirty, .slice a8_1_00 (List.length y8_1.1.data) c8_1_00]) (c' := #[.int .i64 y8_1.1.fwd, .int .i64 y8_1.1.back, .int .i64 y8_1.1.line, .int .i64 y8_1.1.used, .bool y8_1.1.dirty, .slice a8_1_00 (List.length y8_1.1.data) c8_1_00]) (fun _ => by kernel_rfl) .here (by kernel_rfl) (by kernel_rfl) (by kernel_rfl)) ?_
      rintro _ _ ⟨rfl, rfl⟩
      refine s_pure 6 (.bool y8_1.2) (by kernel_rfl) (by kernel_rfl) (fun _ => by kernel_rfl) ?_
      refine ops_end ?_
      refine At.env [(0, .bool false), (1, .pointer (some ⟨b1_0_0, 0, none⟩)), (3, .pointer (some ⟨b4_8, 0, none⟩)), (4, .bool y7_3.2.1), (5, .pointer (some ⟨b8_5, 0, none⟩)), (6, .bool y8_1.2), (37, .bool e0_37)] ⟨by kernel_rfl, by kernel_rfl, by kernel_rfl, by kernel_rfl, by kernel_rfl, by kernel_rfl, by kernel_rfl, trivial⟩ ?_
      refine at_then_normal ?_
      refine at_seq (x := C28 [1, 1, 1, 1, 1, 1, 1, 0]) (y := C28 [1, 1, 1, 1, 1, 1, 1, 1]) (by kernel_rfl) ?_
      refine at_region (id := 9) 20 (by kernel_rfl) (by kernel_rfl) ?_
      refine s_pure 50 (.bool y7_3.2.1) (by kernel_rfl) (by kernel_rfl) (fun _ => by kernel_rfl) ?_
      rcases Bool.eq_false_or_eq_true (y7_3.2.1) with h2 | h2
      · replace H := bifT H h2
        refine s_pure 51 (.bool true) (by kernel_rfl) (by kernel_rfl) (run_eq (v := .bool (y7_3.2.1)) (fun _ => by kernel_rfl) (congrArg Value.bool h2)) ?_
        refine s_pure 52 (.pointer (some ⟨b4_8, 3, none⟩)) (by kernel_rfl) (by kernel_rfl) (fun _ => by kernel_rfl) ?_
        refine s_load 53 (.int .i64 y7_3.1.step) (by kernel_rfl) (by kernel_rfl) (load1 (off := 3) (fun _ => by kernel_rfl) (holds_own (.there (.there (.there .here)))) (by kernel_rfl)) ?_
        refine s_pure 54 (.bool (decide (y7_3.1.step = (0 : Int)))) (by kernel_rfl) (by kernel_rfl) (fun _ => by kernel_rfl) ?_
        refine s_pure 55 (.bool (decide (y7_3.1.step = (0 : Int)))) (by kernel_rfl) (by kernel_rfl) (fun _ => by kernel_rfl) ?_
        rcases Bool.eq_false_or_eq_true (decide (y7_3.1.step = (0 : Int))) with h3 | h3
        · replace H := bifT H h3
          refine s_pure 56 (.bool true) (by kernel_rfl) (by kernel_rfl) (run_eq (v := .bool (decide (y7_3.1.step = (0 : Int)))) (fun _ => by kernel_rfl) (congrArg Value.bool h3)) ?_
          refine s_pure 57 (.bool y8_1.2) (by kernel_rfl) (by kernel_rfl) (fun _ => by kernel_rfl) ?_
          refine s_pure 58 (.bool y8_1.2) (by kernel_rfl) (by kernel_rfl) (fun _ => by kernel_rfl) ?_
          rcases Bool.eq_false_or_eq_true (y8_1.2) with h4 | h4
          · replace H := bifT H h4
            refine s_pure 59 (.bool true) (by kernel_rfl) (by kernel_rfl) (run_eq (v := .bool (y8_1.2)) (fun _ => by kernel_rfl) (congrArg Value.bool h4)) ?_
            refine s_pure 60 (.pointer (some ⟨b8_5, 0, none⟩)) (by kernel_rfl) (by kernel_rfl) (fun _ => by kernel_rfl) ?_
            refine s_load 61 (.agg #[.int .i64 y8_1.1.fwd, .int .i64 y8_1.1.back]) (by kernel_rfl) (by kernel_rfl) (loadN (off := 0) (vs := [.int .i64 y8_1.1.fwd, .int .i64 y8_1.1.back]) 2 (fun _ => by kernel_rfl) (holds_own .here) rfl (by exact ⟨rfl, rfl, trivial⟩)) ?_
            obtain ⟨y9_12, hy9_12, H⟩ := bindE H
            refine s_quiet 62 (.bool y9_12) 19 #[.agg #[.int .i64 y8_1.1.fwd, .int .i64 y8_1.1.back]] (by kernel_rfl) (by kernel_rfl) (fun _ => by kernel_rfl) (LOnlyF_tr (⟨y8_1.1.fwd, y8_1.1.back⟩ : LinkS) y9_12 hy9_12) ?_
            refine s_pure 63 (.bool y9_12) (by kernel_rfl) (by kernel_rfl) (fun _ => by kernel_rfl) ?_
            rcases Bool.eq_false_or_eq_true (y9_12) with h5 | h5
            · replace H := bifT H h5
              refine s_pure 64 (.bool true) (by kernel_rfl) (by kernel_rfl) (run_eq (v := .bool (y9_12)) (fun _ => by kernel_rfl) (congrArg Value.bool h5)) ?_
              refine s_load 65 (.agg #[.int .i64 y8_1.1.fwd, .int .i64 y8_1.1.back, .int .i64 y8_1.1.line, .int .i64 y8_1.1.used, .bool y8_1.1.dirty, .slice a8_1_00 (List.length y8_1.1.data) c8_1_00]) (by kernel_rfl) (by kernel_rfl) (loadN (off := 0) (vs := [.int .i64 y8_1.1.fwd, .int .i64 y8_1.1.back, .int .i64 y8_1.1.line, .int .i64 y8_1.1.used, .bool y8_1.1.dirty, .slice a8_1_00 (List.length y8_1.1.data) c8_1_00]) 6 (fun _ => by kernel_rfl) (holds_own .here) rfl (by exact ⟨rfl, rfl, rfl, rfl, rfl, rfl, trivial⟩)) ?_
              obtain ⟨y9_16, hy9_16, H⟩ := bindE H
              refine s_call 66 20 #[.agg #[.int .i64 y8_1.1.fwd, .int .i64 y8_1.1.back, .int .i64 y8_1.1.line, .int .i64 y8_1.1.used, .bool y8_1.1.dirty, .slice a8_1_00 (List.length y8_1.1.data) c8_1_00], .int .i64 (0)] (by kernel_rfl) (by kernel_rfl) (fun _ => by kernel_rfl) (EWordF_tr a8_1_00 c8_1_00 y8_1.1 (0 : Int) (RowsA.reads (k := 1) (.there .here)) y9_16 hy9_16) ?_
              rintro _ _ ⟨rfl, rfl⟩
              refine s_pure 67 (.bool (decide (y9_16 = (7 : Int)))) (by kernel_rfl) (by kernel_rfl) (fun _ => by kernel_rfl) ?_
              refine s_pure 68 (.bool (decide (y9_16 = (7 : Int)))) (by kernel_rfl) (by kernel_rfl) (fun _ => by kernel_rfl) ?_
              refine s_pure 0 (.bool (decide (y9_16 = (7 : Int)))) (by kernel_rfl) (by kernel_rfl) (fun _ => by kernel_rfl) ?_
              refine ops_end ?_
              refine At.env [(0, .bool (decide (y9_16 = (7 : Int)))), (1, .pointer (some ⟨b1_0_0, 0, none⟩)), (3, .pointer (some ⟨b4_8, 0, none⟩)), (4, .bool y7_3.2.1), (5, .pointer (some ⟨b8_5, 0, none⟩)), (6, .bool y8_1.2), (37, .bool e0_37)] ⟨by kernel_rfl, by kernel_rfl, by kernel_rfl, by kernel_rfl, by kernel_rfl, by kernel_rfl, by kernel_rfl, trivial⟩ ?_
              refine at_then_normal ?_
              refine at_ret (by kernel_rfl) ?_
              obtain rfl := someE H
              refine at_backR [.bool (decide (y9_16 = (7 : Int)))] (Γ) (rs := [.tmp 0]) (by kernel_rfl) (.cons (.tmp (by kernel_rfl)) .nil) (fun w hw => (Sat.less (.drop .here (.drop .here (.drop .here (.drop .here (.drop .here (.drop .here (.drop .here .refl))))))) hw)) ?_
              exact ⟨rfl, rfl⟩
            · replace H := bifF H h5
              refine s_pure 64 (.bool false) (by kernel_rfl) (by kernel_rfl) (run_eq (v := .bool (y9_12)) (fun _ => by kernel_rfl) (congrArg Value.bool h5)) ?_
              refine s_pass 65 (by kernel_rfl) (by kernel_rfl) ?_
              refine s_pass 66 (by kernel_rfl) (by kernel_rfl) ?_
              refine s_pass 67 (by kernel_rfl) (by kernel_rfl) ?_
              refine s_pure 68 (.bool false) (by kernel_rfl) (by kernel_rfl) (fun _ => by kernel_rfl) ?_
              refine s_pure 0 (.bool false) (by kernel_rfl) (by kernel_rfl) (fun _ => by kernel_rfl) ?_
              refine ops_end ?_
              refine At.env [(0, .bool false), (1, .pointer (some ⟨b1_0_0, 0, none⟩)), (3, .pointer (some ⟨b4_8, 0, none⟩)), (4, .bool y7_3.2.1), (5, .pointer (some ⟨b8_5, 0, none⟩)), (6, .bool y8_1.2), (37, .bool e0_37)] ⟨by kernel_rfl, by kernel_rfl, by kernel_rfl, by kernel_rfl, by kernel_rfl, by kernel_rfl, by kernel_rfl, trivial⟩ ?_
              refine at_then_normal ?_
              refine at_ret (by kernel_rfl) ?_
              obtain rfl := someE H
              refine at_backR [.bool false] (Γ) (rs := [.tmp 0]) (by kernel_rfl) (.cons (.tmp (by kernel_rfl)) .nil) (fun w hw => (Sat.less (.drop .here (.drop .here (.drop .here (.drop .here (.drop .here (.drop .here (.drop .here .refl))))))) hw)) ?_
              exact ⟨rfl, rfl⟩
          · replace H := bifF H h4
            refine s_pure 59 (.bool false) (by kernel_rfl) (by kernel_rfl) (run_eq (v := .bool (y8_1.2)) (fun _ => by kernel_rfl) (congrArg Value.bool h4)) ?_
            refine s_pass 60 (by kernel_rfl) (by kernel_rfl) ?_
            refine s_pass 61 (by kernel_rfl) (by kernel_rfl) ?_
            refine s_pass 62 (by kernel_rfl) (by kernel_rfl) ?_
            refine s_pure 63 (.bool false) (by kernel_rfl) (by kernel_rfl) (fun _ => by kernel_rfl) ?_
            refine s_pure 64 (.bool false) (by kernel_rfl) (by kernel_rfl) (fun _ => by kernel_rfl) ?_
            refine s_pass 65 (by kernel_rfl) (by kernel_rfl) ?_
            refine s_pass 66 (by kernel_rfl) (by kernel_rfl) ?_
            refine s_pass 67 (by kernel_rfl) (by kernel_rfl) ?_
            refine s_pure 68 (.bool false) (by kernel_rfl) (by kernel_rfl) (fun _ => by kernel_rfl) ?_
            refine s_pure 0 (.bool false) (by kernel_rfl) (by kernel_rfl) (fun _ => by kernel_rfl) ?_
            refine ops_end ?_
            refine At.env [(0, .bool false), (1, .pointer (some ⟨b1_0_0, 0, none⟩)), (3, .pointer (some ⟨b4_8, 0, none⟩)), (4, .bool y7_3.2.1), (5, .pointer (some ⟨b8_5, 0, none⟩)), (6, .bool y8_1.2), (37, .bool e0_37)] ⟨by kernel_rfl, by kernel_rfl, by kernel_rfl, by kernel_rfl, by kernel_rfl, by kernel_rfl, by kernel_rfl, trivial⟩ ?_
            refine at_then_normal ?_
            refine at_ret (by kernel_rfl) ?_
            obtain rfl := someE H
            refine at_backR [.bool false] (Γ) (rs := [.tmp 0]) (by kernel_rfl) (.cons (.tmp (by kernel_rfl)) .nil) (fun w hw => (Sat.less (.drop .here (.drop .here (.drop .here (.drop .here (.drop .here (.drop .here (.drop .here .refl))))))) hw)) ?_
            exact ⟨rfl, rfl⟩
        · replace H := bifF H h3
          refine s_pure 56 (.bool false) (by kernel_rfl) (by kernel_rfl) (run_eq (v := .bool (decide (y7_3.1.step = (0 : Int)))) (fun _ => by kernel_rfl) (congrArg Value.bool h3)) ?_
          refine s_pass 57 (by kernel_rfl) (by kernel_rfl) ?_
          refine s_pure 58 (.bool false) (by kernel_rfl) (by kernel_rfl) (fun _ => by kernel_rfl) ?_
          refine s_pure 59 (.bool false) (by kernel_rfl) (by kernel_rfl) (fun _ => by kernel_rfl) ?_
          refine s_pass 60 (by kernel_rfl) (by kernel_rfl) ?_
          refine s_pass 61 (by kernel_rfl) (by kernel_rfl) ?_
          refine s_pass 62 (by kernel_rfl) (by kernel_rfl) ?_
          refine s_pure 63 (.bool false) (by kernel_rfl) (by kernel_rfl) (fun _ => by kernel_rfl) ?_
          refine s_pure 64 (.bool false) (by kernel_rfl) (by kernel_rfl) (fun _ => by kernel_rfl) ?_
          refine s_pass 65 (by kernel_rfl) (by kernel_rfl) ?_
          refine s_pass 66 (by kernel_rfl) (by kernel_rfl) ?_
          refine s_pass 67 (by kernel_rfl) (by kernel_rfl) ?_
          refine s_pure 68 (.bool false) (by kernel_rfl) (by kernel_rfl) (fun _ => by kernel_rfl) ?_
          refine s_pure 0 (.bool false) (by kernel_rfl) (by kernel_rfl) (fun _ => by kernel_rfl) ?_
          refine ops_end ?_
          refine At.env [(0, .bool false), (1, .pointer (some ⟨b1_0_0, 0, none⟩)), (3, .pointer (some ⟨b4_8, 0, none⟩)), (4, .bool y7_3.2.1), (5, .pointer (some ⟨b8_5, 0, none⟩)), (6, .bool y8_1.2), (37, .bool e0_37)] ⟨by kernel_rfl, by kernel_rfl, by kernel_rfl, by kernel_rfl, by kernel_rfl, by kernel_rfl, by kernel_rfl, trivial⟩ ?_
          refine at_then_normal ?_
          refine at_ret (by kernel_rfl) ?_
          obtain rfl := someE H
          refine at_backR [.bool false] (Γ) (rs := [.tmp 0]) (by kernel_rfl) (.cons (.tmp (by kernel_rfl)) .nil) (fun w hw => (Sat.less (.drop .here (.drop .here (.drop .here (.drop .here (.drop .here (.drop .here (.drop .here .refl))))))) hw)) ?_
          exact ⟨rfl, rfl⟩
      · replace H := bifF H h2
        refine s_pure 51 (.bool false) (by kernel_rfl) (by kernel_rfl) (run_eq (v := .bool (y7_3.2.1)) (fun _ => by kernel_rfl) (congrArg Value.bool h2)) ?_
        refine s_pass 52 (by kernel_rfl) (by kernel_rfl) ?_
        refine s_pass 53 (by kernel_rfl) (by kernel_rfl) ?_
        refine s_pass 54 (by kernel_rfl) (by kernel_rfl) ?_
        refine s_pure 55 (.bool false) (by kernel_rfl) (by kernel_rfl) (fun _ => by kernel_rfl) ?_
        refine s_pure 56 (.bool false) (by kernel_rfl) (by kernel_rfl) (fun _ => by kernel_rfl) ?_
        refine s_pass 57 (by kernel_rfl) (by kernel_rfl) ?_
        refine s_pure 58 (.bool false) (by kernel_rfl) (by kernel_rfl) (fun _ => by kernel_rfl) ?_
        refine s_pure 59 (.bool false) (by kernel_rfl) (by kernel_rfl) (fun _ => by kernel_rfl) ?_
        refine s_pass 60 (by kernel_rfl) (by kernel_rfl) ?_
        refine s_pass 61 (by kernel_rfl) (by kernel_rfl) ?_
        refine s_pass 62 (by kernel_rfl) (by kernel_rfl) ?_
        refine s_pure 63 (.bool false) (by kernel_rfl) (by kernel_rfl) (fun _ => by kernel_rfl) ?_
        refine s_pure 64 (.bool false) (by kernel_rfl) (by kernel_rfl) (fun _ => by kernel_rfl) ?_
        refine s_pass 65 (by kernel_rfl) (by kernel_rfl) ?_
        refine s_pass 66 (by kernel_rfl) (by kernel_rfl) ?_
        refine s_pass 67 (by kernel_rfl) (by kernel_rfl) ?_
        refine s_pure 68 (.bool false) (by kernel_rfl) (by kernel_rfl) (fun _ => by kernel_rfl) ?_
        refine s_pure 0 (.bool false) (by kernel_rfl) (by kernel_rfl) (fun _ => by kernel_rfl) ?_
        refine ops_end ?_
        refine At.env [(0, .bool false), (1, .pointer (some ⟨b1_0_0, 0, none⟩)), (3, .pointer (some ⟨b4_8, 0, none⟩)), (4, .bool y7_3.2.1), (5, .pointer (some ⟨b8_5, 0, none⟩)), (6, .bool y8_1.2), (37, .bool e0_37)] ⟨by kernel_rfl, by kernel_rfl, by kernel_rfl, by kernel_rfl, by kernel_rfl, by kernel_rfl, by kernel_rfl, trivial⟩ ?_
        refine at_then_normal ?_
        refine at_ret (by kernel_rfl) ?_
        obtain rfl := someE H
        refine at_backR [.bool false] (Γ) (rs := [.tmp 0]) (by kernel_rfl) (.cons (.tmp (by kernel_rfl)) .nil) (fun w hw => (Sat.less (.drop .here (.drop .here (.drop .here (.drop .here (.drop .here (.drop .here (.drop .here .refl))))))) hw)) ?_
        exact ⟨rfl, rfl⟩
  · refine at_region (id := 5) 17 (by kernel_rfl) (by kernel_rfl) ?_
    refine s_pure 21 (.bool y4_4.2.1) (by kernel_rfl) (by kernel_rfl) (fun _ => by kernel_rfl) ?_
    refine s_pure 22 (.bool !y4_4.2.1) (by kernel_rfl) (by kernel_rfl) (fun _ => by kernel_rfl) ?_
    rcases Bool.eq_false_or_eq_true (!y4_4.2.1) with h6 | h6
    · replace H := bifT H h6
      refine s_pure 23 (.bool true) (by kernel_rfl) (by kernel_rfl) (run_eq (v := .bool (!y4_4.2.1)) (fun _ => by kernel_rfl) (congrArg Value.bool h6)) ?_
      refine s_pass 24 (by kernel_rfl) (by kernel_rfl) ?_
      refine s_pass 25 (by kernel_rfl) (by kernel_rfl) ?_
      refine s_pass 26 (by kernel_rfl) (by kernel_rfl) ?_
      refine s_pure 27 (.bool true) (by kernel_rfl) (by kernel_rfl) (fun _ => by kernel_rfl) ?_
      refine s_pure 28 (.bool true) (by kernel_rfl) (by kernel_rfl) (fun _ => by kernel_rfl) ?_
      refine s_pass 29 (by kernel_rfl) (by kernel_rfl) ?_
      refine s_pass 30 (by kernel_rfl) (by kernel_rfl) ?_
      refine s_pass 31 (by kernel_rfl) (by kernel_rfl) ?_
      refine s_pure 32 (.bool true) (by kernel_rfl) (by kernel_rfl) (fun _ => by kernel_rfl) ?_
      refine s_pure 33 (.bool true) (by kernel_rfl) (by kernel_rfl) (fun _ => by kernel_rfl) ?_
      refine s_pass 34 (by kernel_rfl) (by kernel_rfl) ?_
      refine s_pass 35 (by kernel_rfl) (by kernel_rfl) ?_
      refine s_pass 36 (by kernel_rfl) (by kernel_rfl) ?_
      refine s_pure 37 (.bool true) (by kernel_rfl) (by kernel_rfl) (fun _ => by kernel_rfl) ?_
      refine ops_end ?_
      refine At.env [(0, .bool false), (1, .pointer (some ⟨b1_0_0, 0, none⟩)), (3, .pointer (some ⟨b4_8, 0, none⟩)), (4, .bool y4_4.2.1), (12, .bool false), (37, .bool true)] ⟨by kernel_rfl, by kernel_rfl, by kernel_rfl, by kernel_rfl, by kernel_rfl, by kernel_rfl, trivial⟩ ?_
      refine at_round_normal ?_
      exact at_join_mk [(0, .bool false), (1, .pointer (some ⟨b1_0_0, 0, none⟩)), (3, .pointer (some ⟨b4_8, 0, none⟩)), (4, .bool y4_4.2.1), (37, .bool true)] ((Asn.own b4_8 (.cells #[.int .i64 y4_4.1.kind, .int .i64 y4_4.1.line, .int .i64 y4_4.1.id, .int .i64 y4_4.1.step, .int .i64 y4_4.1.state, .int .i64 y4_4.1.head, .slice a4_4_00 (List.length y4_4.1.data) c4_4_00, .int .i64 y4_4.1.next, .int .i64 y4_4.1.told] 35 (0, 0))) :: (ImmI a4_4_00 y4_4.1.data) :: (CacheA b1_0_0 y4_4.2.2) :: (RCacheA b1_0_1 y1_0.2) :: Γ) ⟨by kernel_rfl, by kernel_rfl, by kernel_rfl, by kernel_rfl, by kernel_rfl, trivial⟩ (fun w hw => (Sat.less (.take .here (.take .here (.take .here (.take (.there (.there .here)) (.drop .here (.drop .here .refl)))))) hw)) ⟨true, H, rfl, rfl⟩
    · replace H := bifF H h6
      refine s_pure 23 (.bool false) (by kernel_rfl) (by kernel_rfl) (run_eq (v := .bool (!y4_4.2.1)) (fun _ => by kernel_rfl) (congrArg Value.bool h6)) ?_
      refine s_pure 24 (.pointer (some ⟨b4_8, 3, none⟩)) (by kernel_rfl) (by kernel_rfl) (fun _ => by kernel_rfl) ?_
      refine s_load 25 (.int .i64 y4_4.1.step) (by kernel_rfl) (by kernel_rfl) (load1 (off := 3) (fun _ => by kernel_rfl) (holds_own .here) (by kernel_rfl)) ?_
      refine s_pure 26 (.bool (!(decide (y4_4.1.step = (6 : Int))))) (by kernel_rfl) (by kernel_rfl) (fun _ => by kernel_rfl) ?_
      refine s_pure 27 (.bool (!(decide (y4_4.1.step = (6 : Int))))) (by kernel_rfl) (by kernel_rfl) (fun _ => by kernel_rfl) ?_
      rcases Bool.eq_false_or_eq_true (!(decide (y4_4.1.step = (6 : Int)))) with h7 | h7
      · replace H := bifT H h7
        refine s_pure 28 (.bool true) (by kernel_rfl) (by kernel_rfl) (run_eq (v := .bool (!(decide (y4_4.1.step = (6 : Int))))) (fun _ => by kernel_rfl) (congrArg Value.bool h7)) ?_
        refine s_pass 29 (by kernel_rfl) (by kernel_rfl) ?_
        refine s_pass 30 (by kernel_rfl) (by kernel_rfl) ?_
        refine s_pass 31 (by kernel_rfl) (by kernel_rfl) ?_
        refine s_pure 32 (.bool true) (by kernel_rfl) (by kernel_rfl) (fun _ => by kernel_rfl) ?_
        refine s_pure 33 (.bool true) (by kernel_rfl) (by kernel_rfl) (fun _ => by kernel_rfl) ?_
        refine s_pass 34 (by kernel_rfl) (by kernel_rfl) ?_
        refine s_pass 35 (by kernel_rfl) (by kernel_rfl) ?_
        refine s_pass 36 (by kernel_rfl) (by kernel_rfl) ?_
        refine s_pure 37 (.bool true) (by kernel_rfl) (by kernel_rfl) (fun _ => by kernel_rfl) ?_
        refine ops_end ?_
        refine At.env [(0, .bool false), (1, .pointer (some ⟨b1_0_0, 0, none⟩)), (3, .pointer (some ⟨b4_8, 0, none⟩)), (4, .bool y4_4.2.1), (12, .bool false), (37, .bool true)] ⟨by kernel_rfl, by kernel_rfl, by kernel_rfl, by kernel_rfl, by kernel_rfl, by kernel_rfl, trivial⟩ ?_
        refine at_round_normal ?_
        exact at_join_mk [(0, .bool false), (1, .pointer (some ⟨b1_0_0, 0, none⟩)), (3, .pointer (some ⟨b4_8, 0, none⟩)), (4, .bool y4_4.2.1), (37, .bool true)] ((Asn.own b4_8 (.cells #[.int .i64 y4_4.1.kind, .int .i64 y4_4.1.line, .int .i64 y4_4.1.id, .int .i64 y4_4.1.step, .int .i64 y4_4.1.state, .int .i64 y4_4.1.head, .slice a4_4_00 (List.length y4_4.1.data) c4_4_00, .int .i64 y4_4.1.next, .int .i64 y4_4.1.told] 35 (0, 0))) :: (ImmI a4_4_00 y4_4.1.data) :: (CacheA b1_0_0 y4_4.2.2) :: (RCacheA b1_0_1 y1_0.2) :: Γ) ⟨by kernel_rfl, by kernel_rfl, by kernel_rfl, by kernel_rfl, by kernel_rfl, trivial⟩ (fun w hw => (Sat.less (.take .here (.take .here (.take .here (.take (.there (.there .here)) (.drop .here (.drop .here .refl)))))) hw)) ⟨true, H, rfl, rfl⟩
      · replace H := bifF H h7
        refine s_pure 28 (.bool false) (by kernel_rfl) (by kernel_rfl) (run_eq (v := .bool (!(decide (y4_4.1.step = (6 : Int))))) (fun _ => by kernel_rfl) (congrArg Value.bool h7)) ?_
        refine s_pure 29 (.pointer (some ⟨b4_8, 5, none⟩)) (by kernel_rfl) (by kernel_rfl) (fun _ => by kernel_rfl) ?_
        refine s_load 30 (.int .i64 y4_4.1.head) (by kernel_rfl) (by kernel_rfl) (load1 (off := 5) (fun _ => by kernel_rfl) (holds_own .here) (by kernel_rfl)) ?_
        refine s_pure 31 (.bool (!(decide (y4_4.1.head = (2 : Int))))) (by kernel_rfl) (by kernel_rfl) (fun _ => by kernel_rfl) ?_
        refine s_pure 32 (.bool (!(decide (y4_4.1.head = (2 : Int))))) (by kernel_rfl) (by kernel_rfl) (fun _ => by kernel_rfl) ?_
        rcases Bool.eq_false_or_eq_true (!(decide (y4_4.1.head = (2 : Int)))) with h8 | h8
        · replace H := bifT H h8
          refine s_pure 33 (.bool true) (by kernel_rfl) (by kernel_rfl) (run_eq (v := .bool (!(decide (y4_4.1.head = (2 : Int))))) (fun _ => by kernel_rfl) (congrArg Value.bool h8)) ?_
          refine s_pass 34 (by kernel_rfl) (by kernel_rfl) ?_
          refine s_pass 35 (by kernel_rfl) (by kernel_rfl) ?_
          refine s_pass 36 (by kernel_rfl) (by kernel_rfl) ?_
          refine s_pure 37 (.bool true) (by kernel_rfl) (by kernel_rfl) (fun _ => by kernel_rfl) ?_
          refine ops_end ?_
          refine At.env [(0, .bool false), (1, .pointer (some ⟨b1_0_0, 0, none⟩)), (3, .pointer (some ⟨b4_8, 0, none⟩)), (4, .bool y4_4.2.1), (12, .bool false), (37, .bool true)] ⟨by kernel_rfl, by kernel_rfl, by kernel_rfl, by kernel_rfl, by kernel_rfl, by kernel_rfl, trivial⟩ ?_
          refine at_round_normal ?_
          exact at_join_mk [(0, .bool false), (1, .pointer (some ⟨b1_0_0, 0, none⟩)), (3, .pointer (some ⟨b4_8, 0, none⟩)), (4, .bool y4_4.2.1), (37, .bool true)] ((Asn.own b4_8 (.cells #[.int .i64 y4_4.1.kind, .int .i64 y4_4.1.line, .int .i64 y4_4.1.id, .int .i64 y4_4.1.step, .int .i64 y4_4.1.state, .int .i64 y4_4.1.head, .slice a4_4_00 (List.length y4_4.1.data) c4_4_00, .int .i64 y4_4.1.next, .int .i64 y4_4.1.told] 35 (0, 0))) :: (ImmI a4_4_00 y4_4.1.data) :: (CacheA b1_0_0 y4_4.2.2) :: (RCacheA b1_0_1 y1_0.2) :: Γ) ⟨by kernel_rfl, by kernel_rfl, by kernel_rfl, by kernel_rfl, by kernel_rfl, trivial⟩ (fun w hw => (Sat.less (.take .here (.take .here (.take .here (.take (.there (.there .here)) (.drop .here (.drop .here .refl)))))) hw)) ⟨true, H, rfl, rfl⟩
        · replace H := bifF H h8
          refine s_pure 33 (.bool false) (by kernel_rfl) (by kernel_rfl) (run_eq (v := .bool (!(decide (y4_4.1.head = (2 : Int))))) (fun _ => by kernel_rfl) (congrArg Value.bool h8)) ?_
          refine s_pure 34 (.pointer (some ⟨b4_8, 4, none⟩)) (by kernel_rfl) (by kernel_rfl) (fun _ => by kernel_rfl) ?_
          refine s_load 35 (.int .i64 y4_4.1.state) (by kernel_rfl) (by kernel_rfl) (load1 (off := 4) (fun _ => by kernel_rfl) (holds_own .here) (by kernel_rfl)) ?_
          refine s_pure 36 (.bool (!(decide (y4_4.1.state = (1 : Int))))) (by kernel_rfl) (by kernel_rfl) (fun _ => by kernel_rfl) ?_
          refine s_pure 37 (.bool (!(decide (y4_4.1.state = (1 : Int))))) (by kernel_rfl) (by kernel_rfl) (fun _ => by kernel_rfl) ?_
          refine ops_end ?_
          refine At.env [(0, .bool false), (1, .pointer (some ⟨b1_0_0, 0, none⟩)), (3, .pointer (some ⟨b4_8, 0, none⟩)), (4, .bool y4_4.2.1), (12, .bool false), (37, .bool (!(decide (y4_4.1.state = (1 : Int)))))] ⟨by kernel_rfl, by kernel_rfl, by kernel_rfl, by kernel_rfl, by kernel_rfl, by kernel_rfl, trivial⟩ ?_
          refine at_round_normal ?_
          exact at_join_mk [(0, .bool false), (1, .pointer (some ⟨b1_0_0, 0, none⟩)), (3, .pointer (some ⟨b4_8, 0, none⟩)), (4, .bool y4_4.2.1), (37, .bool (!(decide (y4_4.1.state = (1 : Int)))))] ((Asn.own b4_8 (.cells #[.int .i64 y4_4.1.kind, .int .i64 y4_4.1.line, .int .i64 y4_4.1.id, .int .i64 y4_4.1.step, .int .i64 y4_4.1.state, .int .i64 y4_4.1.head, .slice a4_4_00 (List.length y4_4.1.data) c4_4_00, .int .i64 y4_4.1.next, .int .i64 y4_4.1.told] 35 (0, 0))) :: (ImmI a4_4_00 y4_4.1.data) :: (CacheA b1_0_0 y4_4.2.2) :: (RCacheA b1_0_1 y1_0.2) :: Γ) ⟨by kernel_rfl, by kernel_rfl, by kernel_rfl, by kernel_rfl, by kernel_rfl, trivial⟩ (fun w hw => (Sat.less (.take .here (.take .here (.take .here (.take (.there (.there .here)) (.drop .here (.drop .here .refl)))))) hw)) ⟨!(decide (y4_4.1.state = (1 : Int))), H, rfl, rfl⟩
end Go.Proofs.Ytlnjnkbnppnbkaa
