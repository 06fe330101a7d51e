/- Attach: what comes of an answer. -/
import Derived.Test.YtlnjnkbnppnbkaaDeA
namespace Go.Proofs.Ytlnjnkbnppnbkaa
open Go Go.RowKit
set_option linter.unusedVariables false
set_option linter.unusedSimpArgs false
def alockedS (d : DealS) (node : Int) (cc : CacheS) (p : PktS) : Option (DealS × Bool × CacheS) :=
 (copyS p.data).bind fun y1_8 => (bif !(decide (p.state = (0 : Int))) then some ((⟨d.kind, d.line, d.id, 2, p.state, p.ptr, y1_8, d.next, p.ptr⟩ : DealS), true, cc) else (enewS d.line ((-1) : Int) ((-1) : Int) false p.data).bind fun y5_5 => (putS cc y5_5).bind fun y5_6 => some ((⟨d.kind, d.line, d.id, 6, 1, node, ([] : List Int), d.next, p.ptr⟩ : DealS), true, y5_6.2))
noncomputable def C47 (p : List Nat) : Code := codeAt (bodyOf Try.f47) p
set_option maxRecDepth 100000 in
set_option maxHeartbeats 8000000 in
theorem ALockedF_tr {W0 : World} {Γ : List Asn} (da : Option Addr) (dcap : Nat) (d : DealS) (node : Int) (c : Nat) (cc : CacheS) (pa : Option Addr) (pcap : Nat) (p : PktS) (hrpa : Reads W0 Γ pa (ints p.data)) (y : DealS × Bool × CacheS) (H : alockedS d node cc p = some y) : Tr Try.prog 47 #[.agg #[.int .i64 d.kind, .int .i64 d.line, .int .i64 d.id, .int .i64 d.step, .int .i64 d.state, .int .i64 d.head, .slice da (List.length d.data) dcap, .int .i64 d.next, .int .i64 d.told], .int .i64 node, .pointer (some ⟨c, 0, none⟩), .agg #[.int .i64 p.kind, .int .i64 p.src, .int .i64 p.dst, .int .i64 p.id, .int .i64 p.line, .int .i64 p.ptr, .int .i64 p.state, .bool p.flag, .slice pa (List.length p.data) pcap]] W0 ((ImmI da d.data) :: (CacheA c cc) :: Γ) (fun r Δ => ∃ (a0_0 : Option Addr) (c0_0 : Nat), r = .tuple #[.agg #[.int .i64 y.1.kind, .int .i64 y.1.line, .int .i64 y.1.id, .int .i64 y.1.step, .int .i64 y.1.state, .int .i64 y.1.head, .slice a0_0 (List.length y.1.data) c0_0, .int .i64 y.1.next, .int .i64 y.1.told], .bool y.2.1] ∧ Δ = (ImmI a0_0 y.1.data) :: (CacheA c y.2.2) :: Γ) := by
 unfold alockedS at H
 refine Tr.enter (fn := Try.f47) (c := C47 []) (args := [.agg #[.int .i64 d.kind, .int .i64 d.line, .int .i64 d.id, .int .i64 d.step, .int .i64 d.state, .int .i64 d.head, .slice da (List.length d.data) dcap, .int .i64 d.next, .int .i64 d.told], .int .i64 node, .pointer (some ⟨c, 0, none⟩), .agg #[.int .i64 p.kind, .int .i64 p.src, .int .i64 p.dst, .int .i64 p.id, .int .i64 p.line, .int .i64 p.ptr, .int .i64 p.state, .bool p.flag, .slice pa (List.length p.data) pcap]]) 41 Try.func47 (by kernel_rfl) (by kernel_rfl) ?_
 refine ae [(0, .agg #[.int .i64 d.kind, .int .i64 d.line, .int .i64 d.id, .int .i64 d.step, .int .i64 d.state, .int .i64 d.head, .slice da (List.length d.data) dcap, .int .i64 d.next, .int .i64 d.told]), (1, .int .i64 node), (2, .pointer (some ⟨c, 0, none⟩)), (3, .agg #[.int .i64 p.kind, .int .i64 p.src, .int .i64 p.dst, .int .i64 p.id, .int .i64 p.line, .int .i64 p.ptr, .int .i64 p.state, .bool p.flag, .slice pa (List.length p.data) pcap])] ?_
 refine aq (x := C47 [0]) (y := C47 [1]) ?_
 refine ar (id := 0) 4 ?_
 refine s_step 4 (by kernel_rfl) (by kernel_rfl) (st_new (T := 35) (cells := #[.int .i64 d.kind, .int .i64 d.line, .int .i64 d.id, .int .i64 d.step, .int .i64 d.state, .int .i64 d.head, .slice da (List.length d.data) dcap, .int .i64 d.next, .int .i64 d.told]) (fun a => .pointer (some a)) (fun _ => by kernel_rfl)) ?_
 rintro _ _ ⟨b0_0, rfl, rfl⟩
 refine s_step 7 (by kernel_rfl) (by kernel_rfl) (st_new (T := 40) (cells := #[.int .i64 p.kind, .int .i64 p.src, .int .i64 p.dst, .int .i64 p.id, .int .i64 p.line, .int .i64 p.ptr, .int .i64 p.state, .bool p.flag, .slice pa (List.length p.data) pcap]) (fun a => .pointer (some a)) (fun _ => by kernel_rfl)) ?_
 rintro _ _ ⟨b0_1, rfl, rfl⟩
 refine s_step 8 (by kernel_rfl) (by kernel_rfl) (st_new (T := 35) (cells := #[.int .i64 (0), .int .i64 (0), .int .i64 (0), .int .i64 (0), .int .i64 (0), .int .i64 (0), .slice none 0 0, .int .i64 (0), .int .i64 (0)]) (fun a => .pointer (some a)) (fun _ => by kernel_rfl)) ?_
 rintro _ _ ⟨b0_2, rfl, rfl⟩
 refine sp 9 (.bool false) ?_
 refine ops_end ?_
 refine ae [(1, .int .i64 node), (2, .pointer (some ⟨c, 0, none⟩)), (4, .pointer (some ⟨b0_0, 0, none⟩)), (7, .pointer (some ⟨b0_1, 0, none⟩)), (8, .pointer (some ⟨b0_2, 0, none⟩))] ?_
 refine at_then_normal ?_
 refine aq (x := C47 [1,0]) (y := C47 [1,1]) ?_
 refine at_region_draw (id := 1) (by kernel_rfl) (by kernel_rfl) ?_
 refine dp 0 10 (.pointer (some ⟨b0_1, 6, none⟩)) ?_
 refine dl 1 11 (.int .i64 p.state) (load1 (off := 6) (fun _ => by kernel_rfl) (holds_own (.there .here)) (by kernel_rfl)) ?_
 refine dp 2 12 (.pointer (some ⟨b0_1, 5, none⟩)) ?_
 refine dl 3 13 (.int .i64 p.ptr) (load1 (off := 5) (fun _ => by kernel_rfl) (holds_own (.there .here)) (by kernel_rfl)) ?_
 refine dp 4 14 (.pointer (some ⟨b0_1, 5, none⟩)) ?_
 refine dl 5 15 (.int .i64 p.ptr) (load1 (off := 5) (fun _ => by kernel_rfl) (holds_own (.there .here)) (by kernel_rfl)) ?_
 refine dp 6 16 (.pointer (some ⟨b0_1, 8, none⟩)) ?_
 refine dl 7 17 (.slice pa (List.length p.data) pcap) (load1 (off := 8) (fun _ => by kernel_rfl) (holds_own (.there .here)) (by kernel_rfl)) ?_
 refine dp 9 19 (.pointer (some ⟨b0_0, 4, none⟩)) ?_
 obtain ⟨y1_8, hy1_8, H⟩ := bindE H
 refine d_call 8 18 [7, 6] [9, 4, 2, 0] [5, 3, 1] 41 #[.slice pa (List.length p.data) pcap] (by kernel_rfl) (by kernel_rfl) (by kernel_rfl) (fun _ => by kernel_rfl) (CloneF_tr pa pcap p.data (Reads.conv (fun w hw => hw.less (.drop .here (.drop .here (.drop .here (.drop .here (.drop .here .refl)))))) hrpa) y1_8 hy1_8) ?_
 rintro _ _ ⟨a1_8_00, c1_8_00, rfl, rfl⟩
 refine ⟨(stable_cons 5 15 (.int .i64 p.ptr) (by kernel_rfl) (by kernel_rfl) (by kernel_rfl) (load1 (off := 5) (fun _ => by kernel_rfl) (holds_own (.there (.there .here))) (by kernel_rfl)) (stable_cons 3 13 (.int .i64 p.ptr) (by kernel_rfl) (by kernel_rfl) (by kernel_rfl) (load1 (off := 5) (fun _ => by kernel_rfl) (holds_own (.there (.there .here))) (by kernel_rfl)) (stable_cons 1 11 (.int .i64 p.state) (by kernel_rfl) (by kernel_rfl) (by kernel_rfl) (load1 (off := 6) (fun _ => by kernel_rfl) (holds_own (.there (.there .here))) (by kernel_rfl)) stable_nil))), ?_⟩
 refine d_do 10 [9, 1, 8, 0, 7, 6] [4, 2] [5, 3] (by kernel_rfl) (by kernel_rfl) (by kernel_rfl) (st_store (off := 4) (vs := [.int .i64 p.state]) (c' := #[.int .i64 d.kind, .int .i64 d.line, .int .i64 d.id, .int .i64 d.step, .int .i64 p.state, .int .i64 d.head, .slice da (List.length d.data) dcap, .int .i64 d.next, .int .i64 d.told]) (fun _ => by kernel_rfl) (.there (.there (.there .here))) (by kernel_rfl) (by kernel_rfl) (by kernel_rfl)) ?_
 rintro _ _ ⟨rfl, rfl⟩
 refine ⟨(stable_cons 5 15 (.int .i64 p.ptr) (by kernel_rfl) (by kernel_rfl) (by kernel_rfl) (load1 (off := 5) (fun _ => by kernel_rfl) (holds_own (.there (.there (.there .here)))) (by kernel_rfl)) (stable_cons 3 13 (.int .i64 p.ptr) (by kernel_rfl) (by kernel_rfl) (by kernel_rfl) (load1 (off := 5) (fun _ => by kernel_rfl) (holds_own (.there (.there (.there .here)))) (by kernel_rfl)) stable_nil)), ?_⟩
 refine dp 11 20 (.pointer (some ⟨b0_0, 5, none⟩)) ?_
 refine d_do 12 [11, 3, 10, 0, 1, 2, 9, 8, 7, 6] [4] [5] (by kernel_rfl) (by kernel_rfl) (by kernel_rfl) (st_store (off := 5) (vs := [.int .i64 p.ptr]) (c' := #[.int .i64 d.kind, .int .i64 d.line, .int .i64 d.id, .int .i64 d.step, .int .i64 p.state, .int .i64 p.ptr, .slice da (List.length d.data) dcap, .int .i64 d.next, .int .i64 d.told]) (fun _ => by kernel_rfl) .here (by kernel_rfl) (by kernel_rfl) (by kernel_rfl)) ?_
 rintro _ _ ⟨rfl, rfl⟩
 refine ⟨(stable_cons 5 15 (.int .i64 p.ptr) (by kernel_rfl) (by kernel_rfl) (by kernel_rfl) (load1 (off := 5) (fun _ => by kernel_rfl) (holds_own (.there (.there (.there .here)))) (by kernel_rfl)) stable_nil), ?_⟩
 refine dp 13 21 (.pointer (some ⟨b0_0, 8, none⟩)) ?_
 refine d_do 14 [13, 5, 12, 0, 1, 2, 3, 4, 9, 10, 11, 8, 7, 6] [] [] (by kernel_rfl) (by kernel_rfl) (by kernel_rfl) (st_store (off := 8) (vs := [.int .i64 p.ptr]) (c' := #[.int .i64 d.kind, .int .i64 d.line, .int .i64 d.id, .int .i64 d.step, .int .i64 p.state, .int .i64 p.ptr, .slice da (List.length d.data) dcap, .int .i64 d.next, .int .i64 p.ptr]) (fun _ => by kernel_rfl) .here (by kernel_rfl) (by kernel_rfl) (by kernel_rfl)) ?_
 rintro _ _ ⟨rfl, rfl⟩
 refine ⟨stable_nil, ?_⟩
 refine dp 15 22 (.pointer (some ⟨b0_0, 6, none⟩)) ?_
 refine d_do 16 [15, 8, 14, 0, 1, 2, 3, 4, 5, 6, 7, 9, 10, 11, 12, 13] [] [] (by kernel_rfl) (by kernel_rfl) (by kernel_rfl) (st_store (off := 6) (vs := [.slice a1_8_00 (List.length y1_8) c1_8_00]) (c' := #[.int .i64 d.kind, .int .i64 d.line, .int .i64 d.id, .int .i64 d.step, .int .i64 p.state, .int .i64 p.ptr, .slice a1_8_00 (List.length y1_8) c1_8_00, .int .i64 d.next, .int .i64 p.ptr]) (fun _ => by kernel_rfl) .here (by kernel_rfl) (by kernel_rfl) (by kernel_rfl)) ?_
 rintro _ _ ⟨rfl, rfl⟩
 refine ⟨stable_nil, ?_⟩
 refine draw_end (by kernel_rfl) ?_
 refine ae [(1, .int .i64 node), (2, .pointer (some ⟨c, 0, none⟩)), (4, .pointer (some ⟨b0_0, 0, none⟩)), (7, .pointer (some ⟨b0_1, 0, none⟩)), (8, .pointer (some ⟨b0_2, 0, none⟩))] ?_
 refine at_then_normal ?_
 refine aq (x := C47 [1,1,0]) (y := C47 [1,1,1]) ?_
 refine aq (x := C47 [1,1,0,0]) (y := C47 [1,1,0,1]) ?_
 refine ar (id := 2) 3 ?_
 refine sp 23 (.pointer (some ⟨b0_0, 4, none⟩)) ?_
 refine sl 24 (.int .i64 p.state) (load1 (off := 4) (fun _ => by kernel_rfl) (holds_own .here) (by kernel_rfl)) ?_
 refine sp 25 (.bool (!(decide (p.state = (0 : Int))))) ?_
 refine ops_end ?_
 refine ae [(1, .int .i64 node), (2, .pointer (some ⟨c, 0, none⟩)), (4, .pointer (some ⟨b0_0, 0, none⟩)), (7, .pointer (some ⟨b0_1, 0, none⟩)), (8, .pointer (some ⟨b0_2, 0, none⟩)), (25, .bool (!(decide (p.state = (0 : Int)))))] ?_
 refine at_then_normal ?_
 rcases Bool.eq_false_or_eq_true (!(decide (p.state = (0 : Int)))) with h1 | h1
 ·replace H := bifT H h1
  refine at_true (t := !(decide (p.state = (0 : Int)))) (x := C47 [1,1,0,1,0]) (y := C47 [1,1,0,1,1]) (o := .tmp 25) (by kernel_rfl) (by kernel_rfl) (by kernel_rfl) h1 ?_
  refine aq (x := C47 [1,1,0,1,0,0]) (y := C47 [1,1,0,1,0,1]) ?_
  refine ar (id := 3) 2 ?_
  refine sp 26 (.pointer (some ⟨b0_0, 3, none⟩)) ?_
  refine s_do (by kernel_rfl) (by kernel_rfl) (st_store (off := 3) (vs := [.int .i64 (2)]) (c' := #[.int .i64 d.kind, .int .i64 d.line, .int .i64 d.id, .int .i64 (2), .int .i64 p.state, .int .i64 p.ptr, .slice a1_8_00 (List.length y1_8) c1_8_00, .int .i64 d.next, .int .i64 p.ptr]) (fun _ => by kernel_rfl) .here (by kernel_rfl) (by kernel_rfl) (by kernel_rfl)) ?_
  rintro _ _ ⟨rfl, rfl⟩
  refine ops_end ?_
  refine ae [(4, .pointer (some ⟨b0_0, 0, none⟩)), (8, .pointer (some ⟨b0_2, 0, none⟩))] ?_
  refine at_then_normal ?_
  refine aq (x := C47 [1,1,0,1,0,1,0]) (y := C47 [1,1,0,1,0,1,1]) ?_
  refine ar (id := 4) 3 ?_
  refine sl 27 (.agg #[.int .i64 d.kind, .int .i64 d.line, .int .i64 d.id, .int .i64 (2), .int .i64 p.state, .int .i64 p.ptr, .slice a1_8_00 (List.length y1_8) c1_8_00, .int .i64 d.next, .int .i64 p.ptr]) (loadN (off := 0) (vs := [.int .i64 d.kind, .int .i64 d.line, .int .i64 d.id, .int .i64 (2), .int .i64 p.state, .int .i64 p.ptr, .slice a1_8_00 (List.length y1_8) c1_8_00, .int .i64 d.next, .int .i64 p.ptr]) 9 (fun _ => by kernel_rfl) (holds_own .here) rfl (by exact ⟨rfl, rfl, rfl, rfl, rfl, rfl, rfl, rfl, rfl, trivial⟩)) ?_
  refine s_do (by kernel_rfl) (by kernel_rfl) (st_store (off := 0) (vs := [.int .i64 d.kind, .int .i64 d.line, .int .i64 d.id, .int .i64 (2), .int .i64 p.state, .int .i64 p.ptr, .slice a1_8_00 (List.length y1_8) c1_8_00, .int .i64 d.next, .int .i64 p.ptr]) (c' := #[.int .i64 d.kind, .int .i64 d.line, .int .i64 d.id, .int .i64 (2), .int .i64 p.state, .int .i64 p.ptr, .slice a1_8_00 (List.length y1_8) c1_8_00, .int .i64 d.next, .int .i64 p.ptr]) (fun _ => by kernel_rfl) (.there (.there .here)) (by kernel_rfl) (by kernel_rfl) (by kernel_rfl)) ?_
  rintro _ _ ⟨rfl, rfl⟩
  refine sp 9 (.bool true) ?_
  refine ops_end ?_
  refine ae [(8, .pointer (some ⟨b0_2, 0, none⟩)), (9, .bool true)] ?_
  refine at_then_normal ?_
  refine at_ret (by kernel_rfl) ?_
  refine at_then_ret ?_
  obtain rfl := someE H
  refine at_backR [.agg #[.int .i64 d.kind, .int .i64 d.line, .int .i64 d.id, .int .i64 (2), .int .i64 p.state, .int .i64 p.ptr, .slice a1_8_00 (List.length y1_8) c1_8_00, .int .i64 d.next, .int .i64 p.ptr], .bool true] ((ImmI a1_8_00 y1_8) :: (CacheA c cc) :: Γ) (rs := [.cell 8 35, .tmp 9]) (by kernel_rfl) (.cons (.cell (by kernel_rfl) (retN (off := 0) (vs := [.int .i64 d.kind, .int .i64 d.line, .int .i64 d.id, .int .i64 (2), .int .i64 p.state, .int .i64 p.ptr, .slice a1_8_00 (List.length y1_8) c1_8_00, .int .i64 d.next, .int .i64 p.ptr]) 9 (fun _ => by kernel_rfl) (holds_own .here) rfl (by exact ⟨rfl, rfl, rfl, rfl, rfl, rfl, rfl, rfl, rfl, trivial⟩))) (.cons (.tmp (by kernel_rfl)) .nil)) (fun w hw => (Sat.less (.take .here (.take (.there (.there (.there (.there .here)))) (.drop .here (.drop .here (.drop .here (.drop .here .refl)))))) (RowsA.freeze (Sat.less (.take (.there (.there .here)) (.take .here (.take .here (.take .here (.take .here (.take .here .refl)))))) hw)))) ?_
  exact ⟨a1_8_00, c1_8_00, rfl, rfl⟩
 ·replace H := bifF H h1
  refine at_false (t := !(decide (p.state = (0 : Int)))) (x := C47 [1,1,0,1,0]) (y := C47 [1,1,0,1,1]) (o := .tmp 25) (by kernel_rfl) (by kernel_rfl) (by kernel_rfl) h1 ?_
  refine at_skip (by kernel_rfl) ?_
  refine at_then_normal ?_
  refine aq (x := C47 [1,1,1,0]) (y := C47 [1,1,1,1]) ?_
  refine ar (id := 5) 7 ?_
  refine sp 28 (.pointer (some ⟨c, 0, none⟩)) ?_
  refine sp 29 (.pointer (some ⟨b0_0, 1, none⟩)) ?_
  refine sl 30 (.int .i64 d.line) (load1 (off := 1) (fun _ => by kernel_rfl) (holds_own .here) (by kernel_rfl)) ?_
  refine sp 31 (.pointer (some ⟨b0_1, 8, none⟩)) ?_
  refine sl 32 (.slice pa (List.length p.data) pcap) (load1 (off := 8) (fun _ => by kernel_rfl) (holds_own (.there (.there (.there .here)))) (by kernel_rfl)) ?_
  obtain ⟨y5_5, hy5_5, H⟩ := bindE H
  refine s_call 33 15 #[.int .i64 d.line, .int .i64 (-1), .int .i64 (-1), .bool false, .slice pa (List.length p.data) pcap] (by kernel_rfl) (by kernel_rfl) (fun _ => by kernel_rfl) (ENewF_tr d.line ((-1) : Int) ((-1) : Int) false pa pcap p.data (Reads.conv (fun w hw => hw.less (.drop .here (.drop .here (.drop .here (.drop .here (.drop .here (.drop .here .refl))))))) hrpa) y5_5 hy5_5) ?_
  rintro _ _ ⟨a5_5_00, c5_5_00, rfl, rfl⟩
  obtain ⟨y5_6, hy5_6, H⟩ := bindE H
  refine s_call 34 14 #[.pointer (some ⟨c, 0, none⟩), .agg #[.int .i64 y5_5.fwd, .int .i64 y5_5.back, .int .i64 y5_5.line, .int .i64 y5_5.used, .bool y5_5.dirty, .slice a5_5_00 (List.length y5_5.data) c5_5_00]] (by kernel_rfl) (by kernel_rfl) (fun _ => by kernel_rfl) (Tr.conv (Γ' := (CacheA c cc) :: (IntsA a5_5_00 c5_5_00 y5_5.data) :: (Asn.own b0_0 (.cells #[.int .i64 d.kind, .int .i64 d.line, .int .i64 d.id, .int .i64 d.step, .int .i64 p.state, .int .i64 p.ptr, .slice a1_8_00 (List.length y1_8) c1_8_00, .int .i64 d.next, .int .i64 p.ptr] 35 (0, 0))) :: (IntsA a1_8_00 c1_8_00 y1_8) :: (Asn.own b0_2 (.cells #[.int .i64 (0), .int .i64 (0), .int .i64 (0), .int .i64 (0), .int .i64 (0), .int .i64 (0), .slice none 0 0, .int .i64 (0), .int .i64 (0)] 35 (0, 0))) :: (Asn.own b0_1 (.cells #[.int .i64 p.kind, .int .i64 p.src, .int .i64 p.dst, .int .i64 p.id, .int .i64 p.line, .int .i64 p.ptr, .int .i64 p.state, .bool p.flag, .slice pa (List.length p.data) pcap] 40 (0, 0))) :: (ImmI da d.data) :: Γ) (fun w hw => (Sat.less (.take (.there (.there (.there (.there (.there (.there .here)))))) (.take .here (.take .here (.take .here (.take .here (.take .here (.take .here .refl))))))) hw)) (PutF_tr c cc a5_5_00 c5_5_00 y5_5 (RowsA.reads (k := 1) .here) y5_6 hy5_6)) ?_
  rintro _ _ ⟨rfl, rfl⟩
  refine ops_end ?_
  refine ae [(1, .int .i64 node), (4, .pointer (some ⟨b0_0, 0, none⟩)), (8, .pointer (some ⟨b0_2, 0, none⟩))] ?_
  refine at_then_normal ?_
  refine aq (x := C47 [1,1,1,1,0]) (y := C47 [1,1,1,1,1]) ?_
  refine ar (id := 6) 9 ?_
  refine sp 35 (.int .i64 node) ?_
  refine sp 36 (.pointer (some ⟨b0_0, 3, none⟩)) ?_
  refine s_do (by kernel_rfl) (by kernel_rfl) (st_store (off := 3) (vs := [.int .i64 (6)]) (c' := #[.int .i64 d.kind, .int .i64 d.line, .int .i64 d.id, .int .i64 (6), .int .i64 p.state, .int .i64 p.ptr, .slice a1_8_00 (List.length y1_8) c1_8_00, .int .i64 d.next, .int .i64 p.ptr]) (fun _ => by kernel_rfl) (.there (.there .here)) (by kernel_rfl) (by kernel_rfl) (by kernel_rfl)) ?_
  rintro _ _ ⟨rfl, rfl⟩
  refine sp 37 (.pointer (some ⟨b0_0, 4, none⟩)) ?_
  refine s_do (by kernel_rfl) (by kernel_rfl) (st_store (off := 4) (vs := [.int .i64 (1)]) (c' := #[.int .i64 d.kind, .int .i64 d.line, .int .i64 d.id, .int .i64 (6), .int .i64 (1), .int .i64 p.ptr, .slice a1_8_00 (List.length y1_8) c1_8_00, .int .i64 d.next, .int .i64 p.ptr]) (fun _ => by kernel_rfl) .here (by kernel_rfl) (by kernel_rfl) (by kernel_rfl)) ?_
  rintro _ _ ⟨rfl, rfl⟩
  refine sp 38 (.pointer (some ⟨b0_0, 5, none⟩)) ?_
  refine s_do (by kernel_rfl) (by kernel_rfl) (st_store (off := 5) (vs := [.int .i64 node]) (c' := #[.int .i64 d.kind, .int .i64 d.line, .int .i64 d.id, .int .i64 (6), .int .i64 (1), .int .i64 node, .slice a1_8_00 (List.length y1_8) c1_8_00, .int .i64 d.next, .int .i64 p.ptr]) (fun _ => by kernel_rfl) .here (by kernel_rfl) (by kernel_rfl) (by kernel_rfl)) ?_
  rintro _ _ ⟨rfl, rfl⟩
  refine sp 39 (.pointer (some ⟨b0_0, 6, none⟩)) ?_
  refine s_do (by kernel_rfl) (by kernel_rfl) (st_store (off := 6) (vs := [.slice none 0 0]) (c' := #[.int .i64 d.kind, .int .i64 d.line, .int .i64 d.id, .int .i64 (6), .int .i64 (1), .int .i64 node, .slice none 0 0, .int .i64 d.next, .int .i64 p.ptr]) (fun _ => by kernel_rfl) .here (by kernel_rfl) (by kernel_rfl) (by kernel_rfl)) ?_
  rintro _ _ ⟨rfl, rfl⟩
  refine ops_end ?_
  refine ae [(4, .pointer (some ⟨b0_0, 0, none⟩)), (8, .pointer (some ⟨b0_2, 0, none⟩))] ?_
  refine at_then_normal ?_
  refine aq (x := C47 [1,1,1,1,1,0]) (y := C47 [1,1,1,1,1,1]) ?_
  refine ar (id := 7) 3 ?_
  refine sl 40 (.agg #[.int .i64 d.kind, .int .i64 d.line, .int .i64 d.id, .int .i64 (6), .int .i64 (1), .int .i64 node, .slice none 0 0, .int .i64 d.next, .int .i64 p.ptr]) (loadN (off := 0) (vs := [.int .i64 d.kind, .int .i64 d.line, .int .i64 d.id, .int .i64 (6), .int .i64 (1), .int .i64 node, .slice none 0 0, .int .i64 d.next, .int .i64 p.ptr]) 9 (fun _ => by kernel_rfl) (holds_own .here) rfl (by exact ⟨rfl, rfl, rfl, rfl, rfl, rfl, rfl, rfl, rfl, trivial⟩)) ?_
  refine s_do (by kernel_rfl) (by kernel_rfl) (st_store (off := 0) (vs := [.int .i64 d.kind, .int .i64 d.line, .int .i64 d.id, .int .i64 (6), .int .i64 (1), .int .i64 node, .slice none 0 0, .int .i64 d.next, .int .i64 p.ptr]) (c' := #[.int .i64 d.kind, .int .i64 d.line, .int .i64 d.id, .int .i64 (6), .int .i64 (1), .int .i64 node, .slice none 0 0, .int .i64 d.next, .int .i64 p.ptr]) (fun _ => by kernel_rfl) (.there (.there (.there (.there .here)))) (by kernel_rfl) (by kernel_rfl) (by kernel_rfl)) ?_
  rintro _ _ ⟨rfl, rfl⟩
  refine sp 9 (.bool true) ?_
  refine ops_end ?_
  refine ae [(8, .pointer (some ⟨b0_2, 0, none⟩)), (9, .bool true)] ?_
  refine at_then_normal ?_
  refine at_ret (by kernel_rfl) ?_
  obtain rfl := someE H
  refine at_backR [.agg #[.int .i64 d.kind, .int .i64 d.line, .int .i64 d.id, .int .i64 (6), .int .i64 (1), .int .i64 node, .slice none 0 0, .int .i64 d.next, .int .i64 p.ptr], .bool true] ((ImmI none ([] : List Int)) :: (CacheA c y5_6.2) :: Γ) (rs := [.cell 8 35, .tmp 9]) (by kernel_rfl) (.cons (.cell (by kernel_rfl) (retN (off := 0) (vs := [.int .i64 d.kind, .int .i64 d.line, .int .i64 d.id, .int .i64 (6), .int .i64 (1), .int .i64 node, .slice none 0 0, .int .i64 d.next, .int .i64 p.ptr]) 9 (fun _ => by kernel_rfl) (holds_own .here) rfl (by exact ⟨rfl, rfl, rfl, rfl, rfl, rfl, rfl, rfl, rfl, trivial⟩))) (.cons (.tmp (by kernel_rfl)) .nil)) (fun w hw => (Sat.less (.take .here (.take (.there (.there .here)) (.drop .here (.drop .here (.drop .here (.drop .here (.drop .here (.drop .here .refl)))))))) (ImmR.nil_mk (k := 1) (a := none) hw))) ?_
  exact ⟨none, 0, rfl, rfl⟩
def atoldS (d : DealS) (node : Int) (cc : CacheS) (p : PktS) : Option (DealS × Bool × CacheS) :=
 (enewS d.line d.head ((-1) : Int) false p.data).bind fun y1_7 => (putS cc y1_7).bind fun y1_8 => (bif p.flag then (copyS p.data).bind fun y4_2 => some ((⟨d.kind, d.line, d.id, 6, 1, node, y4_2, d.next, d.told⟩ : DealS), true, y1_8.2) else some ((⟨d.kind, d.line, d.id, 6, 1, node, ([] : List Int), d.next, d.told⟩ : DealS), true, y1_8.2))
noncomputable def C48 (p : List Nat) : Code := codeAt (bodyOf Try.f48) p
set_option maxRecDepth 100000 in
set_option maxHeartbeats 8000000 in
theorem AToldF_tr {W0 : World} {Γ : List Asn} (da : Option Addr) (dcap : Nat) (d : DealS) (node : Int) (c : Nat) (cc : CacheS) (pa : Option Addr) (pcap : Nat) (p : PktS) (hrpa : Reads W0 Γ pa (ints p.data)) (y : DealS × Bool × CacheS) (H : atoldS d node cc p = some y) : Tr Try.prog 48 #[.agg #[.int .i64 d.kind, .int .i64 d.line, .int .i64 d.id, .int .i64 d.step, .int .i64 d.state, .int .i64 d.head, .slice da (List.length d.data) dcap, .int .i64 d.next, .int .i64 d.told], .int .i64 node, .pointer (some ⟨c, 0, none⟩), .agg #[.int .i64 p.kind, .int .i64 p.src, .int .i64 p.dst, .int .i64 p.id, .int .i64 p.line, .int .i64 p.ptr, .int .i64 p.state, .bool p.flag, .slice pa (List.length p.data) pcap]] W0 ((ImmI da d.data) :: (CacheA c cc) :: Γ) (fun r Δ => ∃ (a0_0 : Option Addr) (c0_0 : Nat), r = .tuple #[.agg #[.int .i64 y.1.kind, .int .i64 y.1.line, .int .i64 y.1.id, .int .i64 y.1.step, .int .i64 y.1.state, .int .i64 y.1.head, .slice a0_0 (List.length y.1.data) c0_0, .int .i64 y.1.next, .int .i64 y.1.told], .bool y.2.1] ∧ Δ = (ImmI a0_0 y.1.data) :: (CacheA c y.2.2) :: Γ) := by
 unfold atoldS at H
 refine Tr.enter (fn := Try.f48) (c := C48 []) (args := [.agg #[.int .i64 d.kind, .int .i64 d.line, .int .i64 d.id, .int .i64 d.step, .int .i64 d.state, .int .i64 d.head, .slice da (List.length d.data) dcap, .int .i64 d.next, .int .i64 d.told], .int .i64 node, .pointer (some ⟨c, 0, none⟩), .agg #[.int .i64 p.kind, .int .i64 p.src, .int .i64 p.dst, .int .i64 p.id, .int .i64 p.line, .int .i64 p.ptr, .int .i64 p.state, .bool p.flag, .slice pa (List.length p.data) pcap]]) 31 Try.func48 (by kernel_rfl) (by kernel_rfl) ?_
 refine ae [(0, .agg #[.int .i64 d.kind, .int .i64 d.line, .int .i64 d.id, .int .i64 d.step, .int .i64 d.state, .int .i64 d.head, .slice da (List.length d.data) dcap, .int .i64 d.next, .int .i64 d.told]), (1, .int .i64 node), (2, .pointer (some ⟨c, 0, none⟩)), (3, .agg #[.int .i64 p.kind, .int .i64 p.src, .int .i64 p.dst, .int .i64 p.id, .int .i64 p.line, .int .i64 p.ptr, .int .i64 p.state, .bool p.flag, .slice pa (List.length p.data) pcap])] ?_
 refine aq (x := C48 [0]) (y := C48 [1]) ?_
 refine ar (id := 0) 4 ?_
 refine s_step 4 (by kernel_rfl) (by kernel_rfl) (st_new (T := 35) (cells := #[.int .i64 d.kind, .int .i64 d.line, .int .i64 d.id, .int .i64 d.step, .int .i64 d.state, .int .i64 d.head, .slice da (List.length d.data) dcap, .int .i64 d.next, .int .i64 d.told]) (fun a => .pointer (some a)) (fun _ => by kernel_rfl)) ?_
 rintro _ _ ⟨b0_0, rfl, rfl⟩
 refine s_step 7 (by kernel_rfl) (by kernel_rfl) (st_new (T := 40) (cells := #[.int .i64 p.kind, .int .i64 p.src, .int .i64 p.dst, .int .i64 p.id, .int .i64 p.line, .int .i64 p.ptr, .int .i64 p.state, .bool p.flag, .slice pa (List.length p.data) pcap]) (fun a => .pointer (some a)) (fun _ => by kernel_rfl)) ?_
 rintro _ _ ⟨b0_1, rfl, rfl⟩
 refine s_step 8 (by kernel_rfl) (by kernel_rfl) (st_new (T := 35) (cells := #[.int .i64 (0), .int .i64 (0), .int .i64 (0), .int .i64 (0), .int .i64 (0), .int .i64 (0), .slice none 0 0, .int .i64 (0), .int .i64 (0)]) (fun a => .pointer (some a)) (fun _ => by kernel_rfl)) ?_
 rintro _ _ ⟨b0_2, rfl, rfl⟩
 refine sp 9 (.bool false) ?_
 refine ops_end ?_
 refine ae [(1, .int .i64 node), (2, .pointer (some ⟨c, 0, none⟩)), (4, .pointer (some ⟨b0_0, 0, none⟩)), (7, .pointer (some ⟨b0_1, 0, none⟩)), (8, .pointer (some ⟨b0_2, 0, none⟩))] ?_
 refine at_then_normal ?_
 refine aq (x := C48 [1,0]) (y := C48 [1,1]) ?_
 refine ar (id := 1) 9 ?_
 refine sp 10 (.pointer (some ⟨c, 0, none⟩)) ?_
 refine sp 11 (.pointer (some ⟨b0_0, 1, none⟩)) ?_
 refine sl 12 (.int .i64 d.line) (load1 (off := 1) (fun _ => by kernel_rfl) (holds_own (.there (.there .here))) (by kernel_rfl)) ?_
 refine sp 13 (.pointer (some ⟨b0_0, 5, none⟩)) ?_
 refine sl 14 (.int .i64 d.head) (load1 (off := 5) (fun _ => by kernel_rfl) (holds_own (.there (.there .here))) (by kernel_rfl)) ?_
 refine sp 15 (.pointer (some ⟨b0_1, 8, none⟩)) ?_
 refine sl 16 (.slice pa (List.length p.data) pcap) (load1 (off := 8) (fun _ => by kernel_rfl) (holds_own (.there .here)) (by kernel_rfl)) ?_
 obtain ⟨y1_7, hy1_7, H⟩ := bindE H
 refine s_call 17 15 #[.int .i64 d.line, .int .i64 d.head, .int .i64 (-1), .bool false, .slice pa (List.length p.data) pcap] (by kernel_rfl) (by kernel_rfl) (fun _ => by kernel_rfl) (ENewF_tr d.line d.head ((-1) : Int) false pa pcap p.data (Reads.conv (fun w hw => hw.less (.drop .here (.drop .here (.drop .here (.drop .here (.drop .here .refl)))))) hrpa) y1_7 hy1_7) ?_
 rintro _ _ ⟨a1_7_00, c1_7_00, rfl, rfl⟩
 obtain ⟨y1_8, hy1_8, H⟩ := bindE H
 refine s_call 18 14 #[.pointer (some ⟨c, 0, none⟩), .agg #[.int .i64 y1_7.fwd, .int .i64 y1_7.back, .int .i64 y1_7.line, .int .i64 y1_7.used, .bool y1_7.dirty, .slice a1_7_00 (List.length y1_7.data) c1_7_00]] (by kernel_rfl) (by kernel_rfl) (fun _ => by kernel_rfl) (Tr.conv (Γ' := (CacheA c cc) :: (IntsA a1_7_00 c1_7_00 y1_7.data) :: (Asn.own b0_2 (.cells #[.int .i64 (0), .int .i64 (0), .int .i64 (0), .int .i64 (0), .int .i64 (0), .int .i64 (0), .slice none 0 0, .int .i64 (0), .int .i64 (0)] 35 (0, 0))) :: (Asn.own b0_1 (.cells #[.int .i64 p.kind, .int .i64 p.src, .int .i64 p.dst, .int .i64 p.id, .int .i64 p.line, .int .i64 p.ptr, .int .i64 p.state, .bool p.flag, .slice pa (List.length p.data) pcap] 40 (0, 0))) :: (Asn.own b0_0 (.cells #[.int .i64 d.kind, .int .i64 d.line, .int .i64 d.id, .int .i64 d.step, .int .i64 d.state, .int .i64 d.head, .slice da (List.length d.data) dcap, .int .i64 d.next, .int .i64 d.told] 35 (0, 0))) :: (ImmI da d.data) :: Γ) (fun w hw => (Sat.less (.take (.there (.there (.there (.there (.there .here))))) (.take .here (.take .here (.take .here (.take .here (.take .here .refl)))))) hw)) (PutF_tr c cc a1_7_00 c1_7_00 y1_7 (RowsA.reads (k := 1) .here) y1_8 hy1_8)) ?_
 rintro _ _ ⟨rfl, rfl⟩
 refine ops_end ?_
 refine ae [(1, .int .i64 node), (4, .pointer (some ⟨b0_0, 0, none⟩)), (7, .pointer (some ⟨b0_1, 0, none⟩)), (8, .pointer (some ⟨b0_2, 0, none⟩))] ?_
 refine at_then_normal ?_
 refine aq (x := C48 [1,1,0]) (y := C48 [1,1,1]) ?_
 refine ar (id := 2) 9 ?_
 refine sp 19 (.int .i64 node) ?_
 refine sp 20 (.pointer (some ⟨b0_0, 3, none⟩)) ?_
 refine s_do (by kernel_rfl) (by kernel_rfl) (st_store (off := 3) (vs := [.int .i64 (6)]) (c' := #[.int .i64 d.kind, .int .i64 d.line, .int .i64 d.id, .int .i64 (6), .int .i64 d.state, .int .i64 d.head, .slice da (List.length d.data) dcap, .int .i64 d.next, .int .i64 d.told]) (fun _ => by kernel_rfl) (.there (.there (.there (.there .here)))) (by kernel_rfl) (by kernel_rfl) (by kernel_rfl)) ?_
 rintro _ _ ⟨rfl, rfl⟩
 refine sp 21 (.pointer (some ⟨b0_0, 4, none⟩)) ?_
 refine s_do (by kernel_rfl) (by kernel_rfl) (st_store (off := 4) (vs := [.int .i64 (1)]) (c' := #[.int .i64 d.kind, .int .i64 d.line, .int .i64 d.id, .int .i64 (6), .int .i64 (1), .int .i64 d.head, .slice da (List.length d.data) dcap, .int .i64 d.next, .int .i64 d.told]) (fun _ => by kernel_rfl) .here (by kernel_rfl) (by kernel_rfl) (by kernel_rfl)) ?_
 rintro _ _ ⟨rfl, rfl⟩
 refine sp 22 (.pointer (some ⟨b0_0, 5, none⟩)) ?_
 refine s_do (by kernel_rfl) (by kernel_rfl) (st_store (off := 5) (vs := [.int .i64 node]) (c' := #[.int .i64 d.kind, .int .i64 d.line, .int .i64 d.id, .int .i64 (6), .int .i64 (1), .int .i64 node, .slice da (List.length d.data) dcap, .int .i64 d.next, .int .i64 d.told]) (fun _ => by kernel_rfl) .here (by kernel_rfl) (by kernel_rfl) (by kernel_rfl)) ?_
 rintro _ _ ⟨rfl, rfl⟩
 refine sp 23 (.pointer (some ⟨b0_0, 6, none⟩)) ?_
 refine s_do (by kernel_rfl) (by kernel_rfl) (st_store (off := 6) (vs := [.slice none 0 0]) (c' := #[.int .i64 d.kind, .int .i64 d.line, .int .i64 d.id, .int .i64 (6), .int .i64 (1), .int .i64 node, .slice none 0 0, .int .i64 d.next, .int .i64 d.told]) (fun _ => by kernel_rfl) .here (by kernel_rfl) (by kernel_rfl) (by kernel_rfl)) ?_
 rintro _ _ ⟨rfl, rfl⟩
 refine ops_end ?_
 refine ae [(4, .pointer (some ⟨b0_0, 0, none⟩)), (7, .pointer (some ⟨b0_1, 0, none⟩)), (8, .pointer (some ⟨b0_2, 0, none⟩))] ?_
 refine at_then_normal ?_
 refine aq (x := C48 [1,1,1,0]) (y := C48 [1,1,1,1]) ?_
 refine aq (x := C48 [1,1,1,0,0]) (y := C48 [1,1,1,0,1]) ?_
 refine ar (id := 3) 2 ?_
 refine sp 24 (.pointer (some ⟨b0_1, 7, none⟩)) ?_
 refine sl 25 (.bool p.flag) (load1 (off := 7) (fun _ => by kernel_rfl) (holds_own (.there (.there (.there (.there .here))))) (by kernel_rfl)) ?_
 refine ops_end ?_
 refine ae [(4, .pointer (some ⟨b0_0, 0, none⟩)), (7, .pointer (some ⟨b0_1, 0, none⟩)), (8, .pointer (some ⟨b0_2, 0, none⟩)), (25, .bool p.flag)] ?_
 refine at_then_normal ?_
 rcases Bool.eq_false_or_eq_true (p.flag) with h1 | h1
 ·replace H := bifT H h1
  refine at_true (t := p.flag) (x := C48 [1,1,1,0,1,0]) (y := C48 [1,1,1,0,1,1]) (o := .tmp 25) (by kernel_rfl) (by kernel_rfl) (by kernel_rfl) h1 ?_
  refine ar (id := 4) 5 ?_
  refine sp 26 (.pointer (some ⟨b0_1, 8, none⟩)) ?_
  refine sl 27 (.slice pa (List.length p.data) pcap) (load1 (off := 8) (fun _ => by kernel_rfl) (holds_own (.there (.there (.there (.there .here))))) (by kernel_rfl)) ?_
  obtain ⟨y4_2, hy4_2, H⟩ := bindE H
  refine s_call 28 41 #[.slice pa (List.length p.data) pcap] (by kernel_rfl) (by kernel_rfl) (fun _ => by kernel_rfl) (CloneF_tr pa pcap p.data (Reads.conv (fun w hw => hw.less (.drop .here (.drop .here (.drop .here (.drop .here (.drop .here (.drop .here .refl))))))) hrpa) y4_2 hy4_2) ?_
  rintro _ _ ⟨a4_2_00, c4_2_00, rfl, rfl⟩
  refine sp 29 (.pointer (some ⟨b0_0, 6, none⟩)) ?_
  refine s_do (by kernel_rfl) (by kernel_rfl) (st_store (off := 6) (vs := [.slice a4_2_00 (List.length y4_2) c4_2_00]) (c' := #[.int .i64 d.kind, .int .i64 d.line, .int .i64 d.id, .int .i64 (6), .int .i64 (1), .int .i64 node, .slice a4_2_00 (List.length y4_2) c4_2_00, .int .i64 d.next, .int .i64 d.told]) (fun _ => by kernel_rfl) (.there .here) (by kernel_rfl) (by kernel_rfl) (by kernel_rfl)) ?_
  rintro _ _ ⟨rfl, rfl⟩
  refine ops_end ?_
  refine ae [(4, .pointer (some ⟨b0_0, 0, none⟩)), (8, .pointer (some ⟨b0_2, 0, none⟩))] ?_
  refine at_then_normal ?_
  refine aq (x := C48 [1,1,1,1,0]) (y := C48 [1,1,1,1,1]) ?_
  refine ar (id := 5) 3 ?_
  refine sl 30 (.agg #[.int .i64 d.kind, .int .i64 d.line, .int .i64 d.id, .int .i64 (6), .int .i64 (1), .int .i64 node, .slice a4_2_00 (List.length y4_2) c4_2_00, .int .i64 d.next, .int .i64 d.told]) (loadN (off := 0) (vs := [.int .i64 d.kind, .int .i64 d.line, .int .i64 d.id, .int .i64 (6), .int .i64 (1), .int .i64 node, .slice a4_2_00 (List.length y4_2) c4_2_00, .int .i64 d.next, .int .i64 d.told]) 9 (fun _ => by kernel_rfl) (holds_own .here) rfl (by exact ⟨rfl, rfl, rfl, rfl, rfl, rfl, rfl, rfl, rfl, trivial⟩)) ?_
  refine s_do (by kernel_rfl) (by kernel_rfl) (st_store (off := 0) (vs := [.int .i64 d.kind, .int .i64 d.line, .int .i64 d.id, .int .i64 (6), .int .i64 (1), .int .i64 node, .slice a4_2_00 (List.length y4_2) c4_2_00, .int .i64 d.next, .int .i64 d.told]) (c' := #[.int .i64 d.kind, .int .i64 d.line, .int .i64 d.id, .int .i64 (6), .int .i64 (1), .int .i64 node, .slice a4_2_00 (List.length y4_2) c4_2_00, .int .i64 d.next, .int .i64 d.told]) (fun _ => by kernel_rfl) (.there (.there (.there (.there .here)))) (by kernel_rfl) (by kernel_rfl) (by kernel_rfl)) ?_
  rintro _ _ ⟨rfl, rfl⟩
  refine sp 9 (.bool true) ?_
  refine ops_end ?_
  refine ae [(8, .pointer (some ⟨b0_2, 0, none⟩)), (9, .bool true)] ?_
  refine at_then_normal ?_
  refine at_ret (by kernel_rfl) ?_
  obtain rfl := someE H
  refine at_backR [.agg #[.int .i64 d.kind, .int .i64 d.line, .int .i64 d.id, .int .i64 (6), .int .i64 (1), .int .i64 node, .slice a4_2_00 (List.length y4_2) c4_2_00, .int .i64 d.next, .int .i64 d.told], .bool true] ((ImmI a4_2_00 y4_2) :: (CacheA c y1_8.2) :: Γ) (rs := [.cell 8 35, .tmp 9]) (by kernel_rfl) (.cons (.cell (by kernel_rfl) (retN (off := 0) (vs := [.int .i64 d.kind, .int .i64 d.line, .int .i64 d.id, .int .i64 (6), .int .i64 (1), .int .i64 node, .slice a4_2_00 (List.length y4_2) c4_2_00, .int .i64 d.next, .int .i64 d.told]) 9 (fun _ => by kernel_rfl) (holds_own .here) rfl (by exact ⟨rfl, rfl, rfl, rfl, rfl, rfl, rfl, rfl, rfl, trivial⟩))) (.cons (.tmp (by kernel_rfl)) .nil)) (fun w hw => (Sat.less (.take .here (.take (.there (.there .here)) (.drop .here (.drop .here (.drop .here (.drop .here (.drop .here .refl))))))) (RowsA.freeze (Sat.less (.take (.there (.there .here)) (.take .here (.take .here (.take .here (.take .here (.take .here (.take .here .refl))))))) hw)))) ?_
  exact ⟨a4_2_00, c4_2_00, rfl, rfl⟩
 ·replace H := bifF H h1
  refine at_false (t := p.flag) (x := C48 [1,1,1,0,1,0]) (y := C48 [1,1,1,0,1,1]) (o := .tmp 25) (by kernel_rfl) (by kernel_rfl) (by kernel_rfl) h1 ?_
  refine at_skip (by kernel_rfl) ?_
  refine at_then_normal ?_
  refine aq (x := C48 [1,1,1,1,0]) (y := C48 [1,1,1,1,1]) ?_
  refine ar (id := 5) 3 ?_
  refine sl 30 (.agg #[.int .i64 d.kind, .int .i64 d.line, .int .i64 d.id, .int .i64 (6), .int .i64 (1), .int .i64 node, .slice none 0 0, .int .i64 d.next, .int .i64 d.told]) (loadN (off := 0) (vs := [.int .i64 d.kind, .int .i64 d.line, .int .i64 d.id, .int .i64 (6), .int .i64 (1), .int .i64 node, .slice none 0 0, .int .i64 d.next, .int .i64 d.told]) 9 (fun _ => by kernel_rfl) (holds_own .here) rfl (by exact ⟨rfl, rfl, rfl, rfl, rfl, rfl, rfl, rfl, rfl, trivial⟩)) ?_
  refine s_do (by kernel_rfl) (by kernel_rfl) (st_store (off := 0) (vs := [.int .i64 d.kind, .int .i64 d.line, .int .i64 d.id, .int .i64 (6), .int .i64 (1), .int .i64 node, .slice none 0 0, .int .i64 d.next, .int .i64 d.told]) (c' := #[.int .i64 d.kind, .int .i64 d.line, .int .i64 d.id, .int .i64 (6), .int .i64 (1), .int .i64 node, .slice none 0 0, .int .i64 d.next, .int .i64 d.told]) (fun _ => by kernel_rfl) (.there (.there (.there .here))) (by kernel_rfl) (by kernel_rfl) (by kernel_rfl)) ?_
  rintro _ _ ⟨rfl, rfl⟩
  refine sp 9 (.bool true) ?_
  refine ops_end ?_
  refine ae [(8, .pointer (some ⟨b0_2, 0, none⟩)), (9, .bool true)] ?_
  refine at_then_normal ?_
  refine at_ret (by kernel_rfl) ?_
  obtain rfl := someE H
  refine at_backR [.agg #[.int .i64 d.kind, .int .i64 d.line, .int .i64 d.id, .int .i64 (6), .int .i64 (1), .int .i64 node, .slice none 0 0, .int .i64 d.next, .int .i64 d.told], .bool true] ((ImmI none ([] : List Int)) :: (CacheA c y1_8.2) :: Γ) (rs := [.cell 8 35, .tmp 9]) (by kernel_rfl) (.cons (.cell (by kernel_rfl) (retN (off := 0) (vs := [.int .i64 d.kind, .int .i64 d.line, .int .i64 d.id, .int .i64 (6), .int .i64 (1), .int .i64 node, .slice none 0 0, .int .i64 d.next, .int .i64 d.told]) 9 (fun _ => by kernel_rfl) (holds_own .here) rfl (by exact ⟨rfl, rfl, rfl, rfl, rfl, rfl, rfl, rfl, rfl, trivial⟩))) (.cons (.tmp (by kernel_rfl)) .nil)) (fun w hw => (Sat.less (.take .here (.take (.there (.there .here)) (.drop .here (.drop .here (.drop .here (.drop .here (.drop .here .refl))))))) (ImmR.nil_mk (k := 1) (a := none) hw))) ?_
  exact ⟨none, 0, rfl, rfl⟩
def anextS_j0 (cc : CacheS) (d : DealS) (node : Int) (p : PktS) (e0_18 : Bool) : Option (DealS × Bool × CacheS) :=
 (bif e0_18 then some ((⟨0, 0, 0, 0, 0, 0, ([] : List Int), 0, 0⟩ : DealS), false, cc) else (bif decide (d.step = (1 : Int)) then (alockedS d node cc p).bind fun y5_4 => some (y5_4.1, y5_4.2.1, y5_4.2.2) else (bif decide (d.step = (2 : Int)) then (atoldS d node cc p).bind fun y7_4 => some (y7_4.1, y7_4.2.1, y7_4.2.2) else (bif decide (d.step = (6 : Int)) then some ((⟨d.kind, d.line, d.id, 0, d.state, d.head, d.data, d.next, d.told⟩ : DealS), true, cc) else some ((⟨0, 0, 0, 0, 0, 0, ([] : List Int), 0, 0⟩ : DealS), false, cc)))))
def anextS (d : DealS) (node : Int) (cc : CacheS) (p : PktS) : Option (DealS × Bool × CacheS) :=
 (bif !(decide (d.kind = (1 : Int))) then anextS_j0 cc d node p true else (dfitsS d p).bind fun y1_6 => anextS_j0 cc d node p !y1_6)
noncomputable def C25 (p : List Nat) : Code := codeAt (bodyOf Try.f25) p
set_option maxRecDepth 100000 in
set_option maxHeartbeats 8000000 in
theorem ANextF_tr {W0 : World} {Γ : List Asn} (da : Option Addr) (dcap : Nat) (d : DealS) (node : Int) (c : Nat) (cc : CacheS) (pa : Option Addr) (pcap : Nat) (p : PktS) (hrpa : Reads W0 Γ pa (ints p.data)) (y : DealS × Bool × CacheS) (H : anextS d node cc p = some y) : Tr Try.prog 25 #[.agg #[.int .i64 d.kind, .int .i64 d.line, .int .i64 d.id, .int .i64 d.step, .int .i64 d.state, .int .i64 d.head, .slice da (List.length d.data) dcap, .int .i64 d.next, .int .i64 d.told], .int .i64 node, .pointer (some ⟨c, 0, none⟩), .agg #[.int .i64 p.kind, .int .i64 p.src, .int .i64 p.dst, .int .i64 p.id, .int .i64 p.line, .int .i64 p.ptr, .int .i64 p.state, .bool p.flag, .slice pa (List.length p.data) pcap]] W0 ((ImmI da d.data) :: (CacheA c cc) :: Γ) (fun r Δ => ∃ (a0_0 : Option Addr) (c0_0 : Nat), r = .tuple #[.agg #[.int .i64 y.1.kind, .int .i64 y.1.line, .int .i64 y.1.id, .int .i64 y.1.step, .int .i64 y.1.state, .int .i64 y.1.head, .slice a0_0 (List.length y.1.data) c0_0, .int .i64 y.1.next, .int .i64 y.1.told], .bool y.2.1] ∧ Δ = (ImmI a0_0 y.1.data) :: (CacheA c y.2.2) :: Γ) := by
 unfold anextS at H
 refine Tr.enter (fn := Try.f25) (c := C25 []) (args := [.agg #[.int .i64 d.kind, .int .i64 d.line, .int .i64 d.id, .int .i64 d.step, .int .i64 d.state, .int .i64 d.head, .slice da (List.length d.data) dcap, .int .i64 d.next, .int .i64 d.told], .int .i64 node, .pointer (some ⟨c, 0, none⟩), .agg #[.int .i64 p.kind, .int .i64 p.src, .int .i64 p.dst, .int .i64 p.id, .int .i64 p.line, .int .i64 p.ptr, .int .i64 p.state, .bool p.flag, .slice pa (List.length p.data) pcap]]) 45 Try.func25 (by kernel_rfl) (by kernel_rfl) ?_
 refine ae [(0, .agg #[.int .i64 d.kind, .int .i64 d.line, .int .i64 d.id, .int .i64 d.step, .int .i64 d.state, .int .i64 d.head, .slice da (List.length d.data) dcap, .int .i64 d.next, .int .i64 d.told]), (1, .int .i64 node), (2, .pointer (some ⟨c, 0, none⟩)), (3, .agg #[.int .i64 p.kind, .int .i64 p.src, .int .i64 p.dst, .int .i64 p.id, .int .i64 p.line, .int .i64 p.ptr, .int .i64 p.state, .bool p.flag, .slice pa (List.length p.data) pcap])] ?_
 refine aq (x := C25 [0]) (y := C25 [1]) ?_
 refine ar (id := 0) 4 ?_
 refine s_step 4 (by kernel_rfl) (by kernel_rfl) (st_new (T := 35) (cells := #[.int .i64 d.kind, .int .i64 d.line, .int .i64 d.id, .int .i64 d.step, .int .i64 d.state, .int .i64 d.head, .slice da (List.length d.data) dcap, .int .i64 d.next, .int .i64 d.told]) (fun a => .pointer (some a)) (fun _ => by kernel_rfl)) ?_
 rintro _ _ ⟨b0_0, rfl, rfl⟩
 refine s_step 7 (by kernel_rfl) (by kernel_rfl) (st_new (T := 40) (cells := #[.int .i64 p.kind, .int .i64 p.src, .int .i64 p.dst, .int .i64 p.id, .int .i64 p.line, .int .i64 p.ptr, .int .i64 p.state, .bool p.flag, .slice pa (List.length p.data) pcap]) (fun a => .pointer (some a)) (fun _ => by kernel_rfl)) ?_
 rintro _ _ ⟨b0_1, rfl, rfl⟩
 refine s_step 8 (by kernel_rfl) (by kernel_rfl) (st_new (T := 35) (cells := #[.int .i64 (0), .int .i64 (0), .int .i64 (0), .int .i64 (0), .int .i64 (0), .int .i64 (0), .slice none 0 0, .int .i64 (0), .int .i64 (0)]) (fun a => .pointer (some a)) (fun _ => by kernel_rfl)) ?_
 rintro _ _ ⟨b0_2, rfl, rfl⟩
 refine sp 9 (.bool false) ?_
 refine ops_end ?_
 refine ae [(1, .int .i64 node), (2, .pointer (some ⟨c, 0, none⟩)), (4, .pointer (some ⟨b0_0, 0, none⟩)), (7, .pointer (some ⟨b0_1, 0, none⟩)), (8, .pointer (some ⟨b0_2, 0, none⟩))] ?_
 refine at_then_normal ?_
 refine aq (x := C25 [1,0]) (y := C25 [1,1]) ?_
 refine at_seq_join (x := C25 [1,0,0]) (y := C25 [1,0,1]) (fun ff ΔΔ => ∃ (e0_18 : Bool), anextS_j0 cc d node p e0_18 = some y ∧ ff = [(1, .int .i64 node), (2, .pointer (some ⟨c, 0, none⟩)), (4, .pointer (some ⟨b0_0, 0, none⟩)), (7, .pointer (some ⟨b0_1, 0, none⟩)), (8, .pointer (some ⟨b0_2, 0, none⟩)), (18, .bool e0_18)] ∧ (Asn.own b0_2 (.cells #[.int .i64 (0), .int .i64 (0), .int .i64 (0), .int .i64 (0), .int .i64 (0), .int .i64 (0), .slice none 0 0, .int .i64 (0), .int .i64 (0)] 35 (0, 0))) :: (Asn.own b0_1 (.cells #[.int .i64 p.kind, .int .i64 p.src, .int .i64 p.dst, .int .i64 p.id, .int .i64 p.line, .int .i64 p.ptr, .int .i64 p.state, .bool p.flag, .slice pa (List.length p.data) pcap] 40 (0, 0))) :: (Asn.own b0_0 (.cells #[.int .i64 d.kind, .int .i64 d.line, .int .i64 d.id, .int .i64 d.step, .int .i64 d.state, .int .i64 d.head, .slice da (List.length d.data) dcap, .int .i64 d.next, .int .i64 d.told] 35 (0, 0))) :: (ImmI da d.data) :: (CacheA c cc) :: Γ = ΔΔ) (by kernel_rfl) ?_ ?_
 ·rintro _ _ ⟨e0_18, H, rfl, rfl⟩
  rw [anextS_j0] at H
  rcases Bool.eq_false_or_eq_true (e0_18) with h1 | h1
  ·replace H := bifT H h1
   refine at_true (t := e0_18) (x := C25 [1,0,1,0]) (y := C25 [1,0,1,1]) (o := .tmp 18) (by kernel_rfl) (by kernel_rfl) (by kernel_rfl) h1 ?_
   refine aq (x := C25 [1,0,1,0,0]) (y := C25 [1,0,1,0,1]) ?_
   refine ar (id := 2) 3 ?_
   refine sp 19 (.agg #[.int .i64 (0), .int .i64 (0), .int .i64 (0), .int .i64 (0), .int .i64 (0), .int .i64 (0), .slice none 0 0, .int .i64 (0), .int .i64 (0)]) ?_
   refine s_do (by kernel_rfl) (by kernel_rfl) (st_store (off := 0) (vs := [.int .i64 (0), .int .i64 (0), .int .i64 (0), .int .i64 (0), .int .i64 (0), .int .i64 (0), .slice none 0 0, .int .i64 (0), .int .i64 (0)]) (c' := #[.int .i64 (0), .int .i64 (0), .int .i64 (0), .int .i64 (0), .int .i64 (0), .int .i64 (0), .slice none 0 0, .int .i64 (0), .int .i64 (0)]) (fun _ => by kernel_rfl) .here (by kernel_rfl) (by kernel_rfl) (by kernel_rfl)) ?_
   rintro _ _ ⟨rfl, rfl⟩
   refine sp 9 (.bool false) ?_
   refine ops_end ?_
   refine ae [(8, .pointer (some ⟨b0_2, 0, none⟩)), (9, .bool false)] ?_
   refine at_then_normal ?_
   refine at_ret (by kernel_rfl) ?_
   refine at_then_ret ?_
   obtain rfl := someE H
   refine at_backR [.agg #[.int .i64 (0), .int .i64 (0), .int .i64 (0), .int .i64 (0), .int .i64 (0), .int .i64 (0), .slice none 0 0, .int .i64 (0), .int .i64 (0)], .bool false] ((ImmI none ([] : List Int)) :: (CacheA c cc) :: Γ) (rs := [.cell 8 35, .tmp 9]) (by kernel_rfl) (.cons (.cell (by kernel_rfl) (retN (off := 0) (vs := [.int .i64 (0), .int .i64 (0), .int .i64 (0), .int .i64 (0), .int .i64 (0), .int .i64 (0), .slice none 0 0, .int .i64 (0), .int .i64 (0)]) 9 (fun _ => by kernel_rfl) (holds_own .here) rfl (by exact ⟨rfl, rfl, rfl, rfl, rfl, rfl, rfl, rfl, rfl, trivial⟩))) (.cons (.tmp (by kernel_rfl)) .nil)) (fun w hw => (Sat.less (.take .here (.take (.there (.there (.there (.there .here)))) (.drop .here (.drop .here (.drop .here (.drop .here .refl)))))) (ImmR.nil_mk (k := 1) (a := none) hw))) ?_
   exact ⟨none, 0, rfl, rfl⟩
  ·replace H := bifF H h1
   refine at_false (t := e0_18) (x := C25 [1,0,1,0]) (y := C25 [1,0,1,1]) (o := .tmp 18) (by kernel_rfl) (by kernel_rfl) (by kernel_rfl) h1 ?_
   refine at_skip (by kernel_rfl) ?_
   refine at_then_normal ?_
   refine aq (x := C25 [1,1,0]) (y := C25 [1,1,1]) ?_
   refine aq (x := C25 [1,1,0,0]) (y := C25 [1,1,0,1]) ?_
   refine ar (id := 3) 2 ?_
   refine sp 20 (.pointer (some ⟨b0_0, 3, none⟩)) ?_
   refine sl 21 (.int .i64 d.step) (load1 (off := 3) (fun _ => by kernel_rfl) (holds_own (.there (.there .here))) (by kernel_rfl)) ?_
   refine ops_end ?_
   refine ae [(1, .int .i64 node), (2, .pointer (some ⟨c, 0, none⟩)), (4, .pointer (some ⟨b0_0, 0, none⟩)), (7, .pointer (some ⟨b0_1, 0, none⟩)), (8, .pointer (some ⟨b0_2, 0, none⟩)), (21, .int .i64 d.step)] ?_
   refine at_then_normal ?_
   refine at_block (i := 0) (x := C25 [1,1,0,1,0]) (by kernel_rfl) ?_
   refine aq (x := C25 [1,1,0,1,0,0]) (y := C25 [1,1,0,1,0,1]) ?_
   refine ar (id := 4) 2 ?_
   refine sp 23 (.bool (decide (d.step = (1 : Int)))) ?_
   refine sp 22 (.bool (decide (d.step = (1 : Int)))) ?_
   refine ops_end ?_
   refine ae [(1, .int .i64 node), (2, .pointer (some ⟨c, 0, none⟩)), (4, .pointer (some ⟨b0_0, 0, none⟩)), (7, .pointer (some ⟨b0_1, 0, none⟩)), (8, .pointer (some ⟨b0_2, 0, none⟩)), (21, .int .i64 d.step), (22, .bool (decide (d.step = (1 : Int))))] ?_
   refine at_then_normal ?_
   rcases Bool.eq_false_or_eq_true (decide (d.step = (1 : Int))) with h2 | h2
   ·replace H := bifT H h2
    refine at_true (t := decide (d.step = (1 : Int))) (x := C25 [1,1,0,1,0,1,0]) (y := C25 [1,1,0,1,0,1,1]) (o := .tmp 22) (by kernel_rfl) (by kernel_rfl) (by kernel_rfl) h2 ?_
    refine aq (x := C25 [1,1,0,1,0,1,0,0]) (y := C25 [1,1,0,1,0,1,0,1]) ?_
    refine ar (id := 5) 9 ?_
    refine sl 24 (.agg #[.int .i64 d.kind, .int .i64 d.line, .int .i64 d.id, .int .i64 d.step, .int .i64 d.state, .int .i64 d.head, .slice da (List.length d.data) dcap, .int .i64 d.next, .int .i64 d.told]) (loadN (off := 0) (vs := [.int .i64 d.kind, .int .i64 d.line, .int .i64 d.id, .int .i64 d.step, .int .i64 d.state, .int .i64 d.head, .slice da (List.length d.data) dcap, .int .i64 d.next, .int .i64 d.told]) 9 (fun _ => by kernel_rfl) (holds_own (.there (.there .here))) rfl (by exact ⟨rfl, rfl, rfl, rfl, rfl, rfl, rfl, rfl, rfl, trivial⟩)) ?_
    refine sp 25 (.int .i64 node) ?_
    refine sp 26 (.pointer (some ⟨c, 0, none⟩)) ?_
    refine sl 27 (.agg #[.int .i64 p.kind, .int .i64 p.src, .int .i64 p.dst, .int .i64 p.id, .int .i64 p.line, .int .i64 p.ptr, .int .i64 p.state, .bool p.flag, .slice pa (List.length p.data) pcap]) (loadN (off := 0) (vs := [.int .i64 p.kind, .int .i64 p.src, .int .i64 p.dst, .int .i64 p.id, .int .i64 p.line, .int .i64 p.ptr, .int .i64 p.state, .bool p.flag, .slice pa (List.length p.data) pcap]) 9 (fun _ => by kernel_rfl) (holds_own (.there .here)) rfl (by exact ⟨rfl, rfl, rfl, rfl, rfl, rfl, rfl, rfl, rfl, trivial⟩)) ?_
    obtain ⟨y5_4, hy5_4, H⟩ := bindE H
    refine s_call 28 47 #[.agg #[.int .i64 d.kind, .int .i64 d.line, .int .i64 d.id, .int .i64 d.step, .int .i64 d.state, .int .i64 d.head, .slice da (List.length d.data) dcap, .int .i64 d.next, .int .i64 d.told], .int .i64 node, .pointer (some ⟨c, 0, none⟩), .agg #[.int .i64 p.kind, .int .i64 p.src, .int .i64 p.dst, .int .i64 p.id, .int .i64 p.line, .int .i64 p.ptr, .int .i64 p.state, .bool p.flag, .slice pa (List.length p.data) pcap]] (by kernel_rfl) (by kernel_rfl) (fun _ => by kernel_rfl) (Tr.conv (Γ' := (ImmI da d.data) :: (CacheA c cc) :: (ImmI da d.data) :: (Asn.own b0_2 (.cells #[.int .i64 (0), .int .i64 (0), .int .i64 (0), .int .i64 (0), .int .i64 (0), .int .i64 (0), .slice none 0 0, .int .i64 (0), .int .i64 (0)] 35 (0, 0))) :: (Asn.own b0_1 (.cells #[.int .i64 p.kind, .int .i64 p.src, .int .i64 p.dst, .int .i64 p.id, .int .i64 p.line, .int .i64 p.ptr, .int .i64 p.state, .bool p.flag, .slice pa (List.length p.data) pcap] 40 (0, 0))) :: (Asn.own b0_0 (.cells #[.int .i64 d.kind, .int .i64 d.line, .int .i64 d.id, .int .i64 d.step, .int .i64 d.state, .int .i64 d.head, .slice da (List.length d.data) dcap, .int .i64 d.next, .int .i64 d.told] 35 (0, 0))) :: Γ) (fun w hw => (Sat.less (.take .here (.take (.there (.there (.there (.there .here)))) (.take .here (.take .here (.take .here (.take .here .refl)))))) (ImmR.dup (Sat.less (.take (.there (.there (.there .here))) (.take .here (.take .here (.take .here (.take .here .refl))))) hw)))) (ALockedF_tr da dcap d node c cc pa pcap p (Reads.conv (fun w hw => hw.less (.drop .here (.drop .here (.drop .here (.drop .here .refl))))) hrpa) y5_4 hy5_4)) ?_
    rintro _ _ ⟨a5_4_00, c5_4_00, rfl, rfl⟩
    refine sp 29 (.agg #[.int .i64 y5_4.1.kind, .int .i64 y5_4.1.line, .int .i64 y5_4.1.id, .int .i64 y5_4.1.step, .int .i64 y5_4.1.state, .int .i64 y5_4.1.head, .slice a5_4_00 (List.length y5_4.1.data) c5_4_00, .int .i64 y5_4.1.next, .int .i64 y5_4.1.told]) ?_
    refine sp 30 (.bool y5_4.2.1) ?_
    refine s_do (by kernel_rfl) (by kernel_rfl) (st_store (off := 0) (vs := [.int .i64 y5_4.1.kind, .int .i64 y5_4.1.line, .int .i64 y5_4.1.id, .int .i64 y5_4.1.step, .int .i64 y5_4.1.state, .int .i64 y5_4.1.head, .slice a5_4_00 (List.length y5_4.1.data) c5_4_00, .int .i64 y5_4.1.next, .int .i64 y5_4.1.told]) (c' := #[.int .i64 y5_4.1.kind, .int .i64 y5_4.1.line, .int .i64 y5_4.1.id, .int .i64 y5_4.1.step, .int .i64 y5_4.1.state, .int .i64 y5_4.1.head, .slice a5_4_00 (List.length y5_4.1.data) c5_4_00, .int .i64 y5_4.1.next, .int .i64 y5_4.1.told]) (fun _ => by kernel_rfl) (.there (.there (.there .here))) (by kernel_rfl) (by kernel_rfl) (by kernel_rfl)) ?_
    rintro _ _ ⟨rfl, rfl⟩
    refine sp 9 (.bool y5_4.2.1) ?_
    refine ops_end ?_
    refine ae [(8, .pointer (some ⟨b0_2, 0, none⟩)), (9, .bool y5_4.2.1)] ?_
    refine at_then_normal ?_
    refine at_ret (by kernel_rfl) ?_
    refine at_in_ret ?_
    refine at_then_ret ?_
    obtain rfl := someE H
    refine at_backR [.agg #[.int .i64 y5_4.1.kind, .int .i64 y5_4.1.line, .int .i64 y5_4.1.id, .int .i64 y5_4.1.step, .int .i64 y5_4.1.state, .int .i64 y5_4.1.head, .slice a5_4_00 (List.length y5_4.1.data) c5_4_00, .int .i64 y5_4.1.next, .int .i64 y5_4.1.told], .bool y5_4.2.1] ((ImmI a5_4_00 y5_4.1.data) :: (CacheA c y5_4.2.2) :: Γ) (rs := [.cell 8 35, .tmp 9]) (by kernel_rfl) (.cons (.cell (by kernel_rfl) (retN (off := 0) (vs := [.int .i64 y5_4.1.kind, .int .i64 y5_4.1.line, .int .i64 y5_4.1.id, .int .i64 y5_4.1.step, .int .i64 y5_4.1.state, .int .i64 y5_4.1.head, .slice a5_4_00 (List.length y5_4.1.data) c5_4_00, .int .i64 y5_4.1.next, .int .i64 y5_4.1.told]) 9 (fun _ => by kernel_rfl) (holds_own .here) rfl (by exact ⟨rfl, rfl, rfl, rfl, rfl, rfl, rfl, rfl, rfl, trivial⟩))) (.cons (.tmp (by kernel_rfl)) .nil)) (fun w hw => (Sat.less (.take (.there .here) (.take (.there .here) (.drop .here (.drop .here (.drop .here (.drop .here .refl)))))) hw)) ?_
    exact ⟨a5_4_00, c5_4_00, rfl, rfl⟩
   ·replace H := bifF H h2
    refine at_false (t := decide (d.step = (1 : Int))) (x := C25 [1,1,0,1,0,1,0]) (y := C25 [1,1,0,1,0,1,1]) (o := .tmp 22) (by kernel_rfl) (by kernel_rfl) (by kernel_rfl) h2 ?_
    refine aq (x := C25 [1,1,0,1,0,1,1,0]) (y := C25 [1,1,0,1,0,1,1,1]) ?_
    refine ar (id := 6) 2 ?_
    refine sp 32 (.bool (decide (d.step = (2 : Int)))) ?_
    refine sp 31 (.bool (decide (d.step = (2 : Int)))) ?_
    refine ops_end ?_
    refine ae [(1, .int .i64 node), (2, .pointer (some ⟨c, 0, none⟩)), (4, .pointer (some ⟨b0_0, 0, none⟩)), (7, .pointer (some ⟨b0_1, 0, none⟩)), (8, .pointer (some ⟨b0_2, 0, none⟩)), (21, .int .i64 d.step), (31, .bool (decide (d.step = (2 : Int))))] ?_
    refine at_then_normal ?_
    rcases Bool.eq_false_or_eq_true (decide (d.step = (2 : Int))) with h3 | h3
    ·replace H := bifT H h3
     refine at_true (t := decide (d.step = (2 : Int))) (x := C25 [1,1,0,1,0,1,1,1,0]) (y := C25 [1,1,0,1,0,1,1,1,1]) (o := .tmp 31) (by kernel_rfl) (by kernel_rfl) (by kernel_rfl) h3 ?_
     refine aq (x := C25 [1,1,0,1,0,1,1,1,0,0]) (y := C25 [1,1,0,1,0,1,1,1,0,1]) ?_
     refine ar (id := 7) 9 ?_
     refine sl 33 (.agg #[.int .i64 d.kind, .int .i64 d.line, .int .i64 d.id, .int .i64 d.step, .int .i64 d.state, .int .i64 d.head, .slice da (List.length d.data) dcap, .int .i64 d.next, .int .i64 d.told]) (loadN (off := 0) (vs := [.int .i64 d.kind, .int .i64 d.line, .int .i64 d.id, .int .i64 d.step, .int .i64 d.state, .int .i64 d.head, .slice da (List.length d.data) dcap, .int .i64 d.next, .int .i64 d.told]) 9 (fun _ => by kernel_rfl) (holds_own (.there (.there .here))) rfl (by exact ⟨rfl, rfl, rfl, rfl, rfl, rfl, rfl, rfl, rfl, trivial⟩)) ?_
     refine sp 34 (.int .i64 node) ?_
     refine sp 35 (.pointer (some ⟨c, 0, none⟩)) ?_
     refine sl 36 (.agg #[.int .i64 p.kind, .int .i64 p.src, .int .i64 p.dst, .int .i64 p.id, .int .i64 p.line, .int .i64 p.ptr, .int .i64 p.state, .bool p.flag, .slice pa (List.length p.data) pcap]) (loadN (off := 0) (vs := [.int .i64 p.kind, .int .i64 p.src, .int .i64 p.dst, .int .i64 p.id, .int .i64 p.line, .int .i64 p.ptr, .int .i64 p.state, .bool p.flag, .slice pa (List.length p.data) pcap]) 9 (fun _ => by kernel_rfl) (holds_own (.there .here)) rfl (by exact ⟨rfl, rfl, rfl, rfl, rfl, rfl, rfl, rfl, rfl, trivial⟩)) ?_
     obtain ⟨y7_4, hy7_4, H⟩ := bindE H
     refine s_call 37 48 #[.agg #[.int .i64 d.kind, .int .i64 d.line, .int .i64 d.id, .int .i64 d.step, .int .i64 d.state, .int .i64 d.head, .slice da (List.length d.data) dcap, .int .i64 d.next, .int .i64 d.told], .int .i64 node, .pointer (some ⟨c, 0, none⟩), .agg #[.int .i64 p.kind, .int .i64 p.src, .int .i64 p.dst, .int .i64 p.id, .int .i64 p.line, .int .i64 p.ptr, .int .i64 p.state, .bool p.flag, .slice pa (List.length p.data) pcap]] (by kernel_rfl) (by kernel_rfl) (fun _ => by kernel_rfl) (Tr.conv (Γ' := (ImmI da d.data) :: (CacheA c cc) :: (ImmI da d.data) :: (Asn.own b0_2 (.cells #[.int .i64 (0), .int .i64 (0), .int .i64 (0), .int .i64 (0), .int .i64 (0), .int .i64 (0), .slice none 0 0, .int .i64 (0), .int .i64 (0)] 35 (0, 0))) :: (Asn.own b0_1 (.cells #[.int .i64 p.kind, .int .i64 p.src, .int .i64 p.dst, .int .i64 p.id, .int .i64 p.line, .int .i64 p.ptr, .int .i64 p.state, .bool p.flag, .slice pa (List.length p.data) pcap] 40 (0, 0))) :: (Asn.own b0_0 (.cells #[.int .i64 d.kind, .int .i64 d.line, .int .i64 d.id, .int .i64 d.step, .int .i64 d.state, .int .i64 d.head, .slice da (List.length d.data) dcap, .int .i64 d.next, .int .i64 d.told] 35 (0, 0))) :: Γ) (fun w hw => (Sat.less (.take .here (.take (.there (.there (.there (.there .here)))) (.take .here (.take .here (.take .here (.take .here .refl)))))) (ImmR.dup (Sat.less (.take (.there (.there (.there .here))) (.take .here (.take .here (.take .here (.take .here .refl))))) hw)))) (AToldF_tr da dcap d node c cc pa pcap p (Reads.conv (fun w hw => hw.less (.drop .here (.drop .here (.drop .here (.drop .here .refl))))) hrpa) y7_4 hy7_4)) ?_
     rintro _ _ ⟨a7_4_00, c7_4_00, rfl, rfl⟩
     refine sp 38 (.agg #[.int .i64 y7_4.1.kind, .int .i64 y7_4.1.line, .int .i64 y7_4.1.id, .int .i64 y7_4.1.step, .int .i64 y7_4.1.state, .int .i64 y7_4.1.head, .slice a7_4_00 (List.length y7_4.1.data) c7_4_00, .int .i64 y7_4.1.next, .int .i64 y7_4.1.told]) ?_
     refine sp 39 (.bool y7_4.2.1) ?_
     refine s_do (by kernel_rfl) (by kernel_rfl) (st_store (off := 0) (vs := [.int .i64 y7_4.1.kind, .int .i64 y7_4.1.line, .int .i64 y7_4.1.id, .int .i64 y7_4.1.step, .int .i64 y7_4.1.state, .int .i64 y7_4.1.head, .slice a7_4_00 (List.length y7_4.1.data) c7_4_00, .int .i64 y7_4.1.next, .int .i64 y7_4.1.told]) (c' := #[.int .i64 y7_4.1.kind, .int .i64 y7_4.1.line, .int .i64 y7_4.1.id, .int .i64 y7_4.1.step, .int .i64 y7_4.1.state, .int .i64 y7_4.1.head, .slice a7_4_00 (List.length y7_4.1.data) c7_4_00, .int .i64 y7_4.1.next, .int .i64 y7_4.1.told]) (fun _ => by kernel_rfl) (.there (.there (.there .here))) (by kernel_rfl) (by kernel_rfl) (by kernel_rfl)) ?_
     rintro _ _ ⟨rfl, rfl⟩
     refine sp 9 (.bool y7_4.2.1) ?_
     refine ops_end ?_
     refine ae [(8, .pointer (some ⟨b0_2, 0, none⟩)), (9, .bool y7_4.2.1)] ?_
     refine at_then_normal ?_
     refine at_ret (by kernel_rfl) ?_
     refine at_in_ret ?_
     refine at_then_ret ?_
     obtain rfl := someE H
     refine at_backR [.agg #[.int .i64 y7_4.1.kind, .int .i64 y7_4.1.line, .int .i64 y7_4.1.id, .int .i64 y7_4.1.step, .int .i64 y7_4.1.state, .int .i64 y7_4.1.head, .slice a7_4_00 (List.length y7_4.1.data) c7_4_00, .int .i64 y7_4.1.next, .int .i64 y7_4.1.told], .bool y7_4.2.1] ((ImmI a7_4_00 y7_4.1.data) :: (CacheA c y7_4.2.2) :: Γ) (rs := [.cell 8 35, .tmp 9]) (by kernel_rfl) (.cons (.cell (by kernel_rfl) (retN (off := 0) (vs := [.int .i64 y7_4.1.kind, .int .i64 y7_4.1.line, .int .i64 y7_4.1.id, .int .i64 y7_4.1.step, .int .i64 y7_4.1.state, .int .i64 y7_4.1.head, .slice a7_4_00 (List.length y7_4.1.data) c7_4_00, .int .i64 y7_4.1.next, .int .i64 y7_4.1.told]) 9 (fun _ => by kernel_rfl) (holds_own .here) rfl (by exact ⟨rfl, rfl, rfl, rfl, rfl, rfl, rfl, rfl, rfl, trivial⟩))) (.cons (.tmp (by kernel_rfl)) .nil)) (fun w hw => (Sat.less (.take (.there .here) (.take (.there .here) (.drop .here (.drop .here (.drop .here (.drop .here .refl)))))) hw)) ?_
     exact ⟨a7_4_00, c7_4_00, rfl, rfl⟩
    ·replace H := bifF H h3
     refine at_false (t := decide (d.step = (2 : Int))) (x := C25 [1,1,0,1,0,1,1,1,0]) (y := C25 [1,1,0,1,0,1,1,1,1]) (o := .tmp 31) (by kernel_rfl) (by kernel_rfl) (by kernel_rfl) h3 ?_
     refine aq (x := C25 [1,1,0,1,0,1,1,1,1,0]) (y := C25 [1,1,0,1,0,1,1,1,1,1]) ?_
     refine ar (id := 8) 2 ?_
     refine sp 41 (.bool (decide (d.step = (6 : Int)))) ?_
     refine sp 40 (.bool (decide (d.step = (6 : Int)))) ?_
     refine ops_end ?_
     refine ae [(4, .pointer (some ⟨b0_0, 0, none⟩)), (8, .pointer (some ⟨b0_2, 0, none⟩)), (40, .bool (decide (d.step = (6 : Int))))] ?_
     refine at_then_normal ?_
     rcases Bool.eq_false_or_eq_true (decide (d.step = (6 : Int))) with h4 | h4
     ·replace H := bifT H h4
      refine at_true (t := decide (d.step = (6 : Int))) (x := C25 [1,1,0,1,0,1,1,1,1,1,0]) (y := C25 [1,1,0,1,0,1,1,1,1,1,1]) (o := .tmp 40) (by kernel_rfl) (by kernel_rfl) (by kernel_rfl) h4 ?_
      refine aq (x := C25 [1,1,0,1,0,1,1,1,1,1,0,0]) (y := C25 [1,1,0,1,0,1,1,1,1,1,0,1]) ?_
      refine ar (id := 9) 2 ?_
      refine sp 42 (.pointer (some ⟨b0_0, 3, none⟩)) ?_
      refine s_do (by kernel_rfl) (by kernel_rfl) (st_store (off := 3) (vs := [.int .i64 (0)]) (c' := #[.int .i64 d.kind, .int .i64 d.line, .int .i64 d.id, .int .i64 (0), .int .i64 d.state, .int .i64 d.head, .slice da (List.length d.data) dcap, .int .i64 d.next, .int .i64 d.told]) (fun _ => by kernel_rfl) (.there (.there .here)) (by kernel_rfl) (by kernel_rfl) (by kernel_rfl)) ?_
      rintro _ _ ⟨rfl, rfl⟩
      refine ops_end ?_
      refine ae [(4, .pointer (some ⟨b0_0, 0, none⟩)), (8, .pointer (some ⟨b0_2, 0, none⟩))] ?_
      refine at_then_normal ?_
      refine aq (x := C25 [1,1,0,1,0,1,1,1,1,1,0,1,0]) (y := C25 [1,1,0,1,0,1,1,1,1,1,0,1,1]) ?_
      refine ar (id := 10) 3 ?_
      refine sl 43 (.agg #[.int .i64 d.kind, .int .i64 d.line, .int .i64 d.id, .int .i64 (0), .int .i64 d.state, .int .i64 d.head, .slice da (List.length d.data) dcap, .int .i64 d.next, .int .i64 d.told]) (loadN (off := 0) (vs := [.int .i64 d.kind, .int .i64 d.line, .int .i64 d.id, .int .i64 (0), .int .i64 d.state, .int .i64 d.head, .slice da (List.length d.data) dcap, .int .i64 d.next, .int .i64 d.told]) 9 (fun _ => by kernel_rfl) (holds_own .here) rfl (by exact ⟨rfl, rfl, rfl, rfl, rfl, rfl, rfl, rfl, rfl, trivial⟩)) ?_
      refine s_do (by kernel_rfl) (by kernel_rfl) (st_store (off := 0) (vs := [.int .i64 d.kind, .int .i64 d.line, .int .i64 d.id, .int .i64 (0), .int .i64 d.state, .int .i64 d.head, .slice da (List.length d.data) dcap, .int .i64 d.next, .int .i64 d.told]) (c' := #[.int .i64 d.kind, .int .i64 d.line, .int .i64 d.id, .int .i64 (0), .int .i64 d.state, .int .i64 d.head, .slice da (List.length d.data) dcap, .int .i64 d.next, .int .i64 d.told]) (fun _ => by kernel_rfl) (.there .here) (by kernel_rfl) (by kernel_rfl) (by kernel_rfl)) ?_
      rintro _ _ ⟨rfl, rfl⟩
      refine sp 9 (.bool true) ?_
      refine ops_end ?_
      refine ae [(8, .pointer (some ⟨b0_2, 0, none⟩)), (9, .bool true)] ?_
      refine at_then_normal ?_
      refine at_ret (by kernel_rfl) ?_
      refine at_in_ret ?_
      refine at_then_ret ?_
      obtain rfl := someE H
      refine at_backR [.agg #[.int .i64 d.kind, .int .i64 d.line, .int .i64 d.id, .int .i64 (0), .int .i64 d.state, .int .i64 d.head, .slice da (List.length d.data) dcap, .int .i64 d.next, .int .i64 d.told], .bool true] ((ImmI da d.data) :: (CacheA c cc) :: Γ) (rs := [.cell 8 35, .tmp 9]) (by kernel_rfl) (.cons (.cell (by kernel_rfl) (retN (off := 0) (vs := [.int .i64 d.kind, .int .i64 d.line, .int .i64 d.id, .int .i64 (0), .int .i64 d.state, .int .i64 d.head, .slice da (List.length d.data) dcap, .int .i64 d.next, .int .i64 d.told]) 9 (fun _ => by kernel_rfl) (holds_own .here) rfl (by exact ⟨rfl, rfl, rfl, rfl, rfl, rfl, rfl, rfl, rfl, trivial⟩))) (.cons (.tmp (by kernel_rfl)) .nil)) (fun w hw => (Sat.less (.take (.there (.there (.there .here))) (.take (.there (.there (.there .here))) (.drop .here (.drop .here (.drop .here .refl))))) hw)) ?_
      exact ⟨da, dcap, rfl, rfl⟩
     ·replace H := bifF H h4
      refine at_false (t := decide (d.step = (6 : Int))) (x := C25 [1,1,0,1,0,1,1,1,1,1,0]) (y := C25 [1,1,0,1,0,1,1,1,1,1,1]) (o := .tmp 40) (by kernel_rfl) (by kernel_rfl) (by kernel_rfl) h4 ?_
      refine at_skip (by kernel_rfl) ?_
      refine at_in_normal ?_
      refine at_then_normal ?_
      refine aq (x := C25 [1,1,1,0]) (y := C25 [1,1,1,1]) ?_
      refine ar (id := 11) 3 ?_
      refine sp 44 (.agg #[.int .i64 (0), .int .i64 (0), .int .i64 (0), .int .i64 (0), .int .i64 (0), .int .i64 (0), .slice none 0 0, .int .i64 (0), .int .i64 (0)]) ?_
      refine s_do (by kernel_rfl) (by kernel_rfl) (st_store (off := 0) (vs := [.int .i64 (0), .int .i64 (0), .int .i64 (0), .int .i64 (0), .int .i64 (0), .int .i64 (0), .slice none 0 0, .int .i64 (0), .int .i64 (0)]) (c' := #[.int .i64 (0), .int .i64 (0), .int .i64 (0), .int .i64 (0), .int .i64 (0), .int .i64 (0), .slice none 0 0, .int .i64 (0), .int .i64 (0)]) (fun _ => by kernel_rfl) .here (by kernel_rfl) (by kernel_rfl) (by kernel_rfl)) ?_
      rintro _ _ ⟨rfl, rfl⟩
      refine sp 9 (.bool false) ?_
      refine ops_end ?_
      refine ae [(8, .pointer (some ⟨b0_2, 0, none⟩)), (9, .bool false)] ?_
      refine at_then_normal ?_
      refine at_ret (by kernel_rfl) ?_
      obtain rfl := someE H
      refine at_backR [.agg #[.int .i64 (0), .int .i64 (0), .int .i64 (0), .int .i64 (0), .int .i64 (0), .int .i64 (0), .slice none 0 0, .int .i64 (0), .int .i64 (0)], .bool false] ((ImmI none ([] : List Int)) :: (CacheA c cc) :: Γ) (rs := [.cell 8 35, .tmp 9]) (by kernel_rfl) (.cons (.cell (by kernel_rfl) (retN (off := 0) (vs := [.int .i64 (0), .int .i64 (0), .int .i64 (0), .int .i64 (0), .int .i64 (0), .int .i64 (0), .slice none 0 0, .int .i64 (0), .int .i64 (0)]) 9 (fun _ => by kernel_rfl) (holds_own .here) rfl (by exact ⟨rfl, rfl, rfl, rfl, rfl, rfl, rfl, rfl, rfl, trivial⟩))) (.cons (.tmp (by kernel_rfl)) .nil)) (fun w hw => (Sat.less (.take .here (.take (.there (.there (.there (.there .here)))) (.drop .here (.drop .here (.drop .here (.drop .here .refl)))))) (ImmR.nil_mk (k := 1) (a := none) hw))) ?_
      exact ⟨none, 0, rfl, rfl⟩
 ·refine ar (id := 1) 9 ?_
  refine sp 10 (.pointer (some ⟨b0_0, 0, none⟩)) ?_
  refine sl 11 (.int .i64 d.kind) (load1 (off := 0) (fun _ => by kernel_rfl) (holds_own (.there (.there .here))) (by kernel_rfl)) ?_
  refine sp 12 (.bool (!(decide (d.kind = (1 : Int))))) ?_
  rcases Bool.eq_false_or_eq_true (!(decide (d.kind = (1 : Int)))) with h5 | h5
  ·replace H := bifT H h5
   refine sr 13 (.bool true) (run_eq (v := .bool (!(decide (d.kind = (1 : Int))))) (fun _ => by kernel_rfl) (congrArg Value.bool h5)) ?_
   refine sa 14 ?_
   refine sa 15 ?_
   refine sa 16 ?_
   refine sa 17 ?_
   refine sp 18 (.bool true) ?_
   refine ops_end ?_
   refine ae [(1, .int .i64 node), (2, .pointer (some ⟨c, 0, none⟩)), (4, .pointer (some ⟨b0_0, 0, none⟩)), (7, .pointer (some ⟨b0_1, 0, none⟩)), (8, .pointer (some ⟨b0_2, 0, none⟩)), (18, .bool true)] ?_
   refine at_round_normal ?_
   exact at_join_mk [(1, .int .i64 node), (2, .pointer (some ⟨c, 0, none⟩)), (4, .pointer (some ⟨b0_0, 0, none⟩)), (7, .pointer (some ⟨b0_1, 0, none⟩)), (8, .pointer (some ⟨b0_2, 0, none⟩)), (18, .bool true)] ((Asn.own b0_2 (.cells #[.int .i64 (0), .int .i64 (0), .int .i64 (0), .int .i64 (0), .int .i64 (0), .int .i64 (0), .slice none 0 0, .int .i64 (0), .int .i64 (0)] 35 (0, 0))) :: (Asn.own b0_1 (.cells #[.int .i64 p.kind, .int .i64 p.src, .int .i64 p.dst, .int .i64 p.id, .int .i64 p.line, .int .i64 p.ptr, .int .i64 p.state, .bool p.flag, .slice pa (List.length p.data) pcap] 40 (0, 0))) :: (Asn.own b0_0 (.cells #[.int .i64 d.kind, .int .i64 d.line, .int .i64 d.id, .int .i64 d.step, .int .i64 d.state, .int .i64 d.head, .slice da (List.length d.data) dcap, .int .i64 d.next, .int .i64 d.told] 35 (0, 0))) :: (ImmI da d.data) :: (CacheA c cc) :: Γ) ⟨by kernel_rfl, by kernel_rfl, by kernel_rfl, by kernel_rfl, by kernel_rfl, by kernel_rfl, trivial⟩ (fun w hw => (Sat.less (.take .here (.take .here (.take .here (.take .here (.take .here .refl))))) hw)) ⟨true, H, rfl, rfl⟩
  ·replace H := bifF H h5
   refine sr 13 (.bool false) (run_eq (v := .bool (!(decide (d.kind = (1 : Int))))) (fun _ => by kernel_rfl) (congrArg Value.bool h5)) ?_
   refine sl 14 (.agg #[.int .i64 d.kind, .int .i64 d.line, .int .i64 d.id, .int .i64 d.step, .int .i64 d.state, .int .i64 d.head, .slice da (List.length d.data) dcap, .int .i64 d.next, .int .i64 d.told]) (loadN (off := 0) (vs := [.int .i64 d.kind, .int .i64 d.line, .int .i64 d.id, .int .i64 d.step, .int .i64 d.state, .int .i64 d.head, .slice da (List.length d.data) dcap, .int .i64 d.next, .int .i64 d.told]) 9 (fun _ => by kernel_rfl) (holds_own (.there (.there .here))) rfl (by exact ⟨rfl, rfl, rfl, rfl, rfl, rfl, rfl, rfl, rfl, trivial⟩)) ?_
   refine sl 15 (.agg #[.int .i64 p.kind, .int .i64 p.src, .int .i64 p.dst, .int .i64 p.id, .int .i64 p.line, .int .i64 p.ptr, .int .i64 p.state, .bool p.flag, .slice pa (List.length p.data) pcap]) (loadN (off := 0) (vs := [.int .i64 p.kind, .int .i64 p.src, .int .i64 p.dst, .int .i64 p.id, .int .i64 p.line, .int .i64 p.ptr, .int .i64 p.state, .bool p.flag, .slice pa (List.length p.data) pcap]) 9 (fun _ => by kernel_rfl) (holds_own (.there .here)) rfl (by exact ⟨rfl, rfl, rfl, rfl, rfl, rfl, rfl, rfl, rfl, trivial⟩)) ?_
   obtain ⟨y1_6, hy1_6, H⟩ := bindE H
   refine s_call 16 42 #[.agg #[.int .i64 d.kind, .int .i64 d.line, .int .i64 d.id, .int .i64 d.step, .int .i64 d.state, .int .i64 d.head, .slice da (List.length d.data) dcap, .int .i64 d.next, .int .i64 d.told], .agg #[.int .i64 p.kind, .int .i64 p.src, .int .i64 p.dst, .int .i64 p.id, .int .i64 p.line, .int .i64 p.ptr, .int .i64 p.state, .bool p.flag, .slice pa (List.length p.data) pcap]] (by kernel_rfl) (by kernel_rfl) (fun _ => by kernel_rfl) (DFitsF_tr da dcap d pa pcap p (ImmR.reads (k := 1) (.there (.there (.there .here)))) (Reads.conv (fun w hw => hw.less (.drop .here (.drop .here (.drop .here (.drop .here (.drop .here .refl)))))) hrpa) y1_6 hy1_6) ?_
   rintro _ _ ⟨rfl, rfl⟩
   refine sp 17 (.bool !y1_6) ?_
   refine sp 18 (.bool !y1_6) ?_
   refine ops_end ?_
   refine ae [(1, .int .i64 node), (2, .pointer (some ⟨c, 0, none⟩)), (4, .pointer (some ⟨b0_0, 0, none⟩)), (7, .pointer (some ⟨b0_1, 0, none⟩)), (8, .pointer (some ⟨b0_2, 0, none⟩)), (18, .bool !y1_6)] ?_
   refine at_round_normal ?_
   exact at_join_mk [(1, .int .i64 node), (2, .pointer (some ⟨c, 0, none⟩)), (4, .pointer (some ⟨b0_0, 0, none⟩)), (7, .pointer (some ⟨b0_1, 0, none⟩)), (8, .pointer (some ⟨b0_2, 0, none⟩)), (18, .bool !y1_6)] ((Asn.own b0_2 (.cells #[.int .i64 (0), .int .i64 (0), .int .i64 (0), .int .i64 (0), .int .i64 (0), .int .i64 (0), .slice none 0 0, .int .i64 (0), .int .i64 (0)] 35 (0, 0))) :: (Asn.own b0_1 (.cells #[.int .i64 p.kind, .int .i64 p.src, .int .i64 p.dst, .int .i64 p.id, .int .i64 p.line, .int .i64 p.ptr, .int .i64 p.state, .bool p.flag, .slice pa (List.length p.data) pcap] 40 (0, 0))) :: (Asn.own b0_0 (.cells #[.int .i64 d.kind, .int .i64 d.line, .int .i64 d.id, .int .i64 d.step, .int .i64 d.state, .int .i64 d.head, .slice da (List.length d.data) dcap, .int .i64 d.next, .int .i64 d.told] 35 (0, 0))) :: (ImmI da d.data) :: (CacheA c cc) :: Γ) ⟨by kernel_rfl, by kernel_rfl, by kernel_rfl, by kernel_rfl, by kernel_rfl, by kernel_rfl, trivial⟩ (fun w hw => (Sat.less (.take .here (.take .here (.take .here (.take .here (.take .here .refl))))) hw)) ⟨!y1_6, H, rfl, rfl⟩
end Go.Proofs.Ytlnjnkbnppnbkaa
