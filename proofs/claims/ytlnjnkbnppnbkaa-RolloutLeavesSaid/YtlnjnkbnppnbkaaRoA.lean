/- Rollout: what comes of an answer. -/
import Derived.Test.YtlnjnkbnppnbkaaPdB
namespace Go.Proofs.Ytlnjnkbnppnbkaa
open Go Go.RowKit
set_option linter.unusedVariables false
set_option linter.unusedSimpArgs false
def routS (d : DealS) (cc : CacheS) (head : Int) : Option (DealS × CacheS) :=
  (dropS cc d.line).bind fun y1_3 => some ((⟨d.kind, d.line, d.id, 6, 1, head, ([] : List Int), d.next, d.told⟩ : DealS), y1_3.2.2)
noncomputable def C51 (p : List Nat) : Code := codeAt (bodyOf Try.f51) p
set_option maxRecDepth 100000 in
set_option maxHeartbeats 8000000 in
theorem ROutF_tr {W0 : World} {Γ : List Asn} (da : Option Addr) (dcap : Nat) (d : DealS) (c : Nat) (cc : CacheS) (head : Int)  (y : DealS × CacheS) (H : routS d cc head = some y) : Tr Try.prog 51 #[.agg #[.int .i64 d.kind, .int .i64 d.line, .int .i64 d.id, .int .i64 d.step, .int .i64 d.state, .int .i64 d.head, .slice da (List.length d.data) dcap, .int .i64 d.next, .int .i64 d.told], .pointer (some ⟨c, 0, none⟩), .int .i64 head] W0 ((ImmI da d.data) :: (CacheA c cc) :: Γ) (fun r Δ => ∃ (a0_0 : Option Addr) (c0_0 : Nat), r = .agg #[.int .i64 y.1.kind, .int .i64 y.1.line, .int .i64 y.1.id, .int .i64 y.1.step, .int .i64 y.1.state, .int .i64 y.1.head, .slice a0_0 (List.length y.1.data) c0_0, .int .i64 y.1.next, .int .i64 y.1.told] ∧ Δ = (ImmI a0_0 y.1.data) :: (CacheA c y.2) :: Γ) := by
  unfold routS at H
  refine Tr.enter (fn := Try.f51) (c := C51 []) (args := [.agg #[.int .i64 d.kind, .int .i64 d.line, .int .i64 d.id, .int .i64 d.step, .int .i64 d.state, .int .i64 d.head, .slice da (List.length d.data) dcap, .int .i64 d.next, .int .i64 d.told], .pointer (some ⟨c, 0, none⟩), .int .i64 head]) 17 Try.func51 (by kernel_rfl) (by kernel_rfl) ?_
  refine At.env [(0, .agg #[.int .i64 d.kind, .int .i64 d.line, .int .i64 d.id, .int .i64 d.step, .int .i64 d.state, .int .i64 d.head, .slice da (List.length d.data) dcap, .int .i64 d.next, .int .i64 d.told]), (1, .pointer (some ⟨c, 0, none⟩)), (2, .int .i64 head)] ⟨by kernel_rfl, by kernel_rfl, by kernel_rfl, trivial⟩ ?_
  refine at_seq (x := C51 [0]) (y := C51 [1]) (by kernel_rfl) ?_
  refine at_region (id := 0) 2 (by kernel_rfl) (by kernel_rfl) ?_
  refine s_step 3 (by kernel_rfl) (by kernel_rfl) (st_new (T := 35) (cells := #[.int .i64 d.kind, .int .i64 d.line, .int .i64 d.id, .int .i64 d.step, .int .i64 d.state, .int .i64 d.head, .slice da (List.length d.data) dcap, .int .i64 d.next, .int .i64 d.told]) (fun a => .pointer (some a)) (fun _ => by kernel_rfl)) ?_
  rintro _ _ ⟨b0_0, rfl, rfl⟩
  refine s_step 6 (by kernel_rfl) (by kernel_rfl) (st_new (T := 35) (cells := #[.int .i64 (0), .int .i64 (0), .int .i64 (0), .int .i64 (0), .int .i64 (0), .int .i64 (0), .slice none 0 0, .int .i64 (0), .int .i64 (0)]) (fun a => .pointer (some a)) (fun _ => by kernel_rfl)) ?_
  rintro _ _ ⟨b0_1, rfl, rfl⟩
  refine ops_end ?_
  refine At.env [(1, .pointer (some ⟨c, 0, none⟩)), (2, .int .i64 head), (3, .pointer (some ⟨b0_0, 0, none⟩)), (6, .pointer (some ⟨b0_1, 0, none⟩))] ⟨by kernel_rfl, by kernel_rfl, by kernel_rfl, by kernel_rfl, trivial⟩ ?_
  refine at_then_normal ?_
  refine at_seq (x := C51 [1,0]) (y := C51 [1,1]) (by kernel_rfl) ?_
  refine at_region (id := 1) 4 (by kernel_rfl) (by kernel_rfl) ?_
  refine s_pure 7 (.pointer (some ⟨c, 0, none⟩)) (by kernel_rfl) (by kernel_rfl) (fun _ => by kernel_rfl) ?_
  refine s_pure 8 (.pointer (some ⟨b0_0, 1, none⟩)) (by kernel_rfl) (by kernel_rfl) (fun _ => by kernel_rfl) ?_
  refine s_load 9 (.int .i64 d.line) (by kernel_rfl) (by kernel_rfl) (load1 (off := 1) (fun _ => by kernel_rfl) (holds_own (.there .here)) (by kernel_rfl)) ?_
  obtain ⟨y1_3, hy1_3, H⟩ := bindE H
  refine s_call 10 56 #[.pointer (some ⟨c, 0, none⟩), .int .i64 d.line] (by kernel_rfl) (by kernel_rfl) (fun _ => by kernel_rfl) (Tr.conv (Γ' := (CacheA c cc) :: (Asn.own b0_1 (.cells #[.int .i64 (0), .int .i64 (0), .int .i64 (0), .int .i64 (0), .int .i64 (0), .int .i64 (0), .slice none 0 0, .int .i64 (0), .int .i64 (0)] 35 (0, 0))) :: (Asn.own b0_0 (.cells #[.int .i64 d.kind, .int .i64 d.line, .int .i64 d.id, .int .i64 d.step, .int .i64 d.state, .int .i64 d.head, .slice da (List.length d.data) dcap, .int .i64 d.next, .int .i64 d.told] 35 (0, 0))) :: (ImmI da d.data) :: Γ) (fun w hw => (Sat.less (.take (.there (.there (.there .here))) (.take .here (.take .here (.take .here .refl)))) hw)) (DropF_tr c cc d.line y1_3 hy1_3)) ?_
  rintro _ _ ⟨a1_3_00, c1_3_00, rfl, rfl⟩
  refine ops_end ?_
  refine At.env [(2, .int .i64 head), (3, .pointer (some ⟨b0_0, 0, none⟩)), (6, .pointer (some ⟨b0_1, 0, none⟩))] ⟨by kernel_rfl, by kernel_rfl, by kernel_rfl, trivial⟩ ?_
  refine at_then_normal ?_
  refine at_seq (x := C51 [1,1,0]) (y := C51 [1,1,1]) (by kernel_rfl) ?_
  refine at_region (id := 2) 9 (by kernel_rfl) (by kernel_rfl) ?_
  refine s_pure 11 (.int .i64 head) (by kernel_rfl) (by kernel_rfl) (fun _ => by kernel_rfl) ?_
  refine s_pure 12 (.pointer (some ⟨b0_0, 3, none⟩)) (by kernel_rfl) (by kernel_rfl) (fun _ => by kernel_rfl) ?_
  refine s_do (by kernel_rfl) (by kernel_rfl) (st_store (off := 3) (vs := [.int .i64 (6)]) (c' := #[.int .i64 d.kind, .int .i64 d.line, .int .i64 d.id, .int .i64 (6), .int .i64 d.state, .int .i64 d.head, .slice da (List.length d.data) dcap, .int .i64 d.next, .int .i64 d.told]) (fun _ => by kernel_rfl) (.there (.there (.there .here))) (by kernel_rfl) (by kernel_rfl) (by kernel_rfl)) ?_
  rintro _ _ ⟨rfl, rfl⟩
  refine s_pure 13 (.pointer (some ⟨b0_0, 4, none⟩)) (by kernel_rfl) (by kernel_rfl) (fun _ => by kernel_rfl) ?_
  refine s_do (by kernel_rfl) (by kernel_rfl) (st_store (off := 4) (vs := [.int .i64 (1)]) (c' := #[.int .i64 d.kind, .int .i64 d.line, .int .i64 d.id, .int .i64 (6), .int .i64 (1), .int .i64 d.head, .slice da (List.length d.data) dcap, .int .i64 d.next, .int .i64 d.told]) (fun _ => by kernel_rfl) .here (by kernel_rfl) (by kernel_rfl) (by kernel_rfl)) ?_
  rintro _ _ ⟨rfl, rfl⟩
  refine s_pure 14 (.pointer (some ⟨b0_0, 5, none⟩)) (by kernel_rfl) (by kernel_rfl) (fun _ => by kernel_rfl) ?_
  refine s_do (by kernel_rfl) (by kernel_rfl) (st_store (off := 5) (vs := [.int .i64 head]) (c' := #[.int .i64 d.kind, .int .i64 d.line, .int .i64 d.id, .int .i64 (6), .int .i64 (1), .int .i64 head, .slice da (List.length d.data) dcap, .int .i64 d.next, .int .i64 d.told]) (fun _ => by kernel_rfl) .here (by kernel_rfl) (by kernel_rfl) (by kernel_rfl)) ?_
  rintro _ _ ⟨rfl, rfl⟩
  refine s_pure 15 (.pointer (some ⟨b0_0, 6, none⟩)) (by kernel_rfl) (by kernel_rfl) (fun _ => by kernel_rfl) ?_
  refine s_do (by kernel_rfl) (by kernel_rfl) (st_store (off := 6) (vs := [.slice none 0 0]) (c' := #[.int .i64 d.kind, .int .i64 d.line, .int .i64 d.id, .int .i64 (6), .int .i64 (1), .int .i64 head, .slice none 0 0, .int .i64 d.next, .int .i64 d.told]) (fun _ => by kernel_rfl) .here (by kernel_rfl) (by kernel_rfl) (by kernel_rfl)) ?_
  rintro _ _ ⟨rfl, rfl⟩
  refine ops_end ?_
  refine At.env [(3, .pointer (some ⟨b0_0, 0, none⟩)), (6, .pointer (some ⟨b0_1, 0, none⟩))] ⟨by kernel_rfl, by kernel_rfl, trivial⟩ ?_
  refine at_then_normal ?_
  refine at_seq (x := C51 [1,1,1,0]) (y := C51 [1,1,1,1]) (by kernel_rfl) ?_
  refine at_region (id := 3) 2 (by kernel_rfl) (by kernel_rfl) ?_
  refine s_load 16 (.agg #[.int .i64 d.kind, .int .i64 d.line, .int .i64 d.id, .int .i64 (6), .int .i64 (1), .int .i64 head, .slice none 0 0, .int .i64 d.next, .int .i64 d.told]) (by kernel_rfl) (by kernel_rfl) (loadN (off := 0) (vs := [.int .i64 d.kind, .int .i64 d.line, .int .i64 d.id, .int .i64 (6), .int .i64 (1), .int .i64 head, .slice none 0 0, .int .i64 d.next, .int .i64 d.told]) 9 (fun _ => by kernel_rfl) (holds_own .here) rfl (by exact ⟨rfl, rfl, rfl, rfl, rfl, rfl, rfl, rfl, rfl, trivial⟩)) ?_
  refine s_do (by kernel_rfl) (by kernel_rfl) (st_store (off := 0) (vs := [.int .i64 d.kind, .int .i64 d.line, .int .i64 d.id, .int .i64 (6), .int .i64 (1), .int .i64 head, .slice none 0 0, .int .i64 d.next, .int .i64 d.told]) (c' := #[.int .i64 d.kind, .int .i64 d.line, .int .i64 d.id, .int .i64 (6), .int .i64 (1), .int .i64 head, .slice none 0 0, .int .i64 d.next, .int .i64 d.told]) (fun _ => by kernel_rfl) (.there (.there (.there .here))) (by kernel_rfl) (by kernel_rfl) (by kernel_rfl)) ?_
  rintro _ _ ⟨rfl, rfl⟩
  refine ops_end ?_
  refine At.env [(6, .pointer (some ⟨b0_1, 0, none⟩))] ⟨by kernel_rfl, trivial⟩ ?_
  refine at_then_normal ?_
  refine at_ret (by kernel_rfl) ?_
  obtain rfl := someE H
  refine at_backR [.agg #[.int .i64 d.kind, .int .i64 d.line, .int .i64 d.id, .int .i64 (6), .int .i64 (1), .int .i64 head, .slice none 0 0, .int .i64 d.next, .int .i64 d.told]] ((ImmI none ([] : List Int)) :: (CacheA c y1_3.2.2) :: Γ) (rs := [.cell 6 35]) (by kernel_rfl) (.cons (.cell (by kernel_rfl) (retN (off := 0) (vs := [.int .i64 d.kind, .int .i64 d.line, .int .i64 d.id, .int .i64 (6), .int .i64 (1), .int .i64 head, .slice none 0 0, .int .i64 d.next, .int .i64 d.told]) 9 (fun _ => by kernel_rfl) (holds_own .here) rfl (by exact ⟨rfl, rfl, rfl, rfl, rfl, rfl, rfl, rfl, rfl, trivial⟩))) .nil) (fun w hw => (Sat.less (.take .here (.take (.there (.there (.there .here))) (.drop .here (.drop .here (.drop .here (.drop .here .refl)))))) (ImmR.nil_mk (k := 1) (a := none) hw))) ?_
  exact ⟨none, 0, rfl, rfl⟩
def rlockedS (d : DealS) (cc : CacheS) (p : PktS) : Option (DealS × CacheS) :=
  (findS cc d.line).bind fun y3_3 => (bif !y3_3.2 then some ((⟨d.kind, d.line, d.id, 6, p.state, p.ptr, ([] : List Int), d.next, p.ptr⟩ : DealS), cc) else (lonlyS (⟨y3_3.1.fwd, y3_3.1.back⟩ : LinkS)).bind fun y7_2 => (bif y7_2 then (dropS cc d.line).bind fun y8_3 => (bif y3_3.1.dirty then some ((⟨d.kind, d.line, d.id, 6, 0, (-1), y3_3.1.data, d.next, p.ptr⟩ : DealS), y8_3.2.2) else some ((⟨d.kind, d.line, d.id, 6, 0, (-1), ([] : List Int), d.next, p.ptr⟩ : DealS), y8_3.2.2)) else (lheadS (⟨y3_3.1.fwd, y3_3.1.back⟩ : LinkS)).bind fun y12_2 => (bif y12_2 then some ((⟨d.kind, d.line, d.id, 5, p.state, (-1), ([] : List Int), y3_3.1.fwd, p.ptr⟩ : DealS), cc) else some ((⟨d.kind, d.line, d.id, 4, p.state, y3_3.1.back, ([] : List Int), y3_3.1.fwd, p.ptr⟩ : DealS), cc))))
noncomputable def C50 (p : List Nat) : Code := codeAt (bodyOf Try.f50) p
set_option maxRecDepth 100000 in
set_option maxHeartbeats 8000000 in
theorem RLockedF_tr {W0 : World} {Γ : List Asn} (da : Option Addr) (dcap : Nat) (d : DealS) (c : Nat) (cc : CacheS) (pa : Option Addr) (pcap : Nat) (p : PktS) (hrpa : Reads W0 Γ pa (ints p.data)) (y : DealS × CacheS) (H : rlockedS d cc p = some y) : Tr Try.prog 50 #[.agg #[.int .i64 d.kind, .int .i64 d.line, .int .i64 d.id, .int .i64 d.step, .int .i64 d.state, .int .i64 d.head, .slice da (List.length d.data) dcap, .int .i64 d.next, .int .i64 d.told], .pointer (some ⟨c, 0, none⟩), .agg #[.int .i64 p.kind, .int .i64 p.src, .int .i64 p.dst, .int .i64 p.id, .int .i64 p.line, .int .i64 p.ptr, .int .i64 p.state, .bool p.flag, .slice pa (List.length p.data) pcap]] W0 ((ImmI da d.data) :: (CacheA c cc) :: Γ) (fun r Δ => ∃ (a0_0 : Option Addr) (c0_0 : Nat), r = .agg #[.int .i64 y.1.kind, .int .i64 y.1.line, .int .i64 y.1.id, .int .i64 y.1.step, .int .i64 y.1.state, .int .i64 y.1.head, .slice a0_0 (List.length y.1.data) c0_0, .int .i64 y.1.next, .int .i64 y.1.told] ∧ Δ = (ImmI a0_0 y.1.data) :: (CacheA c y.2) :: Γ) := by
  unfold rlockedS at H
  refine Tr.enter (fn := Try.f50) (c := C50 []) (args := [.agg #[.int .i64 d.kind, .int .i64 d.line, .int .i64 d.id, .int .i64 d.step, .int .i64 d.state, .int .i64 d.head, .slice da (List.length d.data) dcap, .int .i64 d.next, .int .i64 d.told], .pointer (some ⟨c, 0, none⟩), .agg #[.int .i64 p.kind, .int .i64 p.src, .int .i64 p.dst, .int .i64 p.id, .int .i64 p.line, .int .i64 p.ptr, .int .i64 p.state, .bool p.flag, .slice pa (List.length p.data) pcap]]) 66 Try.func50 (by kernel_rfl) (by kernel_rfl) ?_
  refine At.env [(0, .agg #[.int .i64 d.kind, .int .i64 d.line, .int .i64 d.id, .int .i64 d.step, .int .i64 d.state, .int .i64 d.head, .slice da (List.length d.data) dcap, .int .i64 d.next, .int .i64 d.told]), (1, .pointer (some ⟨c, 0, none⟩)), (2, .agg #[.int .i64 p.kind, .int .i64 p.src, .int .i64 p.dst, .int .i64 p.id, .int .i64 p.line, .int .i64 p.ptr, .int .i64 p.state, .bool p.flag, .slice pa (List.length p.data) pcap])] ⟨by kernel_rfl, by kernel_rfl, by kernel_rfl, trivial⟩ ?_
  refine at_seq (x := C50 [0]) (y := C50 [1]) (by kernel_rfl) ?_
  refine at_region (id := 0) 3 (by kernel_rfl) (by kernel_rfl) ?_
  refine s_step 3 (by kernel_rfl) (by kernel_rfl) (st_new (T := 35) (cells := #[.int .i64 d.kind, .int .i64 d.line, .int .i64 d.id, .int .i64 d.step, .int .i64 d.state, .int .i64 d.head, .slice da (List.length d.data) dcap, .int .i64 d.next, .int .i64 d.told]) (fun a => .pointer (some a)) (fun _ => by kernel_rfl)) ?_
  rintro _ _ ⟨b0_0, rfl, rfl⟩
  refine s_step 5 (by kernel_rfl) (by kernel_rfl) (st_new (T := 40) (cells := #[.int .i64 p.kind, .int .i64 p.src, .int .i64 p.dst, .int .i64 p.id, .int .i64 p.line, .int .i64 p.ptr, .int .i64 p.state, .bool p.flag, .slice pa (List.length p.data) pcap]) (fun a => .pointer (some a)) (fun _ => by kernel_rfl)) ?_
  rintro _ _ ⟨b0_1, rfl, rfl⟩
  refine s_step 6 (by kernel_rfl) (by kernel_rfl) (st_new (T := 35) (cells := #[.int .i64 (0), .int .i64 (0), .int .i64 (0), .int .i64 (0), .int .i64 (0), .int .i64 (0), .slice none 0 0, .int .i64 (0), .int .i64 (0)]) (fun a => .pointer (some a)) (fun _ => by kernel_rfl)) ?_
  rintro _ _ ⟨b0_2, rfl, rfl⟩
  refine ops_end ?_
  refine At.env [(1, .pointer (some ⟨c, 0, none⟩)), (3, .pointer (some ⟨b0_0, 0, none⟩)), (5, .pointer (some ⟨b0_1, 0, none⟩)), (6, .pointer (some ⟨b0_2, 0, none⟩))] ⟨by kernel_rfl, by kernel_rfl, by kernel_rfl, by kernel_rfl, trivial⟩ ?_
  refine at_then_normal ?_
  refine at_seq (x := C50 [1,0]) (y := C50 [1,1]) (by kernel_rfl) ?_
  refine at_region_draw (id := 1) (by kernel_rfl) (by kernel_rfl) ?_
  refine d_pure 0 9 (.pointer (some ⟨b0_1, 6, none⟩)) (by kernel_rfl) (by kernel_rfl) (by kernel_rfl) (fun _ => by kernel_rfl) ?_
  refine d_load 1 10 (.int .i64 p.state) (by kernel_rfl) (by kernel_rfl) (by kernel_rfl) (load1 (off := 6) (fun _ => by kernel_rfl) (holds_own (.there .here)) (by kernel_rfl)) ?_
  refine d_pure 2 11 (.pointer (some ⟨b0_1, 5, none⟩)) (by kernel_rfl) (by kernel_rfl) (by kernel_rfl) (fun _ => by kernel_rfl) ?_
  refine d_load 3 12 (.int .i64 p.ptr) (by kernel_rfl) (by kernel_rfl) (by kernel_rfl) (load1 (off := 5) (fun _ => by kernel_rfl) (holds_own (.there .here)) (by kernel_rfl)) ?_
  refine d_pure 4 13 (.pointer (some ⟨b0_1, 5, none⟩)) (by kernel_rfl) (by kernel_rfl) (by kernel_rfl) (fun _ => by kernel_rfl) ?_
  refine d_load 5 14 (.int .i64 p.ptr) (by kernel_rfl) (by kernel_rfl) (by kernel_rfl) (load1 (off := 5) (fun _ => by kernel_rfl) (holds_own (.there .here)) (by kernel_rfl)) ?_
  refine d_pure 6 15 (.pointer (some ⟨b0_0, 4, none⟩)) (by kernel_rfl) (by kernel_rfl) (by kernel_rfl) (fun _ => by kernel_rfl) ?_
  refine d_do 7 [6, 1, 0] [4, 2] [5, 3] (by kernel_rfl) (by kernel_rfl) (by kernel_rfl) (st_store (off := 4) (vs := [.int .i64 p.state]) (c' := #[.int .i64 d.kind, .int .i64 d.line, .int .i64 d.id, .int .i64 d.step, .int .i64 p.state, .int .i64 d.head, .slice da (List.length d.data) dcap, .int .i64 d.next, .int .i64 d.told]) (fun _ => by kernel_rfl) (.there (.there .here)) (by kernel_rfl) (by kernel_rfl) (by kernel_rfl)) ?_
  rintro _ _ ⟨rfl, rfl⟩
  refine ⟨(stable_cons 5 14 (.int .i64 p.ptr) (by kernel_rfl) (by kernel_rfl) (by kernel_rfl) (load1 (off := 5) (fun _ => by kernel_rfl) (holds_own (.there (.there .here))) (by kernel_rfl)) (stable_cons 3 12 (.int .i64 p.ptr) (by kernel_rfl) (by kernel_rfl) (by kernel_rfl) (load1 (off := 5) (fun _ => by kernel_rfl) (holds_own (.there (.there .here))) (by kernel_rfl)) stable_nil)), ?_⟩
  refine d_pure 8 16 (.pointer (some ⟨b0_0, 5, none⟩)) (by kernel_rfl) (by kernel_rfl) (by kernel_rfl) (fun _ => by kernel_rfl) ?_
  refine d_do 9 [8, 3, 7, 0, 1, 2, 6] [4] [5] (by kernel_rfl) (by kernel_rfl) (by kernel_rfl) (st_store (off := 5) (vs := [.int .i64 p.ptr]) (c' := #[.int .i64 d.kind, .int .i64 d.line, .int .i64 d.id, .int .i64 d.step, .int .i64 p.state, .int .i64 p.ptr, .slice da (List.length d.data) dcap, .int .i64 d.next, .int .i64 d.told]) (fun _ => by kernel_rfl) .here (by kernel_rfl) (by kernel_rfl) (by kernel_rfl)) ?_
  rintro _ _ ⟨rfl, rfl⟩
  refine ⟨(stable_cons 5 14 (.int .i64 p.ptr) (by kernel_rfl) (by kernel_rfl) (by kernel_rfl) (load1 (off := 5) (fun _ => by kernel_rfl) (holds_own (.there (.there .here))) (by kernel_rfl)) stable_nil), ?_⟩
  refine d_pure 10 17 (.pointer (some ⟨b0_0, 8, none⟩)) (by kernel_rfl) (by kernel_rfl) (by kernel_rfl) (fun _ => by kernel_rfl) ?_
  refine d_do 11 [10, 5, 9, 0, 1, 2, 3, 4, 6, 7, 8] [] [] (by kernel_rfl) (by kernel_rfl) (by kernel_rfl) (st_store (off := 8) (vs := [.int .i64 p.ptr]) (c' := #[.int .i64 d.kind, .int .i64 d.line, .int .i64 d.id, .int .i64 d.step, .int .i64 p.state, .int .i64 p.ptr, .slice da (List.length d.data) dcap, .int .i64 d.next, .int .i64 p.ptr]) (fun _ => by kernel_rfl) .here (by kernel_rfl) (by kernel_rfl) (by kernel_rfl)) ?_
  rintro _ _ ⟨rfl, rfl⟩
  refine ⟨stable_nil, ?_⟩
  refine d_pure 12 18 (.pointer (some ⟨b0_0, 6, none⟩)) (by kernel_rfl) (by kernel_rfl) (by kernel_rfl) (fun _ => by kernel_rfl) ?_
  refine d_do 13 [12, 11, 0, 1, 2, 3, 4, 5, 6, 7, 8, 9, 10] [] [] (by kernel_rfl) (by kernel_rfl) (by kernel_rfl) (st_store (off := 6) (vs := [.slice none 0 0]) (c' := #[.int .i64 d.kind, .int .i64 d.line, .int .i64 d.id, .int .i64 d.step, .int .i64 p.state, .int .i64 p.ptr, .slice none 0 0, .int .i64 d.next, .int .i64 p.ptr]) (fun _ => by kernel_rfl) .here (by kernel_rfl) (by kernel_rfl) (by kernel_rfl)) ?_
  rintro _ _ ⟨rfl, rfl⟩
  refine ⟨stable_nil, ?_⟩
  refine draw_end (by kernel_rfl) ?_
  refine At.env [(1, .pointer (some ⟨c, 0, none⟩)), (3, .pointer (some ⟨b0_0, 0, none⟩)), (6, .pointer (some ⟨b0_2, 0, none⟩))] ⟨by kernel_rfl, by kernel_rfl, by kernel_rfl, trivial⟩ ?_
  refine at_then_normal ?_
  refine at_seq (x := C50 [1,1,0]) (y := C50 [1,1,1]) (by kernel_rfl) ?_
  refine at_region (id := 2) 2 (by kernel_rfl) (by kernel_rfl) ?_
  refine s_pure 19 (.pointer (some ⟨b0_0, 3, none⟩)) (by kernel_rfl) (by kernel_rfl) (fun _ => by kernel_rfl) ?_
  refine s_do (by kernel_rfl) (by kernel_rfl) (st_store (off := 3) (vs := [.int .i64 (6)]) (c' := #[.int .i64 d.kind, .int .i64 d.line, .int .i64 d.id, .int .i64 (6), .int .i64 p.state, .int .i64 p.ptr, .slice none 0 0, .int .i64 d.next, .int .i64 p.ptr]) (fun _ => by kernel_rfl) .here (by kernel_rfl) (by kernel_rfl) (by kernel_rfl)) ?_
  rintro _ _ ⟨rfl, rfl⟩
  refine ops_end ?_
  refine At.env [(1, .pointer (some ⟨c, 0, none⟩)), (3, .pointer (some ⟨b0_0, 0, none⟩)), (6, .pointer (some ⟨b0_2, 0, none⟩))] ⟨by kernel_rfl, by kernel_rfl, by kernel_rfl, trivial⟩ ?_
  refine at_then_normal ?_
  refine at_seq (x := C50 [1,1,1,0]) (y := C50 [1,1,1,1]) (by kernel_rfl) ?_
  refine at_region (id := 3) 10 (by kernel_rfl) (by kernel_rfl) ?_
  refine s_pure 21 (.pointer (some ⟨c, 0, none⟩)) (by kernel_rfl) (by kernel_rfl) (fun _ => by kernel_rfl) ?_
  refine s_pure 22 (.pointer (some ⟨b0_0, 1, none⟩)) (by kernel_rfl) (by kernel_rfl) (fun _ => by kernel_rfl) ?_
  refine s_load 23 (.int .i64 d.line) (by kernel_rfl) (by kernel_rfl) (load1 (off := 1) (fun _ => by kernel_rfl) (holds_own .here) (by kernel_rfl)) ?_
  obtain ⟨y3_3, hy3_3, H⟩ := bindE H
  refine s_call 24 18 #[.pointer (some ⟨c, 0, none⟩), .int .i64 d.line] (by kernel_rfl) (by kernel_rfl) (fun _ => by kernel_rfl) (Tr.conv (Γ' := (CacheA c cc) :: (Asn.own b0_0 (.cells #[.int .i64 d.kind, .int .i64 d.line, .int .i64 d.id, .int .i64 (6), .int .i64 p.state, .int .i64 p.ptr, .slice none 0 0, .int .i64 d.next, .int .i64 p.ptr] 35 (0, 0))) :: (Asn.own b0_2 (.cells #[.int .i64 (0), .int .i64 (0), .int .i64 (0), .int .i64 (0), .int .i64 (0), .int .i64 (0), .slice none 0 0, .int .i64 (0), .int .i64 (0)] 35 (0, 0))) :: (Asn.own b0_1 (.cells #[.int .i64 p.kind, .int .i64 p.src, .int .i64 p.dst, .int .i64 p.id, .int .i64 p.line, .int .i64 p.ptr, .int .i64 p.state, .bool p.flag, .slice pa (List.length p.data) pcap] 40 (0, 0))) :: (ImmI da d.data) :: Γ) (fun w hw => (Sat.less (.take (.there (.there (.there (.there .here)))) (.take .here (.take .here (.take .here (.take .here .refl))))) hw)) (FindF_tr c cc d.line y3_3 hy3_3)) ?_
  rintro _ _ ⟨a3_3_00, c3_3_00, rfl, rfl⟩
  refine s_pure 20 (.tuple #[.agg #[.int .i64 y3_3.1.fwd, .int .i64 y3_3.1.back, .int .i64 y3_3.1.line, .int .i64 y3_3.1.used, .bool y3_3.1.dirty, .slice a3_3_00 (List.length y3_3.1.data) c3_3_00], .bool y3_3.2]) (by kernel_rfl) (by kernel_rfl) (fun _ => by kernel_rfl) ?_
  refine s_pure 25 (.agg #[.int .i64 y3_3.1.fwd, .int .i64 y3_3.1.back, .int .i64 y3_3.1.line, .int .i64 y3_3.1.used, .bool y3_3.1.dirty, .slice a3_3_00 (List.length y3_3.1.data) c3_3_00]) (by kernel_rfl) (by kernel_rfl) (fun _ => by kernel_rfl) ?_
  refine s_pure 26 (.bool y3_3.2) (by kernel_rfl) (by kernel_rfl) (fun _ => by kernel_rfl) ?_
  refine s_step 7 (by kernel_rfl) (by kernel_rfl) (st_new (T := 32) (cells := #[.int .i64 (0), .int .i64 (0), .int .i64 (0), .int .i64 (0), .bool false, .slice none 0 0]) (fun a => .pointer (some a)) (fun _ => by kernel_rfl)) ?_
  rintro _ _ ⟨b3_7, rfl, rfl⟩
  refine s_do (by kernel_rfl) (by kernel_rfl) (st_store (off := 0) (vs := [.int .i64 y3_3.1.fwd, .int .i64 y3_3.1.back, .int .i64 y3_3.1.line, .int .i64 y3_3.1.used, .bool y3_3.1.dirty, .slice a3_3_00 (List.length y3_3.1.data) c3_3_00]) (c' := #[.int .i64 y3_3.1.fwd, .int .i64 y3_3.1.back, .int .i64 y3_3.1.line, .int .i64 y3_3.1.used, .bool y3_3.1.dirty, .slice a3_3_00 (List.length y3_3.1.data) c3_3_00]) (fun _ => by kernel_rfl) .here (by kernel_rfl) (by kernel_rfl) (by kernel_rfl)) ?_
  rintro _ _ ⟨rfl, rfl⟩
  refine s_pure 8 (.bool y3_3.2) (by kernel_rfl) (by kernel_rfl) (fun _ => by kernel_rfl) ?_
  refine ops_end ?_
  refine At.env [(1, .pointer (some ⟨c, 0, none⟩)), (3, .pointer (some ⟨b0_0, 0, none⟩)), (6, .pointer (some ⟨b0_2, 0, none⟩)), (7, .pointer (some ⟨b3_7, 0, none⟩)), (8, .bool y3_3.2)] ⟨by kernel_rfl, by kernel_rfl, by kernel_rfl, by kernel_rfl, by kernel_rfl, trivial⟩ ?_
  refine at_then_normal ?_
  refine at_seq (x := C50 [1,1,1,1,0]) (y := C50 [1,1,1,1,1]) (by kernel_rfl) ?_
  refine at_block (i := 0) (x := C50 [1,1,1,1,0,0]) (by kernel_rfl) ?_
  refine at_seq (x := C50 [1,1,1,1,0,0,0]) (y := C50 [1,1,1,1,0,0,1]) (by kernel_rfl) ?_
  refine at_region (id := 5) 3 (by kernel_rfl) (by kernel_rfl) ?_
  refine s_pure 37 (.bool y3_3.2) (by kernel_rfl) (by kernel_rfl) (fun _ => by kernel_rfl) ?_
  refine s_pure 38 (.bool !y3_3.2) (by kernel_rfl) (by kernel_rfl) (fun _ => by kernel_rfl) ?_
  refine s_pure 36 (.bool !y3_3.2) (by kernel_rfl) (by kernel_rfl) (fun _ => by kernel_rfl) ?_
  refine ops_end ?_
  refine At.env [(1, .pointer (some ⟨c, 0, none⟩)), (3, .pointer (some ⟨b0_0, 0, none⟩)), (6, .pointer (some ⟨b0_2, 0, none⟩)), (7, .pointer (some ⟨b3_7, 0, none⟩)), (36, .bool !y3_3.2)] ⟨by kernel_rfl, by kernel_rfl, by kernel_rfl, by kernel_rfl, by kernel_rfl, trivial⟩ ?_
  refine at_then_normal ?_
  rcases Bool.eq_false_or_eq_true (!y3_3.2) with h1 | h1
  · replace H := bifT H h1
    refine at_true (t := !y3_3.2) (x := C50 [1,1,1,1,0,0,1,0]) (y := C50 [1,1,1,1,0,0,1,1]) (o := .tmp 36) (by kernel_rfl) (by kernel_rfl) (by kernel_rfl) h1 ?_
    refine at_seq (x := C50 [1,1,1,1,0,0,1,0,0]) (y := C50 [1,1,1,1,0,0,1,0,1]) (by kernel_rfl) ?_
    refine at_region (id := 6) 2 (by kernel_rfl) (by kernel_rfl) ?_
    refine s_load 39 (.agg #[.int .i64 d.kind, .int .i64 d.line, .int .i64 d.id, .int .i64 (6), .int .i64 p.state, .int .i64 p.ptr, .slice none 0 0, .int .i64 d.next, .int .i64 p.ptr]) (by kernel_rfl) (by kernel_rfl) (loadN (off := 0) (vs := [.int .i64 d.kind, .int .i64 d.line, .int .i64 d.id, .int .i64 (6), .int .i64 p.state, .int .i64 p.ptr, .slice none 0 0, .int .i64 d.next, .int .i64 p.ptr]) 9 (fun _ => by kernel_rfl) (holds_own (.there (.there (.there .here)))) rfl (by exact ⟨rfl, rfl, rfl, rfl, rfl, rfl, rfl, rfl, rfl, trivial⟩)) ?_
    refine s_do (by kernel_rfl) (by kernel_rfl) (st_store (off := 0) (vs := [.int .i64 d.kind, .int .i64 d.line, .int .i64 d.id, .int .i64 (6), .int .i64 p.state, .int .i64 p.ptr, .slice none 0 0, .int .i64 d.next, .int .i64 p.ptr]) (c' := #[.int .i64 d.kind, .int .i64 d.line, .int .i64 d.id, .int .i64 (6), .int .i64 p.state, .int .i64 p.ptr, .slice none 0 0, .int .i64 d.next, .int .i64 p.ptr]) (fun _ => by kernel_rfl) (.there (.there (.there (.there .here)))) (by kernel_rfl) (by kernel_rfl) (by kernel_rfl)) ?_
    rintro _ _ ⟨rfl, rfl⟩
    refine ops_end ?_
    refine At.env [(6, .pointer (some ⟨b0_2, 0, none⟩))] ⟨by kernel_rfl, trivial⟩ ?_
    refine at_then_normal ?_
    refine at_ret (by kernel_rfl) ?_
    refine at_in_ret ?_
    refine at_then_ret ?_
    obtain rfl := someE H
    refine at_backR [.agg #[.int .i64 d.kind, .int .i64 d.line, .int .i64 d.id, .int .i64 (6), .int .i64 p.state, .int .i64 p.ptr, .slice none 0 0, .int .i64 d.next, .int .i64 p.ptr]] ((ImmI none ([] : List Int)) :: (CacheA c cc) :: Γ) (rs := [.cell 6 35]) (by kernel_rfl) (.cons (.cell (by kernel_rfl) (retN (off := 0) (vs := [.int .i64 d.kind, .int .i64 d.line, .int .i64 d.id, .int .i64 (6), .int .i64 p.state, .int .i64 p.ptr, .slice none 0 0, .int .i64 d.next, .int .i64 p.ptr]) 9 (fun _ => by kernel_rfl) (holds_own .here) rfl (by exact ⟨rfl, rfl, rfl, rfl, rfl, rfl, rfl, rfl, rfl, trivial⟩))) .nil) (fun w hw => (Sat.less (.take .here (.take (.there (.there (.there .here))) (.drop .here (.drop .here (.drop .here (.drop .here (.drop .here (.drop .here .refl)))))))) (ImmR.nil_mk (k := 1) (a := none) hw))) ?_
    exact ⟨none, 0, rfl, rfl⟩
  · replace H := bifF H h1
    refine at_false (t := !y3_3.2) (x := C50 [1,1,1,1,0,0,1,0]) (y := C50 [1,1,1,1,0,0,1,1]) (o := .tmp 36) (by kernel_rfl) (by kernel_rfl) (by kernel_rfl) h1 ?_
    refine at_seq (x := C50 [1,1,1,1,0,0,1,1,0]) (y := C50 [1,1,1,1,0,0,1,1,1]) (by kernel_rfl) ?_
    refine at_region (id := 7) 4 (by kernel_rfl) (by kernel_rfl) ?_
    refine s_pure 41 (.pointer (some ⟨b3_7, 0, none⟩)) (by kernel_rfl) (by kernel_rfl) (fun _ => by kernel_rfl) ?_
    refine s_load 42 (.agg #[.int .i64 y3_3.1.fwd, .int .i64 y3_3.1.back]) (by kernel_rfl) (by kernel_rfl) (loadN (off := 0) (vs := [.int .i64 y3_3.1.fwd, .int .i64 y3_3.1.back]) 2 (fun _ => by kernel_rfl) (holds_own .here) rfl (by exact ⟨rfl, rfl, trivial⟩)) ?_
    obtain ⟨y7_2, hy7_2, H⟩ := bindE H
    refine s_quiet 43 (.bool y7_2) 19 #[.agg #[.int .i64 y3_3.1.fwd, .int .i64 y3_3.1.back]] (by kernel_rfl) (by kernel_rfl) (fun _ => by kernel_rfl) (LOnlyF_tr (⟨y3_3.1.fwd, y3_3.1.back⟩ : LinkS) y7_2 hy7_2) ?_
    refine s_pure 40 (.bool y7_2) (by kernel_rfl) (by kernel_rfl) (fun _ => by kernel_rfl) ?_
    refine ops_end ?_
    refine At.env [(1, .pointer (some ⟨c, 0, none⟩)), (3, .pointer (some ⟨b0_0, 0, none⟩)), (6, .pointer (some ⟨b0_2, 0, none⟩)), (7, .pointer (some ⟨b3_7, 0, none⟩)), (40, .bool y7_2)] ⟨by kernel_rfl, by kernel_rfl, by kernel_rfl, by kernel_rfl, by kernel_rfl, trivial⟩ ?_
    refine at_then_normal ?_
    rcases Bool.eq_false_or_eq_true (y7_2) with h2 | h2
    · replace H := bifT H h2
      refine at_true (t := y7_2) (x := C50 [1,1,1,1,0,0,1,1,1,0]) (y := C50 [1,1,1,1,0,0,1,1,1,1]) (o := .tmp 40) (by kernel_rfl) (by kernel_rfl) (by kernel_rfl) h2 ?_
      refine at_seq (x := C50 [1,1,1,1,0,0,1,1,1,0,0]) (y := C50 [1,1,1,1,0,0,1,1,1,0,1]) (by kernel_rfl) ?_
      refine at_region (id := 8) 4 (by kernel_rfl) (by kernel_rfl) ?_
      refine s_pure 44 (.pointer (some ⟨c, 0, none⟩)) (by kernel_rfl) (by kernel_rfl) (fun _ => by kernel_rfl) ?_
      refine s_pure 45 (.pointer (some ⟨b0_0, 1, none⟩)) (by kernel_rfl) (by kernel_rfl) (fun _ => by kernel_rfl) ?_
      refine s_load 46 (.int .i64 d.line) (by kernel_rfl) (by kernel_rfl) (load1 (off := 1) (fun _ => by kernel_rfl) (holds_own (.there (.there (.there .here)))) (by kernel_rfl)) ?_
      obtain ⟨y8_3, hy8_3, H⟩ := bindE H
      refine s_call 47 56 #[.pointer (some ⟨c, 0, none⟩), .int .i64 d.line] (by kernel_rfl) (by kernel_rfl) (fun _ => by kernel_rfl) (Tr.conv (Γ' := (CacheA c cc) :: (Asn.own b3_7 (.cells #[.int .i64 y3_3.1.fwd, .int .i64 y3_3.1.back, .int .i64 y3_3.1.line, .int .i64 y3_3.1.used, .bool y3_3.1.dirty, .slice a3_3_00 (List.length y3_3.1.data) c3_3_00] 32 (0, 0))) :: (IntsA a3_3_00 c3_3_00 y3_3.1.data) :: (Asn.own b0_0 (.cells #[.int .i64 d.kind, .int .i64 d.line, .int .i64 d.id, .int .i64 (6), .int .i64 p.state, .int .i64 p.ptr, .slice none 0 0, .int .i64 d.next, .int .i64 p.ptr] 35 (0, 0))) :: (Asn.own b0_2 (.cells #[.int .i64 (0), .int .i64 (0), .int .i64 (0), .int .i64 (0), .int .i64 (0), .int .i64 (0), .slice none 0 0, .int .i64 (0), .int .i64 (0)] 35 (0, 0))) :: (Asn.own b0_1 (.cells #[.int .i64 p.kind, .int .i64 p.src, .int .i64 p.dst, .int .i64 p.id, .int .i64 p.line, .int .i64 p.ptr, .int .i64 p.state, .bool p.flag, .slice pa (List.length p.data) pcap] 40 (0, 0))) :: (ImmI da d.data) :: Γ) (fun w hw => (Sat.less (.take (.there (.there .here)) (.take .here (.take .here (.take .here (.take .here (.take .here (.take .here .refl))))))) hw)) (DropF_tr c cc d.line y8_3 hy8_3)) ?_
      rintro _ _ ⟨a8_3_00, c8_3_00, rfl, rfl⟩
      refine ops_end ?_
      refine At.env [(3, .pointer (some ⟨b0_0, 0, none⟩)), (6, .pointer (some ⟨b0_2, 0, none⟩)), (7, .pointer (some ⟨b3_7, 0, none⟩))] ⟨by kernel_rfl, by kernel_rfl, by kernel_rfl, trivial⟩ ?_
      refine at_then_normal ?_
      refine at_seq (x := C50 [1,1,1,1,0,0,1,1,1,0,1,0]) (y := C50 [1,1,1,1,0,0,1,1,1,0,1,1]) (by kernel_rfl) ?_
      refine at_region (id := 9) 4 (by kernel_rfl) (by kernel_rfl) ?_
      refine s_pure 48 (.pointer (some ⟨b0_0, 4, none⟩)) (by kernel_rfl) (by kernel_rfl) (fun _ => by kernel_rfl) ?_
      refine s_do (by kernel_rfl) (by kernel_rfl) (st_store (off := 4) (vs := [.int .i64 (0)]) (c' := #[.int .i64 d.kind, .int .i64 d.line, .int .i64 d.id, .int .i64 (6), .int .i64 (0), .int .i64 p.ptr, .slice none 0 0, .int .i64 d.next, .int .i64 p.ptr]) (fun _ => by kernel_rfl) (.there (.there (.there (.there .here)))) (by kernel_rfl) (by kernel_rfl) (by kernel_rfl)) ?_
      rintro _ _ ⟨rfl, rfl⟩
      refine s_pure 49 (.pointer (some ⟨b0_0, 5, none⟩)) (by kernel_rfl) (by kernel_rfl) (fun _ => by kernel_rfl) ?_
      refine s_do (by kernel_rfl) (by kernel_rfl) (st_store (off := 5) (vs := [.int .i64 (-1)]) (c' := #[.int .i64 d.kind, .int .i64 d.line, .int .i64 d.id, .int .i64 (6), .int .i64 (0), .int .i64 (-1), .slice none 0 0, .int .i64 d.next, .int .i64 p.ptr]) (fun _ => by kernel_rfl) .here (by kernel_rfl) (by kernel_rfl) (by kernel_rfl)) ?_
      rintro _ _ ⟨rfl, rfl⟩
      refine ops_end ?_
      refine At.env [(3, .pointer (some ⟨b0_0, 0, none⟩)), (6, .pointer (some ⟨b0_2, 0, none⟩)), (7, .pointer (some ⟨b3_7, 0, none⟩))] ⟨by kernel_rfl, by kernel_rfl, by kernel_rfl, trivial⟩ ?_
      refine at_then_normal ?_
      refine at_seq (x := C50 [1,1,1,1,0,0,1,1,1,0,1,1,0]) (y := C50 [1,1,1,1,0,0,1,1,1,0,1,1,1]) (by kernel_rfl) ?_
      refine at_region (id := 10) 2 (by kernel_rfl) (by kernel_rfl) ?_
      refine s_pure 50 (.pointer (some ⟨b3_7, 4, none⟩)) (by kernel_rfl) (by kernel_rfl) (fun _ => by kernel_rfl) ?_
      refine s_load 51 (.bool y3_3.1.dirty) (by kernel_rfl) (by kernel_rfl) (load1 (off := 4) (fun _ => by kernel_rfl) (holds_own (.there (.there (.there .here)))) (by kernel_rfl)) ?_
      refine ops_end ?_
      refine At.env [(3, .pointer (some ⟨b0_0, 0, none⟩)), (6, .pointer (some ⟨b0_2, 0, none⟩)), (7, .pointer (some ⟨b3_7, 0, none⟩)), (51, .bool y3_3.1.dirty)] ⟨by kernel_rfl, by kernel_rfl, by kernel_rfl, by kernel_rfl, trivial⟩ ?_
      refine at_then_normal ?_
      rcases Bool.eq_false_or_eq_true (y3_3.1.dirty) with h3 | h3
      · replace H := bifT H h3
        refine at_true (t := y3_3.1.dirty) (x := C50 [1,1,1,1,0,0,1,1,1,0,1,1,1,0]) (y := C50 [1,1,1,1,0,0,1,1,1,0,1,1,1,1]) (o := .tmp 51) (by kernel_rfl) (by kernel_rfl) (by kernel_rfl) h3 ?_
        refine at_region (id := 11) 4 (by kernel_rfl) (by kernel_rfl) ?_
        refine s_pure 52 (.pointer (some ⟨b3_7, 5, none⟩)) (by kernel_rfl) (by kernel_rfl) (fun _ => by kernel_rfl) ?_
        refine s_load 53 (.slice a3_3_00 (List.length y3_3.1.data) c3_3_00) (by kernel_rfl) (by kernel_rfl) (load1 (off := 5) (fun _ => by kernel_rfl) (holds_own (.there (.there (.there .here)))) (by kernel_rfl)) ?_
        refine s_pure 54 (.pointer (some ⟨b0_0, 6, none⟩)) (by kernel_rfl) (by kernel_rfl) (fun _ => by kernel_rfl) ?_
        refine s_do (by kernel_rfl) (by kernel_rfl) (st_store (off := 6) (vs := [.slice a3_3_00 (List.length y3_3.1.data) c3_3_00]) (c' := #[.int .i64 d.kind, .int .i64 d.line, .int .i64 d.id, .int .i64 (6), .int .i64 (0), .int .i64 (-1), .slice a3_3_00 (List.length y3_3.1.data) c3_3_00, .int .i64 d.next, .int .i64 p.ptr]) (fun _ => by kernel_rfl) .here (by kernel_rfl) (by kernel_rfl) (by kernel_rfl)) ?_
        rintro _ _ ⟨rfl, rfl⟩
        refine ops_end ?_
        refine At.env [(3, .pointer (some ⟨b0_0, 0, none⟩)), (6, .pointer (some ⟨b0_2, 0, none⟩))] ⟨by kernel_rfl, by kernel_rfl, trivial⟩ ?_
        refine at_in_normal ?_
        refine at_then_normal ?_
        refine at_seq (x := C50 [1,1,1,1,1,0]) (y := C50 [1,1,1,1,1,1]) (by kernel_rfl) ?_
        refine at_region (id := 14) 2 (by kernel_rfl) (by kernel_rfl) ?_
        refine s_load 65 (.agg #[.int .i64 d.kind, .int .i64 d.line, .int .i64 d.id, .int .i64 (6), .int .i64 (0), .int .i64 (-1), .slice a3_3_00 (List.length y3_3.1.data) c3_3_00, .int .i64 d.next, .int .i64 p.ptr]) (by kernel_rfl) (by kernel_rfl) (loadN (off := 0) (vs := [.int .i64 d.kind, .int .i64 d.line, .int .i64 d.id, .int .i64 (6), .int .i64 (0), .int .i64 (-1), .slice a3_3_00 (List.length y3_3.1.data) c3_3_00, .int .i64 d.next, .int .i64 p.ptr]) 9 (fun _ => by kernel_rfl) (holds_own .here) rfl (by exact ⟨rfl, rfl, rfl, rfl, rfl, rfl, rfl, rfl, rfl, trivial⟩)) ?_
        refine s_do (by kernel_rfl) (by kernel_rfl) (st_store (off := 0) (vs := [.int .i64 d.kind, .int .i64 d.line, .int .i64 d.id, .int .i64 (6), .int .i64 (0), .int .i64 (-1), .slice a3_3_00 (List.length y3_3.1.data) c3_3_00, .int .i64 d.next, .int .i64 p.ptr]) (c' := #[.int .i64 d.kind, .int .i64 d.line, .int .i64 d.id, .int .i64 (6), .int .i64 (0), .int .i64 (-1), .slice a3_3_00 (List.length y3_3.1.data) c3_3_00, .int .i64 d.next, .int .i64 p.ptr]) (fun _ => by kernel_rfl) (.there (.there (.there (.there (.there .here))))) (by kernel_rfl) (by kernel_rfl) (by kernel_rfl)) ?_
        rintro _ _ ⟨rfl, rfl⟩
        refine ops_end ?_
        refine At.env [(6, .pointer (some ⟨b0_2, 0, none⟩))] ⟨by kernel_rfl, trivial⟩ ?_
        refine at_then_normal ?_
        refine at_ret (by kernel_rfl) ?_
        obtain rfl := someE H
        refine at_backR [.agg #[.int .i64 d.kind, .int .i64 d.line, .int .i64 d.id, .int .i64 (6), .int .i64 (0), .int .i64 (-1), .slice a3_3_00 (List.length y3_3.1.data) c3_3_00, .int .i64 d.next, .int .i64 p.ptr]] ((ImmI a3_3_00 y3_3.1.data) :: (CacheA c y8_3.2.2) :: Γ) (rs := [.cell 6 35]) (by kernel_rfl) (.cons (.cell (by kernel_rfl) (retN (off := 0) (vs := [.int .i64 d.kind, .int .i64 d.line, .int .i64 d.id, .int .i64 (6), .int .i64 (0), .int .i64 (-1), .slice a3_3_00 (List.length y3_3.1.data) c3_3_00, .int .i64 d.next, .int .i64 p.ptr]) 9 (fun _ => by kernel_rfl) (holds_own .here) rfl (by exact ⟨rfl, rfl, rfl, rfl, rfl, rfl, rfl, rfl, rfl, trivial⟩))) .nil) (fun w hw => (Sat.less (.take .here (.take (.there (.there (.there .here))) (.drop .here (.drop .here (.drop .here (.drop .here (.drop .here (.drop .here .refl)))))))) (RowsA.freeze (Sat.less (.take (.there (.there (.there (.there (.there .here))))) (.take .here (.take .here (.take .here (.take .here (.take .here (.take .here (.take .here .refl)))))))) hw)))) ?_
        exact ⟨a3_3_00, c3_3_00, rfl, rfl⟩
      · replace H := bifF H h3
        refine at_false (t := y3_3.1.dirty) (x := C50 [1,1,1,1,0,0,1,1,1,0,1,1,1,0]) (y := C50 [1,1,1,1,0,0,1,1,1,0,1,1,1,1]) (o := .tmp 51) (by kernel_rfl) (by kernel_rfl) (by kernel_rfl) h3 ?_
        refine at_skip (by kernel_rfl) ?_
        refine at_in_normal ?_
        refine at_then_normal ?_
        refine at_seq (x := C50 [1,1,1,1,1,0]) (y := C50 [1,1,1,1,1,1]) (by kernel_rfl) ?_
        refine at_region (id := 14) 2 (by kernel_rfl) (by kernel_rfl) ?_
        refine s_load 65 (.agg #[.int .i64 d.kind, .int .i64 d.line, .int .i64 d.id, .int .i64 (6), .int .i64 (0), .int .i64 (-1), .slice none 0 0, .int .i64 d.next, .int .i64 p.ptr]) (by kernel_rfl) (by kernel_rfl) (loadN (off := 0) (vs := [.int .i64 d.kind, .int .i64 d.line, .int .i64 d.id, .int .i64 (6), .int .i64 (0), .int .i64 (-1), .slice none 0 0, .int .i64 d.next, .int .i64 p.ptr]) 9 (fun _ => by kernel_rfl) (holds_own .here) rfl (by exact ⟨rfl, rfl, rfl, rfl, rfl, rfl, rfl, rfl, rfl, trivial⟩)) ?_
        refine s_do (by kernel_rfl) (by kernel_rfl) (st_store (off := 0) (vs := [.int .i64 d.kind, .int .i64 d.line, .int .i64 d.id, .int .i64 (6), .int .i64 (0), .int .i64 (-1), .slice none 0 0, .int .i64 d.next, .int .i64 p.ptr]) (c' := #[.int .i64 d.kind, .int .i64 d.line, .int .i64 d.id, .int .i64 (6), .int .i64 (0), .int .i64 (-1), .slice none 0 0, .int .i64 d.next, .int .i64 p.ptr]) (fun _ => by kernel_rfl) (.there (.there (.there (.there (.there .here))))) (by kernel_rfl) (by kernel_rfl) (by kernel_rfl)) ?_
        rintro _ _ ⟨rfl, rfl⟩
        refine ops_end ?_
        refine At.env [(6, .pointer (some ⟨b0_2, 0, none⟩))] ⟨by kernel_rfl, trivial⟩ ?_
        refine at_then_normal ?_
        refine at_ret (by kernel_rfl) ?_
        obtain rfl := someE H
        refine at_backR [.agg #[.int .i64 d.kind, .int .i64 d.line, .int .i64 d.id, .int .i64 (6), .int .i64 (0), .int .i64 (-1), .slice none 0 0, .int .i64 d.next, .int .i64 p.ptr]] ((ImmI none ([] : List Int)) :: (CacheA c y8_3.2.2) :: Γ) (rs := [.cell 6 35]) (by kernel_rfl) (.cons (.cell (by kernel_rfl) (retN (off := 0) (vs := [.int .i64 d.kind, .int .i64 d.line, .int .i64 d.id, .int .i64 (6), .int .i64 (0), .int .i64 (-1), .slice none 0 0, .int .i64 d.next, .int .i64 p.ptr]) 9 (fun _ => by kernel_rfl) (holds_own .here) rfl (by exact ⟨rfl, rfl, rfl, rfl, rfl, rfl, rfl, rfl, rfl, trivial⟩))) .nil) (fun w hw => (Sat.less (.take .here (.take (.there (.there (.there .here))) (.drop .here (.drop .here (.drop .here (.drop .here (.drop .here (.drop .here (.drop .here .refl))))))))) (ImmR.nil_mk (k := 1) (a := none) hw))) ?_
        exact ⟨none, 0, rfl, rfl⟩
    · replace H := bifF H h2
      refine at_false (t := y7_2) (x := C50 [1,1,1,1,0,0,1,1,1,0]) (y := C50 [1,1,1,1,0,0,1,1,1,1]) (o := .tmp 40) (by kernel_rfl) (by kernel_rfl) (by kernel_rfl) h2 ?_
      refine at_seq (x := C50 [1,1,1,1,0,0,1,1,1,1,0]) (y := C50 [1,1,1,1,0,0,1,1,1,1,1]) (by kernel_rfl) ?_
      refine at_region (id := 12) 4 (by kernel_rfl) (by kernel_rfl) ?_
      refine s_pure 56 (.pointer (some ⟨b3_7, 0, none⟩)) (by kernel_rfl) (by kernel_rfl) (fun _ => by kernel_rfl) ?_
      refine s_load 57 (.agg #[.int .i64 y3_3.1.fwd, .int .i64 y3_3.1.back]) (by kernel_rfl) (by kernel_rfl) (loadN (off := 0) (vs := [.int .i64 y3_3.1.fwd, .int .i64 y3_3.1.back]) 2 (fun _ => by kernel_rfl) (holds_own .here) rfl (by exact ⟨rfl, rfl, trivial⟩)) ?_
      obtain ⟨y12_2, hy12_2, H⟩ := bindE H
      refine s_quiet 58 (.bool y12_2) 34 #[.agg #[.int .i64 y3_3.1.fwd, .int .i64 y3_3.1.back]] (by kernel_rfl) (by kernel_rfl) (fun _ => by kernel_rfl) (LHeadF_tr (⟨y3_3.1.fwd, y3_3.1.back⟩ : LinkS) y12_2 hy12_2) ?_
      refine s_pure 55 (.bool y12_2) (by kernel_rfl) (by kernel_rfl) (fun _ => by kernel_rfl) ?_
      refine ops_end ?_
      refine At.env [(3, .pointer (some ⟨b0_0, 0, none⟩)), (6, .pointer (some ⟨b0_2, 0, none⟩)), (7, .pointer (some ⟨b3_7, 0, none⟩)), (55, .bool y12_2)] ⟨by kernel_rfl, by kernel_rfl, by kernel_rfl, by kernel_rfl, trivial⟩ ?_
      refine at_then_normal ?_
      rcases Bool.eq_false_or_eq_true (y12_2) with h4 | h4
      · replace H := bifT H h4
        refine at_true (t := y12_2) (x := C50 [1,1,1,1,0,0,1,1,1,1,1,0]) (y := C50 [1,1,1,1,0,0,1,1,1,1,1,1]) (o := .tmp 55) (by kernel_rfl) (by kernel_rfl) (by kernel_rfl) h4 ?_
        refine at_region_draw (id := 13) (by kernel_rfl) (by kernel_rfl) ?_
        refine d_pure 0 59 (.pointer (some ⟨b3_7, 0, none⟩)) (by kernel_rfl) (by kernel_rfl) (by kernel_rfl) (fun _ => by kernel_rfl) ?_
        refine d_pure 1 60 (.pointer (some ⟨b3_7, 0, none⟩)) (by kernel_rfl) (by kernel_rfl) (by kernel_rfl) (fun _ => by kernel_rfl) ?_
        refine d_load 2 61 (.int .i64 y3_3.1.fwd) (by kernel_rfl) (by kernel_rfl) (by kernel_rfl) (load1 (off := 0) (fun _ => by kernel_rfl) (holds_own .here) (by kernel_rfl)) ?_
        refine d_pure 3 62 (.pointer (some ⟨b0_0, 5, none⟩)) (by kernel_rfl) (by kernel_rfl) (by kernel_rfl) (fun _ => by kernel_rfl) ?_
        refine d_do 4 [3] [1, 0] [2] (by kernel_rfl) (by kernel_rfl) (by kernel_rfl) (st_store (off := 5) (vs := [.int .i64 (-1)]) (c' := #[.int .i64 d.kind, .int .i64 d.line, .int .i64 d.id, .int .i64 (6), .int .i64 p.state, .int .i64 (-1), .slice none 0 0, .int .i64 d.next, .int .i64 p.ptr]) (fun _ => by kernel_rfl) (.there (.there (.there .here))) (by kernel_rfl) (by kernel_rfl) (by kernel_rfl)) ?_
        rintro _ _ ⟨rfl, rfl⟩
        refine ⟨(stable_cons 2 61 (.int .i64 y3_3.1.fwd) (by kernel_rfl) (by kernel_rfl) (by kernel_rfl) (load1 (off := 0) (fun _ => by kernel_rfl) (holds_own (.there .here)) (by kernel_rfl)) stable_nil), ?_⟩
        refine d_pure 5 63 (.pointer (some ⟨b0_0, 7, none⟩)) (by kernel_rfl) (by kernel_rfl) (by kernel_rfl) (fun _ => by kernel_rfl) ?_
        refine d_do 6 [5, 2, 4, 0, 1, 3] [] [] (by kernel_rfl) (by kernel_rfl) (by kernel_rfl) (st_store (off := 7) (vs := [.int .i64 y3_3.1.fwd]) (c' := #[.int .i64 d.kind, .int .i64 d.line, .int .i64 d.id, .int .i64 (6), .int .i64 p.state, .int .i64 (-1), .slice none 0 0, .int .i64 y3_3.1.fwd, .int .i64 p.ptr]) (fun _ => by kernel_rfl) .here (by kernel_rfl) (by kernel_rfl) (by kernel_rfl)) ?_
        rintro _ _ ⟨rfl, rfl⟩
        refine ⟨stable_nil, ?_⟩
        refine d_pure 7 64 (.pointer (some ⟨b0_0, 3, none⟩)) (by kernel_rfl) (by kernel_rfl) (by kernel_rfl) (fun _ => by kernel_rfl) ?_
        refine d_do 8 [7, 6, 0, 1, 2, 3, 4, 5] [] [] (by kernel_rfl) (by kernel_rfl) (by kernel_rfl) (st_store (off := 3) (vs := [.int .i64 (5)]) (c' := #[.int .i64 d.kind, .int .i64 d.line, .int .i64 d.id, .int .i64 (5), .int .i64 p.state, .int .i64 (-1), .slice none 0 0, .int .i64 y3_3.1.fwd, .int .i64 p.ptr]) (fun _ => by kernel_rfl) .here (by kernel_rfl) (by kernel_rfl) (by kernel_rfl)) ?_
        rintro _ _ ⟨rfl, rfl⟩
        refine ⟨stable_nil, ?_⟩
        refine draw_end (by kernel_rfl) ?_
        refine At.env [(3, .pointer (some ⟨b0_0, 0, none⟩)), (6, .pointer (some ⟨b0_2, 0, none⟩))] ⟨by kernel_rfl, by kernel_rfl, trivial⟩ ?_
        refine at_in_normal ?_
        refine at_then_normal ?_
        refine at_seq (x := C50 [1,1,1,1,1,0]) (y := C50 [1,1,1,1,1,1]) (by kernel_rfl) ?_
        refine at_region (id := 14) 2 (by kernel_rfl) (by kernel_rfl) ?_
        refine s_load 65 (.agg #[.int .i64 d.kind, .int .i64 d.line, .int .i64 d.id, .int .i64 (5), .int .i64 p.state, .int .i64 (-1), .slice none 0 0, .int .i64 y3_3.1.fwd, .int .i64 p.ptr]) (by kernel_rfl) (by kernel_rfl) (loadN (off := 0) (vs := [.int .i64 d.kind, .int .i64 d.line, .int .i64 d.id, .int .i64 (5), .int .i64 p.state, .int .i64 (-1), .slice none 0 0, .int .i64 y3_3.1.fwd, .int .i64 p.ptr]) 9 (fun _ => by kernel_rfl) (holds_own .here) rfl (by exact ⟨rfl, rfl, rfl, rfl, rfl, rfl, rfl, rfl, rfl, trivial⟩)) ?_
        refine s_do (by kernel_rfl) (by kernel_rfl) (st_store (off := 0) (vs := [.int .i64 d.kind, .int .i64 d.line, .int .i64 d.id, .int .i64 (5), .int .i64 p.state, .int .i64 (-1), .slice none 0 0, .int .i64 y3_3.1.fwd, .int .i64 p.ptr]) (c' := #[.int .i64 d.kind, .int .i64 d.line, .int .i64 d.id, .int .i64 (5), .int .i64 p.state, .int .i64 (-1), .slice none 0 0, .int .i64 y3_3.1.fwd, .int .i64 p.ptr]) (fun _ => by kernel_rfl) (.there (.there (.there (.there .here)))) (by kernel_rfl) (by kernel_rfl) (by kernel_rfl)) ?_
        rintro _ _ ⟨rfl, rfl⟩
        refine ops_end ?_
        refine At.env [(6, .pointer (some ⟨b0_2, 0, none⟩))] ⟨by kernel_rfl, trivial⟩ ?_
        refine at_then_normal ?_
        refine at_ret (by kernel_rfl) ?_
        obtain rfl := someE H
        refine at_backR [.agg #[.int .i64 d.kind, .int .i64 d.line, .int .i64 d.id, .int .i64 (5), .int .i64 p.state, .int .i64 (-1), .slice none 0 0, .int .i64 y3_3.1.fwd, .int .i64 p.ptr]] ((ImmI none ([] : List Int)) :: (CacheA c cc) :: Γ) (rs := [.cell 6 35]) (by kernel_rfl) (.cons (.cell (by kernel_rfl) (retN (off := 0) (vs := [.int .i64 d.kind, .int .i64 d.line, .int .i64 d.id, .int .i64 (5), .int .i64 p.state, .int .i64 (-1), .slice none 0 0, .int .i64 y3_3.1.fwd, .int .i64 p.ptr]) 9 (fun _ => by kernel_rfl) (holds_own .here) rfl (by exact ⟨rfl, rfl, rfl, rfl, rfl, rfl, rfl, rfl, rfl, trivial⟩))) .nil) (fun w hw => (Sat.less (.take .here (.take (.there (.there (.there (.there .here)))) (.drop .here (.drop .here (.drop .here (.drop .here (.drop .here (.drop .here .refl)))))))) (ImmR.nil_mk (k := 1) (a := none) hw))) ?_
        exact ⟨none, 0, rfl, rfl⟩
      · replace H := bifF H h4
        refine at_false (t := y12_2) (x := C50 [1,1,1,1,0,0,1,1,1,1,1,0]) (y := C50 [1,1,1,1,0,0,1,1,1,1,1,1]) (o := .tmp 55) (by kernel_rfl) (by kernel_rfl) (by kernel_rfl) h4 ?_
        refine at_region_draw (id := 4) (by kernel_rfl) (by kernel_rfl) ?_
        refine d_pure 0 27 (.pointer (some ⟨b3_7, 0, none⟩)) (by kernel_rfl) (by kernel_rfl) (by kernel_rfl) (fun _ => by kernel_rfl) ?_
        refine d_pure 1 28 (.pointer (some ⟨b3_7, 1, none⟩)) (by kernel_rfl) (by kernel_rfl) (by kernel_rfl) (fun _ => by kernel_rfl) ?_
        refine d_load 2 29 (.int .i64 y3_3.1.back) (by kernel_rfl) (by kernel_rfl) (by kernel_rfl) (load1 (off := 1) (fun _ => by kernel_rfl) (holds_own .here) (by kernel_rfl)) ?_
        refine d_pure 3 30 (.pointer (some ⟨b3_7, 0, none⟩)) (by kernel_rfl) (by kernel_rfl) (by kernel_rfl) (fun _ => by kernel_rfl) ?_
        refine d_pure 4 31 (.pointer (some ⟨b3_7, 0, none⟩)) (by kernel_rfl) (by kernel_rfl) (by kernel_rfl) (fun _ => by kernel_rfl) ?_
        refine d_load 5 32 (.int .i64 y3_3.1.fwd) (by kernel_rfl) (by kernel_rfl) (by kernel_rfl) (load1 (off := 0) (fun _ => by kernel_rfl) (holds_own .here) (by kernel_rfl)) ?_
        refine d_pure 6 33 (.pointer (some ⟨b0_0, 5, none⟩)) (by kernel_rfl) (by kernel_rfl) (by kernel_rfl) (fun _ => by kernel_rfl) ?_
        refine d_do 7 [6, 2, 0, 1] [4, 3] [5] (by kernel_rfl) (by kernel_rfl) (by kernel_rfl) (st_store (off := 5) (vs := [.int .i64 y3_3.1.back]) (c' := #[.int .i64 d.kind, .int .i64 d.line, .int .i64 d.id, .int .i64 (6), .int .i64 p.state, .int .i64 y3_3.1.back, .slice none 0 0, .int .i64 d.next, .int .i64 p.ptr]) (fun _ => by kernel_rfl) (.there (.there (.there .here))) (by kernel_rfl) (by kernel_rfl) (by kernel_rfl)) ?_
        rintro _ _ ⟨rfl, rfl⟩
        refine ⟨(stable_cons 5 32 (.int .i64 y3_3.1.fwd) (by kernel_rfl) (by kernel_rfl) (by kernel_rfl) (load1 (off := 0) (fun _ => by kernel_rfl) (holds_own (.there .here)) (by kernel_rfl)) stable_nil), ?_⟩
        refine d_pure 8 34 (.pointer (some ⟨b0_0, 7, none⟩)) (by kernel_rfl) (by kernel_rfl) (by kernel_rfl) (fun _ => by kernel_rfl) ?_
        refine d_do 9 [8, 5, 7, 0, 1, 2, 3, 4, 6] [] [] (by kernel_rfl) (by kernel_rfl) (by kernel_rfl) (st_store (off := 7) (vs := [.int .i64 y3_3.1.fwd]) (c' := #[.int .i64 d.kind, .int .i64 d.line, .int .i64 d.id, .int .i64 (6), .int .i64 p.state, .int .i64 y3_3.1.back, .slice none 0 0, .int .i64 y3_3.1.fwd, .int .i64 p.ptr]) (fun _ => by kernel_rfl) .here (by kernel_rfl) (by kernel_rfl) (by kernel_rfl)) ?_
        rintro _ _ ⟨rfl, rfl⟩
        refine ⟨stable_nil, ?_⟩
        refine d_pure 10 35 (.pointer (some ⟨b0_0, 3, none⟩)) (by kernel_rfl) (by kernel_rfl) (by kernel_rfl) (fun _ => by kernel_rfl) ?_
        refine d_do 11 [10, 9, 0, 1, 2, 3, 4, 5, 6, 7, 8] [] [] (by kernel_rfl) (by kernel_rfl) (by kernel_rfl) (st_store (off := 3) (vs := [.int .i64 (4)]) (c' := #[.int .i64 d.kind, .int .i64 d.line, .int .i64 d.id, .int .i64 (4), .int .i64 p.state, .int .i64 y3_3.1.back, .slice none 0 0, .int .i64 y3_3.1.fwd, .int .i64 p.ptr]) (fun _ => by kernel_rfl) .here (by kernel_rfl) (by kernel_rfl) (by kernel_rfl)) ?_
        rintro _ _ ⟨rfl, rfl⟩
        refine ⟨stable_nil, ?_⟩
        refine draw_end (by kernel_rfl) ?_
        refine At.env [(3, .pointer (some ⟨b0_0, 0, none⟩)), (6, .pointer (some ⟨b0_2, 0, none⟩))] ⟨by kernel_rfl, by kernel_rfl, trivial⟩ ?_
        refine at_in_normal ?_
        refine at_then_normal ?_
        refine at_seq (x := C50 [1,1,1,1,1,0]) (y := C50 [1,1,1,1,1,1]) (by kernel_rfl) ?_
        refine at_region (id := 14) 2 (by kernel_rfl) (by kernel_rfl) ?_
        refine s_load 65 (.agg #[.int .i64 d.kind, .int .i64 d.line, .int .i64 d.id, .int .i64 (4), .int .i64 p.state, .int .i64 y3_3.1.back, .slice none 0 0, .int .i64 y3_3.1.fwd, .int .i64 p.ptr]) (by kernel_rfl) (by kernel_rfl) (loadN (off := 0) (vs := [.int .i64 d.kind, .int .i64 d.line, .int .i64 d.id, .int .i64 (4), .int .i64 p.state, .int .i64 y3_3.1.back, .slice none 0 0, .int .i64 y3_3.1.fwd, .int .i64 p.ptr]) 9 (fun _ => by kernel_rfl) (holds_own .here) rfl (by exact ⟨rfl, rfl, rfl, rfl, rfl, rfl, rfl, rfl, rfl, trivial⟩)) ?_
        refine s_do (by kernel_rfl) (by kernel_rfl) (st_store (off := 0) (vs := [.int .i64 d.kind, .int .i64 d.line, .int .i64 d.id, .int .i64 (4), .int .i64 p.state, .int .i64 y3_3.1.back, .slice none 0 0, .int .i64 y3_3.1.fwd, .int .i64 p.ptr]) (c' := #[.int .i64 d.kind, .int .i64 d.line, .int .i64 d.id, .int .i64 (4), .int .i64 p.state, .int .i64 y3_3.1.back, .slice none 0 0, .int .i64 y3_3.1.fwd, .int .i64 p.ptr]) (fun _ => by kernel_rfl) (.there (.there (.there (.there .here)))) (by kernel_rfl) (by kernel_rfl) (by kernel_rfl)) ?_
        rintro _ _ ⟨rfl, rfl⟩
        refine ops_end ?_
        refine At.env [(6, .pointer (some ⟨b0_2, 0, none⟩))] ⟨by kernel_rfl, trivial⟩ ?_
        refine at_then_normal ?_
        refine at_ret (by kernel_rfl) ?_
        obtain rfl := someE H
        refine at_backR [.agg #[.int .i64 d.kind, .int .i64 d.line, .int .i64 d.id, .int .i64 (4), .int .i64 p.state, .int .i64 y3_3.1.back, .slice none 0 0, .int .i64 y3_3.1.fwd, .int .i64 p.ptr]] ((ImmI none ([] : List Int)) :: (CacheA c cc) :: Γ) (rs := [.cell 6 35]) (by kernel_rfl) (.cons (.cell (by kernel_rfl) (retN (off := 0) (vs := [.int .i64 d.kind, .int .i64 d.line, .int .i64 d.id, .int .i64 (4), .int .i64 p.state, .int .i64 y3_3.1.back, .slice none 0 0, .int .i64 y3_3.1.fwd, .int .i64 p.ptr]) 9 (fun _ => by kernel_rfl) (holds_own .here) rfl (by exact ⟨rfl, rfl, rfl, rfl, rfl, rfl, rfl, rfl, rfl, trivial⟩))) .nil) (fun w hw => (Sat.less (.take .here (.take (.there (.there (.there (.there .here)))) (.drop .here (.drop .here (.drop .here (.drop .here (.drop .here (.drop .here .refl)))))))) (ImmR.nil_mk (k := 1) (a := none) hw))) ?_
        exact ⟨none, 0, rfl, rfl⟩
def rnextS_j0 (cc : CacheS) (d : DealS) (p : PktS) (e0_18 : Bool) : Option (DealS × Bool × CacheS) :=
  (bif e0_18 then some ((⟨0, 0, 0, 0, 0, 0, ([] : List Int), 0, 0⟩ : DealS), false, cc) else (bif decide (d.step = (1 : Int)) then (rlockedS d cc p).bind fun y5_3 => some (y5_3.1, true, y5_3.2) else (bif decide (d.step = (4 : Int)) then (bif decide (d.next = ((-1) : Int)) then (routS d cc d.told).bind fun y8_4 => some (y8_4.1, true, y8_4.2) else some ((⟨d.kind, d.line, d.id, 5, d.state, d.head, d.data, d.next, d.told⟩ : DealS), true, cc)) else (bif decide (d.step = (5 : Int)) then (bif decide (d.head = ((-1) : Int)) then (routS d cc d.next).bind fun y13_4 => some (y13_4.1, true, y13_4.2) else (routS d cc d.told).bind fun y14_4 => some (y14_4.1, true, y14_4.2)) else (bif decide (d.step = (6 : Int)) then some ((⟨d.kind, d.line, d.id, 0, d.state, d.head, d.data, d.next, d.told⟩ : DealS), true, cc) else some ((⟨0, 0, 0, 0, 0, 0, ([] : List Int), 0, 0⟩ : DealS), false, cc))))))
def rnextS (d : DealS) (node : Int) (cc : CacheS) (p : PktS) : Option (DealS × Bool × CacheS) :=
  (bif !(decide (d.kind = (3 : Int))) then rnextS_j0 cc d p true else (dfitsS d p).bind fun y1_6 => rnextS_j0 cc d p !y1_6)
noncomputable def C30 (p : List Nat) : Code := codeAt (bodyOf Try.f30) p
set_option maxRecDepth 100000 in
set_option maxHeartbeats 8000000 in
theorem RNextF_tr {W0 : World} {Γ : List Asn} (da : Option Addr) (dcap : Nat) (d : DealS) (node : Int) (c : Nat) (cc : CacheS) (pa : Option Addr) (pcap : Nat) (p : PktS) (hrpa : Reads W0 Γ pa (ints p.data)) (y : DealS × Bool × CacheS) (H : rnextS d node cc p = some y) : Tr Try.prog 30 #[.agg #[.int .i64 d.kind, .int .i64 d.line, .int .i64 d.id, .int .i64 d.step, .int .i64 d.state, .int .i64 d.head, .slice da (List.length d.data) dcap, .int .i64 d.next, .int .i64 d.told], .int .i64 node, .pointer (some ⟨c, 0, none⟩), .agg #[.int .i64 p.kind, .int .i64 p.src, .int .i64 p.dst, .int .i64 p.id, .int .i64 p.line, .int .i64 p.ptr, .int .i64 p.state, .bool p.flag, .slice pa (List.length p.data) pcap]] W0 ((ImmI da d.data) :: (CacheA c cc) :: Γ) (fun r Δ => ∃ (a0_0 : Option Addr) (c0_0 : Nat), r = .tuple #[.agg #[.int .i64 y.1.kind, .int .i64 y.1.line, .int .i64 y.1.id, .int .i64 y.1.step, .int .i64 y.1.state, .int .i64 y.1.head, .slice a0_0 (List.length y.1.data) c0_0, .int .i64 y.1.next, .int .i64 y.1.told], .bool y.2.1] ∧ Δ = (ImmI a0_0 y.1.data) :: (CacheA c y.2.2) :: Γ) := by
  unfold rnextS at H
  refine Tr.enter (fn := Try.f30) (c := C30 []) (args := [.agg #[.int .i64 d.kind, .int .i64 d.line, .int .i64 d.id, .int .i64 d.step, .int .i64 d.state, .int .i64 d.head, .slice da (List.length d.data) dcap, .int .i64 d.next, .int .i64 d.told], .int .i64 node, .pointer (some ⟨c, 0, none⟩), .agg #[.int .i64 p.kind, .int .i64 p.src, .int .i64 p.dst, .int .i64 p.id, .int .i64 p.line, .int .i64 p.ptr, .int .i64 p.state, .bool p.flag, .slice pa (List.length p.data) pcap]]) 60 Try.func30 (by kernel_rfl) (by kernel_rfl) ?_
  refine At.env [(0, .agg #[.int .i64 d.kind, .int .i64 d.line, .int .i64 d.id, .int .i64 d.step, .int .i64 d.state, .int .i64 d.head, .slice da (List.length d.data) dcap, .int .i64 d.next, .int .i64 d.told]), (1, .int .i64 node), (2, .pointer (some ⟨c, 0, none⟩)), (3, .agg #[.int .i64 p.kind, .int .i64 p.src, .int .i64 p.dst, .int .i64 p.id, .int .i64 p.line, .int .i64 p.ptr, .int .i64 p.state, .bool p.flag, .slice pa (List.length p.data) pcap])] ⟨by kernel_rfl, by kernel_rfl, by kernel_rfl, by kernel_rfl, trivial⟩ ?_
  refine at_seq (x := C30 [0]) (y := C30 [1]) (by kernel_rfl) ?_
  refine at_region (id := 0) 4 (by kernel_rfl) (by kernel_rfl) ?_
  refine s_step 4 (by kernel_rfl) (by kernel_rfl) (st_new (T := 35) (cells := #[.int .i64 d.kind, .int .i64 d.line, .int .i64 d.id, .int .i64 d.step, .int .i64 d.state, .int .i64 d.head, .slice da (List.length d.data) dcap, .int .i64 d.next, .int .i64 d.told]) (fun a => .pointer (some a)) (fun _ => by kernel_rfl)) ?_
  rintro _ _ ⟨b0_0, rfl, rfl⟩
  refine s_step 7 (by kernel_rfl) (by kernel_rfl) (st_new (T := 40) (cells := #[.int .i64 p.kind, .int .i64 p.src, .int .i64 p.dst, .int .i64 p.id, .int .i64 p.line, .int .i64 p.ptr, .int .i64 p.state, .bool p.flag, .slice pa (List.length p.data) pcap]) (fun a => .pointer (some a)) (fun _ => by kernel_rfl)) ?_
  rintro _ _ ⟨b0_1, rfl, rfl⟩
  refine s_step 8 (by kernel_rfl) (by kernel_rfl) (st_new (T := 35) (cells := #[.int .i64 (0), .int .i64 (0), .int .i64 (0), .int .i64 (0), .int .i64 (0), .int .i64 (0), .slice none 0 0, .int .i64 (0), .int .i64 (0)]) (fun a => .pointer (some a)) (fun _ => by kernel_rfl)) ?_
  rintro _ _ ⟨b0_2, rfl, rfl⟩
  refine s_pure 9 (.bool false) (by kernel_rfl) (by kernel_rfl) (fun _ => by kernel_rfl) ?_
  refine ops_end ?_
  refine At.env [(2, .pointer (some ⟨c, 0, none⟩)), (4, .pointer (some ⟨b0_0, 0, none⟩)), (7, .pointer (some ⟨b0_1, 0, none⟩)), (8, .pointer (some ⟨b0_2, 0, none⟩))] ⟨by kernel_rfl, by kernel_rfl, by kernel_rfl, by kernel_rfl, trivial⟩ ?_
  refine at_then_normal ?_
  refine at_seq (x := C30 [1,0]) (y := C30 [1,1]) (by kernel_rfl) ?_
  refine at_seq_join (x := C30 [1,0,0]) (y := C30 [1,0,1]) (fun ff ΔΔ => ∃ (e0_18 : Bool), rnextS_j0 cc d p e0_18 = some y ∧ ff = [(2, .pointer (some ⟨c, 0, none⟩)), (4, .pointer (some ⟨b0_0, 0, none⟩)), (7, .pointer (some ⟨b0_1, 0, none⟩)), (8, .pointer (some ⟨b0_2, 0, none⟩)), (18, .bool e0_18)] ∧ (Asn.own b0_2 (.cells #[.int .i64 (0), .int .i64 (0), .int .i64 (0), .int .i64 (0), .int .i64 (0), .int .i64 (0), .slice none 0 0, .int .i64 (0), .int .i64 (0)] 35 (0, 0))) :: (Asn.own b0_1 (.cells #[.int .i64 p.kind, .int .i64 p.src, .int .i64 p.dst, .int .i64 p.id, .int .i64 p.line, .int .i64 p.ptr, .int .i64 p.state, .bool p.flag, .slice pa (List.length p.data) pcap] 40 (0, 0))) :: (Asn.own b0_0 (.cells #[.int .i64 d.kind, .int .i64 d.line, .int .i64 d.id, .int .i64 d.step, .int .i64 d.state, .int .i64 d.head, .slice da (List.length d.data) dcap, .int .i64 d.next, .int .i64 d.told] 35 (0, 0))) :: (ImmI da d.data) :: (CacheA c cc) :: Γ = ΔΔ) (by kernel_rfl) ?_ ?_
  · rintro _ _ ⟨e0_18, H, rfl, rfl⟩
    rw [rnextS_j0] at H
    rcases Bool.eq_false_or_eq_true (e0_18) with h1 | h1
    · replace H := bifT H h1
      refine at_true (t := e0_18) (x := C30 [1,0,1,0]) (y := C30 [1,0,1,1]) (o := .tmp 18) (by kernel_rfl) (by kernel_rfl) (by kernel_rfl) h1 ?_
      refine at_seq (x := C30 [1,0,1,0,0]) (y := C30 [1,0,1,0,1]) (by kernel_rfl) ?_
      refine at_region (id := 2) 3 (by kernel_rfl) (by kernel_rfl) ?_
      refine s_pure 19 (.agg #[.int .i64 (0), .int .i64 (0), .int .i64 (0), .int .i64 (0), .int .i64 (0), .int .i64 (0), .slice none 0 0, .int .i64 (0), .int .i64 (0)]) (by kernel_rfl) (by kernel_rfl) (fun _ => by kernel_rfl) ?_
      refine s_do (by kernel_rfl) (by kernel_rfl) (st_store (off := 0) (vs := [.int .i64 (0), .int .i64 (0), .int .i64 (0), .int .i64 (0), .int .i64 (0), .int .i64 (0), .slice none 0 0, .int .i64 (0), .int .i64 (0)]) (c' := #[.int .i64 (0), .int .i64 (0), .int .i64 (0), .int .i64 (0), .int .i64 (0), .int .i64 (0), .slice none 0 0, .int .i64 (0), .int .i64 (0)]) (fun _ => by kernel_rfl) .here (by kernel_rfl) (by kernel_rfl) (by kernel_rfl)) ?_
      rintro _ _ ⟨rfl, rfl⟩
      refine s_pure 9 (.bool false) (by kernel_rfl) (by kernel_rfl) (fun _ => by kernel_rfl) ?_
      refine ops_end ?_
      refine At.env [(8, .pointer (some ⟨b0_2, 0, none⟩)), (9, .bool false)] ⟨by kernel_rfl, by kernel_rfl, trivial⟩ ?_
      refine at_then_normal ?_
      refine at_ret (by kernel_rfl) ?_
      refine at_then_ret ?_
      obtain rfl := someE H
      refine at_backR [.agg #[.int .i64 (0), .int .i64 (0), .int .i64 (0), .int .i64 (0), .int .i64 (0), .int .i64 (0), .slice none 0 0, .int .i64 (0), .int .i64 (0)], .bool false] ((ImmI none ([] : List Int)) :: (CacheA c cc) :: Γ) (rs := [.cell 8 35, .tmp 9]) (by kernel_rfl) (.cons (.cell (by kernel_rfl) (retN (off := 0) (vs := [.int .i64 (0), .int .i64 (0), .int .i64 (0), .int .i64 (0), .int .i64 (0), .int .i64 (0), .slice none 0 0, .int .i64 (0), .int .i64 (0)]) 9 (fun _ => by kernel_rfl) (holds_own .here) rfl (by exact ⟨rfl, rfl, rfl, rfl, rfl, rfl, rfl, rfl, rfl, trivial⟩))) (.cons (.tmp (by kernel_rfl)) .nil)) (fun w hw => (Sat.less (.take .here (.take (.there (.there (.there (.there .here)))) (.drop .here (.drop .here (.drop .here (.drop .here .refl)))))) (ImmR.nil_mk (k := 1) (a := none) hw))) ?_
      exact ⟨none, 0, rfl, rfl⟩
    · replace H := bifF H h1
      refine at_false (t := e0_18) (x := C30 [1,0,1,0]) (y := C30 [1,0,1,1]) (o := .tmp 18) (by kernel_rfl) (by kernel_rfl) (by kernel_rfl) h1 ?_
      refine at_skip (by kernel_rfl) ?_
      refine at_then_normal ?_
      refine at_seq (x := C30 [1,1,0]) (y := C30 [1,1,1]) (by kernel_rfl) ?_
      refine at_seq (x := C30 [1,1,0,0]) (y := C30 [1,1,0,1]) (by kernel_rfl) ?_
      refine at_region (id := 3) 2 (by kernel_rfl) (by kernel_rfl) ?_
      refine s_pure 20 (.pointer (some ⟨b0_0, 3, none⟩)) (by kernel_rfl) (by kernel_rfl) (fun _ => by kernel_rfl) ?_
      refine s_load 21 (.int .i64 d.step) (by kernel_rfl) (by kernel_rfl) (load1 (off := 3) (fun _ => by kernel_rfl) (holds_own (.there (.there .here))) (by kernel_rfl)) ?_
      refine ops_end ?_
      refine At.env [(2, .pointer (some ⟨c, 0, none⟩)), (4, .pointer (some ⟨b0_0, 0, none⟩)), (7, .pointer (some ⟨b0_1, 0, none⟩)), (8, .pointer (some ⟨b0_2, 0, none⟩)), (21, .int .i64 d.step)] ⟨by kernel_rfl, by kernel_rfl, by kernel_rfl, by kernel_rfl, by kernel_rfl, trivial⟩ ?_
      refine at_then_normal ?_
      refine at_block (i := 0) (x := C30 [1,1,0,1,0]) (by kernel_rfl) ?_
      refine at_seq (x := C30 [1,1,0,1,0,0]) (y := C30 [1,1,0,1,0,1]) (by kernel_rfl) ?_
      refine at_region (id := 4) 2 (by kernel_rfl) (by kernel_rfl) ?_
      refine s_pure 23 (.bool (decide (d.step = (1 : Int)))) (by kernel_rfl) (by kernel_rfl) (fun _ => by kernel_rfl) ?_
      refine s_pure 22 (.bool (decide (d.step = (1 : Int)))) (by kernel_rfl) (by kernel_rfl) (fun _ => by kernel_rfl) ?_
      refine ops_end ?_
      refine At.env [(2, .pointer (some ⟨c, 0, none⟩)), (4, .pointer (some ⟨b0_0, 0, none⟩)), (7, .pointer (some ⟨b0_1, 0, none⟩)), (8, .pointer (some ⟨b0_2, 0, none⟩)), (21, .int .i64 d.step), (22, .bool (decide (d.step = (1 : Int))))] ⟨by kernel_rfl, by kernel_rfl, by kernel_rfl, by kernel_rfl, by kernel_rfl, by kernel_rfl, trivial⟩ ?_
      refine at_then_normal ?_
      rcases Bool.eq_false_or_eq_true (decide (d.step = (1 : Int))) with h2 | h2
      · replace H := bifT H h2
        refine at_true (t := decide (d.step = (1 : Int))) (x := C30 [1,1,0,1,0,1,0]) (y := C30 [1,1,0,1,0,1,1]) (o := .tmp 22) (by kernel_rfl) (by kernel_rfl) (by kernel_rfl) h2 ?_
        refine at_seq (x := C30 [1,1,0,1,0,1,0,0]) (y := C30 [1,1,0,1,0,1,0,1]) (by kernel_rfl) ?_
        refine at_region (id := 5) 6 (by kernel_rfl) (by kernel_rfl) ?_
        refine s_load 24 (.agg #[.int .i64 d.kind, .int .i64 d.line, .int .i64 d.id, .int .i64 d.step, .int .i64 d.state, .int .i64 d.head, .slice da (List.length d.data) dcap, .int .i64 d.next, .int .i64 d.told]) (by kernel_rfl) (by kernel_rfl) (loadN (off := 0) (vs := [.int .i64 d.kind, .int .i64 d.line, .int .i64 d.id, .int .i64 d.step, .int .i64 d.state, .int .i64 d.head, .slice da (List.length d.data) dcap, .int .i64 d.next, .int .i64 d.told]) 9 (fun _ => by kernel_rfl) (holds_own (.there (.there .here))) rfl (by exact ⟨rfl, rfl, rfl, rfl, rfl, rfl, rfl, rfl, rfl, trivial⟩)) ?_
        refine s_pure 25 (.pointer (some ⟨c, 0, none⟩)) (by kernel_rfl) (by kernel_rfl) (fun _ => by kernel_rfl) ?_
        refine s_load 26 (.agg #[.int .i64 p.kind, .int .i64 p.src, .int .i64 p.dst, .int .i64 p.id, .int .i64 p.line, .int .i64 p.ptr, .int .i64 p.state, .bool p.flag, .slice pa (List.length p.data) pcap]) (by kernel_rfl) (by kernel_rfl) (loadN (off := 0) (vs := [.int .i64 p.kind, .int .i64 p.src, .int .i64 p.dst, .int .i64 p.id, .int .i64 p.line, .int .i64 p.ptr, .int .i64 p.state, .bool p.flag, .slice pa (List.length p.data) pcap]) 9 (fun _ => by kernel_rfl) (holds_own (.there .here)) rfl (by exact ⟨rfl, rfl, rfl, rfl, rfl, rfl, rfl, rfl, rfl, trivial⟩)) ?_
        obtain ⟨y5_3, hy5_3, H⟩ := bindE H
        refine s_call 27 50 #[.agg #[.int .i64 d.kind, .int .i64 d.line, .int .i64 d.id, .int .i64 d.step, .int .i64 d.state, .int .i64 d.head, .slice da (List.length d.data) dcap, .int .i64 d.next, .int .i64 d.told], .pointer (some ⟨c, 0, none⟩), .agg #[.int .i64 p.kind, .int .i64 p.src, .int .i64 p.dst, .int .i64 p.id, .int .i64 p.line, .int .i64 p.ptr, .int .i64 p.state, .bool p.flag, .slice pa (List.length p.data) pcap]] (by kernel_rfl) (by kernel_rfl) (fun _ => by kernel_rfl) (Tr.conv (Γ' := (ImmI da d.data) :: (CacheA c cc) :: (ImmI da d.data) :: (Asn.own b0_2 (.cells #[.int .i64 (0), .int .i64 (0), .int .i64 (0), .int .i64 (0), .int .i64 (0), .int .i64 (0), .slice none 0 0, .int .i64 (0), .int .i64 (0)] 35 (0, 0))) :: (Asn.own b0_1 (.cells #[.int .i64 p.kind, .int .i64 p.src, .int .i64 p.dst, .int .i64 p.id, .int .i64 p.line, .int .i64 p.ptr, .int .i64 p.state, .bool p.flag, .slice pa (List.length p.data) pcap] 40 (0, 0))) :: (Asn.own b0_0 (.cells #[.int .i64 d.kind, .int .i64 d.line, .int .i64 d.id, .int .i64 d.step, .int .i64 d.state, .int .i64 d.head, .slice da (List.length d.data) dcap, .int .i64 d.next, .int .i64 d.told] 35 (0, 0))) :: Γ) (fun w hw => (Sat.less (.take .here (.take (.there (.there (.there (.there .here)))) (.take .here (.take .here (.take .here (.take .here .refl)))))) (ImmR.dup (Sat.less (.take (.there (.there (.there .here))) (.take .here (.take .here (.take .here (.take .here .refl))))) hw)))) (RLockedF_tr da dcap d c cc pa pcap p (Reads.conv (fun w hw => hw.less (.drop .here (.drop .here (.drop .here (.drop .here .refl))))) hrpa) y5_3 hy5_3)) ?_
        rintro _ _ ⟨a5_3_00, c5_3_00, rfl, rfl⟩
        refine s_do (by kernel_rfl) (by kernel_rfl) (st_store (off := 0) (vs := [.int .i64 y5_3.1.kind, .int .i64 y5_3.1.line, .int .i64 y5_3.1.id, .int .i64 y5_3.1.step, .int .i64 y5_3.1.state, .int .i64 y5_3.1.head, .slice a5_3_00 (List.length y5_3.1.data) c5_3_00, .int .i64 y5_3.1.next, .int .i64 y5_3.1.told]) (c' := #[.int .i64 y5_3.1.kind, .int .i64 y5_3.1.line, .int .i64 y5_3.1.id, .int .i64 y5_3.1.step, .int .i64 y5_3.1.state, .int .i64 y5_3.1.head, .slice a5_3_00 (List.length y5_3.1.data) c5_3_00, .int .i64 y5_3.1.next, .int .i64 y5_3.1.told]) (fun _ => by kernel_rfl) (.there (.there (.there .here))) (by kernel_rfl) (by kernel_rfl) (by kernel_rfl)) ?_
        rintro _ _ ⟨rfl, rfl⟩
        refine s_pure 9 (.bool true) (by kernel_rfl) (by kernel_rfl) (fun _ => by kernel_rfl) ?_
        refine ops_end ?_
        refine At.env [(8, .pointer (some ⟨b0_2, 0, none⟩)), (9, .bool true)] ⟨by kernel_rfl, by kernel_rfl, trivial⟩ ?_
        refine at_then_normal ?_
        refine at_ret (by kernel_rfl) ?_
        refine at_in_ret ?_
        refine at_then_ret ?_
        obtain rfl := someE H
        refine at_backR [.agg #[.int .i64 y5_3.1.kind, .int .i64 y5_3.1.line, .int .i64 y5_3.1.id, .int .i64 y5_3.1.step, .int .i64 y5_3.1.state, .int .i64 y5_3.1.head, .slice a5_3_00 (List.length y5_3.1.data) c5_3_00, .int .i64 y5_3.1.next, .int .i64 y5_3.1.told], .bool true] ((ImmI a5_3_00 y5_3.1.data) :: (CacheA c y5_3.2) :: Γ) (rs := [.cell 8 35, .tmp 9]) (by kernel_rfl) (.cons (.cell (by kernel_rfl) (retN (off := 0) (vs := [.int .i64 y5_3.1.kind, .int .i64 y5_3.1.line, .int .i64 y5_3.1.id, .int .i64 y5_3.1.step, .int .i64 y5_3.1.state, .int .i64 y5_3.1.head, .slice a5_3_00 (List.length y5_3.1.data) c5_3_00, .int .i64 y5_3.1.next, .int .i64 y5_3.1.told]) 9 (fun _ => by kernel_rfl) (holds_own .here) rfl (by exact ⟨rfl, rfl, rfl, rfl, rfl, rfl, rfl, rfl, rfl, trivial⟩))) (.cons (.tmp (by kernel_rfl)) .nil)) (fun w hw => (Sat.less (.take (.there .here) (.take (.there .here) (.drop .here (.drop .here (.drop .here (.drop .here .refl)))))) hw)) ?_
        exact ⟨a5_3_00, c5_3_00, rfl, rfl⟩
      · replace H := bifF H h2
        refine at_false (t := decide (d.step = (1 : Int))) (x := C30 [1,1,0,1,0,1,0]) (y := C30 [1,1,0,1,0,1,1]) (o := .tmp 22) (by kernel_rfl) (by kernel_rfl) (by kernel_rfl) h2 ?_
        refine at_seq (x := C30 [1,1,0,1,0,1,1,0]) (y := C30 [1,1,0,1,0,1,1,1]) (by kernel_rfl) ?_
        refine at_region (id := 6) 2 (by kernel_rfl) (by kernel_rfl) ?_
        refine s_pure 29 (.bool (decide (d.step = (4 : Int)))) (by kernel_rfl) (by kernel_rfl) (fun _ => by kernel_rfl) ?_
        refine s_pure 28 (.bool (decide (d.step = (4 : Int)))) (by kernel_rfl) (by kernel_rfl) (fun _ => by kernel_rfl) ?_
        refine ops_end ?_
        refine At.env [(2, .pointer (some ⟨c, 0, none⟩)), (4, .pointer (some ⟨b0_0, 0, none⟩)), (8, .pointer (some ⟨b0_2, 0, none⟩)), (21, .int .i64 d.step), (28, .bool (decide (d.step = (4 : Int))))] ⟨by kernel_rfl, by kernel_rfl, by kernel_rfl, by kernel_rfl, by kernel_rfl, trivial⟩ ?_
        refine at_then_normal ?_
        rcases Bool.eq_false_or_eq_true (decide (d.step = (4 : Int))) with h3 | h3
        · replace H := bifT H h3
          refine at_true (t := decide (d.step = (4 : Int))) (x := C30 [1,1,0,1,0,1,1,1,0]) (y := C30 [1,1,0,1,0,1,1,1,1]) (o := .tmp 28) (by kernel_rfl) (by kernel_rfl) (by kernel_rfl) h3 ?_
          refine at_seq (x := C30 [1,1,0,1,0,1,1,1,0,0]) (y := C30 [1,1,0,1,0,1,1,1,0,1]) (by kernel_rfl) ?_
          refine at_seq (x := C30 [1,1,0,1,0,1,1,1,0,0,0]) (y := C30 [1,1,0,1,0,1,1,1,0,0,1]) (by kernel_rfl) ?_
          refine at_region (id := 7) 3 (by kernel_rfl) (by kernel_rfl) ?_
          refine s_pure 30 (.pointer (some ⟨b0_0, 7, none⟩)) (by kernel_rfl) (by kernel_rfl) (fun _ => by kernel_rfl) ?_
          refine s_load 31 (.int .i64 d.next) (by kernel_rfl) (by kernel_rfl) (load1 (off := 7) (fun _ => by kernel_rfl) (holds_own (.there (.there .here))) (by kernel_rfl)) ?_
          refine s_pure 32 (.bool (decide (d.next = ((-1) : Int)))) (by kernel_rfl) (by kernel_rfl) (fun _ => by kernel_rfl) ?_
          refine ops_end ?_
          refine At.env [(2, .pointer (some ⟨c, 0, none⟩)), (4, .pointer (some ⟨b0_0, 0, none⟩)), (8, .pointer (some ⟨b0_2, 0, none⟩)), (32, .bool (decide (d.next = ((-1) : Int))))] ⟨by kernel_rfl, by kernel_rfl, by kernel_rfl, by kernel_rfl, trivial⟩ ?_
          refine at_then_normal ?_
          rcases Bool.eq_false_or_eq_true (decide (d.next = ((-1) : Int))) with h4 | h4
          · replace H := bifT H h4
            refine at_true (t := decide (d.next = ((-1) : Int))) (x := C30 [1,1,0,1,0,1,1,1,0,0,1,0]) (y := C30 [1,1,0,1,0,1,1,1,0,0,1,1]) (o := .tmp 32) (by kernel_rfl) (by kernel_rfl) (by kernel_rfl) h4 ?_
            refine at_seq (x := C30 [1,1,0,1,0,1,1,1,0,0,1,0,0]) (y := C30 [1,1,0,1,0,1,1,1,0,0,1,0,1]) (by kernel_rfl) ?_
            refine at_region (id := 8) 7 (by kernel_rfl) (by kernel_rfl) ?_
            refine s_load 33 (.agg #[.int .i64 d.kind, .int .i64 d.line, .int .i64 d.id, .int .i64 d.step, .int .i64 d.state, .int .i64 d.head, .slice da (List.length d.data) dcap, .int .i64 d.next, .int .i64 d.told]) (by kernel_rfl) (by kernel_rfl) (loadN (off := 0) (vs := [.int .i64 d.kind, .int .i64 d.line, .int .i64 d.id, .int .i64 d.step, .int .i64 d.state, .int .i64 d.head, .slice da (List.length d.data) dcap, .int .i64 d.next, .int .i64 d.told]) 9 (fun _ => by kernel_rfl) (holds_own (.there (.there .here))) rfl (by exact ⟨rfl, rfl, rfl, rfl, rfl, rfl, rfl, rfl, rfl, trivial⟩)) ?_
            refine s_pure 34 (.pointer (some ⟨c, 0, none⟩)) (by kernel_rfl) (by kernel_rfl) (fun _ => by kernel_rfl) ?_
            refine s_pure 35 (.pointer (some ⟨b0_0, 8, none⟩)) (by kernel_rfl) (by kernel_rfl) (fun _ => by kernel_rfl) ?_
            refine s_load 36 (.int .i64 d.told) (by kernel_rfl) (by kernel_rfl) (load1 (off := 8) (fun _ => by kernel_rfl) (holds_own (.there (.there .here))) (by kernel_rfl)) ?_
            obtain ⟨y8_4, hy8_4, H⟩ := bindE H
            refine s_call 37 51 #[.agg #[.int .i64 d.kind, .int .i64 d.line, .int .i64 d.id, .int .i64 d.step, .int .i64 d.state, .int .i64 d.head, .slice da (List.length d.data) dcap, .int .i64 d.next, .int .i64 d.told], .pointer (some ⟨c, 0, none⟩), .int .i64 d.told] (by kernel_rfl) (by kernel_rfl) (fun _ => by kernel_rfl) (Tr.conv (Γ' := (ImmI da d.data) :: (CacheA c cc) :: (ImmI da d.data) :: (Asn.own b0_2 (.cells #[.int .i64 (0), .int .i64 (0), .int .i64 (0), .int .i64 (0), .int .i64 (0), .int .i64 (0), .slice none 0 0, .int .i64 (0), .int .i64 (0)] 35 (0, 0))) :: (Asn.own b0_1 (.cells #[.int .i64 p.kind, .int .i64 p.src, .int .i64 p.dst, .int .i64 p.id, .int .i64 p.line, .int .i64 p.ptr, .int .i64 p.state, .bool p.flag, .slice pa (List.length p.data) pcap] 40 (0, 0))) :: (Asn.own b0_0 (.cells #[.int .i64 d.kind, .int .i64 d.line, .int .i64 d.id, .int .i64 d.step, .int .i64 d.state, .int .i64 d.head, .slice da (List.length d.data) dcap, .int .i64 d.next, .int .i64 d.told] 35 (0, 0))) :: Γ) (fun w hw => (Sat.less (.take .here (.take (.there (.there (.there (.there .here)))) (.take .here (.take .here (.take .here (.take .here .refl)))))) (ImmR.dup (Sat.less (.take (.there (.there (.there .here))) (.take .here (.take .here (.take .here (.take .here .refl))))) hw)))) (ROutF_tr da dcap d c cc d.told y8_4 hy8_4)) ?_
            rintro _ _ ⟨a8_4_00, c8_4_00, rfl, rfl⟩
            refine s_do (by kernel_rfl) (by kernel_rfl) (st_store (off := 0) (vs := [.int .i64 y8_4.1.kind, .int .i64 y8_4.1.line, .int .i64 y8_4.1.id, .int .i64 y8_4.1.step, .int .i64 y8_4.1.state, .int .i64 y8_4.1.head, .slice a8_4_00 (List.length y8_4.1.data) c8_4_00, .int .i64 y8_4.1.next, .int .i64 y8_4.1.told]) (c' := #[.int .i64 y8_4.1.kind, .int .i64 y8_4.1.line, .int .i64 y8_4.1.id, .int .i64 y8_4.1.step, .int .i64 y8_4.1.state, .int .i64 y8_4.1.head, .slice a8_4_00 (List.length y8_4.1.data) c8_4_00, .int .i64 y8_4.1.next, .int .i64 y8_4.1.told]) (fun _ => by kernel_rfl) (.there (.there (.there .here))) (by kernel_rfl) (by kernel_rfl) (by kernel_rfl)) ?_
            rintro _ _ ⟨rfl, rfl⟩
            refine s_pure 9 (.bool true) (by kernel_rfl) (by kernel_rfl) (fun _ => by kernel_rfl) ?_
            refine ops_end ?_
            refine At.env [(8, .pointer (some ⟨b0_2, 0, none⟩)), (9, .bool true)] ⟨by kernel_rfl, by kernel_rfl, trivial⟩ ?_
            refine at_then_normal ?_
            refine at_ret (by kernel_rfl) ?_
            refine at_then_ret ?_
            refine at_in_ret ?_
            refine at_then_ret ?_
            obtain rfl := someE H
            refine at_backR [.agg #[.int .i64 y8_4.1.kind, .int .i64 y8_4.1.line, .int .i64 y8_4.1.id, .int .i64 y8_4.1.step, .int .i64 y8_4.1.state, .int .i64 y8_4.1.head, .slice a8_4_00 (List.length y8_4.1.data) c8_4_00, .int .i64 y8_4.1.next, .int .i64 y8_4.1.told], .bool true] ((ImmI a8_4_00 y8_4.1.data) :: (CacheA c y8_4.2) :: Γ) (rs := [.cell 8 35, .tmp 9]) (by kernel_rfl) (.cons (.cell (by kernel_rfl) (retN (off := 0) (vs := [.int .i64 y8_4.1.kind, .int .i64 y8_4.1.line, .int .i64 y8_4.1.id, .int .i64 y8_4.1.step, .int .i64 y8_4.1.state, .int .i64 y8_4.1.head, .slice a8_4_00 (List.length y8_4.1.data) c8_4_00, .int .i64 y8_4.1.next, .int .i64 y8_4.1.told]) 9 (fun _ => by kernel_rfl) (holds_own .here) rfl (by exact ⟨rfl, rfl, rfl, rfl, rfl, rfl, rfl, rfl, rfl, trivial⟩))) (.cons (.tmp (by kernel_rfl)) .nil)) (fun w hw => (Sat.less (.take (.there .here) (.take (.there .here) (.drop .here (.drop .here (.drop .here (.drop .here .refl)))))) hw)) ?_
            exact ⟨a8_4_00, c8_4_00, rfl, rfl⟩
          · replace H := bifF H h4
            refine at_false (t := decide (d.next = ((-1) : Int))) (x := C30 [1,1,0,1,0,1,1,1,0,0,1,0]) (y := C30 [1,1,0,1,0,1,1,1,0,0,1,1]) (o := .tmp 32) (by kernel_rfl) (by kernel_rfl) (by kernel_rfl) h4 ?_
            refine at_skip (by kernel_rfl) ?_
            refine at_then_normal ?_
            refine at_seq (x := C30 [1,1,0,1,0,1,1,1,0,1,0]) (y := C30 [1,1,0,1,0,1,1,1,0,1,1]) (by kernel_rfl) ?_
            refine at_region (id := 9) 2 (by kernel_rfl) (by kernel_rfl) ?_
            refine s_pure 38 (.pointer (some ⟨b0_0, 3, none⟩)) (by kernel_rfl) (by kernel_rfl) (fun _ => by kernel_rfl) ?_
            refine s_do (by kernel_rfl) (by kernel_rfl) (st_store (off := 3) (vs := [.int .i64 (5)]) (c' := #[.int .i64 d.kind, .int .i64 d.line, .int .i64 d.id, .int .i64 (5), .int .i64 d.state, .int .i64 d.head, .slice da (List.length d.data) dcap, .int .i64 d.next, .int .i64 d.told]) (fun _ => by kernel_rfl) (.there (.there .here)) (by kernel_rfl) (by kernel_rfl) (by kernel_rfl)) ?_
            rintro _ _ ⟨rfl, rfl⟩
            refine ops_end ?_
            refine At.env [(4, .pointer (some ⟨b0_0, 0, none⟩)), (8, .pointer (some ⟨b0_2, 0, none⟩))] ⟨by kernel_rfl, by kernel_rfl, trivial⟩ ?_
            refine at_then_normal ?_
            refine at_seq (x := C30 [1,1,0,1,0,1,1,1,0,1,1,0]) (y := C30 [1,1,0,1,0,1,1,1,0,1,1,1]) (by kernel_rfl) ?_
            refine at_region (id := 10) 3 (by kernel_rfl) (by kernel_rfl) ?_
            refine s_load 39 (.agg #[.int .i64 d.kind, .int .i64 d.line, .int .i64 d.id, .int .i64 (5), .int .i64 d.state, .int .i64 d.head, .slice da (List.length d.data) dcap, .int .i64 d.next, .int .i64 d.told]) (by kernel_rfl) (by kernel_rfl) (loadN (off := 0) (vs := [.int .i64 d.kind, .int .i64 d.line, .int .i64 d.id, .int .i64 (5), .int .i64 d.state, .int .i64 d.head, .slice da (List.length d.data) dcap, .int .i64 d.next, .int .i64 d.told]) 9 (fun _ => by kernel_rfl) (holds_own .here) rfl (by exact ⟨rfl, rfl, rfl, rfl, rfl, rfl, rfl, rfl, rfl, trivial⟩)) ?_
            refine s_do (by kernel_rfl) (by kernel_rfl) (st_store (off := 0) (vs := [.int .i64 d.kind, .int .i64 d.line, .int .i64 d.id, .int .i64 (5), .int .i64 d.state, .int .i64 d.head, .slice da (List.length d.data) dcap, .int .i64 d.next, .int .i64 d.told]) (c' := #[.int .i64 d.kind, .int .i64 d.line, .int .i64 d.id, .int .i64 (5), .int .i64 d.state, .int .i64 d.head, .slice da (List.length d.data) dcap, .int .i64 d.next, .int .i64 d.told]) (fun _ => by kernel_rfl) (.there .here) (by kernel_rfl) (by kernel_rfl) (by kernel_rfl)) ?_
            rintro _ _ ⟨rfl, rfl⟩
            refine s_pure 9 (.bool true) (by kernel_rfl) (by kernel_rfl) (fun _ => by kernel_rfl) ?_
            refine ops_end ?_
            refine At.env [(8, .pointer (some ⟨b0_2, 0, none⟩)), (9, .bool true)] ⟨by kernel_rfl, by kernel_rfl, trivial⟩ ?_
            refine at_then_normal ?_
            refine at_ret (by kernel_rfl) ?_
            refine at_in_ret ?_
            refine at_then_ret ?_
            obtain rfl := someE H
            refine at_backR [.agg #[.int .i64 d.kind, .int .i64 d.line, .int .i64 d.id, .int .i64 (5), .int .i64 d.state, .int .i64 d.head, .slice da (List.length d.data) dcap, .int .i64 d.next, .int .i64 d.told], .bool true] ((ImmI da d.data) :: (CacheA c cc) :: Γ) (rs := [.cell 8 35, .tmp 9]) (by kernel_rfl) (.cons (.cell (by kernel_rfl) (retN (off := 0) (vs := [.int .i64 d.kind, .int .i64 d.line, .int .i64 d.id, .int .i64 (5), .int .i64 d.state, .int .i64 d.head, .slice da (List.length d.data) dcap, .int .i64 d.next, .int .i64 d.told]) 9 (fun _ => by kernel_rfl) (holds_own .here) rfl (by exact ⟨rfl, rfl, rfl, rfl, rfl, rfl, rfl, rfl, rfl, trivial⟩))) (.cons (.tmp (by kernel_rfl)) .nil)) (fun w hw => (Sat.less (.take (.there (.there (.there .here))) (.take (.there (.there (.there .here))) (.drop .here (.drop .here (.drop .here .refl))))) hw)) ?_
            exact ⟨da, dcap, rfl, rfl⟩
        · replace H := bifF H h3
          refine at_false (t := decide (d.step = (4 : Int))) (x := C30 [1,1,0,1,0,1,1,1,0]) (y := C30 [1,1,0,1,0,1,1,1,1]) (o := .tmp 28) (by kernel_rfl) (by kernel_rfl) (by kernel_rfl) h3 ?_
          refine at_seq (x := C30 [1,1,0,1,0,1,1,1,1,0]) (y := C30 [1,1,0,1,0,1,1,1,1,1]) (by kernel_rfl) ?_
          refine at_region (id := 11) 2 (by kernel_rfl) (by kernel_rfl) ?_
          refine s_pure 41 (.bool (decide (d.step = (5 : Int)))) (by kernel_rfl) (by kernel_rfl) (fun _ => by kernel_rfl) ?_
          refine s_pure 40 (.bool (decide (d.step = (5 : Int)))) (by kernel_rfl) (by kernel_rfl) (fun _ => by kernel_rfl) ?_
          refine ops_end ?_
          refine At.env [(2, .pointer (some ⟨c, 0, none⟩)), (4, .pointer (some ⟨b0_0, 0, none⟩)), (8, .pointer (some ⟨b0_2, 0, none⟩)), (21, .int .i64 d.step), (40, .bool (decide (d.step = (5 : Int))))] ⟨by kernel_rfl, by kernel_rfl, by kernel_rfl, by kernel_rfl, by kernel_rfl, trivial⟩ ?_
          refine at_then_normal ?_
          rcases Bool.eq_false_or_eq_true (decide (d.step = (5 : Int))) with h5 | h5
          · replace H := bifT H h5
            refine at_true (t := decide (d.step = (5 : Int))) (x := C30 [1,1,0,1,0,1,1,1,1,1,0]) (y := C30 [1,1,0,1,0,1,1,1,1,1,1]) (o := .tmp 40) (by kernel_rfl) (by kernel_rfl) (by kernel_rfl) h5 ?_
            refine at_seq (x := C30 [1,1,0,1,0,1,1,1,1,1,0,0]) (y := C30 [1,1,0,1,0,1,1,1,1,1,0,1]) (by kernel_rfl) ?_
            refine at_seq (x := C30 [1,1,0,1,0,1,1,1,1,1,0,0,0]) (y := C30 [1,1,0,1,0,1,1,1,1,1,0,0,1]) (by kernel_rfl) ?_
            refine at_region (id := 12) 3 (by kernel_rfl) (by kernel_rfl) ?_
            refine s_pure 42 (.pointer (some ⟨b0_0, 5, none⟩)) (by kernel_rfl) (by kernel_rfl) (fun _ => by kernel_rfl) ?_
            refine s_load 43 (.int .i64 d.head) (by kernel_rfl) (by kernel_rfl) (load1 (off := 5) (fun _ => by kernel_rfl) (holds_own (.there (.there .here))) (by kernel_rfl)) ?_
            refine s_pure 44 (.bool (decide (d.head = ((-1) : Int)))) (by kernel_rfl) (by kernel_rfl) (fun _ => by kernel_rfl) ?_
            refine ops_end ?_
            refine At.env [(2, .pointer (some ⟨c, 0, none⟩)), (4, .pointer (some ⟨b0_0, 0, none⟩)), (8, .pointer (some ⟨b0_2, 0, none⟩)), (44, .bool (decide (d.head = ((-1) : Int))))] ⟨by kernel_rfl, by kernel_rfl, by kernel_rfl, by kernel_rfl, trivial⟩ ?_
            refine at_then_normal ?_
            rcases Bool.eq_false_or_eq_true (decide (d.head = ((-1) : Int))) with h6 | h6
            · replace H := bifT H h6
              refine at_true (t := decide (d.head = ((-1) : Int))) (x := C30 [1,1,0,1,0,1,1,1,1,1,0,0,1,0]) (y := C30 [1,1,0,1,0,1,1,1,1,1,0,0,1,1]) (o := .tmp 44) (by kernel_rfl) (by kernel_rfl) (by kernel_rfl) h6 ?_
              refine at_seq (x := C30 [1,1,0,1,0,1,1,1,1,1,0,0,1,0,0]) (y := C30 [1,1,0,1,0,1,1,1,1,1,0,0,1,0,1]) (by kernel_rfl) ?_
              refine at_region (id := 13) 7 (by kernel_rfl) (by kernel_rfl) ?_
              refine s_load 45 (.agg #[.int .i64 d.kind, .int .i64 d.line, .int .i64 d.id, .int .i64 d.step, .int .i64 d.state, .int .i64 d.head, .slice da (List.length d.data) dcap, .int .i64 d.next, .int .i64 d.told]) (by kernel_rfl) (by kernel_rfl) (loadN (off := 0) (vs := [.int .i64 d.kind, .int .i64 d.line, .int .i64 d.id, .int .i64 d.step, .int .i64 d.state, .int .i64 d.head, .slice da (List.length d.data) dcap, .int .i64 d.next, .int .i64 d.told]) 9 (fun _ => by kernel_rfl) (holds_own (.there (.there .here))) rfl (by exact ⟨rfl, rfl, rfl, rfl, rfl, rfl, rfl, rfl, rfl, trivial⟩)) ?_
              refine s_pure 46 (.pointer (some ⟨c, 0, none⟩)) (by kernel_rfl) (by kernel_rfl) (fun _ => by kernel_rfl) ?_
              refine s_pure 47 (.pointer (some ⟨b0_0, 7, none⟩)) (by kernel_rfl) (by kernel_rfl) (fun _ => by kernel_rfl) ?_
              refine s_load 48 (.int .i64 d.next) (by kernel_rfl) (by kernel_rfl) (load1 (off := 7) (fun _ => by kernel_rfl) (holds_own (.there (.there .here))) (by kernel_rfl)) ?_
              obtain ⟨y13_4, hy13_4, H⟩ := bindE H
              refine s_call 49 51 #[.agg #[.int .i64 d.kind, .int .i64 d.line, .int .i64 d.id, .int .i64 d.step, .int .i64 d.state, .int .i64 d.head, .slice da (List.length d.data) dcap, .int .i64 d.next, .int .i64 d.told], .pointer (some ⟨c, 0, none⟩), .int .i64 d.next] (by kernel_rfl) (by kernel_rfl) (fun _ => by kernel_rfl) (Tr.conv (Γ' := (ImmI da d.data) :: (CacheA c cc) :: (ImmI da d.data) :: (Asn.own b0_2 (.cells #[.int .i64 (0), .int .i64 (0), .int .i64 (0), .int .i64 (0), .int .i64 (0), .int .i64 (0), .slice none 0 0, .int .i64 (0), .int .i64 (0)] 35 (0, 0))) :: (Asn.own b0_1 (.cells #[.int .i64 p.kind, .int .i64 p.src, .int .i64 p.dst, .int .i64 p.id, .int .i64 p.line, .int .i64 p.ptr, .int .i64 p.state, .bool p.flag, .slice pa (List.length p.data) pcap] 40 (0, 0))) :: (Asn.own b0_0 (.cells #[.int .i64 d.kind, .int .i64 d.line, .int .i64 d.id, .int .i64 d.step, .int .i64 d.state, .int .i64 d.head, .slice da (List.length d.data) dcap, .int .i64 d.next, .int .i64 d.told] 35 (0, 0))) :: Γ) (fun w hw => (Sat.less (.take .here (.take (.there (.there (.there (.there .here)))) (.take .here (.take .here (.take .here (.take .here .refl)))))) (ImmR.dup (Sat.less (.take (.there (.there (.there .here))) (.take .here (.take .here (.take .here (.take .here .refl))))) hw)))) (ROutF_tr da dcap d c cc d.next y13_4 hy13_4)) ?_
              rintro _ _ ⟨a13_4_00, c13_4_00, rfl, rfl⟩
              refine s_do (by kernel_rfl) (by kernel_rfl) (st_store (off := 0) (vs := [.int .i64 y13_4.1.kind, .int .i64 y13_4.1.line, .int .i64 y13_4.1.id, .int .i64 y13_4.1.step, .int .i64 y13_4.1.state, .int .i64 y13_4.1.head, .slice a13_4_00 (List.length y13_4.1.data) c13_4_00, .int .i64 y13_4.1.next, .int .i64 y13_4.1.told]) (c' := #[.int .i64 y13_4.1.kind, .int .i64 y13_4.1.line, .int .i64 y13_4.1.id, .int .i64 y13_4.1.step, .int .i64 y13_4.1.state, .int .i64 y13_4.1.head, .slice a13_4_00 (List.length y13_4.1.data) c13_4_00, .int .i64 y13_4.1.next, .int .i64 y13_4.1.told]) (fun _ => by kernel_rfl) (.there (.there (.there .here))) (by kernel_rfl) (by kernel_rfl) (by kernel_rfl)) ?_
              rintro _ _ ⟨rfl, rfl⟩
              refine s_pure 9 (.bool true) (by kernel_rfl) (by kernel_rfl) (fun _ => by kernel_rfl) ?_
              refine ops_end ?_
              refine At.env [(8, .pointer (some ⟨b0_2, 0, none⟩)), (9, .bool true)] ⟨by kernel_rfl, by kernel_rfl, trivial⟩ ?_
              refine at_then_normal ?_
              refine at_ret (by kernel_rfl) ?_
              refine at_then_ret ?_
              refine at_in_ret ?_
              refine at_then_ret ?_
              obtain rfl := someE H
              refine at_backR [.agg #[.int .i64 y13_4.1.kind, .int .i64 y13_4.1.line, .int .i64 y13_4.1.id, .int .i64 y13_4.1.step, .int .i64 y13_4.1.state, .int .i64 y13_4.1.head, .slice a13_4_00 (List.length y13_4.1.data) c13_4_00, .int .i64 y13_4.1.next, .int .i64 y13_4.1.told], .bool true] ((ImmI a13_4_00 y13_4.1.data) :: (CacheA c y13_4.2) :: Γ) (rs := [.cell 8 35, .tmp 9]) (by kernel_rfl) (.cons (.cell (by kernel_rfl) (retN (off := 0) (vs := [.int .i64 y13_4.1.kind, .int .i64 y13_4.1.line, .int .i64 y13_4.1.id, .int .i64 y13_4.1.step, .int .i64 y13_4.1.state, .int .i64 y13_4.1.head, .slice a13_4_00 (List.length y13_4.1.data) c13_4_00, .int .i64 y13_4.1.next, .int .i64 y13_4.1.told]) 9 (fun _ => by kernel_rfl) (holds_own .here) rfl (by exact ⟨rfl, rfl, rfl, rfl, rfl, rfl, rfl, rfl, rfl, trivial⟩))) (.cons (.tmp (by kernel_rfl)) .nil)) (fun w hw => (Sat.less (.take (.there .here) (.take (.there .here) (.drop .here (.drop .here (.drop .here (.drop .here .refl)))))) hw)) ?_
              exact ⟨a13_4_00, c13_4_00, rfl, rfl⟩
            · replace H := bifF H h6
              refine at_false (t := decide (d.head = ((-1) : Int))) (x := C30 [1,1,0,1,0,1,1,1,1,1,0,0,1,0]) (y := C30 [1,1,0,1,0,1,1,1,1,1,0,0,1,1]) (o := .tmp 44) (by kernel_rfl) (by kernel_rfl) (by kernel_rfl) h6 ?_
              refine at_skip (by kernel_rfl) ?_
              refine at_then_normal ?_
              refine at_seq (x := C30 [1,1,0,1,0,1,1,1,1,1,0,1,0]) (y := C30 [1,1,0,1,0,1,1,1,1,1,0,1,1]) (by kernel_rfl) ?_
              refine at_region (id := 14) 7 (by kernel_rfl) (by kernel_rfl) ?_
              refine s_load 50 (.agg #[.int .i64 d.kind, .int .i64 d.line, .int .i64 d.id, .int .i64 d.step, .int .i64 d.state, .int .i64 d.head, .slice da (List.length d.data) dcap, .int .i64 d.next, .int .i64 d.told]) (by kernel_rfl) (by kernel_rfl) (loadN (off := 0) (vs := [.int .i64 d.kind, .int .i64 d.line, .int .i64 d.id, .int .i64 d.step, .int .i64 d.state, .int .i64 d.head, .slice da (List.length d.data) dcap, .int .i64 d.next, .int .i64 d.told]) 9 (fun _ => by kernel_rfl) (holds_own (.there (.there .here))) rfl (by exact ⟨rfl, rfl, rfl, rfl, rfl, rfl, rfl, rfl, rfl, trivial⟩)) ?_
              refine s_pure 51 (.pointer (some ⟨c, 0, none⟩)) (by kernel_rfl) (by kernel_rfl) (fun _ => by kernel_rfl) ?_
              refine s_pure 52 (.pointer (some ⟨b0_0, 8, none⟩)) (by kernel_rfl) (by kernel_rfl) (fun _ => by kernel_rfl) ?_
              refine s_load 53 (.int .i64 d.told) (by kernel_rfl) (by kernel_rfl) (load1 (off := 8) (fun _ => by kernel_rfl) (holds_own (.there (.there .here))) (by kernel_rfl)) ?_
              obtain ⟨y14_4, hy14_4, H⟩ := bindE H
              refine s_call 54 51 #[.agg #[.int .i64 d.kind, .int .i64 d.line, .int .i64 d.id, .int .i64 d.step, .int .i64 d.state, .int .i64 d.head, .slice da (List.length d.data) dcap, .int .i64 d.next, .int .i64 d.told], .pointer (some ⟨c, 0, none⟩), .int .i64 d.told] (by kernel_rfl) (by kernel_rfl) (fun _ => by kernel_rfl) (Tr.conv (Γ' := (ImmI da d.data) :: (CacheA c cc) :: (ImmI da d.data) :: (Asn.own b0_2 (.cells #[.int .i64 (0), .int .i64 (0), .int .i64 (0), .int .i64 (0), .int .i64 (0), .int .i64 (0), .slice none 0 0, .int .i64 (0), .int .i64 (0)] 35 (0, 0))) :: (Asn.own b0_1 (.cells #[.int .i64 p.kind, .int .i64 p.src, .int .i64 p.dst, .int .i64 p.id, .int .i64 p.line, .int .i64 p.ptr, .int .i64 p.state, .bool p.flag, .slice pa (List.length p.data) pcap] 40 (0, 0))) :: (Asn.own b0_0 (.cells #[.int .i64 d.kind, .int .i64 d.line, .int .i64 d.id, .int .i64 d.step, .int .i64 d.state, .int .i64 d.head, .slice da (List.length d.data) dcap, .int .i64 d.next, .int .i64 d.told] 35 (0, 0))) :: Γ) (fun w hw => (Sat.less (.take .here (.take (.there (.there (.there (.there .here)))) (.take .here (.take .here (.take .here (.take .here .refl)))))) (ImmR.dup (Sat.less (.take (.there (.there (.there .here))) (.take .here (.take .here (.take .here (.take .here .refl))))) hw)))) (ROutF_tr da dcap d c cc d.told y14_4 hy14_4)) ?_
              rintro _ _ ⟨a14_4_00, c14_4_00, rfl, rfl⟩
              refine s_do (by kernel_rfl) (by kernel_rfl) (st_store (off := 0) (vs := [.int .i64 y14_4.1.kind, .int .i64 y14_4.1.line, .int .i64 y14_4.1.id, .int .i64 y14_4.1.step, .int .i64 y14_4.1.state, .int .i64 y14_4.1.head, .slice a14_4_00 (List.length y14_4.1.data) c14_4_00, .int .i64 y14_4.1.next, .int .i64 y14_4.1.told]) (c' := #[.int .i64 y14_4.1.kind, .int .i64 y14_4.1.line, .int .i64 y14_4.1.id, .int .i64 y14_4.1.step, .int .i64 y14_4.1.state, .int .i64 y14_4.1.head, .slice a14_4_00 (List.length y14_4.1.data) c14_4_00, .int .i64 y14_4.1.next, .int .i64 y14_4.1.told]) (fun _ => by kernel_rfl) (.there (.there (.there .here))) (by kernel_rfl) (by kernel_rfl) (by kernel_rfl)) ?_
              rintro _ _ ⟨rfl, rfl⟩
              refine s_pure 9 (.bool true) (by kernel_rfl) (by kernel_rfl) (fun _ => by kernel_rfl) ?_
              refine ops_end ?_
              refine At.env [(8, .pointer (some ⟨b0_2, 0, none⟩)), (9, .bool true)] ⟨by kernel_rfl, by kernel_rfl, trivial⟩ ?_
              refine at_then_normal ?_
              refine at_ret (by kernel_rfl) ?_
              refine at_in_ret ?_
              refine at_then_ret ?_
              obtain rfl := someE H
              refine at_backR [.agg #[.int .i64 y14_4.1.kind, .int .i64 y14_4.1.line, .int .i64 y14_4.1.id, .int .i64 y14_4.1.step, .int .i64 y14_4.1.state, .int .i64 y14_4.1.head, .slice a14_4_00 (List.length y14_4.1.data) c14_4_00, .int .i64 y14_4.1.next, .int .i64 y14_4.1.told], .bool true] ((ImmI a14_4_00 y14_4.1.data) :: (CacheA c y14_4.2) :: Γ) (rs := [.cell 8 35, .tmp 9]) (by kernel_rfl) (.cons (.cell (by kernel_rfl) (retN (off := 0) (vs := [.int .i64 y14_4.1.kind, .int .i64 y14_4.1.line, .int .i64 y14_4.1.id, .int .i64 y14_4.1.step, .int .i64 y14_4.1.state, .int .i64 y14_4.1.head, .slice a14_4_00 (List.length y14_4.1.data) c14_4_00, .int .i64 y14_4.1.next, .int .i64 y14_4.1.told]) 9 (fun _ => by kernel_rfl) (holds_own .here) rfl (by exact ⟨rfl, rfl, rfl, rfl, rfl, rfl, rfl, rfl, rfl, trivial⟩))) (.cons (.tmp (by kernel_rfl)) .nil)) (fun w hw => (Sat.less (.take (.there .here) (.take (.there .here) (.drop .here (.drop .here (.drop .here (.drop .here .refl)))))) hw)) ?_
              exact ⟨a14_4_00, c14_4_00, rfl, rfl⟩
          · replace H := bifF H h5
            refine at_false (t := decide (d.step = (5 : Int))) (x := C30 [1,1,0,1,0,1,1,1,1,1,0]) (y := C30 [1,1,0,1,0,1,1,1,1,1,1]) (o := .tmp 40) (by kernel_rfl) (by kernel_rfl) (by kernel_rfl) h5 ?_
            refine at_seq (x := C30 [1,1,0,1,0,1,1,1,1,1,1,0]) (y := C30 [1,1,0,1,0,1,1,1,1,1,1,1]) (by kernel_rfl) ?_
            refine at_region (id := 15) 2 (by kernel_rfl) (by kernel_rfl) ?_
            refine s_pure 56 (.bool (decide (d.step = (6 : Int)))) (by kernel_rfl) (by kernel_rfl) (fun _ => by kernel_rfl) ?_
            refine s_pure 55 (.bool (decide (d.step = (6 : Int)))) (by kernel_rfl) (by kernel_rfl) (fun _ => by kernel_rfl) ?_
            refine ops_end ?_
            refine At.env [(4, .pointer (some ⟨b0_0, 0, none⟩)), (8, .pointer (some ⟨b0_2, 0, none⟩)), (55, .bool (decide (d.step = (6 : Int))))] ⟨by kernel_rfl, by kernel_rfl, by kernel_rfl, trivial⟩ ?_
            refine at_then_normal ?_
            rcases Bool.eq_false_or_eq_true (decide (d.step = (6 : Int))) with h7 | h7
            · replace H := bifT H h7
              refine at_true (t := decide (d.step = (6 : Int))) (x := C30 [1,1,0,1,0,1,1,1,1,1,1,1,0]) (y := C30 [1,1,0,1,0,1,1,1,1,1,1,1,1]) (o := .tmp 55) (by kernel_rfl) (by kernel_rfl) (by kernel_rfl) h7 ?_
              refine at_seq (x := C30 [1,1,0,1,0,1,1,1,1,1,1,1,0,0]) (y := C30 [1,1,0,1,0,1,1,1,1,1,1,1,0,1]) (by kernel_rfl) ?_
              refine at_region (id := 16) 2 (by kernel_rfl) (by kernel_rfl) ?_
              refine s_pure 57 (.pointer (some ⟨b0_0, 3, none⟩)) (by kernel_rfl) (by kernel_rfl) (fun _ => by kernel_rfl) ?_
              refine s_do (by kernel_rfl) (by kernel_rfl) (st_store (off := 3) (vs := [.int .i64 (0)]) (c' := #[.int .i64 d.kind, .int .i64 d.line, .int .i64 d.id, .int .i64 (0), .int .i64 d.state, .int .i64 d.head, .slice da (List.length d.data) dcap, .int .i64 d.next, .int .i64 d.told]) (fun _ => by kernel_rfl) (.there (.there .here)) (by kernel_rfl) (by kernel_rfl) (by kernel_rfl)) ?_
              rintro _ _ ⟨rfl, rfl⟩
              refine ops_end ?_
              refine At.env [(4, .pointer (some ⟨b0_0, 0, none⟩)), (8, .pointer (some ⟨b0_2, 0, none⟩))] ⟨by kernel_rfl, by kernel_rfl, trivial⟩ ?_
              refine at_then_normal ?_
              refine at_seq (x := C30 [1,1,0,1,0,1,1,1,1,1,1,1,0,1,0]) (y := C30 [1,1,0,1,0,1,1,1,1,1,1,1,0,1,1]) (by kernel_rfl) ?_
              refine at_region (id := 17) 3 (by kernel_rfl) (by kernel_rfl) ?_
              refine s_load 58 (.agg #[.int .i64 d.kind, .int .i64 d.line, .int .i64 d.id, .int .i64 (0), .int .i64 d.state, .int .i64 d.head, .slice da (List.length d.data) dcap, .int .i64 d.next, .int .i64 d.told]) (by kernel_rfl) (by kernel_rfl) (loadN (off := 0) (vs := [.int .i64 d.kind, .int .i64 d.line, .int .i64 d.id, .int .i64 (0), .int .i64 d.state, .int .i64 d.head, .slice da (List.length d.data) dcap, .int .i64 d.next, .int .i64 d.told]) 9 (fun _ => by kernel_rfl) (holds_own .here) rfl (by exact ⟨rfl, rfl, rfl, rfl, rfl, rfl, rfl, rfl, rfl, trivial⟩)) ?_
              refine s_do (by kernel_rfl) (by kernel_rfl) (st_store (off := 0) (vs := [.int .i64 d.kind, .int .i64 d.line, .int .i64 d.id, .int .i64 (0), .int .i64 d.state, .int .i64 d.head, .slice da (List.length d.data) dcap, .int .i64 d.next, .int .i64 d.told]) (c' := #[.int .i64 d.kind, .int .i64 d.line, .int .i64 d.id, .int .i64 (0), .int .i64 d.state, .int .i64 d.head, .slice da (List.length d.data) dcap, .int .i64 d.next, .int .i64 d.told]) (fun _ => by kernel_rfl) (.there .here) (by kernel_rfl) (by kernel_rfl) (by kernel_rfl)) ?_
              rintro _ _ ⟨rfl, rfl⟩
              refine s_pure 9 (.bool true) (by kernel_rfl) (by kernel_rfl) (fun _ => by kernel_rfl) ?_
              refine ops_end ?_
              refine At.env [(8, .pointer (some ⟨b0_2, 0, none⟩)), (9, .bool true)] ⟨by kernel_rfl, by kernel_rfl, trivial⟩ ?_
              refine at_then_normal ?_
              refine at_ret (by kernel_rfl) ?_
              refine at_in_ret ?_
              refine at_then_ret ?_
              obtain rfl := someE H
              refine at_backR [.agg #[.int .i64 d.kind, .int .i64 d.line, .int .i64 d.id, .int .i64 (0), .int .i64 d.state, .int .i64 d.head, .slice da (List.length d.data) dcap, .int .i64 d.next, .int .i64 d.told], .bool true] ((ImmI da d.data) :: (CacheA c cc) :: Γ) (rs := [.cell 8 35, .tmp 9]) (by kernel_rfl) (.cons (.cell (by kernel_rfl) (retN (off := 0) (vs := [.int .i64 d.kind, .int .i64 d.line, .int .i64 d.id, .int .i64 (0), .int .i64 d.state, .int .i64 d.head, .slice da (List.length d.data) dcap, .int .i64 d.next, .int .i64 d.told]) 9 (fun _ => by kernel_rfl) (holds_own .here) rfl (by exact ⟨rfl, rfl, rfl, rfl, rfl, rfl, rfl, rfl, rfl, trivial⟩))) (.cons (.tmp (by kernel_rfl)) .nil)) (fun w hw => (Sat.less (.take (.there (.there (.there .here))) (.take (.there (.there (.there .here))) (.drop .here (.drop .here (.drop .here .refl))))) hw)) ?_
              exact ⟨da, dcap, rfl, rfl⟩
            · replace H := bifF H h7
              refine at_false (t := decide (d.step = (6 : Int))) (x := C30 [1,1,0,1,0,1,1,1,1,1,1,1,0]) (y := C30 [1,1,0,1,0,1,1,1,1,1,1,1,1]) (o := .tmp 55) (by kernel_rfl) (by kernel_rfl) (by kernel_rfl) h7 ?_
              refine at_skip (by kernel_rfl) ?_
              refine at_in_normal ?_
              refine at_then_normal ?_
              refine at_seq (x := C30 [1,1,1,0]) (y := C30 [1,1,1,1]) (by kernel_rfl) ?_
              refine at_region (id := 18) 3 (by kernel_rfl) (by kernel_rfl) ?_
              refine s_pure 59 (.agg #[.int .i64 (0), .int .i64 (0), .int .i64 (0), .int .i64 (0), .int .i64 (0), .int .i64 (0), .slice none 0 0, .int .i64 (0), .int .i64 (0)]) (by kernel_rfl) (by kernel_rfl) (fun _ => by kernel_rfl) ?_
              refine s_do (by kernel_rfl) (by kernel_rfl) (st_store (off := 0) (vs := [.int .i64 (0), .int .i64 (0), .int .i64 (0), .int .i64 (0), .int .i64 (0), .int .i64 (0), .slice none 0 0, .int .i64 (0), .int .i64 (0)]) (c' := #[.int .i64 (0), .int .i64 (0), .int .i64 (0), .int .i64 (0), .int .i64 (0), .int .i64 (0), .slice none 0 0, .int .i64 (0), .int .i64 (0)]) (fun _ => by kernel_rfl) .here (by kernel_rfl) (by kernel_rfl) (by kernel_rfl)) ?_
              rintro _ _ ⟨rfl, rfl⟩
              refine s_pure 9 (.bool false) (by kernel_rfl) (by kernel_rfl) (fun _ => by kernel_rfl) ?_
              refine ops_end ?_
              refine At.env [(8, .pointer (some ⟨b0_2, 0, none⟩)), (9, .bool false)] ⟨by kernel_rfl, by kernel_rfl, trivial⟩ ?_
              refine at_then_normal ?_
              refine at_ret (by kernel_rfl) ?_
              obtain rfl := someE H
              refine at_backR [.agg #[.int .i64 (0), .int .i64 (0), .int .i64 (0), .int .i64 (0), .int .i64 (0), .int .i64 (0), .slice none 0 0, .int .i64 (0), .int .i64 (0)], .bool false] ((ImmI none ([] : List Int)) :: (CacheA c cc) :: Γ) (rs := [.cell 8 35, .tmp 9]) (by kernel_rfl) (.cons (.cell (by kernel_rfl) (retN (off := 0) (vs := [.int .i64 (0), .int .i64 (0), .int .i64 (0), .int .i64 (0), .int .i64 (0), .int .i64 (0), .slice none 0 0, .int .i64 (0), .int .i64 (0)]) 9 (fun _ => by kernel_rfl) (holds_own .here) rfl (by exact ⟨rfl, rfl, rfl, rfl, rfl, rfl, rfl, rfl, rfl, trivial⟩))) (.cons (.tmp (by kernel_rfl)) .nil)) (fun w hw => (Sat.less (.take .here (.take (.there (.there (.there (.there .here)))) (.drop .here (.drop .here (.drop .here (.drop .here .refl)))))) (ImmR.nil_mk (k := 1) (a := none) hw))) ?_
              exact ⟨none, 0, rfl, rfl⟩
  · refine at_region (id := 1) 9 (by kernel_rfl) (by kernel_rfl) ?_
    refine s_pure 10 (.pointer (some ⟨b0_0, 0, none⟩)) (by kernel_rfl) (by kernel_rfl) (fun _ => by kernel_rfl) ?_
    refine s_load 11 (.int .i64 d.kind) (by kernel_rfl) (by kernel_rfl) (load1 (off := 0) (fun _ => by kernel_rfl) (holds_own (.there (.there .here))) (by kernel_rfl)) ?_
    refine s_pure 12 (.bool (!(decide (d.kind = (3 : Int))))) (by kernel_rfl) (by kernel_rfl) (fun _ => by kernel_rfl) ?_
    rcases Bool.eq_false_or_eq_true (!(decide (d.kind = (3 : Int)))) with h8 | h8
    · replace H := bifT H h8
      refine s_pure 13 (.bool true) (by kernel_rfl) (by kernel_rfl) (run_eq (v := .bool (!(decide (d.kind = (3 : Int))))) (fun _ => by kernel_rfl) (congrArg Value.bool h8)) ?_
      refine s_pass 14 (by kernel_rfl) (by kernel_rfl) ?_
      refine s_pass 15 (by kernel_rfl) (by kernel_rfl) ?_
      refine s_pass 16 (by kernel_rfl) (by kernel_rfl) ?_
      refine s_pass 17 (by kernel_rfl) (by kernel_rfl) ?_
      refine s_pure 18 (.bool true) (by kernel_rfl) (by kernel_rfl) (fun _ => by kernel_rfl) ?_
      refine ops_end ?_
      refine At.env [(2, .pointer (some ⟨c, 0, none⟩)), (4, .pointer (some ⟨b0_0, 0, none⟩)), (7, .pointer (some ⟨b0_1, 0, none⟩)), (8, .pointer (some ⟨b0_2, 0, none⟩)), (18, .bool true)] ⟨by kernel_rfl, by kernel_rfl, by kernel_rfl, by kernel_rfl, by kernel_rfl, trivial⟩ ?_
      refine at_round_normal ?_
      exact at_join_mk [(2, .pointer (some ⟨c, 0, none⟩)), (4, .pointer (some ⟨b0_0, 0, none⟩)), (7, .pointer (some ⟨b0_1, 0, none⟩)), (8, .pointer (some ⟨b0_2, 0, none⟩)), (18, .bool true)] ((Asn.own b0_2 (.cells #[.int .i64 (0), .int .i64 (0), .int .i64 (0), .int .i64 (0), .int .i64 (0), .int .i64 (0), .slice none 0 0, .int .i64 (0), .int .i64 (0)] 35 (0, 0))) :: (Asn.own b0_1 (.cells #[.int .i64 p.kind, .int .i64 p.src, .int .i64 p.dst, .int .i64 p.id, .int .i64 p.line, .int .i64 p.ptr, .int .i64 p.state, .bool p.flag, .slice pa (List.length p.data) pcap] 40 (0, 0))) :: (Asn.own b0_0 (.cells #[.int .i64 d.kind, .int .i64 d.line, .int .i64 d.id, .int .i64 d.step, .int .i64 d.state, .int .i64 d.head, .slice da (List.length d.data) dcap, .int .i64 d.next, .int .i64 d.told] 35 (0, 0))) :: (ImmI da d.data) :: (CacheA c cc) :: Γ) ⟨by kernel_rfl, by kernel_rfl, by kernel_rfl, by kernel_rfl, by kernel_rfl, trivial⟩ (fun w hw => (Sat.less (.take .here (.take .here (.take .here (.take .here (.take .here .refl))))) hw)) ⟨true, H, rfl, rfl⟩
    · replace H := bifF H h8
      refine s_pure 13 (.bool false) (by kernel_rfl) (by kernel_rfl) (run_eq (v := .bool (!(decide (d.kind = (3 : Int))))) (fun _ => by kernel_rfl) (congrArg Value.bool h8)) ?_
      refine s_load 14 (.agg #[.int .i64 d.kind, .int .i64 d.line, .int .i64 d.id, .int .i64 d.step, .int .i64 d.state, .int .i64 d.head, .slice da (List.length d.data) dcap, .int .i64 d.next, .int .i64 d.told]) (by kernel_rfl) (by kernel_rfl) (loadN (off := 0) (vs := [.int .i64 d.kind, .int .i64 d.line, .int .i64 d.id, .int .i64 d.step, .int .i64 d.state, .int .i64 d.head, .slice da (List.length d.data) dcap, .int .i64 d.next, .int .i64 d.told]) 9 (fun _ => by kernel_rfl) (holds_own (.there (.there .here))) rfl (by exact ⟨rfl, rfl, rfl, rfl, rfl, rfl, rfl, rfl, rfl, trivial⟩)) ?_
      refine s_load 15 (.agg #[.int .i64 p.kind, .int .i64 p.src, .int .i64 p.dst, .int .i64 p.id, .int .i64 p.line, .int .i64 p.ptr, .int .i64 p.state, .bool p.flag, .slice pa (List.length p.data) pcap]) (by kernel_rfl) (by kernel_rfl) (loadN (off := 0) (vs := [.int .i64 p.kind, .int .i64 p.src, .int .i64 p.dst, .int .i64 p.id, .int .i64 p.line, .int .i64 p.ptr, .int .i64 p.state, .bool p.flag, .slice pa (List.length p.data) pcap]) 9 (fun _ => by kernel_rfl) (holds_own (.there .here)) rfl (by exact ⟨rfl, rfl, rfl, rfl, rfl, rfl, rfl, rfl, rfl, trivial⟩)) ?_
      obtain ⟨y1_6, hy1_6, H⟩ := bindE H
      refine s_call 16 42 #[.agg #[.int .i64 d.kind, .int .i64 d.line, .int .i64 d.id, .int .i64 d.step, .int .i64 d.state, .int .i64 d.head, .slice da (List.length d.data) dcap, .int .i64 d.next, .int .i64 d.told], .agg #[.int .i64 p.kind, .int .i64 p.src, .int .i64 p.dst, .int .i64 p.id, .int .i64 p.line, .int .i64 p.ptr, .int .i64 p.state, .bool p.flag, .slice pa (List.length p.data) pcap]] (by kernel_rfl) (by kernel_rfl) (fun _ => by kernel_rfl) (DFitsF_tr da dcap d pa pcap p (ImmR.reads (k := 1) (.there (.there (.there .here)))) (Reads.conv (fun w hw => hw.less (.drop .here (.drop .here (.drop .here (.drop .here (.drop .here .refl)))))) hrpa) y1_6 hy1_6) ?_
      rintro _ _ ⟨rfl, rfl⟩
      refine s_pure 17 (.bool !y1_6) (by kernel_rfl) (by kernel_rfl) (fun _ => by kernel_rfl) ?_
      refine s_pure 18 (.bool !y1_6) (by kernel_rfl) (by kernel_rfl) (fun _ => by kernel_rfl) ?_
      refine ops_end ?_
      refine At.env [(2, .pointer (some ⟨c, 0, none⟩)), (4, .pointer (some ⟨b0_0, 0, none⟩)), (7, .pointer (some ⟨b0_1, 0, none⟩)), (8, .pointer (some ⟨b0_2, 0, none⟩)), (18, .bool !y1_6)] ⟨by kernel_rfl, by kernel_rfl, by kernel_rfl, by kernel_rfl, by kernel_rfl, trivial⟩ ?_
      refine at_round_normal ?_
      exact at_join_mk [(2, .pointer (some ⟨c, 0, none⟩)), (4, .pointer (some ⟨b0_0, 0, none⟩)), (7, .pointer (some ⟨b0_1, 0, none⟩)), (8, .pointer (some ⟨b0_2, 0, none⟩)), (18, .bool !y1_6)] ((Asn.own b0_2 (.cells #[.int .i64 (0), .int .i64 (0), .int .i64 (0), .int .i64 (0), .int .i64 (0), .int .i64 (0), .slice none 0 0, .int .i64 (0), .int .i64 (0)] 35 (0, 0))) :: (Asn.own b0_1 (.cells #[.int .i64 p.kind, .int .i64 p.src, .int .i64 p.dst, .int .i64 p.id, .int .i64 p.line, .int .i64 p.ptr, .int .i64 p.state, .bool p.flag, .slice pa (List.length p.data) pcap] 40 (0, 0))) :: (Asn.own b0_0 (.cells #[.int .i64 d.kind, .int .i64 d.line, .int .i64 d.id, .int .i64 d.step, .int .i64 d.state, .int .i64 d.head, .slice da (List.length d.data) dcap, .int .i64 d.next, .int .i64 d.told] 35 (0, 0))) :: (ImmI da d.data) :: (CacheA c cc) :: Γ) ⟨by kernel_rfl, by kernel_rfl, by kernel_rfl, by kernel_rfl, by kernel_rfl, trivial⟩ (fun w hw => (Sat.less (.take .here (.take .here (.take .here (.take .here (.take .here .refl))))) hw)) ⟨!y1_6, H, rfl, rfl⟩
def wakes16S : Option (Bool) :=
  (bothNilS).bind fun y1_0 => letP ([7] : List Int) fun l4_1 => (enewS (1 : Int) ((-1) : Int) ((-1) : Int) true l4_1).bind fun y4_2 => (putS y1_0.1 y4_2).bind fun y4_3 => (dbeginS (3 : Int) (1 : Int) (0 : Int)).bind fun y5_0 => letP ([3] : List Int) fun l5_2 => (rnextS y5_0 (2 : Int) y4_3.2 (⟨7, 0, 0, 0, 1, 2, 2, false, l5_2⟩ : PktS)).bind fun y5_4 => (daskS y5_4.1 (2 : Int) (0 : Int)).bind fun y6_1 => (bif y5_4.2.1 then (bif decide (y6_1.kind = (2 : Int)) then (bif y6_1.flag then (bif decide ((((List.length y6_1.data) : Nat) : Int) = (1 : Int)) then chk (0 ≤ (0 : Int) ∧ (0 : Int) < ((y6_1.data.length : Nat) : Int)) ((bif decide ((nth y6_1.data (0 : Int)) = (7 : Int)) then (bif decide (y6_1.state = (0 : Int)) then (bif decide (y6_1.ptr = ((-1) : Int)) then letP (lenC y5_4.2.2) fun y7_35 => some (decide (y7_35 = (0 : Int))) else some false) else some false) else some false)) else some false) else some false) else some false) else some false)
noncomputable def C31 (p : List Nat) : Code := codeAt (bodyOf Try.f31) p
set_option maxRecDepth 100000 in
set_option maxHeartbeats 8000000 in
theorem W16F_tr {W0 : World} {Γ : List Asn}   (y : Bool) (H : wakes16S = some y) : Tr Try.prog 31 #[] W0 (Γ) (fun r Δ => r = .bool y ∧ Δ = Γ) := by
  unfold wakes16S at H
  refine Tr.enter (fn := Try.f31) (c := C31 []) (args := []) 64 Try.func31 (by kernel_rfl) (by kernel_rfl) ?_
  refine At.env [] trivial ?_
  refine at_seq (x := C31 [0]) (y := C31 [1]) (by kernel_rfl) ?_
  refine at_region (id := 0) 1 (by kernel_rfl) (by kernel_rfl) ?_
  refine s_pure 0 (.bool false) (by kernel_rfl) (by kernel_rfl) (fun _ => by kernel_rfl) ?_
  refine ops_end ?_
  refine At.env [] trivial ?_
  refine at_then_normal ?_
  refine at_seq (x := C31 [1,0]) (y := C31 [1,1]) (by kernel_rfl) ?_
  refine at_region (id := 1) 6 (by kernel_rfl) (by kernel_rfl) ?_
  obtain ⟨y1_0, hy1_0, H⟩ := bindE H
  refine s_call 7 13 #[.slice none 0 0, .slice none 0 0, .slice none 0 0] (by kernel_rfl) (by kernel_rfl) (fun _ => by kernel_rfl) (BothNilF_tr  y1_0 hy1_0) ?_
  rintro _ _ ⟨b1_0_0, b1_0_1, rfl, rfl⟩
  refine s_pure 6 (.tuple #[.pointer (some ⟨b1_0_0, 0, none⟩), .pointer (some ⟨b1_0_1, 0, none⟩)]) (by kernel_rfl) (by kernel_rfl) (fun _ => by kernel_rfl) ?_
  refine s_pure 8 (.pointer (some ⟨b1_0_0, 0, none⟩)) (by kernel_rfl) (by kernel_rfl) (fun _ => by kernel_rfl) ?_
  refine s_pure 9 (.pointer (some ⟨b1_0_1, 0, none⟩)) (by kernel_rfl) (by kernel_rfl) (fun _ => by kernel_rfl) ?_
  refine s_pure 1 (.pointer (some ⟨b1_0_0, 0, none⟩)) (by kernel_rfl) (by kernel_rfl) (fun _ => by kernel_rfl) ?_
  refine s_pure 2 (.pointer (some ⟨b1_0_1, 0, none⟩)) (by kernel_rfl) (by kernel_rfl) (fun _ => by kernel_rfl) ?_
  refine ops_end ?_
  refine At.env [(1, .pointer (some ⟨b1_0_0, 0, none⟩))] ⟨by kernel_rfl, trivial⟩ ?_
  refine at_then_normal ?_
  refine at_seq (x := C31 [1,1,0]) (y := C31 [1,1,1]) (by kernel_rfl) ?_
  refine at_seq (x := C31 [1,1,0,0]) (y := C31 [1,1,0,1]) (by kernel_rfl) ?_
  refine at_region (id := 2) 2 (by kernel_rfl) (by kernel_rfl) ?_
  refine s_pure 10 (.pointer (some ⟨b1_0_0, 0, none⟩)) (by kernel_rfl) (by kernel_rfl) (fun _ => by kernel_rfl) ?_
  refine s_pure 11 (.bool false) (by kernel_rfl) (by kernel_rfl) (fun _ => by kernel_rfl) ?_
  refine ops_end ?_
  refine At.env [(1, .pointer (some ⟨b1_0_0, 0, none⟩)), (11, .bool false)] ⟨by kernel_rfl, by kernel_rfl, trivial⟩ ?_
  refine at_then_normal ?_
  refine at_false (t := false) (x := C31 [1,1,0,1,0]) (y := C31 [1,1,0,1,1]) (o := .tmp 11) (by kernel_rfl) (by kernel_rfl) (by kernel_rfl) rfl ?_
  refine at_skip (by kernel_rfl) ?_
  refine at_then_normal ?_
  refine at_seq (x := C31 [1,1,1,0]) (y := C31 [1,1,1,1]) (by kernel_rfl) ?_
  refine at_region (id := 4) 4 (by kernel_rfl) (by kernel_rfl) ?_
  refine s_pure 12 (.pointer (some ⟨b1_0_0, 0, none⟩)) (by kernel_rfl) (by kernel_rfl) (fun _ => by kernel_rfl) ?_
  obtain ⟨l4_1, hl4_1, H⟩ := letE H
  refine s_step 13 (by kernel_rfl) (by kernel_rfl) (st_new_ints (T := 3) (xs := l4_1) 1 hl4_1 (fun _ => by kernel_rfl) (by kernel_rfl)) ?_
  rintro _ _ ⟨b4_1, rfl, rfl⟩
  obtain ⟨y4_2, hy4_2, H⟩ := bindE H
  refine s_call 14 15 #[.int .i64 (1), .int .i64 (-1), .int .i64 (-1), .bool true, .slice (some ⟨b4_1, 0, none⟩) (List.length l4_1) 1] (by kernel_rfl) (by kernel_rfl) (fun _ => by kernel_rfl) (ENewF_tr (1 : Int) ((-1) : Int) ((-1) : Int) true (some ⟨b4_1, 0, none⟩) 1 l4_1 (RowsA.reads (k := 1) .here) y4_2 hy4_2) ?_
  rintro _ _ ⟨a4_2_00, c4_2_00, rfl, rfl⟩
  obtain ⟨y4_3, hy4_3, H⟩ := bindE H
  refine s_call 15 14 #[.pointer (some ⟨b1_0_0, 0, none⟩), .agg #[.int .i64 y4_2.fwd, .int .i64 y4_2.back, .int .i64 y4_2.line, .int .i64 y4_2.used, .bool y4_2.dirty, .slice a4_2_00 (List.length y4_2.data) c4_2_00]] (by kernel_rfl) (by kernel_rfl) (fun _ => by kernel_rfl) (Tr.conv (Γ' := (CacheA b1_0_0 y1_0.1) :: (IntsA a4_2_00 c4_2_00 y4_2.data) :: (IntsA (some ⟨b4_1, 0, none⟩) 1 l4_1) :: (RCacheA b1_0_1 y1_0.2) :: Γ) (fun w hw => (Sat.less (.take (.there (.there .here)) (.take .here (.take .here (.take .here .refl)))) hw)) (PutF_tr b1_0_0 y1_0.1 a4_2_00 c4_2_00 y4_2 (RowsA.reads (k := 1) .here) y4_3 hy4_3)) ?_
  rintro _ _ ⟨rfl, rfl⟩
  refine ops_end ?_
  refine At.env [(1, .pointer (some ⟨b1_0_0, 0, none⟩))] ⟨by kernel_rfl, trivial⟩ ?_
  refine at_then_normal ?_
  refine at_seq (x := C31 [1,1,1,1,0]) (y := C31 [1,1,1,1,1]) (by kernel_rfl) ?_
  refine at_region (id := 5) 11 (by kernel_rfl) (by kernel_rfl) ?_
  obtain ⟨y5_0, hy5_0, H⟩ := bindE H
  refine s_call 17 17 #[.int .i64 (3), .int .i64 (1), .int .i64 (0)] (by kernel_rfl) (by kernel_rfl) (fun _ => by kernel_rfl) (DBeginF_tr (3 : Int) (1 : Int) (0 : Int) y5_0 hy5_0) ?_
  rintro _ _ ⟨a5_0_00, c5_0_00, rfl, rfl⟩
  refine s_pure 18 (.pointer (some ⟨b1_0_0, 0, none⟩)) (by kernel_rfl) (by kernel_rfl) (fun _ => by kernel_rfl) ?_
  obtain ⟨l5_2, hl5_2, H⟩ := letE H
  refine s_step 19 (by kernel_rfl) (by kernel_rfl) (st_new_ints (T := 3) (xs := l5_2) 1 hl5_2 (fun _ => by kernel_rfl) (by kernel_rfl)) ?_
  rintro _ _ ⟨b5_2, rfl, rfl⟩
  refine s_pure 20 (.agg #[.int .i64 (7), .int .i64 (0), .int .i64 (0), .int .i64 (0), .int .i64 (1), .int .i64 (2), .int .i64 (2), .bool false, .slice (some ⟨b5_2, 0, none⟩) (List.length l5_2) 1]) (by kernel_rfl) (by kernel_rfl) (fun _ => by kernel_rfl) ?_
  obtain ⟨y5_4, hy5_4, H⟩ := bindE H
  refine s_call 21 30 #[.agg #[.int .i64 y5_0.kind, .int .i64 y5_0.line, .int .i64 y5_0.id, .int .i64 y5_0.step, .int .i64 y5_0.state, .int .i64 y5_0.head, .slice a5_0_00 (List.length y5_0.data) c5_0_00, .int .i64 y5_0.next, .int .i64 y5_0.told], .int .i64 (2), .pointer (some ⟨b1_0_0, 0, none⟩), .agg #[.int .i64 (7), .int .i64 (0), .int .i64 (0), .int .i64 (0), .int .i64 (1), .int .i64 (2), .int .i64 (2), .bool false, .slice (some ⟨b5_2, 0, none⟩) (List.length l5_2) 1]] (by kernel_rfl) (by kernel_rfl) (fun _ => by kernel_rfl) (Tr.conv (Γ' := (ImmI a5_0_00 y5_0.data) :: (CacheA b1_0_0 y4_3.2) :: (ImmI a5_0_00 y5_0.data) :: (IntsA (some ⟨b5_2, 0, none⟩) 1 l5_2) :: (IntsA a4_2_00 c4_2_00 y4_2.data) :: (IntsA (some ⟨b4_1, 0, none⟩) 1 l4_1) :: (RCacheA b1_0_1 y1_0.2) :: Γ) (fun w hw => (Sat.less (.take .here (.take (.there (.there .here)) (.take .here (.take .here (.take .here (.take .here (.take .here .refl))))))) (ImmR.dup (Sat.less (.take (.there .here) (.take .here (.take .here (.take .here (.take .here (.take .here .refl)))))) hw)))) (RNextF_tr a5_0_00 c5_0_00 y5_0 (2 : Int) b1_0_0 y4_3.2 (some ⟨b5_2, 0, none⟩) 1 (⟨7, 0, 0, 0, 1, 2, 2, false, l5_2⟩ : PktS) (RowsA.reads (k := 1) (.there .here)) y5_4 hy5_4)) ?_
  rintro _ _ ⟨a5_4_00, c5_4_00, rfl, rfl⟩
  refine s_pure 16 (.tuple #[.agg #[.int .i64 y5_4.1.kind, .int .i64 y5_4.1.line, .int .i64 y5_4.1.id, .int .i64 y5_4.1.step, .int .i64 y5_4.1.state, .int .i64 y5_4.1.head, .slice a5_4_00 (List.length y5_4.1.data) c5_4_00, .int .i64 y5_4.1.next, .int .i64 y5_4.1.told], .bool y5_4.2.1]) (by kernel_rfl) (by kernel_rfl) (fun _ => by kernel_rfl) ?_
  refine s_pure 22 (.agg #[.int .i64 y5_4.1.kind, .int .i64 y5_4.1.line, .int .i64 y5_4.1.id, .int .i64 y5_4.1.step, .int .i64 y5_4.1.state, .int .i64 y5_4.1.head, .slice a5_4_00 (List.length y5_4.1.data) c5_4_00, .int .i64 y5_4.1.next, .int .i64 y5_4.1.told]) (by kernel_rfl) (by kernel_rfl) (fun _ => by kernel_rfl) ?_
  refine s_pure 23 (.bool y5_4.2.1) (by kernel_rfl) (by kernel_rfl) (fun _ => by kernel_rfl) ?_
  refine s_step 3 (by kernel_rfl) (by kernel_rfl) (st_new (T := 35) (cells := #[.int .i64 (0), .int .i64 (0), .int .i64 (0), .int .i64 (0), .int .i64 (0), .int .i64 (0), .slice none 0 0, .int .i64 (0), .int .i64 (0)]) (fun a => .pointer (some a)) (fun _ => by kernel_rfl)) ?_
  rintro _ _ ⟨b5_8, rfl, rfl⟩
  refine s_do (by kernel_rfl) (by kernel_rfl) (st_store (off := 0) (vs := [.int .i64 y5_4.1.kind, .int .i64 y5_4.1.line, .int .i64 y5_4.1.id, .int .i64 y5_4.1.step, .int .i64 y5_4.1.state, .int .i64 y5_4.1.head, .slice a5_4_00 (List.length y5_4.1.data) c5_4_00, .int .i64 y5_4.1.next, .int .i64 y5_4.1.told]) (c' := #[.int .i64 y5_4.1.kind, .int .i64 y5_4.1.line, .int .i64 y5_4.1.id, .int .i64 y5_4.1.step, .int .i64 y5_4.1.state, .int .i64 y5_4.1.head, .slice a5_4_00 (List.length y5_4.1.data) c5_4_00, .int .i64 y5_4.1.next, .int .i64 y5_4.1.told]) (fun _ => by kernel_rfl) .here (by kernel_rfl) (by kernel_rfl) (by kernel_rfl)) ?_
  rintro _ _ ⟨rfl, rfl⟩
  refine s_pure 4 (.bool y5_4.2.1) (by kernel_rfl) (by kernel_rfl) (fun _ => by kernel_rfl) ?_
  refine ops_end ?_
  refine At.env [(1, .pointer (some ⟨b1_0_0, 0, none⟩)), (3, .pointer (some ⟨b5_8, 0, none⟩)), (4, .bool y5_4.2.1)] ⟨by kernel_rfl, by kernel_rfl, by kernel_rfl, trivial⟩ ?_
  refine at_then_normal ?_
  refine at_seq (x := C31 [1,1,1,1,1,0]) (y := C31 [1,1,1,1,1,1]) (by kernel_rfl) ?_
  refine at_region (id := 6) 4 (by kernel_rfl) (by kernel_rfl) ?_
  refine s_load 24 (.agg #[.int .i64 y5_4.1.kind, .int .i64 y5_4.1.line, .int .i64 y5_4.1.id, .int .i64 y5_4.1.step, .int .i64 y5_4.1.state, .int .i64 y5_4.1.head, .slice a5_4_00 (List.length y5_4.1.data) c5_4_00, .int .i64 y5_4.1.next, .int .i64 y5_4.1.told]) (by kernel_rfl) (by kernel_rfl) (loadN (off := 0) (vs := [.int .i64 y5_4.1.kind, .int .i64 y5_4.1.line, .int .i64 y5_4.1.id, .int .i64 y5_4.1.step, .int .i64 y5_4.1.state, .int .i64 y5_4.1.head, .slice a5_4_00 (List.length y5_4.1.data) c5_4_00, .int .i64 y5_4.1.next, .int .i64 y5_4.1.told]) 9 (fun _ => by kernel_rfl) (holds_own .here) rfl (by exact ⟨rfl, rfl, rfl, rfl, rfl, rfl, rfl, rfl, rfl, trivial⟩)) ?_
  obtain ⟨y6_1, hy6_1, H⟩ := bindE H
  refine s_call 25 26 #[.agg #[.int .i64 y5_4.1.kind, .int .i64 y5_4.1.line, .int .i64 y5_4.1.id, .int .i64 y5_4.1.step, .int .i64 y5_4.1.state, .int .i64 y5_4.1.head, .slice a5_4_00 (List.length y5_4.1.data) c5_4_00, .int .i64 y5_4.1.next, .int .i64 y5_4.1.told], .int .i64 (2), .int .i64 (0)] (by kernel_rfl) (by kernel_rfl) (fun _ => by kernel_rfl) (DAskF_tr a5_4_00 c5_4_00 y5_4.1 (2 : Int) (0 : Int) (ImmR.reads (k := 1) (.there .here)) y6_1 hy6_1) ?_
  rintro _ _ ⟨a6_1_00, c6_1_00, rfl, rfl⟩
  refine s_step 5 (by kernel_rfl) (by kernel_rfl) (st_new (T := 40) (cells := #[.int .i64 (0), .int .i64 (0), .int .i64 (0), .int .i64 (0), .int .i64 (0), .int .i64 (0), .int .i64 (0), .bool false, .slice none 0 0]) (fun a => .pointer (some a)) (fun _ => by kernel_rfl)) ?_
  rintro _ _ ⟨b6_2, rfl, rfl⟩
  refine s_do (by kernel_rfl) (by kernel_rfl) (st_store (off := 0) (vs := [.int .i64 y6_1.kind, .int .i64 y6_1.src, .int .i64 y6_1.dst, .int .i64 y6_1.id, .int .i64 y6_1.line, .int .i64 y6_1.ptr, .int .i64 y6_1.state, .bool y6_1.flag, .slice a6_1_00 (List.length y6_1.data) c6_1_00]) (c' := #[.int .i64 y6_1.kind, .int .i64 y6_1.src, .int .i64 y6_1.dst, .int .i64 y6_1.id, .int .i64 y6_1.line, .int .i64 y6_1.ptr, .int .i64 y6_1.state, .bool y6_1.flag, .slice a6_1_00 (List.length y6_1.data) c6_1_00]) (fun _ => by kernel_rfl) .here (by kernel_rfl) (by kernel_rfl) (by kernel_rfl)) ?_
  rintro _ _ ⟨rfl, rfl⟩
  refine ops_end ?_
  refine At.env [(1, .pointer (some ⟨b1_0_0, 0, none⟩)), (4, .bool y5_4.2.1), (5, .pointer (some ⟨b6_2, 0, none⟩))] ⟨by kernel_rfl, by kernel_rfl, by kernel_rfl, trivial⟩ ?_
  refine at_then_normal ?_
  refine at_seq (x := C31 [1,1,1,1,1,1,0]) (y := C31 [1,1,1,1,1,1,1]) (by kernel_rfl) ?_
  refine at_region (id := 7) 39 (by kernel_rfl) (by kernel_rfl) ?_
  refine s_pure 26 (.bool y5_4.2.1) (by kernel_rfl) (by kernel_rfl) (fun _ => by kernel_rfl) ?_
  rcases Bool.eq_false_or_eq_true (y5_4.2.1) with h1 | h1
  · replace H := bifT H h1
    refine s_pure 27 (.bool true) (by kernel_rfl) (by kernel_rfl) (run_eq (v := .bool (y5_4.2.1)) (fun _ => by kernel_rfl) (congrArg Value.bool h1)) ?_
    refine s_pure 28 (.pointer (some ⟨b6_2, 0, none⟩)) (by kernel_rfl) (by kernel_rfl) (fun _ => by kernel_rfl) ?_
    refine s_load 29 (.int .i64 y6_1.kind) (by kernel_rfl) (by kernel_rfl) (load1 (off := 0) (fun _ => by kernel_rfl) (holds_own .here) (by kernel_rfl)) ?_
    refine s_pure 30 (.bool (decide (y6_1.kind = (2 : Int)))) (by kernel_rfl) (by kernel_rfl) (fun _ => by kernel_rfl) ?_
    refine s_pure 31 (.bool (decide (y6_1.kind = (2 : Int)))) (by kernel_rfl) (by kernel_rfl) (fun _ => by kernel_rfl) ?_
    rcases Bool.eq_false_or_eq_true (decide (y6_1.kind = (2 : Int))) with h2 | h2
    · replace H := bifT H h2
      refine s_pure 32 (.bool true) (by kernel_rfl) (by kernel_rfl) (run_eq (v := .bool (decide (y6_1.kind = (2 : Int)))) (fun _ => by kernel_rfl) (congrArg Value.bool h2)) ?_
      refine s_pure 33 (.pointer (some ⟨b6_2, 7, none⟩)) (by kernel_rfl) (by kernel_rfl) (fun _ => by kernel_rfl) ?_
      refine s_load 34 (.bool y6_1.flag) (by kernel_rfl) (by kernel_rfl) (load1 (off := 7) (fun _ => by kernel_rfl) (holds_own .here) (by kernel_rfl)) ?_
      refine s_pure 35 (.bool y6_1.flag) (by kernel_rfl) (by kernel_rfl) (fun _ => by kernel_rfl) ?_
      rcases Bool.eq_false_or_eq_true (y6_1.flag) with h3 | h3
      · replace H := bifT H h3
        refine s_pure 36 (.bool true) (by kernel_rfl) (by kernel_rfl) (run_eq (v := .bool (y6_1.flag)) (fun _ => by kernel_rfl) (congrArg Value.bool h3)) ?_
        refine s_pure 37 (.pointer (some ⟨b6_2, 8, none⟩)) (by kernel_rfl) (by kernel_rfl) (fun _ => by kernel_rfl) ?_
        refine s_load 38 (.slice a6_1_00 (List.length y6_1.data) c6_1_00) (by kernel_rfl) (by kernel_rfl) (load1 (off := 8) (fun _ => by kernel_rfl) (holds_own .here) (by kernel_rfl)) ?_
        refine s_pure 39 (.int .i64 (((List.length y6_1.data) : Nat) : Int)) (by kernel_rfl) (by kernel_rfl) (fun _ => by kernel_rfl) ?_
        refine s_pure 40 (.bool (decide ((((List.length y6_1.data) : Nat) : Int) = (1 : Int)))) (by kernel_rfl) (by kernel_rfl) (fun _ => by kernel_rfl) ?_
        refine s_pure 41 (.bool (decide ((((List.length y6_1.data) : Nat) : Int) = (1 : Int)))) (by kernel_rfl) (by kernel_rfl) (fun _ => by kernel_rfl) ?_
        rcases Bool.eq_false_or_eq_true (decide ((((List.length y6_1.data) : Nat) : Int) = (1 : Int))) with h4 | h4
        · replace H := bifT H h4
          refine s_pure 42 (.bool true) (by kernel_rfl) (by kernel_rfl) (run_eq (v := .bool (decide ((((List.length y6_1.data) : Nat) : Int) = (1 : Int)))) (fun _ => by kernel_rfl) (congrArg Value.bool h4)) ?_
          refine s_pure 43 (.pointer (some ⟨b6_2, 8, none⟩)) (by kernel_rfl) (by kernel_rfl) (fun _ => by kernel_rfl) ?_
          refine s_load 44 (.slice a6_1_00 (List.length y6_1.data) c6_1_00) (by kernel_rfl) (by kernel_rfl) (load1 (off := 8) (fun _ => by kernel_rfl) (holds_own .here) (by kernel_rfl)) ?_
          obtain ⟨hc7_19_0, H⟩ := chkE H
          refine rows_at (.there .here) (by have := hc7_19_0; simp only [ints_length]; omega) ?_
          intro bb1 oo1 ha1
          refine s_pure 45 (.pointer (some ⟨bb1, oo1 + (((0 : Int)).toNat * 1 + 0), none⟩)) (by kernel_rfl) (by kernel_rfl) (index_at (t := 30) (sz := 1) (E := 3) (a := a6_1_00) (m := (List.length y6_1.data)) (c := c6_1_00) (b := bb1) (off := oo1) (i := ((0 : Int)).toNat) (tinfo 3) (fun _ => by kernel_rfl) (by kernel_rfl) (by kernel_rfl) (by kernel_rfl) ha1 (idx_cast hc7_19_0) (idx_nat hc7_19_0) rfl) ?_
          refine s_load 46 (.int .i64 (nth y6_1.data (0 : Int))) (by kernel_rfl) (by kernel_rfl) (load1_at (off := oo1 + (((0 : Int)).toNat * 1 + 0)) (v := .int .i64 (nth y6_1.data (0 : Int))) (fun _ => by kernel_rfl) rfl (reads_cell (k := 1) (RowsA.reads (k := 1) (.there .here)) (ints_rows _) ha1 (nth_row hc7_19_0) (show [(.int .i64 (nth y6_1.data (0 : Int)) : Value)][0]? = some _ from rfl))) ?_
          refine s_pure 47 (.bool (decide ((nth y6_1.data (0 : Int)) = (7 : Int)))) (by kernel_rfl) (by kernel_rfl) (fun _ => by kernel_rfl) ?_
          refine s_pure 48 (.bool (decide ((nth y6_1.data (0 : Int)) = (7 : Int)))) (by kernel_rfl) (by kernel_rfl) (fun _ => by kernel_rfl) ?_
          rcases Bool.eq_false_or_eq_true (decide ((nth y6_1.data (0 : Int)) = (7 : Int))) with h5 | h5
          · replace H := bifT H h5
            refine s_pure 49 (.bool true) (by kernel_rfl) (by kernel_rfl) (run_eq (v := .bool (decide ((nth y6_1.data (0 : Int)) = (7 : Int)))) (fun _ => by kernel_rfl) (congrArg Value.bool h5)) ?_
            refine s_pure 50 (.pointer (some ⟨b6_2, 6, none⟩)) (by kernel_rfl) (by kernel_rfl) (fun _ => by kernel_rfl) ?_
            refine s_load 51 (.int .i64 y6_1.state) (by kernel_rfl) (by kernel_rfl) (load1 (off := 6) (fun _ => by kernel_rfl) (holds_own .here) (by kernel_rfl)) ?_
            refine s_pure 52 (.bool (decide (y6_1.state = (0 : Int)))) (by kernel_rfl) (by kernel_rfl) (fun _ => by kernel_rfl) ?_
            refine s_pure 53 (.bool (decide (y6_1.state = (0 : Int)))) (by kernel_rfl) (by kernel_rfl) (fun _ => by kernel_rfl) ?_
            rcases Bool.eq_false_or_eq_true (decide (y6_1.state = (0 : Int))) with h6 | h6
            · replace H := bifT H h6
              refine s_pure 54 (.bool true) (by kernel_rfl) (by kernel_rfl) (run_eq (v := .bool (decide (y6_1.state = (0 : Int)))) (fun _ => by kernel_rfl) (congrArg Value.bool h6)) ?_
              refine s_pure 55 (.pointer (some ⟨b6_2, 5, none⟩)) (by kernel_rfl) (by kernel_rfl) (fun _ => by kernel_rfl) ?_
              refine s_load 56 (.int .i64 y6_1.ptr) (by kernel_rfl) (by kernel_rfl) (load1 (off := 5) (fun _ => by kernel_rfl) (holds_own .here) (by kernel_rfl)) ?_
              refine s_pure 57 (.bool (decide (y6_1.ptr = ((-1) : Int)))) (by kernel_rfl) (by kernel_rfl) (fun _ => by kernel_rfl) ?_
              refine s_pure 58 (.bool (decide (y6_1.ptr = ((-1) : Int)))) (by kernel_rfl) (by kernel_rfl) (fun _ => by kernel_rfl) ?_
              rcases Bool.eq_false_or_eq_true (decide (y6_1.ptr = ((-1) : Int))) with h7 | h7
              · replace H := bifT H h7
                refine s_pure 59 (.bool true) (by kernel_rfl) (by kernel_rfl) (run_eq (v := .bool (decide (y6_1.ptr = ((-1) : Int)))) (fun _ => by kernel_rfl) (congrArg Value.bool h7)) ?_
                refine s_pure 60 (.pointer (some ⟨b1_0_0, 0, none⟩)) (by kernel_rfl) (by kernel_rfl) (fun _ => by kernel_rfl) ?_
                obtain ⟨y7_35, hy7_35, H⟩ := letE H
                refine s_call 61 23 #[.pointer (some ⟨b1_0_0, 0, none⟩)] (by kernel_rfl) (by kernel_rfl) (fun _ => by kernel_rfl) (Tr.conv (Γ' := (CacheA b1_0_0 y5_4.2.2) :: (Asn.own b6_2 (.cells #[.int .i64 y6_1.kind, .int .i64 y6_1.src, .int .i64 y6_1.dst, .int .i64 y6_1.id, .int .i64 y6_1.line, .int .i64 y6_1.ptr, .int .i64 y6_1.state, .bool y6_1.flag, .slice a6_1_00 (List.length y6_1.data) c6_1_00] 40 (0, 0))) :: (IntsA a6_1_00 c6_1_00 y6_1.data) :: (Asn.own b5_8 (.cells #[.int .i64 y5_4.1.kind, .int .i64 y5_4.1.line, .int .i64 y5_4.1.id, .int .i64 y5_4.1.step, .int .i64 y5_4.1.state, .int .i64 y5_4.1.head, .slice a5_4_00 (List.length y5_4.1.data) c5_4_00, .int .i64 y5_4.1.next, .int .i64 y5_4.1.told] 35 (0, 0))) :: (ImmI a5_4_00 y5_4.1.data) :: (ImmI a5_0_00 y5_0.data) :: (IntsA (some ⟨b5_2, 0, none⟩) 1 l5_2) :: (IntsA a4_2_00 c4_2_00 y4_2.data) :: (IntsA (some ⟨b4_1, 0, none⟩) 1 l4_1) :: (RCacheA b1_0_1 y1_0.2) :: Γ) (fun w hw => (Sat.less (.take (.there (.there (.there (.there .here)))) (.take .here (.take .here (.take .here (.take .here (.take .here (.take .here (.take .here (.take .here (.take .here .refl)))))))))) hw)) (LenF_tr b1_0_0 y5_4.2.2 y7_35 hy7_35)) ?_
                rintro _ _ ⟨rfl, rfl⟩
                refine s_pure 62 (.bool (decide (y7_35 = (0 : Int)))) (by kernel_rfl) (by kernel_rfl) (fun _ => by kernel_rfl) ?_
                refine s_pure 63 (.bool (decide (y7_35 = (0 : Int)))) (by kernel_rfl) (by kernel_rfl) (fun _ => by kernel_rfl) ?_
                refine s_pure 0 (.bool (decide (y7_35 = (0 : Int)))) (by kernel_rfl) (by kernel_rfl) (fun _ => by kernel_rfl) ?_
                refine ops_end ?_
                refine At.env [(0, .bool (decide (y7_35 = (0 : Int))))] ⟨by kernel_rfl, trivial⟩ ?_
                refine at_then_normal ?_
                refine at_ret (by kernel_rfl) ?_
                obtain rfl := someE H
                refine at_backR [.bool (decide (y7_35 = (0 : Int)))] (Γ) (rs := [.tmp 0]) (by kernel_rfl) (.cons (.tmp (by kernel_rfl)) .nil) (fun w hw => (Sat.less (.drop .here (.drop .here (.drop .here (.drop .here (.drop .here (.drop .here (.drop .here (.drop .here (.drop .here (.drop .here .refl)))))))))) hw)) ?_
                exact ⟨rfl, rfl⟩
              · replace H := bifF H h7
                refine s_pure 59 (.bool false) (by kernel_rfl) (by kernel_rfl) (run_eq (v := .bool (decide (y6_1.ptr = ((-1) : Int)))) (fun _ => by kernel_rfl) (congrArg Value.bool h7)) ?_
                refine s_pass 60 (by kernel_rfl) (by kernel_rfl) ?_
                refine s_pass 61 (by kernel_rfl) (by kernel_rfl) ?_
                refine s_pass 62 (by kernel_rfl) (by kernel_rfl) ?_
                refine s_pure 63 (.bool false) (by kernel_rfl) (by kernel_rfl) (fun _ => by kernel_rfl) ?_
                refine s_pure 0 (.bool false) (by kernel_rfl) (by kernel_rfl) (fun _ => by kernel_rfl) ?_
                refine ops_end ?_
                refine At.env [(0, .bool false)] ⟨by kernel_rfl, trivial⟩ ?_
                refine at_then_normal ?_
                refine at_ret (by kernel_rfl) ?_
                obtain rfl := someE H
                refine at_backR [.bool false] (Γ) (rs := [.tmp 0]) (by kernel_rfl) (.cons (.tmp (by kernel_rfl)) .nil) (fun w hw => (Sat.less (.drop .here (.drop .here (.drop .here (.drop .here (.drop .here (.drop .here (.drop .here (.drop .here (.drop .here (.drop .here .refl)))))))))) hw)) ?_
                exact ⟨rfl, rfl⟩
            · replace H := bifF H h6
              refine s_pure 54 (.bool false) (by kernel_rfl) (by kernel_rfl) (run_eq (v := .bool (decide (y6_1.state = (0 : Int)))) (fun _ => by kernel_rfl) (congrArg Value.bool h6)) ?_
              refine s_pass 55 (by kernel_rfl) (by kernel_rfl) ?_
              refine s_pass 56 (by kernel_rfl) (by kernel_rfl) ?_
              refine s_pass 57 (by kernel_rfl) (by kernel_rfl) ?_
              refine s_pure 58 (.bool false) (by kernel_rfl) (by kernel_rfl) (fun _ => by kernel_rfl) ?_
              refine s_pure 59 (.bool false) (by kernel_rfl) (by kernel_rfl) (fun _ => by kernel_rfl) ?_
              refine s_pass 60 (by kernel_rfl) (by kernel_rfl) ?_
              refine s_pass 61 (by kernel_rfl) (by kernel_rfl) ?_
              refine s_pass 62 (by kernel_rfl) (by kernel_rfl) ?_
              refine s_pure 63 (.bool false) (by kernel_rfl) (by kernel_rfl) (fun _ => by kernel_rfl) ?_
              refine s_pure 0 (.bool false) (by kernel_rfl) (by kernel_rfl) (fun _ => by kernel_rfl) ?_
              refine ops_end ?_
              refine At.env [(0, .bool false)] ⟨by kernel_rfl, trivial⟩ ?_
              refine at_then_normal ?_
              refine at_ret (by kernel_rfl) ?_
              obtain rfl := someE H
              refine at_backR [.bool false] (Γ) (rs := [.tmp 0]) (by kernel_rfl) (.cons (.tmp (by kernel_rfl)) .nil) (fun w hw => (Sat.less (.drop .here (.drop .here (.drop .here (.drop .here (.drop .here (.drop .here (.drop .here (.drop .here (.drop .here (.drop .here .refl)))))))))) hw)) ?_
              exact ⟨rfl, rfl⟩
          · replace H := bifF H h5
            refine s_pure 49 (.bool false) (by kernel_rfl) (by kernel_rfl) (run_eq (v := .bool (decide ((nth y6_1.data (0 : Int)) = (7 : Int)))) (fun _ => by kernel_rfl) (congrArg Value.bool h5)) ?_
            refine s_pass 50 (by kernel_rfl) (by kernel_rfl) ?_
            refine s_pass 51 (by kernel_rfl) (by kernel_rfl) ?_
            refine s_pass 52 (by kernel_rfl) (by kernel_rfl) ?_
            refine s_pure 53 (.bool false) (by kernel_rfl) (by kernel_rfl) (fun _ => by kernel_rfl) ?_
            refine s_pure 54 (.bool false) (by kernel_rfl) (by kernel_rfl) (fun _ => by kernel_rfl) ?_
            refine s_pass 55 (by kernel_rfl) (by kernel_rfl) ?_
            refine s_pass 56 (by kernel_rfl) (by kernel_rfl) ?_
            refine s_pass 57 (by kernel_rfl) (by kernel_rfl) ?_
            refine s_pure 58 (.bool false) (by kernel_rfl) (by kernel_rfl) (fun _ => by kernel_rfl) ?_
            refine s_pure 59 (.bool false) (by kernel_rfl) (by kernel_rfl) (fun _ => by kernel_rfl) ?_
            refine s_pass 60 (by kernel_rfl) (by kernel_rfl) ?_
            refine s_pass 61 (by kernel_rfl) (by kernel_rfl) ?_
            refine s_pass 62 (by kernel_rfl) (by kernel_rfl) ?_
            refine s_pure 63 (.bool false) (by kernel_rfl) (by kernel_rfl) (fun _ => by kernel_rfl) ?_
            refine s_pure 0 (.bool false) (by kernel_rfl) (by kernel_rfl) (fun _ => by kernel_rfl) ?_
            refine ops_end ?_
            refine At.env [(0, .bool false)] ⟨by kernel_rfl, trivial⟩ ?_
            refine at_then_normal ?_
            refine at_ret (by kernel_rfl) ?_
            obtain rfl := someE H
            refine at_backR [.bool false] (Γ) (rs := [.tmp 0]) (by kernel_rfl) (.cons (.tmp (by kernel_rfl)) .nil) (fun w hw => (Sat.less (.drop .here (.drop .here (.drop .here (.drop .here (.drop .here (.drop .here (.drop .here (.drop .here (.drop .here (.drop .here .refl)))))))))) hw)) ?_
            exact ⟨rfl, rfl⟩
        · replace H := bifF H h4
          refine s_pure 42 (.bool false) (by kernel_rfl) (by kernel_rfl) (run_eq (v := .bool (decide ((((List.length y6_1.data) : Nat) : Int) = (1 : Int)))) (fun _ => by kernel_rfl) (congrArg Value.bool h4)) ?_
          refine s_pass 43 (by kernel_rfl) (by kernel_rfl) ?_
          refine s_pass 44 (by kernel_rfl) (by kernel_rfl) ?_
          refine s_pass 45 (by kernel_rfl) (by kernel_rfl) ?_
          refine s_pass 46 (by kernel_rfl) (by kernel_rfl) ?_
          refine s_pass 47 (by kernel_rfl) (by kernel_rfl) ?_
          refine s_pure 48 (.bool false) (by kernel_rfl) (by kernel_rfl) (fun _ => by kernel_rfl) ?_
          refine s_pure 49 (.bool false) (by kernel_rfl) (by kernel_rfl) (fun _ => by kernel_rfl) ?_
          refine s_pass 50 (by kernel_rfl) (by kernel_rfl) ?_
          refine s_pass 51 (by kernel_rfl) (by kernel_rfl) ?_
          refine s_pass 52 (by kernel_rfl) (by kernel_rfl) ?_
          refine s_pure 53 (.bool false) (by kernel_rfl) (by kernel_rfl) (fun _ => by kernel_rfl) ?_
          refine s_pure 54 (.bool false) (by kernel_rfl) (by kernel_rfl) (fun _ => by kernel_rfl) ?_
          refine s_pass 55 (by kernel_rfl) (by kernel_rfl) ?_
          refine s_pass 56 (by kernel_rfl) (by kernel_rfl) ?_
          refine s_pass 57 (by kernel_rfl) (by kernel_rfl) ?_
          refine s_pure 58 (.bool false) (by kernel_rfl) (by kernel_rfl) (fun _ => by kernel_rfl) ?_
          refine s_pure 59 (.bool false) (by kernel_rfl) (by kernel_rfl) (fun _ => by kernel_rfl) ?_
          refine s_pass 60 (by kernel_rfl) (by kernel_rfl) ?_
          refine s_pass 61 (by kernel_rfl) (by kernel_rfl) ?_
          refine s_pass 62 (by kernel_rfl) (by kernel_rfl) ?_
          refine s_pure 63 (.bool false) (by kernel_rfl) (by kernel_rfl) (fun _ => by kernel_rfl) ?_
          refine s_pure 0 (.bool false) (by kernel_rfl) (by kernel_rfl) (fun _ => by kernel_rfl) ?_
          refine ops_end ?_
          refine At.env [(0, .bool false)] ⟨by kernel_rfl, trivial⟩ ?_
          refine at_then_normal ?_
          refine at_ret (by kernel_rfl) ?_
          obtain rfl := someE H
          refine at_backR [.bool false] (Γ) (rs := [.tmp 0]) (by kernel_rfl) (.cons (.tmp (by kernel_rfl)) .nil) (fun w hw => (Sat.less (.drop .here (.drop .here (.drop .here (.drop .here (.drop .here (.drop .here (.drop .here (.drop .here (.drop .here (.drop .here .refl)))))))))) hw)) ?_
          exact ⟨rfl, rfl⟩
      · replace H := bifF H h3
        refine s_pure 36 (.bool false) (by kernel_rfl) (by kernel_rfl) (run_eq (v := .bool (y6_1.flag)) (fun _ => by kernel_rfl) (congrArg Value.bool h3)) ?_
        refine s_pass 37 (by kernel_rfl) (by kernel_rfl) ?_
        refine s_pass 38 (by kernel_rfl) (by kernel_rfl) ?_
        refine s_pass 39 (by kernel_rfl) (by kernel_rfl) ?_
        refine s_pass 40 (by kernel_rfl) (by kernel_rfl) ?_
        refine s_pure 41 (.bool false) (by kernel_rfl) (by kernel_rfl) (fun _ => by kernel_rfl) ?_
        refine s_pure 42 (.bool false) (by kernel_rfl) (by kernel_rfl) (fun _ => by kernel_rfl) ?_
        refine s_pass 43 (by kernel_rfl) (by kernel_rfl) ?_
        refine s_pass 44 (by kernel_rfl) (by kernel_rfl) ?_
        refine s_pass 45 (by kernel_rfl) (by kernel_rfl) ?_
        refine s_pass 46 (by kernel_rfl) (by kernel_rfl) ?_
        refine s_pass 47 (by kernel_rfl) (by kernel_rfl) ?_
        refine s_pure 48 (.bool false) (by kernel_rfl) (by kernel_rfl) (fun _ => by kernel_rfl) ?_
        refine s_pure 49 (.bool false) (by kernel_rfl) (by kernel_rfl) (fun _ => by kernel_rfl) ?_
        refine s_pass 50 (by kernel_rfl) (by kernel_rfl) ?_
        refine s_pass 51 (by kernel_rfl) (by kernel_rfl) ?_
        refine s_pass 52 (by kernel_rfl) (by kernel_rfl) ?_
        refine s_pure 53 (.bool false) (by kernel_rfl) (by kernel_rfl) (fun _ => by kernel_rfl) ?_
        refine s_pure 54 (.bool false) (by kernel_rfl) (by kernel_rfl) (fun _ => by kernel_rfl) ?_
        refine s_pass 55 (by kernel_rfl) (by kernel_rfl) ?_
        refine s_pass 56 (by kernel_rfl) (by kernel_rfl) ?_
        refine s_pass 57 (by kernel_rfl) (by kernel_rfl) ?_
        refine s_pure 58 (.bool false) (by kernel_rfl) (by kernel_rfl) (fun _ => by kernel_rfl) ?_
        refine s_pure 59 (.bool false) (by kernel_rfl) (by kernel_rfl) (fun _ => by kernel_rfl) ?_
        refine s_pass 60 (by kernel_rfl) (by kernel_rfl) ?_
        refine s_pass 61 (by kernel_rfl) (by kernel_rfl) ?_
        refine s_pass 62 (by kernel_rfl) (by kernel_rfl) ?_
        refine s_pure 63 (.bool false) (by kernel_rfl) (by kernel_rfl) (fun _ => by kernel_rfl) ?_
        refine s_pure 0 (.bool false) (by kernel_rfl) (by kernel_rfl) (fun _ => by kernel_rfl) ?_
        refine ops_end ?_
        refine At.env [(0, .bool false)] ⟨by kernel_rfl, trivial⟩ ?_
        refine at_then_normal ?_
        refine at_ret (by kernel_rfl) ?_
        obtain rfl := someE H
        refine at_backR [.bool false] (Γ) (rs := [.tmp 0]) (by kernel_rfl) (.cons (.tmp (by kernel_rfl)) .nil) (fun w hw => (Sat.less (.drop .here (.drop .here (.drop .here (.drop .here (.drop .here (.drop .here (.drop .here (.drop .here (.drop .here (.drop .here .refl)))))))))) hw)) ?_
        exact ⟨rfl, rfl⟩
    · replace H := bifF H h2
      refine s_pure 32 (.bool false) (by kernel_rfl) (by kernel_rfl) (run_eq (v := .bool (decide (y6_1.kind = (2 : Int)))) (fun _ => by kernel_rfl) (congrArg Value.bool h2)) ?_
      refine s_pass 33 (by kernel_rfl) (by kernel_rfl) ?_
      refine s_pass 34 (by kernel_rfl) (by kernel_rfl) ?_
      refine s_pure 35 (.bool false) (by kernel_rfl) (by kernel_rfl) (fun _ => by kernel_rfl) ?_
      refine s_pure 36 (.bool false) (by kernel_rfl) (by kernel_rfl) (fun _ => by kernel_rfl) ?_
      refine s_pass 37 (by kernel_rfl) (by kernel_rfl) ?_
      refine s_pass 38 (by kernel_rfl) (by kernel_rfl) ?_
      refine s_pass 39 (by kernel_rfl) (by kernel_rfl) ?_
      refine s_pass 40 (by kernel_rfl) (by kernel_rfl) ?_
      refine s_pure 41 (.bool false) (by kernel_rfl) (by kernel_rfl) (fun _ => by kernel_rfl) ?_
      refine s_pure 42 (.bool false) (by kernel_rfl) (by kernel_rfl) (fun _ => by kernel_rfl) ?_
      refine s_pass 43 (by kernel_rfl) (by kernel_rfl) ?_
      refine s_pass 44 (by kernel_rfl) (by kernel_rfl) ?_
      refine s_pass 45 (by kernel_rfl) (by kernel_rfl) ?_
      refine s_pass 46 (by kernel_rfl) (by kernel_rfl) ?_
      refine s_pass 47 (by kernel_rfl) (by kernel_rfl) ?_
      refine s_pure 48 (.bool false) (by kernel_rfl) (by kernel_rfl) (fun _ => by kernel_rfl) ?_
      refine s_pure 49 (.bool false) (by kernel_rfl) (by kernel_rfl) (fun _ => by kernel_rfl) ?_
      refine s_pass 50 (by kernel_rfl) (by kernel_rfl) ?_
      refine s_pass 51 (by kernel_rfl) (by kernel_rfl) ?_
      refine s_pass 52 (by kernel_rfl) (by kernel_rfl) ?_
      refine s_pure 53 (.bool false) (by kernel_rfl) (by kernel_rfl) (fun _ => by kernel_rfl) ?_
      refine s_pure 54 (.bool false) (by kernel_rfl) (by kernel_rfl) (fun _ => by kernel_rfl) ?_
      refine s_pass 55 (by kernel_rfl) (by kernel_rfl) ?_
      refine s_pass 56 (by kernel_rfl) (by kernel_rfl) ?_
      refine s_pass 57 (by kernel_rfl) (by kernel_rfl) ?_
      refine s_pure 58 (.bool false) (by kernel_rfl) (by kernel_rfl) (fun _ => by kernel_rfl) ?_
      refine s_pure 59 (.bool false) (by kernel_rfl) (by kernel_rfl) (fun _ => by kernel_rfl) ?_
      refine s_pass 60 (by kernel_rfl) (by kernel_rfl) ?_
      refine s_pass 61 (by kernel_rfl) (by kernel_rfl) ?_
      refine s_pass 62 (by kernel_rfl) (by kernel_rfl) ?_
      refine s_pure 63 (.bool false) (by kernel_rfl) (by kernel_rfl) (fun _ => by kernel_rfl) ?_
      refine s_pure 0 (.bool false) (by kernel_rfl) (by kernel_rfl) (fun _ => by kernel_rfl) ?_
      refine ops_end ?_
      refine At.env [(0, .bool false)] ⟨by kernel_rfl, trivial⟩ ?_
      refine at_then_normal ?_
      refine at_ret (by kernel_rfl) ?_
      obtain rfl := someE H
      refine at_backR [.bool false] (Γ) (rs := [.tmp 0]) (by kernel_rfl) (.cons (.tmp (by kernel_rfl)) .nil) (fun w hw => (Sat.less (.drop .here (.drop .here (.drop .here (.drop .here (.drop .here (.drop .here (.drop .here (.drop .here (.drop .here (.drop .here .refl)))))))))) hw)) ?_
      exact ⟨rfl, rfl⟩
  · replace H := bifF H h1
    refine s_pure 27 (.bool false) (by kernel_rfl) (by kernel_rfl) (run_eq (v := .bool (y5_4.2.1)) (fun _ => by kernel_rfl) (congrArg Value.bool h1)) ?_
    refine s_pass 28 (by kernel_rfl) (by kernel_rfl) ?_
    refine s_pass 29 (by kernel_rfl) (by kernel_rfl) ?_
    refine s_pass 30 (by kernel_rfl) (by kernel_rfl) ?_
    refine s_pure 31 (.bool false) (by kernel_rfl) (by kernel_rfl) (fun _ => by kernel_rfl) ?_
    refine s_pure 32 (.bool false) (by kernel_rfl) (by kernel_rfl) (fun _ => by kernel_rfl) ?_
    refine s_pass 33 (by kernel_rfl) (by kernel_rfl) ?_
    refine s_pass 34 (by kernel_rfl) (by kernel_rfl) ?_
    refine s_pure 35 (.bool false) (by kernel_rfl) (by kernel_rfl) (fun _ => by kernel_rfl) ?_
    refine s_pure 36 (.bool false) (by kernel_rfl) (by kernel_rfl) (fun _ => by kernel_rfl) ?_
    refine s_pass 37 (by kernel_rfl) (by kernel_rfl) ?_
    refine s_pass 38 (by kernel_rfl) (by kernel_rfl) ?_
    refine s_pass 39 (by kernel_rfl) (by kernel_rfl) ?_
    refine s_pass 40 (by kernel_rfl) (by kernel_rfl) ?_
    refine s_pure 41 (.bool false) (by kernel_rfl) (by kernel_rfl) (fun _ => by kernel_rfl) ?_
    refine s_pure 42 (.bool false) (by kernel_rfl) (by kernel_rfl) (fun _ => by kernel_rfl) ?_
    refine s_pass 43 (by kernel_rfl) (by kernel_rfl) ?_
    refine s_pass 44 (by kernel_rfl) (by kernel_rfl) ?_
    refine s_pass 45 (by kernel_rfl) (by kernel_rfl) ?_
    refine s_pass 46 (by kernel_rfl) (by kernel_rfl) ?_
    refine s_pass 47 (by kernel_rfl) (by kernel_rfl) ?_
    refine s_pure 48 (.bool false) (by kernel_rfl) (by kernel_rfl) (fun _ => by kernel_rfl) ?_
    refine s_pure 49 (.bool false) (by kernel_rfl) (by kernel_rfl) (fun _ => by kernel_rfl) ?_
    refine s_pass 50 (by kernel_rfl) (by kernel_rfl) ?_
    refine s_pass 51 (by kernel_rfl) (by kernel_rfl) ?_
    refine s_pass 52 (by kernel_rfl) (by kernel_rfl) ?_
    refine s_pure 53 (.bool false) (by kernel_rfl) (by kernel_rfl) (fun _ => by kernel_rfl) ?_
    refine s_pure 54 (.bool false) (by kernel_rfl) (by kernel_rfl) (fun _ => by kernel_rfl) ?_
    refine s_pass 55 (by kernel_rfl) (by kernel_rfl) ?_
    refine s_pass 56 (by kernel_rfl) (by kernel_rfl) ?_
    refine s_pass 57 (by kernel_rfl) (by kernel_rfl) ?_
    refine s_pure 58 (.bool false) (by kernel_rfl) (by kernel_rfl) (fun _ => by kernel_rfl) ?_
    refine s_pure 59 (.bool false) (by kernel_rfl) (by kernel_rfl) (fun _ => by kernel_rfl) ?_
    refine s_pass 60 (by kernel_rfl) (by kernel_rfl) ?_
    refine s_pass 61 (by kernel_rfl) (by kernel_rfl) ?_
    refine s_pass 62 (by kernel_rfl) (by kernel_rfl) ?_
    refine s_pure 63 (.bool false) (by kernel_rfl) (by kernel_rfl) (fun _ => by kernel_rfl) ?_
    refine s_pure 0 (.bool false) (by kernel_rfl) (by kernel_rfl) (fun _ => by kernel_rfl) ?_
    refine ops_end ?_
    refine At.env [(0, .bool false)] ⟨by kernel_rfl, trivial⟩ ?_
    refine at_then_normal ?_
    refine at_ret (by kernel_rfl) ?_
    obtain rfl := someE H
    refine at_backR [.bool false] (Γ) (rs := [.tmp 0]) (by kernel_rfl) (.cons (.tmp (by kernel_rfl)) .nil) (fun w hw => (Sat.less (.drop .here (.drop .here (.drop .here (.drop .here (.drop .here (.drop .here (.drop .here (.drop .here (.drop .here (.drop .here .refl)))))))))) hw)) ?_
    exact ⟨rfl, rfl⟩
end Go.Proofs.Ytlnjnkbnppnbkaa
