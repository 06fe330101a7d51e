/- Rollout: what comes of an answer. -/
import Derived.Test.YtlnjnkbnppnbkaaDeA
namespace Go.Proofs.Ytlnjnkbnppnbkaa
open Go Go.RowKit
set_option linter.unusedVariables false
set_option linter.unusedSimpArgs false
def routS (d : DealS) (cc : CacheS) (head : Int) : Option (DealS × CacheS) :=
 (dropS cc d.line).bind fun y1_3 => some ((⟨d.kind, d.line, d.id, 6, 1, head, ([] : List Int), d.next, d.told⟩ : DealS), y1_3.2.2)
noncomputable def C51 (p : List Nat) : Code := codeAt (bodyOf Try.f51) p
set_option maxRecDepth 100000 in
set_option maxHeartbeats 8000000 in
theorem ROutF_tr {W0 : World} {Γ : List Asn} (da : Option Addr) (dcap : Nat) (d : DealS) (c : Nat) (cc : CacheS) (head : Int)  (y : DealS × CacheS) (H : routS d cc head = some y) : Tr Try.prog 51 #[.agg #[.int .i64 d.kind, .int .i64 d.line, .int .i64 d.id, .int .i64 d.step, .int .i64 d.state, .int .i64 d.head, .slice da (List.length d.data) dcap, .int .i64 d.next, .int .i64 d.told], .pointer (some ⟨c, 0, none⟩), .int .i64 head] W0 ((ImmI da d.data) :: (CacheA c cc) :: Γ) (fun r Δ => ∃ (a0_0 : Option Addr) (c0_0 : Nat), r = .agg #[.int .i64 y.1.kind, .int .i64 y.1.line, .int .i64 y.1.id, .int .i64 y.1.step, .int .i64 y.1.state, .int .i64 y.1.head, .slice a0_0 (List.length y.1.data) c0_0, .int .i64 y.1.next, .int .i64 y.1.told] ∧ Δ = (ImmI a0_0 y.1.data) :: (CacheA c y.2) :: Γ) := by
 unfold routS at H
 refine Tr.enter (fn := Try.f51) (c := C51 []) (args := [.agg #[.int .i64 d.kind, .int .i64 d.line, .int .i64 d.id, .int .i64 d.step, .int .i64 d.state, .int .i64 d.head, .slice da (List.length d.data) dcap, .int .i64 d.next, .int .i64 d.told], .pointer (some ⟨c, 0, none⟩), .int .i64 head]) 17 Try.func51 (by kernel_rfl) (by kernel_rfl) ?_
 refine ae [(0, .agg #[.int .i64 d.kind, .int .i64 d.line, .int .i64 d.id, .int .i64 d.step, .int .i64 d.state, .int .i64 d.head, .slice da (List.length d.data) dcap, .int .i64 d.next, .int .i64 d.told]), (1, .pointer (some ⟨c, 0, none⟩)), (2, .int .i64 head)] ?_
 refine aq (x := C51 [0]) (y := C51 [1]) ?_
 refine ar (id := 0) 2 ?_
 refine s_step 3 (by kernel_rfl) (by kernel_rfl) (st_new (T := 35) (cells := #[.int .i64 d.kind, .int .i64 d.line, .int .i64 d.id, .int .i64 d.step, .int .i64 d.state, .int .i64 d.head, .slice da (List.length d.data) dcap, .int .i64 d.next, .int .i64 d.told]) (fun a => .pointer (some a)) (fun _ => by kernel_rfl)) ?_
 rintro _ _ ⟨b0_0, rfl, rfl⟩
 refine s_step 6 (by kernel_rfl) (by kernel_rfl) (st_new (T := 35) (cells := #[.int .i64 (0), .int .i64 (0), .int .i64 (0), .int .i64 (0), .int .i64 (0), .int .i64 (0), .slice none 0 0, .int .i64 (0), .int .i64 (0)]) (fun a => .pointer (some a)) (fun _ => by kernel_rfl)) ?_
 rintro _ _ ⟨b0_1, rfl, rfl⟩
 refine ops_end ?_
 refine ae [(1, .pointer (some ⟨c, 0, none⟩)), (2, .int .i64 head), (3, .pointer (some ⟨b0_0, 0, none⟩)), (6, .pointer (some ⟨b0_1, 0, none⟩))] ?_
 refine at_then_normal ?_
 refine aq (x := C51 [1,0]) (y := C51 [1,1]) ?_
 refine ar (id := 1) 4 ?_
 refine sp 7 (.pointer (some ⟨c, 0, none⟩)) ?_
 refine sp 8 (.pointer (some ⟨b0_0, 1, none⟩)) ?_
 refine sl 9 (.int .i64 d.line) (load1 (off := 1) (fun _ => by kernel_rfl) (holds_own (.there .here)) (by kernel_rfl)) ?_
 obtain ⟨y1_3, hy1_3, H⟩ := bindE H
 refine s_call 10 56 #[.pointer (some ⟨c, 0, none⟩), .int .i64 d.line] (by kernel_rfl) (by kernel_rfl) (fun _ => by kernel_rfl) (Tr.conv (Γ' := (CacheA c cc) :: (Asn.own b0_1 (.cells #[.int .i64 (0), .int .i64 (0), .int .i64 (0), .int .i64 (0), .int .i64 (0), .int .i64 (0), .slice none 0 0, .int .i64 (0), .int .i64 (0)] 35 (0, 0))) :: (Asn.own b0_0 (.cells #[.int .i64 d.kind, .int .i64 d.line, .int .i64 d.id, .int .i64 d.step, .int .i64 d.state, .int .i64 d.head, .slice da (List.length d.data) dcap, .int .i64 d.next, .int .i64 d.told] 35 (0, 0))) :: (ImmI da d.data) :: Γ) (fun w hw => (Sat.less (.take (.there (.there (.there .here))) (.take .here (.take .here (.take .here .refl)))) hw)) (DropF_tr c cc d.line y1_3 hy1_3)) ?_
 rintro _ _ ⟨a1_3_00, c1_3_00, rfl, rfl⟩
 refine ops_end ?_
 refine ae [(2, .int .i64 head), (3, .pointer (some ⟨b0_0, 0, none⟩)), (6, .pointer (some ⟨b0_1, 0, none⟩))] ?_
 refine at_then_normal ?_
 refine aq (x := C51 [1,1,0]) (y := C51 [1,1,1]) ?_
 refine ar (id := 2) 9 ?_
 refine sp 11 (.int .i64 head) ?_
 refine sp 12 (.pointer (some ⟨b0_0, 3, none⟩)) ?_
 refine s_do (by kernel_rfl) (by kernel_rfl) (st_store (off := 3) (vs := [.int .i64 (6)]) (c' := #[.int .i64 d.kind, .int .i64 d.line, .int .i64 d.id, .int .i64 (6), .int .i64 d.state, .int .i64 d.head, .slice da (List.length d.data) dcap, .int .i64 d.next, .int .i64 d.told]) (fun _ => by kernel_rfl) (.there (.there (.there .here))) (by kernel_rfl) (by kernel_rfl) (by kernel_rfl)) ?_
 rintro _ _ ⟨rfl, rfl⟩
 refine sp 13 (.pointer (some ⟨b0_0, 4, none⟩)) ?_
 refine s_do (by kernel_rfl) (by kernel_rfl) (st_store (off := 4) (vs := [.int .i64 (1)]) (c' := #[.int .i64 d.kind, .int .i64 d.line, .int .i64 d.id, .int .i64 (6), .int .i64 (1), .int .i64 d.head, .slice da (List.length d.data) dcap, .int .i64 d.next, .int .i64 d.told]) (fun _ => by kernel_rfl) .here (by kernel_rfl) (by kernel_rfl) (by kernel_rfl)) ?_
 rintro _ _ ⟨rfl, rfl⟩
 refine sp 14 (.pointer (some ⟨b0_0, 5, none⟩)) ?_
 refine s_do (by kernel_rfl) (by kernel_rfl) (st_store (off := 5) (vs := [.int .i64 head]) (c' := #[.int .i64 d.kind, .int .i64 d.line, .int .i64 d.id, .int .i64 (6), .int .i64 (1), .int .i64 head, .slice da (List.length d.data) dcap, .int .i64 d.next, .int .i64 d.told]) (fun _ => by kernel_rfl) .here (by kernel_rfl) (by kernel_rfl) (by kernel_rfl)) ?_
 rintro _ _ ⟨rfl, rfl⟩
 refine sp 15 (.pointer (some ⟨b0_0, 6, none⟩)) ?_
 refine s_do (by kernel_rfl) (by kernel_rfl) (st_store (off := 6) (vs := [.slice none 0 0]) (c' := #[.int .i64 d.kind, .int .i64 d.line, .int .i64 d.id, .int .i64 (6), .int .i64 (1), .int .i64 head, .slice none 0 0, .int .i64 d.next, .int .i64 d.told]) (fun _ => by kernel_rfl) .here (by kernel_rfl) (by kernel_rfl) (by kernel_rfl)) ?_
 rintro _ _ ⟨rfl, rfl⟩
 refine ops_end ?_
 refine ae [(3, .pointer (some ⟨b0_0, 0, none⟩)), (6, .pointer (some ⟨b0_1, 0, none⟩))] ?_
 refine at_then_normal ?_
 refine aq (x := C51 [1,1,1,0]) (y := C51 [1,1,1,1]) ?_
 refine ar (id := 3) 2 ?_
 refine sl 16 (.agg #[.int .i64 d.kind, .int .i64 d.line, .int .i64 d.id, .int .i64 (6), .int .i64 (1), .int .i64 head, .slice none 0 0, .int .i64 d.next, .int .i64 d.told]) (loadN (off := 0) (vs := [.int .i64 d.kind, .int .i64 d.line, .int .i64 d.id, .int .i64 (6), .int .i64 (1), .int .i64 head, .slice none 0 0, .int .i64 d.next, .int .i64 d.told]) 9 (fun _ => by kernel_rfl) (holds_own .here) rfl (by exact ⟨rfl, rfl, rfl, rfl, rfl, rfl, rfl, rfl, rfl, trivial⟩)) ?_
 refine s_do (by kernel_rfl) (by kernel_rfl) (st_store (off := 0) (vs := [.int .i64 d.kind, .int .i64 d.line, .int .i64 d.id, .int .i64 (6), .int .i64 (1), .int .i64 head, .slice none 0 0, .int .i64 d.next, .int .i64 d.told]) (c' := #[.int .i64 d.kind, .int .i64 d.line, .int .i64 d.id, .int .i64 (6), .int .i64 (1), .int .i64 head, .slice none 0 0, .int .i64 d.next, .int .i64 d.told]) (fun _ => by kernel_rfl) (.there (.there (.there .here))) (by kernel_rfl) (by kernel_rfl) (by kernel_rfl)) ?_
 rintro _ _ ⟨rfl, rfl⟩
 refine ops_end ?_
 refine ae [(6, .pointer (some ⟨b0_1, 0, none⟩))] ?_
 refine at_then_normal ?_
 refine at_ret (by kernel_rfl) ?_
 obtain rfl := someE H
 refine at_backR [.agg #[.int .i64 d.kind, .int .i64 d.line, .int .i64 d.id, .int .i64 (6), .int .i64 (1), .int .i64 head, .slice none 0 0, .int .i64 d.next, .int .i64 d.told]] ((ImmI none ([] : List Int)) :: (CacheA c y1_3.2.2) :: Γ) (rs := [.cell 6 35]) (by kernel_rfl) (.cons (.cell (by kernel_rfl) (retN (off := 0) (vs := [.int .i64 d.kind, .int .i64 d.line, .int .i64 d.id, .int .i64 (6), .int .i64 (1), .int .i64 head, .slice none 0 0, .int .i64 d.next, .int .i64 d.told]) 9 (fun _ => by kernel_rfl) (holds_own .here) rfl (by exact ⟨rfl, rfl, rfl, rfl, rfl, rfl, rfl, rfl, rfl, trivial⟩))) .nil) (fun w hw => (Sat.less (.take .here (.take (.there (.there (.there .here))) (.drop .here (.drop .here (.drop .here (.drop .here .refl)))))) (ImmR.nil_mk (k := 1) (a := none) hw))) ?_
 exact ⟨none, 0, rfl, rfl⟩
def rlockedS (d : DealS) (cc : CacheS) (p : PktS) : Option (DealS × CacheS) :=
 (findS cc d.line).bind fun y3_3 => (bif !y3_3.2 then some ((⟨d.kind, d.line, d.id, 6, p.state, p.ptr, ([] : List Int), d.next, p.ptr⟩ : DealS), cc) else (lonlyS (⟨y3_3.1.fwd, y3_3.1.back⟩ : LinkS)).bind fun y7_2 => (bif y7_2 then (dropS cc d.line).bind fun y8_3 => (bif y3_3.1.dirty then some ((⟨d.kind, d.line, d.id, 6, 0, (-1), y3_3.1.data, d.next, p.ptr⟩ : DealS), y8_3.2.2) else some ((⟨d.kind, d.line, d.id, 6, 0, (-1), ([] : List Int), d.next, p.ptr⟩ : DealS), y8_3.2.2)) else (lheadS (⟨y3_3.1.fwd, y3_3.1.back⟩ : LinkS)).bind fun y12_2 => (bif y12_2 then some ((⟨d.kind, d.line, d.id, 5, p.state, (-1), ([] : List Int), y3_3.1.fwd, p.ptr⟩ : DealS), cc) else some ((⟨d.kind, d.line, d.id, 4, p.state, y3_3.1.back, ([] : List Int), y3_3.1.fwd, p.ptr⟩ : DealS), cc))))
noncomputable def C50 (p : List Nat) : Code := codeAt (bodyOf Try.f50) p
set_option maxRecDepth 100000 in
set_option maxHeartbeats 8000000 in
theorem RLockedF_tr {W0 : World} {Γ : List Asn} (da : Option Addr) (dcap : Nat) (d : DealS) (c : Nat) (cc : CacheS) (pa : Option Addr) (pcap : Nat) (p : PktS) (hrpa : Reads W0 Γ pa (ints p.data)) (y : DealS × CacheS) (H : rlockedS d cc p = some y) : Tr Try.prog 50 #[.agg #[.int .i64 d.kind, .int .i64 d.line, .int .i64 d.id, .int .i64 d.step, .int .i64 d.state, .int .i64 d.head, .slice da (List.length d.data) dcap, .int .i64 d.next, .int .i64 d.told], .pointer (some ⟨c, 0, none⟩), .agg #[.int .i64 p.kind, .int .i64 p.src, .int .i64 p.dst, .int .i64 p.id, .int .i64 p.line, .int .i64 p.ptr, .int .i64 p.state, .bool p.flag, .slice pa (List.length p.data) pcap]] W0 ((ImmI da d.data) :: (CacheA c cc) :: Γ) (fun r Δ => ∃ (a0_0 : Option Addr) (c0_0 : Nat), r = .agg #[.int .i64 y.1.kind, .int .i64 y.1.line, .int .i64 y.1.id, .int .i64 y.1.step, .int .i64 y.1.state, .int .i64 y.1.head, .slice a0_0 (List.length y.1.data) c0_0, .int .i64 y.1.next, .int .i64 y.1.told] ∧ Δ = (ImmI a0_0 y.1.data) :: (CacheA c y.2) :: Γ) := by
 unfold rlockedS at H
 refine Tr.enter (fn := Try.f50) (c := C50 []) (args := [.agg #[.int .i64 d.kind, .int .i64 d.line, .int .i64 d.id, .int .i64 d.step, .int .i64 d.state, .int .i64 d.head, .slice da (List.length d.data) dcap, .int .i64 d.next, .int .i64 d.told], .pointer (some ⟨c, 0, none⟩), .agg #[.int .i64 p.kind, .int .i64 p.src, .int .i64 p.dst, .int .i64 p.id, .int .i64 p.line, .int .i64 p.ptr, .int .i64 p.state, .bool p.flag, .slice pa (List.length p.data) pcap]]) 66 Try.func50 (by kernel_rfl) (by kernel_rfl) ?_
 refine ae [(0, .agg #[.int .i64 d.kind, .int .i64 d.line, .int .i64 d.id, .int .i64 d.step, .int .i64 d.state, .int .i64 d.head, .slice da (List.length d.data) dcap, .int .i64 d.next, .int .i64 d.told]), (1, .pointer (some ⟨c, 0, none⟩)), (2, .agg #[.int .i64 p.kind, .int .i64 p.src, .int .i64 p.dst, .int .i64 p.id, .int .i64 p.line, .int .i64 p.ptr, .int .i64 p.state, .bool p.flag, .slice pa (List.length p.data) pcap])] ?_
 refine aq (x := C50 [0]) (y := C50 [1]) ?_
 refine ar (id := 0) 3 ?_
 refine s_step 3 (by kernel_rfl) (by kernel_rfl) (st_new (T := 35) (cells := #[.int .i64 d.kind, .int .i64 d.line, .int .i64 d.id, .int .i64 d.step, .int .i64 d.state, .int .i64 d.head, .slice da (List.length d.data) dcap, .int .i64 d.next, .int .i64 d.told]) (fun a => .pointer (some a)) (fun _ => by kernel_rfl)) ?_
 rintro _ _ ⟨b0_0, rfl, rfl⟩
 refine s_step 5 (by kernel_rfl) (by kernel_rfl) (st_new (T := 40) (cells := #[.int .i64 p.kind, .int .i64 p.src, .int .i64 p.dst, .int .i64 p.id, .int .i64 p.line, .int .i64 p.ptr, .int .i64 p.state, .bool p.flag, .slice pa (List.length p.data) pcap]) (fun a => .pointer (some a)) (fun _ => by kernel_rfl)) ?_
 rintro _ _ ⟨b0_1, rfl, rfl⟩
 refine s_step 6 (by kernel_rfl) (by kernel_rfl) (st_new (T := 35) (cells := #[.int .i64 (0), .int .i64 (0), .int .i64 (0), .int .i64 (0), .int .i64 (0), .int .i64 (0), .slice none 0 0, .int .i64 (0), .int .i64 (0)]) (fun a => .pointer (some a)) (fun _ => by kernel_rfl)) ?_
 rintro _ _ ⟨b0_2, rfl, rfl⟩
 refine ops_end ?_
 refine ae [(1, .pointer (some ⟨c, 0, none⟩)), (3, .pointer (some ⟨b0_0, 0, none⟩)), (5, .pointer (some ⟨b0_1, 0, none⟩)), (6, .pointer (some ⟨b0_2, 0, none⟩))] ?_
 refine at_then_normal ?_
 refine aq (x := C50 [1,0]) (y := C50 [1,1]) ?_
 refine at_region_draw (id := 1) (by kernel_rfl) (by kernel_rfl) ?_
 refine dp 0 9 (.pointer (some ⟨b0_1, 6, none⟩)) ?_
 refine dl 1 10 (.int .i64 p.state) (load1 (off := 6) (fun _ => by kernel_rfl) (holds_own (.there .here)) (by kernel_rfl)) ?_
 refine dp 2 11 (.pointer (some ⟨b0_1, 5, none⟩)) ?_
 refine dl 3 12 (.int .i64 p.ptr) (load1 (off := 5) (fun _ => by kernel_rfl) (holds_own (.there .here)) (by kernel_rfl)) ?_
 refine dp 4 13 (.pointer (some ⟨b0_1, 5, none⟩)) ?_
 refine dl 5 14 (.int .i64 p.ptr) (load1 (off := 5) (fun _ => by kernel_rfl) (holds_own (.there .here)) (by kernel_rfl)) ?_
 refine dp 6 15 (.pointer (some ⟨b0_0, 4, none⟩)) ?_
 refine d_do 7 [6, 1, 0] [4, 2] [5, 3] (by kernel_rfl) (by kernel_rfl) (by kernel_rfl) (st_store (off := 4) (vs := [.int .i64 p.state]) (c' := #[.int .i64 d.kind, .int .i64 d.line, .int .i64 d.id, .int .i64 d.step, .int .i64 p.state, .int .i64 d.head, .slice da (List.length d.data) dcap, .int .i64 d.next, .int .i64 d.told]) (fun _ => by kernel_rfl) (.there (.there .here)) (by kernel_rfl) (by kernel_rfl) (by kernel_rfl)) ?_
 rintro _ _ ⟨rfl, rfl⟩
 refine ⟨(stable_cons 5 14 (.int .i64 p.ptr) (by kernel_rfl) (by kernel_rfl) (by kernel_rfl) (load1 (off := 5) (fun _ => by kernel_rfl) (holds_own (.there (.there .here))) (by kernel_rfl)) (stable_cons 3 12 (.int .i64 p.ptr) (by kernel_rfl) (by kernel_rfl) (by kernel_rfl) (load1 (off := 5) (fun _ => by kernel_rfl) (holds_own (.there (.there .here))) (by kernel_rfl)) stable_nil)), ?_⟩
 refine dp 8 16 (.pointer (some ⟨b0_0, 5, none⟩)) ?_
 refine d_do 9 [8, 3, 7, 0, 1, 2, 6] [4] [5] (by kernel_rfl) (by kernel_rfl) (by kernel_rfl) (st_store (off := 5) (vs := [.int .i64 p.ptr]) (c' := #[.int .i64 d.kind, .int .i64 d.line, .int .i64 d.id, .int .i64 d.step, .int .i64 p.state, .int .i64 p.ptr, .slice da (List.length d.data) dcap, .int .i64 d.next, .int .i64 d.told]) (fun _ => by kernel_rfl) .here (by kernel_rfl) (by kernel_rfl) (by kernel_rfl)) ?_
 rintro _ _ ⟨rfl, rfl⟩
 refine ⟨(stable_cons 5 14 (.int .i64 p.ptr) (by kernel_rfl) (by kernel_rfl) (by kernel_rfl) (load1 (off := 5) (fun _ => by kernel_rfl) (holds_own (.there (.there .here))) (by kernel_rfl)) stable_nil), ?_⟩
 refine dp 10 17 (.pointer (some ⟨b0_0, 8, none⟩)) ?_
 refine d_do 11 [10, 5, 9, 0, 1, 2, 3, 4, 6, 7, 8] [] [] (by kernel_rfl) (by kernel_rfl) (by kernel_rfl) (st_store (off := 8) (vs := [.int .i64 p.ptr]) (c' := #[.int .i64 d.kind, .int .i64 d.line, .int .i64 d.id, .int .i64 d.step, .int .i64 p.state, .int .i64 p.ptr, .slice da (List.length d.data) dcap, .int .i64 d.next, .int .i64 p.ptr]) (fun _ => by kernel_rfl) .here (by kernel_rfl) (by kernel_rfl) (by kernel_rfl)) ?_
 rintro _ _ ⟨rfl, rfl⟩
 refine ⟨stable_nil, ?_⟩
 refine dp 12 18 (.pointer (some ⟨b0_0, 6, none⟩)) ?_
 refine d_do 13 [12, 11, 0, 1, 2, 3, 4, 5, 6, 7, 8, 9, 10] [] [] (by kernel_rfl) (by kernel_rfl) (by kernel_rfl) (st_store (off := 6) (vs := [.slice none 0 0]) (c' := #[.int .i64 d.kind, .int .i64 d.line, .int .i64 d.id, .int .i64 d.step, .int .i64 p.state, .int .i64 p.ptr, .slice none 0 0, .int .i64 d.next, .int .i64 p.ptr]) (fun _ => by kernel_rfl) .here (by kernel_rfl) (by kernel_rfl) (by kernel_rfl)) ?_
 rintro _ _ ⟨rfl, rfl⟩
 refine ⟨stable_nil, ?_⟩
 refine draw_end (by kernel_rfl) ?_
 refine ae [(1, .pointer (some ⟨c, 0, none⟩)), (3, .pointer (some ⟨b0_0, 0, none⟩)), (6, .pointer (some ⟨b0_2, 0, none⟩))] ?_
 refine at_then_normal ?_
 refine aq (x := C50 [1,1,0]) (y := C50 [1,1,1]) ?_
 refine ar (id := 2) 2 ?_
 refine sp 19 (.pointer (some ⟨b0_0, 3, none⟩)) ?_
 refine s_do (by kernel_rfl) (by kernel_rfl) (st_store (off := 3) (vs := [.int .i64 (6)]) (c' := #[.int .i64 d.kind, .int .i64 d.line, .int .i64 d.id, .int .i64 (6), .int .i64 p.state, .int .i64 p.ptr, .slice none 0 0, .int .i64 d.next, .int .i64 p.ptr]) (fun _ => by kernel_rfl) .here (by kernel_rfl) (by kernel_rfl) (by kernel_rfl)) ?_
 rintro _ _ ⟨rfl, rfl⟩
 refine ops_end ?_
 refine ae [(1, .pointer (some ⟨c, 0, none⟩)), (3, .pointer (some ⟨b0_0, 0, none⟩)), (6, .pointer (some ⟨b0_2, 0, none⟩))] ?_
 refine at_then_normal ?_
 refine aq (x := C50 [1,1,1,0]) (y := C50 [1,1,1,1]) ?_
 refine ar (id := 3) 10 ?_
 refine sp 21 (.pointer (some ⟨c, 0, none⟩)) ?_
 refine sp 22 (.pointer (some ⟨b0_0, 1, none⟩)) ?_
 refine sl 23 (.int .i64 d.line) (load1 (off := 1) (fun _ => by kernel_rfl) (holds_own .here) (by kernel_rfl)) ?_
 obtain ⟨y3_3, hy3_3, H⟩ := bindE H
 refine s_call 24 18 #[.pointer (some ⟨c, 0, none⟩), .int .i64 d.line] (by kernel_rfl) (by kernel_rfl) (fun _ => by kernel_rfl) (Tr.conv (Γ' := (CacheA c cc) :: (Asn.own b0_0 (.cells #[.int .i64 d.kind, .int .i64 d.line, .int .i64 d.id, .int .i64 (6), .int .i64 p.state, .int .i64 p.ptr, .slice none 0 0, .int .i64 d.next, .int .i64 p.ptr] 35 (0, 0))) :: (Asn.own b0_2 (.cells #[.int .i64 (0), .int .i64 (0), .int .i64 (0), .int .i64 (0), .int .i64 (0), .int .i64 (0), .slice none 0 0, .int .i64 (0), .int .i64 (0)] 35 (0, 0))) :: (Asn.own b0_1 (.cells #[.int .i64 p.kind, .int .i64 p.src, .int .i64 p.dst, .int .i64 p.id, .int .i64 p.line, .int .i64 p.ptr, .int .i64 p.state, .bool p.flag, .slice pa (List.length p.data) pcap] 40 (0, 0))) :: (ImmI da d.data) :: Γ) (fun w hw => (Sat.less (.take (.there (.there (.there (.there .here)))) (.take .here (.take .here (.take .here (.take .here .refl))))) hw)) (FindF_tr c cc d.line y3_3 hy3_3)) ?_
 rintro _ _ ⟨a3_3_00, c3_3_00, rfl, rfl⟩
 refine sp 20 (.tuple #[.agg #[.int .i64 y3_3.1.fwd, .int .i64 y3_3.1.back, .int .i64 y3_3.1.line, .int .i64 y3_3.1.used, .bool y3_3.1.dirty, .slice a3_3_00 (List.length y3_3.1.data) c3_3_00], .bool y3_3.2]) ?_
 refine sp 25 (.agg #[.int .i64 y3_3.1.fwd, .int .i64 y3_3.1.back, .int .i64 y3_3.1.line, .int .i64 y3_3.1.used, .bool y3_3.1.dirty, .slice a3_3_00 (List.length y3_3.1.data) c3_3_00]) ?_
 refine sp 26 (.bool y3_3.2) ?_
 refine s_step 7 (by kernel_rfl) (by kernel_rfl) (st_new (T := 32) (cells := #[.int .i64 (0), .int .i64 (0), .int .i64 (0), .int .i64 (0), .bool false, .slice none 0 0]) (fun a => .pointer (some a)) (fun _ => by kernel_rfl)) ?_
 rintro _ _ ⟨b3_7, rfl, rfl⟩
 refine s_do (by kernel_rfl) (by kernel_rfl) (st_store (off := 0) (vs := [.int .i64 y3_3.1.fwd, .int .i64 y3_3.1.back, .int .i64 y3_3.1.line, .int .i64 y3_3.1.used, .bool y3_3.1.dirty, .slice a3_3_00 (List.length y3_3.1.data) c3_3_00]) (c' := #[.int .i64 y3_3.1.fwd, .int .i64 y3_3.1.back, .int .i64 y3_3.1.line, .int .i64 y3_3.1.used, .bool y3_3.1.dirty, .slice a3_3_00 (List.length y3_3.1.data) c3_3_00]) (fun _ => by kernel_rfl) .here (by kernel_rfl) (by kernel_rfl) (by kernel_rfl)) ?_
 rintro _ _ ⟨rfl, rfl⟩
 refine sp 8 (.bool y3_3.2) ?_
 refine ops_end ?_
 refine ae [(1, .pointer (some ⟨c, 0, none⟩)), (3, .pointer (some ⟨b0_0, 0, none⟩)), (6, .pointer (some ⟨b0_2, 0, none⟩)), (7, .pointer (some ⟨b3_7, 0, none⟩)), (8, .bool y3_3.2)] ?_
 refine at_then_normal ?_
 refine aq (x := C50 [1,1,1,1,0]) (y := C50 [1,1,1,1,1]) ?_
 refine at_block (i := 0) (x := C50 [1,1,1,1,0,0]) (by kernel_rfl) ?_
 refine aq (x := C50 [1,1,1,1,0,0,0]) (y := C50 [1,1,1,1,0,0,1]) ?_
 refine ar (id := 5) 3 ?_
 refine sp 37 (.bool y3_3.2) ?_
 refine sp 38 (.bool !y3_3.2) ?_
 refine sp 36 (.bool !y3_3.2) ?_
 refine ops_end ?_
 refine ae [(1, .pointer (some ⟨c, 0, none⟩)), (3, .pointer (some ⟨b0_0, 0, none⟩)), (6, .pointer (some ⟨b0_2, 0, none⟩)), (7, .pointer (some ⟨b3_7, 0, none⟩)), (36, .bool !y3_3.2)] ?_
 refine at_then_normal ?_
 rcases Bool.eq_false_or_eq_true (!y3_3.2) with h1 | h1
 ·replace H := bifT H h1
  refine at_true (t := !y3_3.2) (x := C50 [1,1,1,1,0,0,1,0]) (y := C50 [1,1,1,1,0,0,1,1]) (o := .tmp 36) (by kernel_rfl) (by kernel_rfl) (by kernel_rfl) h1 ?_
  refine aq (x := C50 [1,1,1,1,0,0,1,0,0]) (y := C50 [1,1,1,1,0,0,1,0,1]) ?_
  refine ar (id := 6) 2 ?_
  refine sl 39 (.agg #[.int .i64 d.kind, .int .i64 d.line, .int .i64 d.id, .int .i64 (6), .int .i64 p.state, .int .i64 p.ptr, .slice none 0 0, .int .i64 d.next, .int .i64 p.ptr]) (loadN (off := 0) (vs := [.int .i64 d.kind, .int .i64 d.line, .int .i64 d.id, .int .i64 (6), .int .i64 p.state, .int .i64 p.ptr, .slice none 0 0, .int .i64 d.next, .int .i64 p.ptr]) 9 (fun _ => by kernel_rfl) (holds_own (.there (.there (.there .here)))) rfl (by exact ⟨rfl, rfl, rfl, rfl, rfl, rfl, rfl, rfl, rfl, trivial⟩)) ?_
  refine s_do (by kernel_rfl) (by kernel_rfl) (st_store (off := 0) (vs := [.int .i64 d.kind, .int .i64 d.line, .int .i64 d.id, .int .i64 (6), .int .i64 p.state, .int .i64 p.ptr, .slice none 0 0, .int .i64 d.next, .int .i64 p.ptr]) (c' := #[.int .i64 d.kind, .int .i64 d.line, .int .i64 d.id, .int .i64 (6), .int .i64 p.state, .int .i64 p.ptr, .slice none 0 0, .int .i64 d.next, .int .i64 p.ptr]) (fun _ => by kernel_rfl) (.there (.there (.there (.there .here)))) (by kernel_rfl) (by kernel_rfl) (by kernel_rfl)) ?_
  rintro _ _ ⟨rfl, rfl⟩
  refine ops_end ?_
  refine ae [(6, .pointer (some ⟨b0_2, 0, none⟩))] ?_
  refine at_then_normal ?_
  refine at_ret (by kernel_rfl) ?_
  refine at_in_ret ?_
  refine at_then_ret ?_
  obtain rfl := someE H
  refine at_backR [.agg #[.int .i64 d.kind, .int .i64 d.line, .int .i64 d.id, .int .i64 (6), .int .i64 p.state, .int .i64 p.ptr, .slice none 0 0, .int .i64 d.next, .int .i64 p.ptr]] ((ImmI none ([] : List Int)) :: (CacheA c cc) :: Γ) (rs := [.cell 6 35]) (by kernel_rfl) (.cons (.cell (by kernel_rfl) (retN (off := 0) (vs := [.int .i64 d.kind, .int .i64 d.line, .int .i64 d.id, .int .i64 (6), .int .i64 p.state, .int .i64 p.ptr, .slice none 0 0, .int .i64 d.next, .int .i64 p.ptr]) 9 (fun _ => by kernel_rfl) (holds_own .here) rfl (by exact ⟨rfl, rfl, rfl, rfl, rfl, rfl, rfl, rfl, rfl, trivial⟩))) .nil) (fun w hw => (Sat.less (.take .here (.take (.there (.there (.there .here))) (.drop .here (.drop .here (.drop .here (.drop .here (.drop .here (.drop .here .refl)))))))) (ImmR.nil_mk (k := 1) (a := none) hw))) ?_
  exact ⟨none, 0, rfl, rfl⟩
 ·replace H := bifF H h1
  refine at_false (t := !y3_3.2) (x := C50 [1,1,1,1,0,0,1,0]) (y := C50 [1,1,1,1,0,0,1,1]) (o := .tmp 36) (by kernel_rfl) (by kernel_rfl) (by kernel_rfl) h1 ?_
  refine aq (x := C50 [1,1,1,1,0,0,1,1,0]) (y := C50 [1,1,1,1,0,0,1,1,1]) ?_
  refine ar (id := 7) 4 ?_
  refine sp 41 (.pointer (some ⟨b3_7, 0, none⟩)) ?_
  refine sl 42 (.agg #[.int .i64 y3_3.1.fwd, .int .i64 y3_3.1.back]) (loadN (off := 0) (vs := [.int .i64 y3_3.1.fwd, .int .i64 y3_3.1.back]) 2 (fun _ => by kernel_rfl) (holds_own .here) rfl (by exact ⟨rfl, rfl, trivial⟩)) ?_
  obtain ⟨y7_2, hy7_2, H⟩ := bindE H
  refine s_quiet 43 (.bool y7_2) 19 #[.agg #[.int .i64 y3_3.1.fwd, .int .i64 y3_3.1.back]] (by kernel_rfl) (by kernel_rfl) (fun _ => by kernel_rfl) (LOnlyF_tr (⟨y3_3.1.fwd, y3_3.1.back⟩ : LinkS) y7_2 hy7_2) ?_
  refine sp 40 (.bool y7_2) ?_
  refine ops_end ?_
  refine ae [(1, .pointer (some ⟨c, 0, none⟩)), (3, .pointer (some ⟨b0_0, 0, none⟩)), (6, .pointer (some ⟨b0_2, 0, none⟩)), (7, .pointer (some ⟨b3_7, 0, none⟩)), (40, .bool y7_2)] ?_
  refine at_then_normal ?_
  rcases Bool.eq_false_or_eq_true (y7_2) with h2 | h2
  ·replace H := bifT H h2
   refine at_true (t := y7_2) (x := C50 [1,1,1,1,0,0,1,1,1,0]) (y := C50 [1,1,1,1,0,0,1,1,1,1]) (o := .tmp 40) (by kernel_rfl) (by kernel_rfl) (by kernel_rfl) h2 ?_
   refine aq (x := C50 [1,1,1,1,0,0,1,1,1,0,0]) (y := C50 [1,1,1,1,0,0,1,1,1,0,1]) ?_
   refine ar (id := 8) 4 ?_
   refine sp 44 (.pointer (some ⟨c, 0, none⟩)) ?_
   refine sp 45 (.pointer (some ⟨b0_0, 1, none⟩)) ?_
   refine sl 46 (.int .i64 d.line) (load1 (off := 1) (fun _ => by kernel_rfl) (holds_own (.there (.there (.there .here)))) (by kernel_rfl)) ?_
   obtain ⟨y8_3, hy8_3, H⟩ := bindE H
   refine s_call 47 56 #[.pointer (some ⟨c, 0, none⟩), .int .i64 d.line] (by kernel_rfl) (by kernel_rfl) (fun _ => by kernel_rfl) (Tr.conv (Γ' := (CacheA c cc) :: (Asn.own b3_7 (.cells #[.int .i64 y3_3.1.fwd, .int .i64 y3_3.1.back, .int .i64 y3_3.1.line, .int .i64 y3_3.1.used, .bool y3_3.1.dirty, .slice a3_3_00 (List.length y3_3.1.data) c3_3_00] 32 (0, 0))) :: (IntsA a3_3_00 c3_3_00 y3_3.1.data) :: (Asn.own b0_0 (.cells #[.int .i64 d.kind, .int .i64 d.line, .int .i64 d.id, .int .i64 (6), .int .i64 p.state, .int .i64 p.ptr, .slice none 0 0, .int .i64 d.next, .int .i64 p.ptr] 35 (0, 0))) :: (Asn.own b0_2 (.cells #[.int .i64 (0), .int .i64 (0), .int .i64 (0), .int .i64 (0), .int .i64 (0), .int .i64 (0), .slice none 0 0, .int .i64 (0), .int .i64 (0)] 35 (0, 0))) :: (Asn.own b0_1 (.cells #[.int .i64 p.kind, .int .i64 p.src, .int .i64 p.dst, .int .i64 p.id, .int .i64 p.line, .int .i64 p.ptr, .int .i64 p.state, .bool p.flag, .slice pa (List.length p.data) pcap] 40 (0, 0))) :: (ImmI da d.data) :: Γ) (fun w hw => (Sat.less (.take (.there (.there .here)) (.take .here (.take .here (.take .here (.take .here (.take .here (.take .here .refl))))))) hw)) (DropF_tr c cc d.line y8_3 hy8_3)) ?_
   rintro _ _ ⟨a8_3_00, c8_3_00, rfl, rfl⟩
   refine ops_end ?_
   refine ae [(3, .pointer (some ⟨b0_0, 0, none⟩)), (6, .pointer (some ⟨b0_2, 0, none⟩)), (7, .pointer (some ⟨b3_7, 0, none⟩))] ?_
   refine at_then_normal ?_
   refine aq (x := C50 [1,1,1,1,0,0,1,1,1,0,1,0]) (y := C50 [1,1,1,1,0,0,1,1,1,0,1,1]) ?_
   refine ar (id := 9) 4 ?_
   refine sp 48 (.pointer (some ⟨b0_0, 4, none⟩)) ?_
   refine s_do (by kernel_rfl) (by kernel_rfl) (st_store (off := 4) (vs := [.int .i64 (0)]) (c' := #[.int .i64 d.kind, .int .i64 d.line, .int .i64 d.id, .int .i64 (6), .int .i64 (0), .int .i64 p.ptr, .slice none 0 0, .int .i64 d.next, .int .i64 p.ptr]) (fun _ => by kernel_rfl) (.there (.there (.there (.there .here)))) (by kernel_rfl) (by kernel_rfl) (by kernel_rfl)) ?_
   rintro _ _ ⟨rfl, rfl⟩
   refine sp 49 (.pointer (some ⟨b0_0, 5, none⟩)) ?_
   refine s_do (by kernel_rfl) (by kernel_rfl) (st_store (off := 5) (vs := [.int .i64 (-1)]) (c' := #[.int .i64 d.kind, .int .i64 d.line, .int .i64 d.id, .int .i64 (6), .int .i64 (0), .int .i64 (-1), .slice none 0 0, .int .i64 d.next, .int .i64 p.ptr]) (fun _ => by kernel_rfl) .here (by kernel_rfl) (by kernel_rfl) (by kernel_rfl)) ?_
   rintro _ _ ⟨rfl, rfl⟩
   refine ops_end ?_
   refine ae [(3, .pointer (some ⟨b0_0, 0, none⟩)), (6, .pointer (some ⟨b0_2, 0, none⟩)), (7, .pointer (some ⟨b3_7, 0, none⟩))] ?_
   refine at_then_normal ?_
   refine aq (x := C50 [1,1,1,1,0,0,1,1,1,0,1,1,0]) (y := C50 [1,1,1,1,0,0,1,1,1,0,1,1,1]) ?_
   refine ar (id := 10) 2 ?_
   refine sp 50 (.pointer (some ⟨b3_7, 4, none⟩)) ?_
   refine sl 51 (.bool y3_3.1.dirty) (load1 (off := 4) (fun _ => by kernel_rfl) (holds_own (.there (.there (.there .here)))) (by kernel_rfl)) ?_
   refine ops_end ?_
   refine ae [(3, .pointer (some ⟨b0_0, 0, none⟩)), (6, .pointer (some ⟨b0_2, 0, none⟩)), (7, .pointer (some ⟨b3_7, 0, none⟩)), (51, .bool y3_3.1.dirty)] ?_
   refine at_then_normal ?_
   rcases Bool.eq_false_or_eq_true (y3_3.1.dirty) with h3 | h3
   ·replace H := bifT H h3
    refine at_true (t := y3_3.1.dirty) (x := C50 [1,1,1,1,0,0,1,1,1,0,1,1,1,0]) (y := C50 [1,1,1,1,0,0,1,1,1,0,1,1,1,1]) (o := .tmp 51) (by kernel_rfl) (by kernel_rfl) (by kernel_rfl) h3 ?_
    refine ar (id := 11) 4 ?_
    refine sp 52 (.pointer (some ⟨b3_7, 5, none⟩)) ?_
    refine sl 53 (.slice a3_3_00 (List.length y3_3.1.data) c3_3_00) (load1 (off := 5) (fun _ => by kernel_rfl) (holds_own (.there (.there (.there .here)))) (by kernel_rfl)) ?_
    refine sp 54 (.pointer (some ⟨b0_0, 6, none⟩)) ?_
    refine s_do (by kernel_rfl) (by kernel_rfl) (st_store (off := 6) (vs := [.slice a3_3_00 (List.length y3_3.1.data) c3_3_00]) (c' := #[.int .i64 d.kind, .int .i64 d.line, .int .i64 d.id, .int .i64 (6), .int .i64 (0), .int .i64 (-1), .slice a3_3_00 (List.length y3_3.1.data) c3_3_00, .int .i64 d.next, .int .i64 p.ptr]) (fun _ => by kernel_rfl) .here (by kernel_rfl) (by kernel_rfl) (by kernel_rfl)) ?_
    rintro _ _ ⟨rfl, rfl⟩
    refine ops_end ?_
    refine ae [(3, .pointer (some ⟨b0_0, 0, none⟩)), (6, .pointer (some ⟨b0_2, 0, none⟩))] ?_
    refine at_in_normal ?_
    refine at_then_normal ?_
    refine aq (x := C50 [1,1,1,1,1,0]) (y := C50 [1,1,1,1,1,1]) ?_
    refine ar (id := 14) 2 ?_
    refine sl 65 (.agg #[.int .i64 d.kind, .int .i64 d.line, .int .i64 d.id, .int .i64 (6), .int .i64 (0), .int .i64 (-1), .slice a3_3_00 (List.length y3_3.1.data) c3_3_00, .int .i64 d.next, .int .i64 p.ptr]) (loadN (off := 0) (vs := [.int .i64 d.kind, .int .i64 d.line, .int .i64 d.id, .int .i64 (6), .int .i64 (0), .int .i64 (-1), .slice a3_3_00 (List.length y3_3.1.data) c3_3_00, .int .i64 d.next, .int .i64 p.ptr]) 9 (fun _ => by kernel_rfl) (holds_own .here) rfl (by exact ⟨rfl, rfl, rfl, rfl, rfl, rfl, rfl, rfl, rfl, trivial⟩)) ?_
    refine s_do (by kernel_rfl) (by kernel_rfl) (st_store (off := 0) (vs := [.int .i64 d.kind, .int .i64 d.line, .int .i64 d.id, .int .i64 (6), .int .i64 (0), .int .i64 (-1), .slice a3_3_00 (List.length y3_3.1.data) c3_3_00, .int .i64 d.next, .int .i64 p.ptr]) (c' := #[.int .i64 d.kind, .int .i64 d.line, .int .i64 d.id, .int .i64 (6), .int .i64 (0), .int .i64 (-1), .slice a3_3_00 (List.length y3_3.1.data) c3_3_00, .int .i64 d.next, .int .i64 p.ptr]) (fun _ => by kernel_rfl) (.there (.there (.there (.there (.there .here))))) (by kernel_rfl) (by kernel_rfl) (by kernel_rfl)) ?_
    rintro _ _ ⟨rfl, rfl⟩
    refine ops_end ?_
    refine ae [(6, .pointer (some ⟨b0_2, 0, none⟩))] ?_
    refine at_then_normal ?_
    refine at_ret (by kernel_rfl) ?_
    obtain rfl := someE H
    refine at_backR [.agg #[.int .i64 d.kind, .int .i64 d.line, .int .i64 d.id, .int .i64 (6), .int .i64 (0), .int .i64 (-1), .slice a3_3_00 (List.length y3_3.1.data) c3_3_00, .int .i64 d.next, .int .i64 p.ptr]] ((ImmI a3_3_00 y3_3.1.data) :: (CacheA c y8_3.2.2) :: Γ) (rs := [.cell 6 35]) (by kernel_rfl) (.cons (.cell (by kernel_rfl) (retN (off := 0) (vs := [.int .i64 d.kind, .int .i64 d.line, .int .i64 d.id, .int .i64 (6), .int .i64 (0), .int .i64 (-1), .slice a3_3_00 (List.length y3_3.1.data) c3_3_00, .int .i64 d.next, .int .i64 p.ptr]) 9 (fun _ => by kernel_rfl) (holds_own .here) rfl (by exact ⟨rfl, rfl, rfl, rfl, rfl, rfl, rfl, rfl, rfl, trivial⟩))) .nil) (fun w hw => (Sat.less (.take .here (.take (.there (.there (.there .here))) (.drop .here (.drop .here (.drop .here (.drop .here (.drop .here (.drop .here .refl)))))))) (RowsA.freeze (Sat.less (.take (.there (.there (.there (.there (.there .here))))) (.take .here (.take .here (.take .here (.take .here (.take .here (.take .here (.take .here .refl)))))))) hw)))) ?_
    exact ⟨a3_3_00, c3_3_00, rfl, rfl⟩
   ·replace H := bifF H h3
    refine at_false (t := y3_3.1.dirty) (x := C50 [1,1,1,1,0,0,1,1,1,0,1,1,1,0]) (y := C50 [1,1,1,1,0,0,1,1,1,0,1,1,1,1]) (o := .tmp 51) (by kernel_rfl) (by kernel_rfl) (by kernel_rfl) h3 ?_
    refine at_skip (by kernel_rfl) ?_
    refine at_in_normal ?_
    refine at_then_normal ?_
    refine aq (x := C50 [1,1,1,1,1,0]) (y := C50 [1,1,1,1,1,1]) ?_
    refine ar (id := 14) 2 ?_
    refine sl 65 (.agg #[.int .i64 d.kind, .int .i64 d.line, .int .i64 d.id, .int .i64 (6), .int .i64 (0), .int .i64 (-1), .slice none 0 0, .int .i64 d.next, .int .i64 p.ptr]) (loadN (off := 0) (vs := [.int .i64 d.kind, .int .i64 d.line, .int .i64 d.id, .int .i64 (6), .int .i64 (0), .int .i64 (-1), .slice none 0 0, .int .i64 d.next, .int .i64 p.ptr]) 9 (fun _ => by kernel_rfl) (holds_own .here) rfl (by exact ⟨rfl, rfl, rfl, rfl, rfl, rfl, rfl, rfl, rfl, trivial⟩)) ?_
    refine s_do (by kernel_rfl) (by kernel_rfl) (st_store (off := 0) (vs := [.int .i64 d.kind, .int .i64 d.line, .int .i64 d.id, .int .i64 (6), .int .i64 (0), .int .i64 (-1), .slice none 0 0, .int .i64 d.next, .int .i64 p.ptr]) (c' := #[.int .i64 d.kind, .int .i64 d.line, .int .i64 d.id, .int .i64 (6), .int .i64 (0), .int .i64 (-1), .slice none 0 0, .int .i64 d.next, .int .i64 p.ptr]) (fun _ => by kernel_rfl) (.there (.there (.there (.there (.there .here))))) (by kernel_rfl) (by kernel_rfl) (by kernel_rfl)) ?_
    rintro _ _ ⟨rfl, rfl⟩
    refine ops_end ?_
    refine ae [(6, .pointer (some ⟨b0_2, 0, none⟩))] ?_
    refine at_then_normal ?_
    refine at_ret (by kernel_rfl) ?_
    obtain rfl := someE H
    refine at_backR [.agg #[.int .i64 d.kind, .int .i64 d.line, .int .i64 d.id, .int .i64 (6), .int .i64 (0), .int .i64 (-1), .slice none 0 0, .int .i64 d.next, .int .i64 p.ptr]] ((ImmI none ([] : List Int)) :: (CacheA c y8_3.2.2) :: Γ) (rs := [.cell 6 35]) (by kernel_rfl) (.cons (.cell (by kernel_rfl) (retN (off := 0) (vs := [.int .i64 d.kind, .int .i64 d.line, .int .i64 d.id, .int .i64 (6), .int .i64 (0), .int .i64 (-1), .slice none 0 0, .int .i64 d.next, .int .i64 p.ptr]) 9 (fun _ => by kernel_rfl) (holds_own .here) rfl (by exact ⟨rfl, rfl, rfl, rfl, rfl, rfl, rfl, rfl, rfl, trivial⟩))) .nil) (fun w hw => (Sat.less (.take .here (.take (.there (.there (.there .here))) (.drop .here (.drop .here (.drop .here (.drop .here (.drop .here (.drop .here (.drop .here .refl))))))))) (ImmR.nil_mk (k := 1) (a := none) hw))) ?_
    exact ⟨none, 0, rfl, rfl⟩
  ·replace H := bifF H h2
   refine at_false (t := y7_2) (x := C50 [1,1,1,1,0,0,1,1,1,0]) (y := C50 [1,1,1,1,0,0,1,1,1,1]) (o := .tmp 40) (by kernel_rfl) (by kernel_rfl) (by kernel_rfl) h2 ?_
   refine aq (x := C50 [1,1,1,1,0,0,1,1,1,1,0]) (y := C50 [1,1,1,1,0,0,1,1,1,1,1]) ?_
   refine ar (id := 12) 4 ?_
   refine sp 56 (.pointer (some ⟨b3_7, 0, none⟩)) ?_
   refine sl 57 (.agg #[.int .i64 y3_3.1.fwd, .int .i64 y3_3.1.back]) (loadN (off := 0) (vs := [.int .i64 y3_3.1.fwd, .int .i64 y3_3.1.back]) 2 (fun _ => by kernel_rfl) (holds_own .here) rfl (by exact ⟨rfl, rfl, trivial⟩)) ?_
   obtain ⟨y12_2, hy12_2, H⟩ := bindE H
   refine s_quiet 58 (.bool y12_2) 34 #[.agg #[.int .i64 y3_3.1.fwd, .int .i64 y3_3.1.back]] (by kernel_rfl) (by kernel_rfl) (fun _ => by kernel_rfl) (LHeadF_tr (⟨y3_3.1.fwd, y3_3.1.back⟩ : LinkS) y12_2 hy12_2) ?_
   refine sp 55 (.bool y12_2) ?_
   refine ops_end ?_
   refine ae [(3, .pointer (some ⟨b0_0, 0, none⟩)), (6, .pointer (some ⟨b0_2, 0, none⟩)), (7, .pointer (some ⟨b3_7, 0, none⟩)), (55, .bool y12_2)] ?_
   refine at_then_normal ?_
   rcases Bool.eq_false_or_eq_true (y12_2) with h4 | h4
   ·replace H := bifT H h4
    refine at_true (t := y12_2) (x := C50 [1,1,1,1,0,0,1,1,1,1,1,0]) (y := C50 [1,1,1,1,0,0,1,1,1,1,1,1]) (o := .tmp 55) (by kernel_rfl) (by kernel_rfl) (by kernel_rfl) h4 ?_
    refine at_region_draw (id := 13) (by kernel_rfl) (by kernel_rfl) ?_
    refine dp 0 59 (.pointer (some ⟨b3_7, 0, none⟩)) ?_
    refine dp 1 60 (.pointer (some ⟨b3_7, 0, none⟩)) ?_
    refine dl 2 61 (.int .i64 y3_3.1.fwd) (load1 (off := 0) (fun _ => by kernel_rfl) (holds_own .here) (by kernel_rfl)) ?_
    refine dp 3 62 (.pointer (some ⟨b0_0, 5, none⟩)) ?_
    refine d_do 4 [3] [1, 0] [2] (by kernel_rfl) (by kernel_rfl) (by kernel_rfl) (st_store (off := 5) (vs := [.int .i64 (-1)]) (c' := #[.int .i64 d.kind, .int .i64 d.line, .int .i64 d.id, .int .i64 (6), .int .i64 p.state, .int .i64 (-1), .slice none 0 0, .int .i64 d.next, .int .i64 p.ptr]) (fun _ => by kernel_rfl) (.there (.there (.there .here))) (by kernel_rfl) (by kernel_rfl) (by kernel_rfl)) ?_
    rintro _ _ ⟨rfl, rfl⟩
    refine ⟨(stable_cons 2 61 (.int .i64 y3_3.1.fwd) (by kernel_rfl) (by kernel_rfl) (by kernel_rfl) (load1 (off := 0) (fun _ => by kernel_rfl) (holds_own (.there .here)) (by kernel_rfl)) stable_nil), ?_⟩
    refine dp 5 63 (.pointer (some ⟨b0_0, 7, none⟩)) ?_
    refine d_do 6 [5, 2, 4, 0, 1, 3] [] [] (by kernel_rfl) (by kernel_rfl) (by kernel_rfl) (st_store (off := 7) (vs := [.int .i64 y3_3.1.fwd]) (c' := #[.int .i64 d.kind, .int .i64 d.line, .int .i64 d.id, .int .i64 (6), .int .i64 p.state, .int .i64 (-1), .slice none 0 0, .int .i64 y3_3.1.fwd, .int .i64 p.ptr]) (fun _ => by kernel_rfl) .here (by kernel_rfl) (by kernel_rfl) (by kernel_rfl)) ?_
    rintro _ _ ⟨rfl, rfl⟩
    refine ⟨stable_nil, ?_⟩
    refine dp 7 64 (.pointer (some ⟨b0_0, 3, none⟩)) ?_
    refine d_do 8 [7, 6, 0, 1, 2, 3, 4, 5] [] [] (by kernel_rfl) (by kernel_rfl) (by kernel_rfl) (st_store (off := 3) (vs := [.int .i64 (5)]) (c' := #[.int .i64 d.kind, .int .i64 d.line, .int .i64 d.id, .int .i64 (5), .int .i64 p.state, .int .i64 (-1), .slice none 0 0, .int .i64 y3_3.1.fwd, .int .i64 p.ptr]) (fun _ => by kernel_rfl) .here (by kernel_rfl) (by kernel_rfl) (by kernel_rfl)) ?_
    rintro _ _ ⟨rfl, rfl⟩
    refine ⟨stable_nil, ?_⟩
    refine draw_end (by kernel_rfl) ?_
    refine ae [(3, .pointer (some ⟨b0_0, 0, none⟩)), (6, .pointer (some ⟨b0_2, 0, none⟩))] ?_
    refine at_in_normal ?_
    refine at_then_normal ?_
    refine aq (x := C50 [1,1,1,1,1,0]) (y := C50 [1,1,1,1,1,1]) ?_
    refine ar (id := 14) 2 ?_
    refine sl 65 (.agg #[.int .i64 d.kind, .int .i64 d.line, .int .i64 d.id, .int .i64 (5), .int .i64 p.state, .int .i64 (-1), .slice none 0 0, .int .i64 y3_3.1.fwd, .int .i64 p.ptr]) (loadN (off := 0) (vs := [.int .i64 d.kind, .int .i64 d.line, .int .i64 d.id, .int .i64 (5), .int .i64 p.state, .int .i64 (-1), .slice none 0 0, .int .i64 y3_3.1.fwd, .int .i64 p.ptr]) 9 (fun _ => by kernel_rfl) (holds_own .here) rfl (by exact ⟨rfl, rfl, rfl, rfl, rfl, rfl, rfl, rfl, rfl, trivial⟩)) ?_
    refine s_do (by kernel_rfl) (by kernel_rfl) (st_store (off := 0) (vs := [.int .i64 d.kind, .int .i64 d.line, .int .i64 d.id, .int .i64 (5), .int .i64 p.state, .int .i64 (-1), .slice none 0 0, .int .i64 y3_3.1.fwd, .int .i64 p.ptr]) (c' := #[.int .i64 d.kind, .int .i64 d.line, .int .i64 d.id, .int .i64 (5), .int .i64 p.state, .int .i64 (-1), .slice none 0 0, .int .i64 y3_3.1.fwd, .int .i64 p.ptr]) (fun _ => by kernel_rfl) (.there (.there (.there (.there .here)))) (by kernel_rfl) (by kernel_rfl) (by kernel_rfl)) ?_
    rintro _ _ ⟨rfl, rfl⟩
    refine ops_end ?_
    refine ae [(6, .pointer (some ⟨b0_2, 0, none⟩))] ?_
    refine at_then_normal ?_
    refine at_ret (by kernel_rfl) ?_
    obtain rfl := someE H
    refine at_backR [.agg #[.int .i64 d.kind, .int .i64 d.line, .int .i64 d.id, .int .i64 (5), .int .i64 p.state, .int .i64 (-1), .slice none 0 0, .int .i64 y3_3.1.fwd, .int .i64 p.ptr]] ((ImmI none ([] : List Int)) :: (CacheA c cc) :: Γ) (rs := [.cell 6 35]) (by kernel_rfl) (.cons (.cell (by kernel_rfl) (retN (off := 0) (vs := [.int .i64 d.kind, .int .i64 d.line, .int .i64 d.id, .int .i64 (5), .int .i64 p.state, .int .i64 (-1), .slice none 0 0, .int .i64 y3_3.1.fwd, .int .i64 p.ptr]) 9 (fun _ => by kernel_rfl) (holds_own .here) rfl (by exact ⟨rfl, rfl, rfl, rfl, rfl, rfl, rfl, rfl, rfl, trivial⟩))) .nil) (fun w hw => (Sat.less (.take .here (.take (.there (.there (.there (.there .here)))) (.drop .here (.drop .here (.drop .here (.drop .here (.drop .here (.drop .here .refl)))))))) (ImmR.nil_mk (k := 1) (a := none) hw))) ?_
    exact ⟨none, 0, rfl, rfl⟩
   ·replace H := bifF H h4
    refine at_false (t := y12_2) (x := C50 [1,1,1,1,0,0,1,1,1,1,1,0]) (y := C50 [1,1,1,1,0,0,1,1,1,1,1,1]) (o := .tmp 55) (by kernel_rfl) (by kernel_rfl) (by kernel_rfl) h4 ?_
    refine at_region_draw (id := 4) (by kernel_rfl) (by kernel_rfl) ?_
    refine dp 0 27 (.pointer (some ⟨b3_7, 0, none⟩)) ?_
    refine dp 1 28 (.pointer (some ⟨b3_7, 1, none⟩)) ?_
    refine dl 2 29 (.int .i64 y3_3.1.back) (load1 (off := 1) (fun _ => by kernel_rfl) (holds_own .here) (by kernel_rfl)) ?_
    refine dp 3 30 (.pointer (some ⟨b3_7, 0, none⟩)) ?_
    refine dp 4 31 (.pointer (some ⟨b3_7, 0, none⟩)) ?_
    refine dl 5 32 (.int .i64 y3_3.1.fwd) (load1 (off := 0) (fun _ => by kernel_rfl) (holds_own .here) (by kernel_rfl)) ?_
    refine dp 6 33 (.pointer (some ⟨b0_0, 5, none⟩)) ?_
    refine d_do 7 [6, 2, 0, 1] [4, 3] [5] (by kernel_rfl) (by kernel_rfl) (by kernel_rfl) (st_store (off := 5) (vs := [.int .i64 y3_3.1.back]) (c' := #[.int .i64 d.kind, .int .i64 d.line, .int .i64 d.id, .int .i64 (6), .int .i64 p.state, .int .i64 y3_3.1.back, .slice none 0 0, .int .i64 d.next, .int .i64 p.ptr]) (fun _ => by kernel_rfl) (.there (.there (.there .here))) (by kernel_rfl) (by kernel_rfl) (by kernel_rfl)) ?_
    rintro _ _ ⟨rfl, rfl⟩
    refine ⟨(stable_cons 5 32 (.int .i64 y3_3.1.fwd) (by kernel_rfl) (by kernel_rfl) (by kernel_rfl) (load1 (off := 0) (fun _ => by kernel_rfl) (holds_own (.there .here)) (by kernel_rfl)) stable_nil), ?_⟩
    refine dp 8 34 (.pointer (some ⟨b0_0, 7, none⟩)) ?_
    refine d_do 9 [8, 5, 7, 0, 1, 2, 3, 4, 6] [] [] (by kernel_rfl) (by kernel_rfl) (by kernel_rfl) (st_store (off := 7) (vs := [.int .i64 y3_3.1.fwd]) (c' := #[.int .i64 d.kind, .int .i64 d.line, .int .i64 d.id, .int .i64 (6), .int .i64 p.state, .int .i64 y3_3.1.back, .slice none 0 0, .int .i64 y3_3.1.fwd, .int .i64 p.ptr]) (fun _ => by kernel_rfl) .here (by kernel_rfl) (by kernel_rfl) (by kernel_rfl)) ?_
    rintro _ _ ⟨rfl, rfl⟩
    refine ⟨stable_nil, ?_⟩
    refine dp 10 35 (.pointer (some ⟨b0_0, 3, none⟩)) ?_
    refine d_do 11 [10, 9, 0, 1, 2, 3, 4, 5, 6, 7, 8] [] [] (by kernel_rfl) (by kernel_rfl) (by kernel_rfl) (st_store (off := 3) (vs := [.int .i64 (4)]) (c' := #[.int .i64 d.kind, .int .i64 d.line, .int .i64 d.id, .int .i64 (4), .int .i64 p.state, .int .i64 y3_3.1.back, .slice none 0 0, .int .i64 y3_3.1.fwd, .int .i64 p.ptr]) (fun _ => by kernel_rfl) .here (by kernel_rfl) (by kernel_rfl) (by kernel_rfl)) ?_
    rintro _ _ ⟨rfl, rfl⟩
    refine ⟨stable_nil, ?_⟩
    refine draw_end (by kernel_rfl) ?_
    refine ae [(3, .pointer (some ⟨b0_0, 0, none⟩)), (6, .pointer (some ⟨b0_2, 0, none⟩))] ?_
    refine at_in_normal ?_
    refine at_then_normal ?_
    refine aq (x := C50 [1,1,1,1,1,0]) (y := C50 [1,1,1,1,1,1]) ?_
    refine ar (id := 14) 2 ?_
    refine sl 65 (.agg #[.int .i64 d.kind, .int .i64 d.line, .int .i64 d.id, .int .i64 (4), .int .i64 p.state, .int .i64 y3_3.1.back, .slice none 0 0, .int .i64 y3_3.1.fwd, .int .i64 p.ptr]) (loadN (off := 0) (vs := [.int .i64 d.kind, .int .i64 d.line, .int .i64 d.id, .int .i64 (4), .int .i64 p.state, .int .i64 y3_3.1.back, .slice none 0 0, .int .i64 y3_3.1.fwd, .int .i64 p.ptr]) 9 (fun _ => by kernel_rfl) (holds_own .here) rfl (by exact ⟨rfl, rfl, rfl, rfl, rfl, rfl, rfl, rfl, rfl, trivial⟩)) ?_
    refine s_do (by kernel_rfl) (by kernel_rfl) (st_store (off := 0) (vs := [.int .i64 d.kind, .int .i64 d.line, .int .i64 d.id, .int .i64 (4), .int .i64 p.state, .int .i64 y3_3.1.back, .slice none 0 0, .int .i64 y3_3.1.fwd, .int .i64 p.ptr]) (c' := #[.int .i64 d.kind, .int .i64 d.line, .int .i64 d.id, .int .i64 (4), .int .i64 p.state, .int .i64 y3_3.1.back, .slice none 0 0, .int .i64 y3_3.1.fwd, .int .i64 p.ptr]) (fun _ => by kernel_rfl) (.there (.there (.there (.there .here)))) (by kernel_rfl) (by kernel_rfl) (by kernel_rfl)) ?_
    rintro _ _ ⟨rfl, rfl⟩
    refine ops_end ?_
    refine ae [(6, .pointer (some ⟨b0_2, 0, none⟩))] ?_
    refine at_then_normal ?_
    refine at_ret (by kernel_rfl) ?_
    obtain rfl := someE H
    refine at_backR [.agg #[.int .i64 d.kind, .int .i64 d.line, .int .i64 d.id, .int .i64 (4), .int .i64 p.state, .int .i64 y3_3.1.back, .slice none 0 0, .int .i64 y3_3.1.fwd, .int .i64 p.ptr]] ((ImmI none ([] : List Int)) :: (CacheA c cc) :: Γ) (rs := [.cell 6 35]) (by kernel_rfl) (.cons (.cell (by kernel_rfl) (retN (off := 0) (vs := [.int .i64 d.kind, .int .i64 d.line, .int .i64 d.id, .int .i64 (4), .int .i64 p.state, .int .i64 y3_3.1.back, .slice none 0 0, .int .i64 y3_3.1.fwd, .int .i64 p.ptr]) 9 (fun _ => by kernel_rfl) (holds_own .here) rfl (by exact ⟨rfl, rfl, rfl, rfl, rfl, rfl, rfl, rfl, rfl, trivial⟩))) .nil) (fun w hw => (Sat.less (.take .here (.take (.there (.there (.there (.there .here)))) (.drop .here (.drop .here (.drop .here (.drop .here (.drop .here (.drop .here .refl)))))))) (ImmR.nil_mk (k := 1) (a := none) hw))) ?_
    exact ⟨none, 0, rfl, rfl⟩
def rnextS_j0 (cc : CacheS) (d : DealS) (p : PktS) (e0_18 : Bool) : Option (DealS × Bool × CacheS) :=
 (bif e0_18 then some ((⟨0, 0, 0, 0, 0, 0, ([] : List Int), 0, 0⟩ : DealS), false, cc) else (bif decide (d.step = (1 : Int)) then (rlockedS d cc p).bind fun y5_3 => some (y5_3.1, true, y5_3.2) else (bif decide (d.step = (4 : Int)) then (bif decide (d.next = ((-1) : Int)) then (routS d cc d.told).bind fun y8_4 => some (y8_4.1, true, y8_4.2) else some ((⟨d.kind, d.line, d.id, 5, d.state, d.head, d.data, d.next, d.told⟩ : DealS), true, cc)) else (bif decide (d.step = (5 : Int)) then (bif decide (d.head = ((-1) : Int)) then (routS d cc d.next).bind fun y13_4 => some (y13_4.1, true, y13_4.2) else (routS d cc d.told).bind fun y14_4 => some (y14_4.1, true, y14_4.2)) else (bif decide (d.step = (6 : Int)) then some ((⟨d.kind, d.line, d.id, 0, d.state, d.head, d.data, d.next, d.told⟩ : DealS), true, cc) else some ((⟨0, 0, 0, 0, 0, 0, ([] : List Int), 0, 0⟩ : DealS), false, cc))))))
def rnextS (d : DealS) (node : Int) (cc : CacheS) (p : PktS) : Option (DealS × Bool × CacheS) :=
 (bif !(decide (d.kind = (3 : Int))) then rnextS_j0 cc d p true else (dfitsS d p).bind fun y1_6 => rnextS_j0 cc d p !y1_6)
noncomputable def C30 (p : List Nat) : Code := codeAt (bodyOf Try.f30) p
set_option maxRecDepth 100000 in
set_option maxHeartbeats 8000000 in
theorem RNextF_tr {W0 : World} {Γ : List Asn} (da : Option Addr) (dcap : Nat) (d : DealS) (node : Int) (c : Nat) (cc : CacheS) (pa : Option Addr) (pcap : Nat) (p : PktS) (hrpa : Reads W0 Γ pa (ints p.data)) (y : DealS × Bool × CacheS) (H : rnextS d node cc p = some y) : Tr Try.prog 30 #[.agg #[.int .i64 d.kind, .int .i64 d.line, .int .i64 d.id, .int .i64 d.step, .int .i64 d.state, .int .i64 d.head, .slice da (List.length d.data) dcap, .int .i64 d.next, .int .i64 d.told], .int .i64 node, .pointer (some ⟨c, 0, none⟩), .agg #[.int .i64 p.kind, .int .i64 p.src, .int .i64 p.dst, .int .i64 p.id, .int .i64 p.line, .int .i64 p.ptr, .int .i64 p.state, .bool p.flag, .slice pa (List.length p.data) pcap]] W0 ((ImmI da d.data) :: (CacheA c cc) :: Γ) (fun r Δ => ∃ (a0_0 : Option Addr) (c0_0 : Nat), r = .tuple #[.agg #[.int .i64 y.1.kind, .int .i64 y.1.line, .int .i64 y.1.id, .int .i64 y.1.step, .int .i64 y.1.state, .int .i64 y.1.head, .slice a0_0 (List.length y.1.data) c0_0, .int .i64 y.1.next, .int .i64 y.1.told], .bool y.2.1] ∧ Δ = (ImmI a0_0 y.1.data) :: (CacheA c y.2.2) :: Γ) := by
 unfold rnextS at H
 refine Tr.enter (fn := Try.f30) (c := C30 []) (args := [.agg #[.int .i64 d.kind, .int .i64 d.line, .int .i64 d.id, .int .i64 d.step, .int .i64 d.state, .int .i64 d.head, .slice da (List.length d.data) dcap, .int .i64 d.next, .int .i64 d.told], .int .i64 node, .pointer (some ⟨c, 0, none⟩), .agg #[.int .i64 p.kind, .int .i64 p.src, .int .i64 p.dst, .int .i64 p.id, .int .i64 p.line, .int .i64 p.ptr, .int .i64 p.state, .bool p.flag, .slice pa (List.length p.data) pcap]]) 60 Try.func30 (by kernel_rfl) (by kernel_rfl) ?_
 refine ae [(0, .agg #[.int .i64 d.kind, .int .i64 d.line, .int .i64 d.id, .int .i64 d.step, .int .i64 d.state, .int .i64 d.head, .slice da (List.length d.data) dcap, .int .i64 d.next, .int .i64 d.told]), (1, .int .i64 node), (2, .pointer (some ⟨c, 0, none⟩)), (3, .agg #[.int .i64 p.kind, .int .i64 p.src, .int .i64 p.dst, .int .i64 p.id, .int .i64 p.line, .int .i64 p.ptr, .int .i64 p.state, .bool p.flag, .slice pa (List.length p.data) pcap])] ?_
 refine aq (x := C30 [0]) (y := C30 [1]) ?_
 refine ar (id := 0) 4 ?_
 refine s_step 4 (by kernel_rfl) (by kernel_rfl) (st_new (T := 35) (cells := #[.int .i64 d.kind, .int .i64 d.line, .int .i64 d.id, .int .i64 d.step, .int .i64 d.state, .int .i64 d.head, .slice da (List.length d.data) dcap, .int .i64 d.next, .int .i64 d.told]) (fun a => .pointer (some a)) (fun _ => by kernel_rfl)) ?_
 rintro _ _ ⟨b0_0, rfl, rfl⟩
 refine s_step 7 (by kernel_rfl) (by kernel_rfl) (st_new (T := 40) (cells := #[.int .i64 p.kind, .int .i64 p.src, .int .i64 p.dst, .int .i64 p.id, .int .i64 p.line, .int .i64 p.ptr, .int .i64 p.state, .bool p.flag, .slice pa (List.length p.data) pcap]) (fun a => .pointer (some a)) (fun _ => by kernel_rfl)) ?_
 rintro _ _ ⟨b0_1, rfl, rfl⟩
 refine s_step 8 (by kernel_rfl) (by kernel_rfl) (st_new (T := 35) (cells := #[.int .i64 (0), .int .i64 (0), .int .i64 (0), .int .i64 (0), .int .i64 (0), .int .i64 (0), .slice none 0 0, .int .i64 (0), .int .i64 (0)]) (fun a => .pointer (some a)) (fun _ => by kernel_rfl)) ?_
 rintro _ _ ⟨b0_2, rfl, rfl⟩
 refine sp 9 (.bool false) ?_
 refine ops_end ?_
 refine ae [(2, .pointer (some ⟨c, 0, none⟩)), (4, .pointer (some ⟨b0_0, 0, none⟩)), (7, .pointer (some ⟨b0_1, 0, none⟩)), (8, .pointer (some ⟨b0_2, 0, none⟩))] ?_
 refine at_then_normal ?_
 refine aq (x := C30 [1,0]) (y := C30 [1,1]) ?_
 refine at_seq_join (x := C30 [1,0,0]) (y := C30 [1,0,1]) (fun ff ΔΔ => ∃ (e0_18 : Bool), rnextS_j0 cc d p e0_18 = some y ∧ ff = [(2, .pointer (some ⟨c, 0, none⟩)), (4, .pointer (some ⟨b0_0, 0, none⟩)), (7, .pointer (some ⟨b0_1, 0, none⟩)), (8, .pointer (some ⟨b0_2, 0, none⟩)), (18, .bool e0_18)] ∧ (Asn.own b0_2 (.cells #[.int .i64 (0), .int .i64 (0), .int .i64 (0), .int .i64 (0), .int .i64 (0), .int .i64 (0), .slice none 0 0, .int .i64 (0), .int .i64 (0)] 35 (0, 0))) :: (Asn.own b0_1 (.cells #[.int .i64 p.kind, .int .i64 p.src, .int .i64 p.dst, .int .i64 p.id, .int .i64 p.line, .int .i64 p.ptr, .int .i64 p.state, .bool p.flag, .slice pa (List.length p.data) pcap] 40 (0, 0))) :: (Asn.own b0_0 (.cells #[.int .i64 d.kind, .int .i64 d.line, .int .i64 d.id, .int .i64 d.step, .int .i64 d.state, .int .i64 d.head, .slice da (List.length d.data) dcap, .int .i64 d.next, .int .i64 d.told] 35 (0, 0))) :: (ImmI da d.data) :: (CacheA c cc) :: Γ = ΔΔ) (by kernel_rfl) ?_ ?_
 ·rintro _ _ ⟨e0_18, H, rfl, rfl⟩
  rw [rnextS_j0] at H
  rcases Bool.eq_false_or_eq_true (e0_18) with h1 | h1
  ·replace H := bifT H h1
   refine at_true (t := e0_18) (x := C30 [1,0,1,0]) (y := C30 [1,0,1,1]) (o := .tmp 18) (by kernel_rfl) (by kernel_rfl) (by kernel_rfl) h1 ?_
   refine aq (x := C30 [1,0,1,0,0]) (y := C30 [1,0,1,0,1]) ?_
   refine ar (id := 2) 3 ?_
   refine sp 19 (.agg #[.int .i64 (0), .int .i64 (0), .int .i64 (0), .int .i64 (0), .int .i64 (0), .int .i64 (0), .slice none 0 0, .int .i64 (0), .int .i64 (0)]) ?_
   refine s_do (by kernel_rfl) (by kernel_rfl) (st_store (off := 0) (vs := [.int .i64 (0), .int .i64 (0), .int .i64 (0), .int .i64 (0), .int .i64 (0), .int .i64 (0), .slice none 0 0, .int .i64 (0), .int .i64 (0)]) (c' := #[.int .i64 (0), .int .i64 (0), .int .i64 (0), .int .i64 (0), .int .i64 (0), .int .i64 (0), .slice none 0 0, .int .i64 (0), .int .i64 (0)]) (fun _ => by kernel_rfl) .here (by kernel_rfl) (by kernel_rfl) (by kernel_rfl)) ?_
   rintro _ _ ⟨rfl, rfl⟩
   refine sp 9 (.bool false) ?_
   refine ops_end ?_
   refine ae [(8, .pointer (some ⟨b0_2, 0, none⟩)), (9, .bool false)] ?_
   refine at_then_normal ?_
   refine at_ret (by kernel_rfl) ?_
   refine at_then_ret ?_
   obtain rfl := someE H
   refine at_backR [.agg #[.int .i64 (0), .int .i64 (0), .int .i64 (0), .int .i64 (0), .int .i64 (0), .int .i64 (0), .slice none 0 0, .int .i64 (0), .int .i64 (0)], .bool false] ((ImmI none ([] : List Int)) :: (CacheA c cc) :: Γ) (rs := [.cell 8 35, .tmp 9]) (by kernel_rfl) (.cons (.cell (by kernel_rfl) (retN (off := 0) (vs := [.int .i64 (0), .int .i64 (0), .int .i64 (0), .int .i64 (0), .int .i64 (0), .int .i64 (0), .slice none 0 0, .int .i64 (0), .int .i64 (0)]) 9 (fun _ => by kernel_rfl) (holds_own .here) rfl (by exact ⟨rfl, rfl, rfl, rfl, rfl, rfl, rfl, rfl, rfl, trivial⟩))) (.cons (.tmp (by kernel_rfl)) .nil)) (fun w hw => (Sat.less (.take .here (.take (.there (.there (.there (.there .here)))) (.drop .here (.drop .here (.drop .here (.drop .here .refl)))))) (ImmR.nil_mk (k := 1) (a := none) hw))) ?_
   exact ⟨none, 0, rfl, rfl⟩
  ·replace H := bifF H h1
   refine at_false (t := e0_18) (x := C30 [1,0,1,0]) (y := C30 [1,0,1,1]) (o := .tmp 18) (by kernel_rfl) (by kernel_rfl) (by kernel_rfl) h1 ?_
   refine at_skip (by kernel_rfl) ?_
   refine at_then_normal ?_
   refine aq (x := C30 [1,1,0]) (y := C30 [1,1,1]) ?_
   refine aq (x := C30 [1,1,0,0]) (y := C30 [1,1,0,1]) ?_
   refine ar (id := 3) 2 ?_
   refine sp 20 (.pointer (some ⟨b0_0, 3, none⟩)) ?_
   refine sl 21 (.int .i64 d.step) (load1 (off := 3) (fun _ => by kernel_rfl) (holds_own (.there (.there .here))) (by kernel_rfl)) ?_
   refine ops_end ?_
   refine ae [(2, .pointer (some ⟨c, 0, none⟩)), (4, .pointer (some ⟨b0_0, 0, none⟩)), (7, .pointer (some ⟨b0_1, 0, none⟩)), (8, .pointer (some ⟨b0_2, 0, none⟩)), (21, .int .i64 d.step)] ?_
   refine at_then_normal ?_
   refine at_block (i := 0) (x := C30 [1,1,0,1,0]) (by kernel_rfl) ?_
   refine aq (x := C30 [1,1,0,1,0,0]) (y := C30 [1,1,0,1,0,1]) ?_
   refine ar (id := 4) 2 ?_
   refine sp 23 (.bool (decide (d.step = (1 : Int)))) ?_
   refine sp 22 (.bool (decide (d.step = (1 : Int)))) ?_
   refine ops_end ?_
   refine ae [(2, .pointer (some ⟨c, 0, none⟩)), (4, .pointer (some ⟨b0_0, 0, none⟩)), (7, .pointer (some ⟨b0_1, 0, none⟩)), (8, .pointer (some ⟨b0_2, 0, none⟩)), (21, .int .i64 d.step), (22, .bool (decide (d.step = (1 : Int))))] ?_
   refine at_then_normal ?_
   rcases Bool.eq_false_or_eq_true (decide (d.step = (1 : Int))) with h2 | h2
   ·replace H := bifT H h2
    refine at_true (t := decide (d.step = (1 : Int))) (x := C30 [1,1,0,1,0,1,0]) (y := C30 [1,1,0,1,0,1,1]) (o := .tmp 22) (by kernel_rfl) (by kernel_rfl) (by kernel_rfl) h2 ?_
    refine aq (x := C30 [1,1,0,1,0,1,0,0]) (y := C30 [1,1,0,1,0,1,0,1]) ?_
    refine ar (id := 5) 6 ?_
    refine sl 24 (.agg #[.int .i64 d.kind, .int .i64 d.line, .int .i64 d.id, .int .i64 d.step, .int .i64 d.state, .int .i64 d.head, .slice da (List.length d.data) dcap, .int .i64 d.next, .int .i64 d.told]) (loadN (off := 0) (vs := [.int .i64 d.kind, .int .i64 d.line, .int .i64 d.id, .int .i64 d.step, .int .i64 d.state, .int .i64 d.head, .slice da (List.length d.data) dcap, .int .i64 d.next, .int .i64 d.told]) 9 (fun _ => by kernel_rfl) (holds_own (.there (.there .here))) rfl (by exact ⟨rfl, rfl, rfl, rfl, rfl, rfl, rfl, rfl, rfl, trivial⟩)) ?_
    refine sp 25 (.pointer (some ⟨c, 0, none⟩)) ?_
    refine sl 26 (.agg #[.int .i64 p.kind, .int .i64 p.src, .int .i64 p.dst, .int .i64 p.id, .int .i64 p.line, .int .i64 p.ptr, .int .i64 p.state, .bool p.flag, .slice pa (List.length p.data) pcap]) (loadN (off := 0) (vs := [.int .i64 p.kind, .int .i64 p.src, .int .i64 p.dst, .int .i64 p.id, .int .i64 p.line, .int .i64 p.ptr, .int .i64 p.state, .bool p.flag, .slice pa (List.length p.data) pcap]) 9 (fun _ => by kernel_rfl) (holds_own (.there .here)) rfl (by exact ⟨rfl, rfl, rfl, rfl, rfl, rfl, rfl, rfl, rfl, trivial⟩)) ?_
    obtain ⟨y5_3, hy5_3, H⟩ := bindE H
    refine s_call 27 50 #[.agg #[.int .i64 d.kind, .int .i64 d.line, .int .i64 d.id, .int .i64 d.step, .int .i64 d.state, .int .i64 d.head, .slice da (List.length d.data) dcap, .int .i64 d.next, .int .i64 d.told], .pointer (some ⟨c, 0, none⟩), .agg #[.int .i64 p.kind, .int .i64 p.src, .int .i64 p.dst, .int .i64 p.id, .int .i64 p.line, .int .i64 p.ptr, .int .i64 p.state, .bool p.flag, .slice pa (List.length p.data) pcap]] (by kernel_rfl) (by kernel_rfl) (fun _ => by kernel_rfl) (Tr.conv (Γ' := (ImmI da d.data) :: (CacheA c cc) :: (ImmI da d.data) :: (Asn.own b0_2 (.cells #[.int .i64 (0), .int .i64 (0), .int .i64 (0), .int .i64 (0), .int .i64 (0), .int .i64 (0), .slice none 0 0, .int .i64 (0), .int .i64 (0)] 35 (0, 0))) :: (Asn.own b0_1 (.cells #[.int .i64 p.kind, .int .i64 p.src, .int .i64 p.dst, .int .i64 p.id, .int .i64 p.line, .int .i64 p.ptr, .int .i64 p.state, .bool p.flag, .slice pa (List.length p.data) pcap] 40 (0, 0))) :: (Asn.own b0_0 (.cells #[.int .i64 d.kind, .int .i64 d.line, .int .i64 d.id, .int .i64 d.step, .int .i64 d.state, .int .i64 d.head, .slice da (List.length d.data) dcap, .int .i64 d.next, .int .i64 d.told] 35 (0, 0))) :: Γ) (fun w hw => (Sat.less (.take .here (.take (.there (.there (.there (.there .here)))) (.take .here (.take .here (.take .here (.take .here .refl)))))) (ImmR.dup (Sat.less (.take (.there (.there (.there .here))) (.take .here (.take .here (.take .here (.take .here .refl))))) hw)))) (RLockedF_tr da dcap d c cc pa pcap p (Reads.conv (fun w hw => hw.less (.drop .here (.drop .here (.drop .here (.drop .here .refl))))) hrpa) y5_3 hy5_3)) ?_
    rintro _ _ ⟨a5_3_00, c5_3_00, rfl, rfl⟩
    refine s_do (by kernel_rfl) (by kernel_rfl) (st_store (off := 0) (vs := [.int .i64 y5_3.1.kind, .int .i64 y5_3.1.line, .int .i64 y5_3.1.id, .int .i64 y5_3.1.step, .int .i64 y5_3.1.state, .int .i64 y5_3.1.head, .slice a5_3_00 (List.length y5_3.1.data) c5_3_00, .int .i64 y5_3.1.next, .int .i64 y5_3.1.told]) (c' := #[.int .i64 y5_3.1.kind, .int .i64 y5_3.1.line, .int .i64 y5_3.1.id, .int .i64 y5_3.1.step, .int .i64 y5_3.1.state, .int .i64 y5_3.1.head, .slice a5_3_00 (List.length y5_3.1.data) c5_3_00, .int .i64 y5_3.1.next, .int .i64 y5_3.1.told]) (fun _ => by kernel_rfl) (.there (.there (.there .here))) (by kernel_rfl) (by kernel_rfl) (by kernel_rfl)) ?_
    rintro _ _ ⟨rfl, rfl⟩
    refine sp 9 (.bool true) ?_
    refine ops_end ?_
    refine ae [(8, .pointer (some ⟨b0_2, 0, none⟩)), (9, .bool true)] ?_
    refine at_then_normal ?_
    refine at_ret (by kernel_rfl) ?_
    refine at_in_ret ?_
    refine at_then_ret ?_
    obtain rfl := someE H
    refine at_backR [.agg #[.int .i64 y5_3.1.kind, .int .i64 y5_3.1.line, .int .i64 y5_3.1.id, .int .i64 y5_3.1.step, .int .i64 y5_3.1.state, .int .i64 y5_3.1.head, .slice a5_3_00 (List.length y5_3.1.data) c5_3_00, .int .i64 y5_3.1.next, .int .i64 y5_3.1.told], .bool true] ((ImmI a5_3_00 y5_3.1.data) :: (CacheA c y5_3.2) :: Γ) (rs := [.cell 8 35, .tmp 9]) (by kernel_rfl) (.cons (.cell (by kernel_rfl) (retN (off := 0) (vs := [.int .i64 y5_3.1.kind, .int .i64 y5_3.1.line, .int .i64 y5_3.1.id, .int .i64 y5_3.1.step, .int .i64 y5_3.1.state, .int .i64 y5_3.1.head, .slice a5_3_00 (List.length y5_3.1.data) c5_3_00, .int .i64 y5_3.1.next, .int .i64 y5_3.1.told]) 9 (fun _ => by kernel_rfl) (holds_own .here) rfl (by exact ⟨rfl, rfl, rfl, rfl, rfl, rfl, rfl, rfl, rfl, trivial⟩))) (.cons (.tmp (by kernel_rfl)) .nil)) (fun w hw => (Sat.less (.take (.there .here) (.take (.there .here) (.drop .here (.drop .here (.drop .here (.drop .here .refl)))))) hw)) ?_
    exact ⟨a5_3_00, c5_3_00, rfl, rfl⟩
   ·replace H := bifF H h2
    refine at_false (t := decide (d.step = (1 : Int))) (x := C30 [1,1,0,1,0,1,0]) (y := C30 [1,1,0,1,0,1,1]) (o := .tmp 22) (by kernel_rfl) (by kernel_rfl) (by kernel_rfl) h2 ?_
    refine aq (x := C30 [1,1,0,1,0,1,1,0]) (y := C30 [1,1,0,1,0,1,1,1]) ?_
    refine ar (id := 6) 2 ?_
    refine sp 29 (.bool (decide (d.step = (4 : Int)))) ?_
    refine sp 28 (.bool (decide (d.step = (4 : Int)))) ?_
    refine ops_end ?_
    refine ae [(2, .pointer (some ⟨c, 0, none⟩)), (4, .pointer (some ⟨b0_0, 0, none⟩)), (8, .pointer (some ⟨b0_2, 0, none⟩)), (21, .int .i64 d.step), (28, .bool (decide (d.step = (4 : Int))))] ?_
    refine at_then_normal ?_
    rcases Bool.eq_false_or_eq_true (decide (d.step = (4 : Int))) with h3 | h3
    ·replace H := bifT H h3
     refine at_true (t := decide (d.step = (4 : Int))) (x := C30 [1,1,0,1,0,1,1,1,0]) (y := C30 [1,1,0,1,0,1,1,1,1]) (o := .tmp 28) (by kernel_rfl) (by kernel_rfl) (by kernel_rfl) h3 ?_
     refine aq (x := C30 [1,1,0,1,0,1,1,1,0,0]) (y := C30 [1,1,0,1,0,1,1,1,0,1]) ?_
     refine aq (x := C30 [1,1,0,1,0,1,1,1,0,0,0]) (y := C30 [1,1,0,1,0,1,1,1,0,0,1]) ?_
     refine ar (id := 7) 3 ?_
     refine sp 30 (.pointer (some ⟨b0_0, 7, none⟩)) ?_
     refine sl 31 (.int .i64 d.next) (load1 (off := 7) (fun _ => by kernel_rfl) (holds_own (.there (.there .here))) (by kernel_rfl)) ?_
     refine sp 32 (.bool (decide (d.next = ((-1) : Int)))) ?_
     refine ops_end ?_
     refine ae [(2, .pointer (some ⟨c, 0, none⟩)), (4, .pointer (some ⟨b0_0, 0, none⟩)), (8, .pointer (some ⟨b0_2, 0, none⟩)), (32, .bool (decide (d.next = ((-1) : Int))))] ?_
     refine at_then_normal ?_
     rcases Bool.eq_false_or_eq_true (decide (d.next = ((-1) : Int))) with h4 | h4
     ·replace H := bifT H h4
      refine at_true (t := decide (d.next = ((-1) : Int))) (x := C30 [1,1,0,1,0,1,1,1,0,0,1,0]) (y := C30 [1,1,0,1,0,1,1,1,0,0,1,1]) (o := .tmp 32) (by kernel_rfl) (by kernel_rfl) (by kernel_rfl) h4 ?_
      refine aq (x := C30 [1,1,0,1,0,1,1,1,0,0,1,0,0]) (y := C30 [1,1,0,1,0,1,1,1,0,0,1,0,1]) ?_
      refine ar (id := 8) 7 ?_
      refine sl 33 (.agg #[.int .i64 d.kind, .int .i64 d.line, .int .i64 d.id, .int .i64 d.step, .int .i64 d.state, .int .i64 d.head, .slice da (List.length d.data) dcap, .int .i64 d.next, .int .i64 d.told]) (loadN (off := 0) (vs := [.int .i64 d.kind, .int .i64 d.line, .int .i64 d.id, .int .i64 d.step, .int .i64 d.state, .int .i64 d.head, .slice da (List.length d.data) dcap, .int .i64 d.next, .int .i64 d.told]) 9 (fun _ => by kernel_rfl) (holds_own (.there (.there .here))) rfl (by exact ⟨rfl, rfl, rfl, rfl, rfl, rfl, rfl, rfl, rfl, trivial⟩)) ?_
      refine sp 34 (.pointer (some ⟨c, 0, none⟩)) ?_
      refine sp 35 (.pointer (some ⟨b0_0, 8, none⟩)) ?_
      refine sl 36 (.int .i64 d.told) (load1 (off := 8) (fun _ => by kernel_rfl) (holds_own (.there (.there .here))) (by kernel_rfl)) ?_
      obtain ⟨y8_4, hy8_4, H⟩ := bindE H
      refine s_call 37 51 #[.agg #[.int .i64 d.kind, .int .i64 d.line, .int .i64 d.id, .int .i64 d.step, .int .i64 d.state, .int .i64 d.head, .slice da (List.length d.data) dcap, .int .i64 d.next, .int .i64 d.told], .pointer (some ⟨c, 0, none⟩), .int .i64 d.told] (by kernel_rfl) (by kernel_rfl) (fun _ => by kernel_rfl) (Tr.conv (Γ' := (ImmI da d.data) :: (CacheA c cc) :: (ImmI da d.data) :: (Asn.own b0_2 (.cells #[.int .i64 (0), .int .i64 (0), .int .i64 (0), .int .i64 (0), .int .i64 (0), .int .i64 (0), .slice none 0 0, .int .i64 (0), .int .i64 (0)] 35 (0, 0))) :: (Asn.own b0_1 (.cells #[.int .i64 p.kind, .int .i64 p.src, .int .i64 p.dst, .int .i64 p.id, .int .i64 p.line, .int .i64 p.ptr, .int .i64 p.state, .bool p.flag, .slice pa (List.length p.data) pcap] 40 (0, 0))) :: (Asn.own b0_0 (.cells #[.int .i64 d.kind, .int .i64 d.line, .int .i64 d.id, .int .i64 d.step, .int .i64 d.state, .int .i64 d.head, .slice da (List.length d.data) dcap, .int .i64 d.next, .int .i64 d.told] 35 (0, 0))) :: Γ) (fun w hw => (Sat.less (.take .here (.take (.there (.there (.there (.there .here)))) (.take .here (.take .here (.take .here (.take .here .refl)))))) (ImmR.dup (Sat.less (.take (.there (.there (.there .here))) (.take .here (.take .here (.take .here (.take .here .refl))))) hw)))) (ROutF_tr da dcap d c cc d.told y8_4 hy8_4)) ?_
      rintro _ _ ⟨a8_4_00, c8_4_00, rfl, rfl⟩
      refine s_do (by kernel_rfl) (by kernel_rfl) (st_store (off := 0) (vs := [.int .i64 y8_4.1.kind, .int .i64 y8_4.1.line, .int .i64 y8_4.1.id, .int .i64 y8_4.1.step, .int .i64 y8_4.1.state, .int .i64 y8_4.1.head, .slice a8_4_00 (List.length y8_4.1.data) c8_4_00, .int .i64 y8_4.1.next, .int .i64 y8_4.1.told]) (c' := #[.int .i64 y8_4.1.kind, .int .i64 y8_4.1.line, .int .i64 y8_4.1.id, .int .i64 y8_4.1.step, .int .i64 y8_4.1.state, .int .i64 y8_4.1.head, .slice a8_4_00 (List.length y8_4.1.data) c8_4_00, .int .i64 y8_4.1.next, .int .i64 y8_4.1.told]) (fun _ => by kernel_rfl) (.there (.there (.there .here))) (by kernel_rfl) (by kernel_rfl) (by kernel_rfl)) ?_
      rintro _ _ ⟨rfl, rfl⟩
      refine sp 9 (.bool true) ?_
      refine ops_end ?_
      refine ae [(8, .pointer (some ⟨b0_2, 0, none⟩)), (9, .bool true)] ?_
      refine at_then_normal ?_
      refine at_ret (by kernel_rfl) ?_
      refine at_then_ret ?_
      refine at_in_ret ?_
      refine at_then_ret ?_
      obtain rfl := someE H
      refine at_backR [.agg #[.int .i64 y8_4.1.kind, .int .i64 y8_4.1.line, .int .i64 y8_4.1.id, .int .i64 y8_4.1.step, .int .i64 y8_4.1.state, .int .i64 y8_4.1.head, .slice a8_4_00 (List.length y8_4.1.data) c8_4_00, .int .i64 y8_4.1.next, .int .i64 y8_4.1.told], .bool true] ((ImmI a8_4_00 y8_4.1.data) :: (CacheA c y8_4.2) :: Γ) (rs := [.cell 8 35, .tmp 9]) (by kernel_rfl) (.cons (.cell (by kernel_rfl) (retN (off := 0) (vs := [.int .i64 y8_4.1.kind, .int .i64 y8_4.1.line, .int .i64 y8_4.1.id, .int .i64 y8_4.1.step, .int .i64 y8_4.1.state, .int .i64 y8_4.1.head, .slice a8_4_00 (List.length y8_4.1.data) c8_4_00, .int .i64 y8_4.1.next, .int .i64 y8_4.1.told]) 9 (fun _ => by kernel_rfl) (holds_own .here) rfl (by exact ⟨rfl, rfl, rfl, rfl, rfl, rfl, rfl, rfl, rfl, trivial⟩))) (.cons (.tmp (by kernel_rfl)) .nil)) (fun w hw => (Sat.less (.take (.there .here) (.take (.there .here) (.drop .here (.drop .here (.drop .here (.drop .here .refl)))))) hw)) ?_
      exact ⟨a8_4_00, c8_4_00, rfl, rfl⟩
     ·replace H := bifF H h4
      refine at_false (t := decide (d.next = ((-1) : Int))) (x := C30 [1,1,0,1,0,1,1,1,0,0,1,0]) (y := C30 [1,1,0,1,0,1,1,1,0,0,1,1]) (o := .tmp 32) (by kernel_rfl) (by kernel_rfl) (by kernel_rfl) h4 ?_
      refine at_skip (by kernel_rfl) ?_
      refine at_then_normal ?_
      refine aq (x := C30 [1,1,0,1,0,1,1,1,0,1,0]) (y := C30 [1,1,0,1,0,1,1,1,0,1,1]) ?_
      refine ar (id := 9) 2 ?_
      refine sp 38 (.pointer (some ⟨b0_0, 3, none⟩)) ?_
      refine s_do (by kernel_rfl) (by kernel_rfl) (st_store (off := 3) (vs := [.int .i64 (5)]) (c' := #[.int .i64 d.kind, .int .i64 d.line, .int .i64 d.id, .int .i64 (5), .int .i64 d.state, .int .i64 d.head, .slice da (List.length d.data) dcap, .int .i64 d.next, .int .i64 d.told]) (fun _ => by kernel_rfl) (.there (.there .here)) (by kernel_rfl) (by kernel_rfl) (by kernel_rfl)) ?_
      rintro _ _ ⟨rfl, rfl⟩
      refine ops_end ?_
      refine ae [(4, .pointer (some ⟨b0_0, 0, none⟩)), (8, .pointer (some ⟨b0_2, 0, none⟩))] ?_
      refine at_then_normal ?_
      refine aq (x := C30 [1,1,0,1,0,1,1,1,0,1,1,0]) (y := C30 [1,1,0,1,0,1,1,1,0,1,1,1]) ?_
      refine ar (id := 10) 3 ?_
      refine sl 39 (.agg #[.int .i64 d.kind, .int .i64 d.line, .int .i64 d.id, .int .i64 (5), .int .i64 d.state, .int .i64 d.head, .slice da (List.length d.data) dcap, .int .i64 d.next, .int .i64 d.told]) (loadN (off := 0) (vs := [.int .i64 d.kind, .int .i64 d.line, .int .i64 d.id, .int .i64 (5), .int .i64 d.state, .int .i64 d.head, .slice da (List.length d.data) dcap, .int .i64 d.next, .int .i64 d.told]) 9 (fun _ => by kernel_rfl) (holds_own .here) rfl (by exact ⟨rfl, rfl, rfl, rfl, rfl, rfl, rfl, rfl, rfl, trivial⟩)) ?_
      refine s_do (by kernel_rfl) (by kernel_rfl) (st_store (off := 0) (vs := [.int .i64 d.kind, .int .i64 d.line, .int .i64 d.id, .int .i64 (5), .int .i64 d.state, .int .i64 d.head, .slice da (List.length d.data) dcap, .int .i64 d.next, .int .i64 d.told]) (c' := #[.int .i64 d.kind, .int .i64 d.line, .int .i64 d.id, .int .i64 (5), .int .i64 d.state, .int .i64 d.head, .slice da (List.length d.data) dcap, .int .i64 d.next, .int .i64 d.told]) (fun _ => by kernel_rfl) (.there .here) (by kernel_rfl) (by kernel_rfl) (by kernel_rfl)) ?_
      rintro _ _ ⟨rfl, rfl⟩
      refine sp 9 (.bool true) ?_
      refine ops_end ?_
      refine ae [(8, .pointer (some ⟨b0_2, 0, none⟩)), (9, .bool true)] ?_
      refine at_then_normal ?_
      refine at_ret (by kernel_rfl) ?_
      refine at_in_ret ?_
      refine at_then_ret ?_
      obtain rfl := someE H
      refine at_backR [.agg #[.int .i64 d.kind, .int .i64 d.line, .int .i64 d.id, .int .i64 (5), .int .i64 d.state, .int .i64 d.head, .slice da (List.length d.data) dcap, .int .i64 d.next, .int .i64 d.told], .bool true] ((ImmI da d.data) :: (CacheA c cc) :: Γ) (rs := [.cell 8 35, .tmp 9]) (by kernel_rfl) (.cons (.cell (by kernel_rfl) (retN (off := 0) (vs := [.int .i64 d.kind, .int .i64 d.line, .int .i64 d.id, .int .i64 (5), .int .i64 d.state, .int .i64 d.head, .slice da (List.length d.data) dcap, .int .i64 d.next, .int .i64 d.told]) 9 (fun _ => by kernel_rfl) (holds_own .here) rfl (by exact ⟨rfl, rfl, rfl, rfl, rfl, rfl, rfl, rfl, rfl, trivial⟩))) (.cons (.tmp (by kernel_rfl)) .nil)) (fun w hw => (Sat.less (.take (.there (.there (.there .here))) (.take (.there (.there (.there .here))) (.drop .here (.drop .here (.drop .here .refl))))) hw)) ?_
      exact ⟨da, dcap, rfl, rfl⟩
    ·replace H := bifF H h3
     refine at_false (t := decide (d.step = (4 : Int))) (x := C30 [1,1,0,1,0,1,1,1,0]) (y := C30 [1,1,0,1,0,1,1,1,1]) (o := .tmp 28) (by kernel_rfl) (by kernel_rfl) (by kernel_rfl) h3 ?_
     refine aq (x := C30 [1,1,0,1,0,1,1,1,1,0]) (y := C30 [1,1,0,1,0,1,1,1,1,1]) ?_
     refine ar (id := 11) 2 ?_
     refine sp 41 (.bool (decide (d.step = (5 : Int)))) ?_
     refine sp 40 (.bool (decide (d.step = (5 : Int)))) ?_
     refine ops_end ?_
     refine ae [(2, .pointer (some ⟨c, 0, none⟩)), (4, .pointer (some ⟨b0_0, 0, none⟩)), (8, .pointer (some ⟨b0_2, 0, none⟩)), (21, .int .i64 d.step), (40, .bool (decide (d.step = (5 : Int))))] ?_
     refine at_then_normal ?_
     rcases Bool.eq_false_or_eq_true (decide (d.step = (5 : Int))) with h5 | h5
     ·replace H := bifT H h5
      refine at_true (t := decide (d.step = (5 : Int))) (x := C30 [1,1,0,1,0,1,1,1,1,1,0]) (y := C30 [1,1,0,1,0,1,1,1,1,1,1]) (o := .tmp 40) (by kernel_rfl) (by kernel_rfl) (by kernel_rfl) h5 ?_
      refine aq (x := C30 [1,1,0,1,0,1,1,1,1,1,0,0]) (y := C30 [1,1,0,1,0,1,1,1,1,1,0,1]) ?_
      refine aq (x := C30 [1,1,0,1,0,1,1,1,1,1,0,0,0]) (y := C30 [1,1,0,1,0,1,1,1,1,1,0,0,1]) ?_
      refine ar (id := 12) 3 ?_
      refine sp 42 (.pointer (some ⟨b0_0, 5, none⟩)) ?_
      refine sl 43 (.int .i64 d.head) (load1 (off := 5) (fun _ => by kernel_rfl) (holds_own (.there (.there .here))) (by kernel_rfl)) ?_
      refine sp 44 (.bool (decide (d.head = ((-1) : Int)))) ?_
      refine ops_end ?_
      refine ae [(2, .pointer (some ⟨c, 0, none⟩)), (4, .pointer (some ⟨b0_0, 0, none⟩)), (8, .pointer (some ⟨b0_2, 0, none⟩)), (44, .bool (decide (d.head = ((-1) : Int))))] ?_
      refine at_then_normal ?_
      rcases Bool.eq_false_or_eq_true (decide (d.head = ((-1) : Int))) with h6 | h6
      ·replace H := bifT H h6
       refine at_true (t := decide (d.head = ((-1) : Int))) (x := C30 [1,1,0,1,0,1,1,1,1,1,0,0,1,0]) (y := C30 [1,1,0,1,0,1,1,1,1,1,0,0,1,1]) (o := .tmp 44) (by kernel_rfl) (by kernel_rfl) (by kernel_rfl) h6 ?_
       refine aq (x := C30 [1,1,0,1,0,1,1,1,1,1,0,0,1,0,0]) (y := C30 [1,1,0,1,0,1,1,1,1,1,0,0,1,0,1]) ?_
       refine ar (id := 13) 7 ?_
       refine sl 45 (.agg #[.int .i64 d.kind, .int .i64 d.line, .int .i64 d.id, .int .i64 d.step, .int .i64 d.state, .int .i64 d.head, .slice da (List.length d.data) dcap, .int .i64 d.next, .int .i64 d.told]) (loadN (off := 0) (vs := [.int .i64 d.kind, .int .i64 d.line, .int .i64 d.id, .int .i64 d.step, .int .i64 d.state, .int .i64 d.head, .slice da (List.length d.data) dcap, .int .i64 d.next, .int .i64 d.told]) 9 (fun _ => by kernel_rfl) (holds_own (.there (.there .here))) rfl (by exact ⟨rfl, rfl, rfl, rfl, rfl, rfl, rfl, rfl, rfl, trivial⟩)) ?_
       refine sp 46 (.pointer (some ⟨c, 0, none⟩)) ?_
       refine sp 47 (.pointer (some ⟨b0_0, 7, none⟩)) ?_
       refine sl 48 (.int .i64 d.next) (load1 (off := 7) (fun _ => by kernel_rfl) (holds_own (.there (.there .here))) (by kernel_rfl)) ?_
       obtain ⟨y13_4, hy13_4, H⟩ := bindE H
       refine s_call 49 51 #[.agg #[.int .i64 d.kind, .int .i64 d.line, .int .i64 d.id, .int .i64 d.step, .int .i64 d.state, .int .i64 d.head, .slice da (List.length d.data) dcap, .int .i64 d.next, .int .i64 d.told], .pointer (some ⟨c, 0, none⟩), .int .i64 d.next] (by kernel_rfl) (by kernel_rfl) (fun _ => by kernel_rfl) (Tr.conv (Γ' := (ImmI da d.data) :: (CacheA c cc) :: (ImmI da d.data) :: (Asn.own b0_2 (.cells #[.int .i64 (0), .int .i64 (0), .int .i64 (0), .int .i64 (0), .int .i64 (0), .int .i64 (0), .slice none 0 0, .int .i64 (0), .int .i64 (0)] 35 (0, 0))) :: (Asn.own b0_1 (.cells #[.int .i64 p.kind, .int .i64 p.src, .int .i64 p.dst, .int .i64 p.id, .int .i64 p.line, .int .i64 p.ptr, .int .i64 p.state, .bool p.flag, .slice pa (List.length p.data) pcap] 40 (0, 0))) :: (Asn.own b0_0 (.cells #[.int .i64 d.kind, .int .i64 d.line, .int .i64 d.id, .int .i64 d.step, .int .i64 d.state, .int .i64 d.head, .slice da (List.length d.data) dcap, .int .i64 d.next, .int .i64 d.told] 35 (0, 0))) :: Γ) (fun w hw => (Sat.less (.take .here (.take (.there (.there (.there (.there .here)))) (.take .here (.take .here (.take .here (.take .here .refl)))))) (ImmR.dup (Sat.less (.take (.there (.there (.there .here))) (.take .here (.take .here (.take .here (.take .here .refl))))) hw)))) (ROutF_tr da dcap d c cc d.next y13_4 hy13_4)) ?_
       rintro _ _ ⟨a13_4_00, c13_4_00, rfl, rfl⟩
       refine s_do (by kernel_rfl) (by kernel_rfl) (st_store (off := 0) (vs := [.int .i64 y13_4.1.kind, .int .i64 y13_4.1.line, .int .i64 y13_4.1.id, .int .i64 y13_4.1.step, .int .i64 y13_4.1.state, .int .i64 y13_4.1.head, .slice a13_4_00 (List.length y13_4.1.data) c13_4_00, .int .i64 y13_4.1.next, .int .i64 y13_4.1.told]) (c' := #[.int .i64 y13_4.1.kind, .int .i64 y13_4.1.line, .int .i64 y13_4.1.id, .int .i64 y13_4.1.step, .int .i64 y13_4.1.state, .int .i64 y13_4.1.head, .slice a13_4_00 (List.length y13_4.1.data) c13_4_00, .int .i64 y13_4.1.next, .int .i64 y13_4.1.told]) (fun _ => by kernel_rfl) (.there (.there (.there .here))) (by kernel_rfl) (by kernel_rfl) (by kernel_rfl)) ?_
       rintro _ _ ⟨rfl, rfl⟩
       refine sp 9 (.bool true) ?_
       refine ops_end ?_
       refine ae [(8, .pointer (some ⟨b0_2, 0, none⟩)), (9, .bool true)] ?_
       refine at_then_normal ?_
       refine at_ret (by kernel_rfl) ?_
       refine at_then_ret ?_
       refine at_in_ret ?_
       refine at_then_ret ?_
       obtain rfl := someE H
       refine at_backR [.agg #[.int .i64 y13_4.1.kind, .int .i64 y13_4.1.line, .int .i64 y13_4.1.id, .int .i64 y13_4.1.step, .int .i64 y13_4.1.state, .int .i64 y13_4.1.head, .slice a13_4_00 (List.length y13_4.1.data) c13_4_00, .int .i64 y13_4.1.next, .int .i64 y13_4.1.told], .bool true] ((ImmI a13_4_00 y13_4.1.data) :: (CacheA c y13_4.2) :: Γ) (rs := [.cell 8 35, .tmp 9]) (by kernel_rfl) (.cons (.cell (by kernel_rfl) (retN (off := 0) (vs := [.int .i64 y13_4.1.kind, .int .i64 y13_4.1.line, .int .i64 y13_4.1.id, .int .i64 y13_4.1.step, .int .i64 y13_4.1.state, .int .i64 y13_4.1.head, .slice a13_4_00 (List.length y13_4.1.data) c13_4_00, .int .i64 y13_4.1.next, .int .i64 y13_4.1.told]) 9 (fun _ => by kernel_rfl) (holds_own .here) rfl (by exact ⟨rfl, rfl, rfl, rfl, rfl, rfl, rfl, rfl, rfl, trivial⟩))) (.cons (.tmp (by kernel_rfl)) .nil)) (fun w hw => (Sat.less (.take (.there .here) (.take (.there .here) (.drop .here (.drop .here (.drop .here (.drop .here .refl)))))) hw)) ?_
       exact ⟨a13_4_00, c13_4_00, rfl, rfl⟩
      ·replace H := bifF H h6
       refine at_false (t := decide (d.head = ((-1) : Int))) (x := C30 [1,1,0,1,0,1,1,1,1,1,0,0,1,0]) (y := C30 [1,1,0,1,0,1,1,1,1,1,0,0,1,1]) (o := .tmp 44) (by kernel_rfl) (by kernel_rfl) (by kernel_rfl) h6 ?_
       refine at_skip (by kernel_rfl) ?_
       refine at_then_normal ?_
       refine aq (x := C30 [1,1,0,1,0,1,1,1,1,1,0,1,0]) (y := C30 [1,1,0,1,0,1,1,1,1,1,0,1,1]) ?_
       refine ar (id := 14) 7 ?_
       refine sl 50 (.agg #[.int .i64 d.kind, .int .i64 d.line, .int .i64 d.id, .int .i64 d.step, .int .i64 d.state, .int .i64 d.head, .slice da (List.length d.data) dcap, .int .i64 d.next, .int .i64 d.told]) (loadN (off := 0) (vs := [.int .i64 d.kind, .int .i64 d.line, .int .i64 d.id, .int .i64 d.step, .int .i64 d.state, .int .i64 d.head, .slice da (List.length d.data) dcap, .int .i64 d.next, .int .i64 d.told]) 9 (fun _ => by kernel_rfl) (holds_own (.there (.there .here))) rfl (by exact ⟨rfl, rfl, rfl, rfl, rfl, rfl, rfl, rfl, rfl, trivial⟩)) ?_
       refine sp 51 (.pointer (some ⟨c, 0, none⟩)) ?_
       refine sp 52 (.pointer (some ⟨b0_0, 8, none⟩)) ?_
       refine sl 53 (.int .i64 d.told) (load1 (off := 8) (fun _ => by kernel_rfl) (holds_own (.there (.there .here))) (by kernel_rfl)) ?_
       obtain ⟨y14_4, hy14_4, H⟩ := bindE H
       refine s_call 54 51 #[.agg #[.int .i64 d.kind, .int .i64 d.line, .int .i64 d.id, .int .i64 d.step, .int .i64 d.state, .int .i64 d.head, .slice da (List.length d.data) dcap, .int .i64 d.next, .int .i64 d.told], .pointer (some ⟨c, 0, none⟩), .int .i64 d.told] (by kernel_rfl) (by kernel_rfl) (fun _ => by kernel_rfl) (Tr.conv (Γ' := (ImmI da d.data) :: (CacheA c cc) :: (ImmI da d.data) :: (Asn.own b0_2 (.cells #[.int .i64 (0), .int .i64 (0), .int .i64 (0), .int .i64 (0), .int .i64 (0), .int .i64 (0), .slice none 0 0, .int .i64 (0), .int .i64 (0)] 35 (0, 0))) :: (Asn.own b0_1 (.cells #[.int .i64 p.kind, .int .i64 p.src, .int .i64 p.dst, .int .i64 p.id, .int .i64 p.line, .int .i64 p.ptr, .int .i64 p.state, .bool p.flag, .slice pa (List.length p.data) pcap] 40 (0, 0))) :: (Asn.own b0_0 (.cells #[.int .i64 d.kind, .int .i64 d.line, .int .i64 d.id, .int .i64 d.step, .int .i64 d.state, .int .i64 d.head, .slice da (List.length d.data) dcap, .int .i64 d.next, .int .i64 d.told] 35 (0, 0))) :: Γ) (fun w hw => (Sat.less (.take .here (.take (.there (.there (.there (.there .here)))) (.take .here (.take .here (.take .here (.take .here .refl)))))) (ImmR.dup (Sat.less (.take (.there (.there (.there .here))) (.take .here (.take .here (.take .here (.take .here .refl))))) hw)))) (ROutF_tr da dcap d c cc d.told y14_4 hy14_4)) ?_
       rintro _ _ ⟨a14_4_00, c14_4_00, rfl, rfl⟩
       refine s_do (by kernel_rfl) (by kernel_rfl) (st_store (off := 0) (vs := [.int .i64 y14_4.1.kind, .int .i64 y14_4.1.line, .int .i64 y14_4.1.id, .int .i64 y14_4.1.step, .int .i64 y14_4.1.state, .int .i64 y14_4.1.head, .slice a14_4_00 (List.length y14_4.1.data) c14_4_00, .int .i64 y14_4.1.next, .int .i64 y14_4.1.told]) (c' := #[.int .i64 y14_4.1.kind, .int .i64 y14_4.1.line, .int .i64 y14_4.1.id, .int .i64 y14_4.1.step, .int .i64 y14_4.1.state, .int .i64 y14_4.1.head, .slice a14_4_00 (List.length y14_4.1.data) c14_4_00, .int .i64 y14_4.1.next, .int .i64 y14_4.1.told]) (fun _ => by kernel_rfl) (.there (.there (.there .here))) (by kernel_rfl) (by kernel_rfl) (by kernel_rfl)) ?_
       rintro _ _ ⟨rfl, rfl⟩
       refine sp 9 (.bool true) ?_
       refine ops_end ?_
       refine ae [(8, .pointer (some ⟨b0_2, 0, none⟩)), (9, .bool true)] ?_
       refine at_then_normal ?_
       refine at_ret (by kernel_rfl) ?_
       refine at_in_ret ?_
       refine at_then_ret ?_
       obtain rfl := someE H
       refine at_backR [.agg #[.int .i64 y14_4.1.kind, .int .i64 y14_4.1.line, .int .i64 y14_4.1.id, .int .i64 y14_4.1.step, .int .i64 y14_4.1.state, .int .i64 y14_4.1.head, .slice a14_4_00 (List.length y14_4.1.data) c14_4_00, .int .i64 y14_4.1.next, .int .i64 y14_4.1.told], .bool true] ((ImmI a14_4_00 y14_4.1.data) :: (CacheA c y14_4.2) :: Γ) (rs := [.cell 8 35, .tmp 9]) (by kernel_rfl) (.cons (.cell (by kernel_rfl) (retN (off := 0) (vs := [.int .i64 y14_4.1.kind, .int .i64 y14_4.1.line, .int .i64 y14_4.1.id, .int .i64 y14_4.1.step, .int .i64 y14_4.1.state, .int .i64 y14_4.1.head, .slice a14_4_00 (List.length y14_4.1.data) c14_4_00, .int .i64 y14_4.1.next, .int .i64 y14_4.1.told]) 9 (fun _ => by kernel_rfl) (holds_own .here) rfl (by exact ⟨rfl, rfl, rfl, rfl, rfl, rfl, rfl, rfl, rfl, trivial⟩))) (.cons (.tmp (by kernel_rfl)) .nil)) (fun w hw => (Sat.less (.take (.there .here) (.take (.there .here) (.drop .here (.drop .here (.drop .here (.drop .here .refl)))))) hw)) ?_
       exact ⟨a14_4_00, c14_4_00, rfl, rfl⟩
     ·replace H := bifF H h5
      refine at_false (t := decide (d.step = (5 : Int))) (x := C30 [1,1,0,1,0,1,1,1,1,1,0]) (y := C30 [1,1,0,1,0,1,1,1,1,1,1]) (o := .tmp 40) (by kernel_rfl) (by kernel_rfl) (by kernel_rfl) h5 ?_
      refine aq (x := C30 [1,1,0,1,0,1,1,1,1,1,1,0]) (y := C30 [1,1,0,1,0,1,1,1,1,1,1,1]) ?_
      refine ar (id := 15) 2 ?_
      refine sp 56 (.bool (decide (d.step = (6 : Int)))) ?_
      refine sp 55 (.bool (decide (d.step = (6 : Int)))) ?_
      refine ops_end ?_
      refine ae [(4, .pointer (some ⟨b0_0, 0, none⟩)), (8, .pointer (some ⟨b0_2, 0, none⟩)), (55, .bool (decide (d.step = (6 : Int))))] ?_
      refine at_then_normal ?_
      rcases Bool.eq_false_or_eq_true (decide (d.step = (6 : Int))) with h7 | h7
      ·replace H := bifT H h7
       refine at_true (t := decide (d.step = (6 : Int))) (x := C30 [1,1,0,1,0,1,1,1,1,1,1,1,0]) (y := C30 [1,1,0,1,0,1,1,1,1,1,1,1,1]) (o := .tmp 55) (by kernel_rfl) (by kernel_rfl) (by kernel_rfl) h7 ?_
       refine aq (x := C30 [1,1,0,1,0,1,1,1,1,1,1,1,0,0]) (y := C30 [1,1,0,1,0,1,1,1,1,1,1,1,0,1]) ?_
       refine ar (id := 16) 2 ?_
       refine sp 57 (.pointer (some ⟨b0_0, 3, none⟩)) ?_
       refine s_do (by kernel_rfl) (by kernel_rfl) (st_store (off := 3) (vs := [.int .i64 (0)]) (c' := #[.int .i64 d.kind, .int .i64 d.line, .int .i64 d.id, .int .i64 (0), .int .i64 d.state, .int .i64 d.head, .slice da (List.length d.data) dcap, .int .i64 d.next, .int .i64 d.told]) (fun _ => by kernel_rfl) (.there (.there .here)) (by kernel_rfl) (by kernel_rfl) (by kernel_rfl)) ?_
       rintro _ _ ⟨rfl, rfl⟩
       refine ops_end ?_
       refine ae [(4, .pointer (some ⟨b0_0, 0, none⟩)), (8, .pointer (some ⟨b0_2, 0, none⟩))] ?_
       refine at_then_normal ?_
       refine aq (x := C30 [1,1,0,1,0,1,1,1,1,1,1,1,0,1,0]) (y := C30 [1,1,0,1,0,1,1,1,1,1,1,1,0,1,1]) ?_
       refine ar (id := 17) 3 ?_
       refine sl 58 (.agg #[.int .i64 d.kind, .int .i64 d.line, .int .i64 d.id, .int .i64 (0), .int .i64 d.state, .int .i64 d.head, .slice da (List.length d.data) dcap, .int .i64 d.next, .int .i64 d.told]) (loadN (off := 0) (vs := [.int .i64 d.kind, .int .i64 d.line, .int .i64 d.id, .int .i64 (0), .int .i64 d.state, .int .i64 d.head, .slice da (List.length d.data) dcap, .int .i64 d.next, .int .i64 d.told]) 9 (fun _ => by kernel_rfl) (holds_own .here) rfl (by exact ⟨rfl, rfl, rfl, rfl, rfl, rfl, rfl, rfl, rfl, trivial⟩)) ?_
       refine s_do (by kernel_rfl) (by kernel_rfl) (st_store (off := 0) (vs := [.int .i64 d.kind, .int .i64 d.line, .int .i64 d.id, .int .i64 (0), .int .i64 d.state, .int .i64 d.head, .slice da (List.length d.data) dcap, .int .i64 d.next, .int .i64 d.told]) (c' := #[.int .i64 d.kind, .int .i64 d.line, .int .i64 d.id, .int .i64 (0), .int .i64 d.state, .int .i64 d.head, .slice da (List.length d.data) dcap, .int .i64 d.next, .int .i64 d.told]) (fun _ => by kernel_rfl) (.there .here) (by kernel_rfl) (by kernel_rfl) (by kernel_rfl)) ?_
       rintro _ _ ⟨rfl, rfl⟩
       refine sp 9 (.bool true) ?_
       refine ops_end ?_
       refine ae [(8, .pointer (some ⟨b0_2, 0, none⟩)), (9, .bool true)] ?_
       refine at_then_normal ?_
       refine at_ret (by kernel_rfl) ?_
       refine at_in_ret ?_
       refine at_then_ret ?_
       obtain rfl := someE H
       refine at_backR [.agg #[.int .i64 d.kind, .int .i64 d.line, .int .i64 d.id, .int .i64 (0), .int .i64 d.state, .int .i64 d.head, .slice da (List.length d.data) dcap, .int .i64 d.next, .int .i64 d.told], .bool true] ((ImmI da d.data) :: (CacheA c cc) :: Γ) (rs := [.cell 8 35, .tmp 9]) (by kernel_rfl) (.cons (.cell (by kernel_rfl) (retN (off := 0) (vs := [.int .i64 d.kind, .int .i64 d.line, .int .i64 d.id, .int .i64 (0), .int .i64 d.state, .int .i64 d.head, .slice da (List.length d.data) dcap, .int .i64 d.next, .int .i64 d.told]) 9 (fun _ => by kernel_rfl) (holds_own .here) rfl (by exact ⟨rfl, rfl, rfl, rfl, rfl, rfl, rfl, rfl, rfl, trivial⟩))) (.cons (.tmp (by kernel_rfl)) .nil)) (fun w hw => (Sat.less (.take (.there (.there (.there .here))) (.take (.there (.there (.there .here))) (.drop .here (.drop .here (.drop .here .refl))))) hw)) ?_
       exact ⟨da, dcap, rfl, rfl⟩
      ·replace H := bifF H h7
       refine at_false (t := decide (d.step = (6 : Int))) (x := C30 [1,1,0,1,0,1,1,1,1,1,1,1,0]) (y := C30 [1,1,0,1,0,1,1,1,1,1,1,1,1]) (o := .tmp 55) (by kernel_rfl) (by kernel_rfl) (by kernel_rfl) h7 ?_
       refine at_skip (by kernel_rfl) ?_
       refine at_in_normal ?_
       refine at_then_normal ?_
       refine aq (x := C30 [1,1,1,0]) (y := C30 [1,1,1,1]) ?_
       refine ar (id := 18) 3 ?_
       refine sp 59 (.agg #[.int .i64 (0), .int .i64 (0), .int .i64 (0), .int .i64 (0), .int .i64 (0), .int .i64 (0), .slice none 0 0, .int .i64 (0), .int .i64 (0)]) ?_
       refine s_do (by kernel_rfl) (by kernel_rfl) (st_store (off := 0) (vs := [.int .i64 (0), .int .i64 (0), .int .i64 (0), .int .i64 (0), .int .i64 (0), .int .i64 (0), .slice none 0 0, .int .i64 (0), .int .i64 (0)]) (c' := #[.int .i64 (0), .int .i64 (0), .int .i64 (0), .int .i64 (0), .int .i64 (0), .int .i64 (0), .slice none 0 0, .int .i64 (0), .int .i64 (0)]) (fun _ => by kernel_rfl) .here (by kernel_rfl) (by kernel_rfl) (by kernel_rfl)) ?_
       rintro _ _ ⟨rfl, rfl⟩
       refine sp 9 (.bool false) ?_
       refine ops_end ?_
       refine ae [(8, .pointer (some ⟨b0_2, 0, none⟩)), (9, .bool false)] ?_
       refine at_then_normal ?_
       refine at_ret (by kernel_rfl) ?_
       obtain rfl := someE H
       refine at_backR [.agg #[.int .i64 (0), .int .i64 (0), .int .i64 (0), .int .i64 (0), .int .i64 (0), .int .i64 (0), .slice none 0 0, .int .i64 (0), .int .i64 (0)], .bool false] ((ImmI none ([] : List Int)) :: (CacheA c cc) :: Γ) (rs := [.cell 8 35, .tmp 9]) (by kernel_rfl) (.cons (.cell (by kernel_rfl) (retN (off := 0) (vs := [.int .i64 (0), .int .i64 (0), .int .i64 (0), .int .i64 (0), .int .i64 (0), .int .i64 (0), .slice none 0 0, .int .i64 (0), .int .i64 (0)]) 9 (fun _ => by kernel_rfl) (holds_own .here) rfl (by exact ⟨rfl, rfl, rfl, rfl, rfl, rfl, rfl, rfl, rfl, trivial⟩))) (.cons (.tmp (by kernel_rfl)) .nil)) (fun w hw => (Sat.less (.take .here (.take (.there (.there (.there (.there .here)))) (.drop .here (.drop .here (.drop .here (.drop .here .refl)))))) (ImmR.nil_mk (k := 1) (a := none) hw))) ?_
       exact ⟨none, 0, rfl, rfl⟩
 ·refine ar (id := 1) 9 ?_
  refine sp 10 (.pointer (some ⟨b0_0, 0, none⟩)) ?_
  refine sl 11 (.int .i64 d.kind) (load1 (off := 0) (fun _ => by kernel_rfl) (holds_own (.there (.there .here))) (by kernel_rfl)) ?_
  refine sp 12 (.bool (!(decide (d.kind = (3 : Int))))) ?_
  rcases Bool.eq_false_or_eq_true (!(decide (d.kind = (3 : Int)))) with h8 | h8
  ·replace H := bifT H h8
   refine sr 13 (.bool true) (run_eq (v := .bool (!(decide (d.kind = (3 : Int))))) (fun _ => by kernel_rfl) (congrArg Value.bool h8)) ?_
   refine sa 14 ?_
   refine sa 15 ?_
   refine sa 16 ?_
   refine sa 17 ?_
   refine sp 18 (.bool true) ?_
   refine ops_end ?_
   refine ae [(2, .pointer (some ⟨c, 0, none⟩)), (4, .pointer (some ⟨b0_0, 0, none⟩)), (7, .pointer (some ⟨b0_1, 0, none⟩)), (8, .pointer (some ⟨b0_2, 0, none⟩)), (18, .bool true)] ?_
   refine at_round_normal ?_
   exact at_join_mk [(2, .pointer (some ⟨c, 0, none⟩)), (4, .pointer (some ⟨b0_0, 0, none⟩)), (7, .pointer (some ⟨b0_1, 0, none⟩)), (8, .pointer (some ⟨b0_2, 0, none⟩)), (18, .bool true)] ((Asn.own b0_2 (.cells #[.int .i64 (0), .int .i64 (0), .int .i64 (0), .int .i64 (0), .int .i64 (0), .int .i64 (0), .slice none 0 0, .int .i64 (0), .int .i64 (0)] 35 (0, 0))) :: (Asn.own b0_1 (.cells #[.int .i64 p.kind, .int .i64 p.src, .int .i64 p.dst, .int .i64 p.id, .int .i64 p.line, .int .i64 p.ptr, .int .i64 p.state, .bool p.flag, .slice pa (List.length p.data) pcap] 40 (0, 0))) :: (Asn.own b0_0 (.cells #[.int .i64 d.kind, .int .i64 d.line, .int .i64 d.id, .int .i64 d.step, .int .i64 d.state, .int .i64 d.head, .slice da (List.length d.data) dcap, .int .i64 d.next, .int .i64 d.told] 35 (0, 0))) :: (ImmI da d.data) :: (CacheA c cc) :: Γ) ⟨by kernel_rfl, by kernel_rfl, by kernel_rfl, by kernel_rfl, by kernel_rfl, trivial⟩ (fun w hw => (Sat.less (.take .here (.take .here (.take .here (.take .here (.take .here .refl))))) hw)) ⟨true, H, rfl, rfl⟩
  ·replace H := bifF H h8
   refine sr 13 (.bool false) (run_eq (v := .bool (!(decide (d.kind = (3 : Int))))) (fun _ => by kernel_rfl) (congrArg Value.bool h8)) ?_
   refine sl 14 (.agg #[.int .i64 d.kind, .int .i64 d.line, .int .i64 d.id, .int .i64 d.step, .int .i64 d.state, .int .i64 d.head, .slice da (List.length d.data) dcap, .int .i64 d.next, .int .i64 d.told]) (loadN (off := 0) (vs := [.int .i64 d.kind, .int .i64 d.line, .int .i64 d.id, .int .i64 d.step, .int .i64 d.state, .int .i64 d.head, .slice da (List.length d.data) dcap, .int .i64 d.next, .int .i64 d.told]) 9 (fun _ => by kernel_rfl) (holds_own (.there (.there .here))) rfl (by exact ⟨rfl, rfl, rfl, rfl, rfl, rfl, rfl, rfl, rfl, trivial⟩)) ?_
   refine sl 15 (.agg #[.int .i64 p.kind, .int .i64 p.src, .int .i64 p.dst, .int .i64 p.id, .int .i64 p.line, .int .i64 p.ptr, .int .i64 p.state, .bool p.flag, .slice pa (List.length p.data) pcap]) (loadN (off := 0) (vs := [.int .i64 p.kind, .int .i64 p.src, .int .i64 p.dst, .int .i64 p.id, .int .i64 p.line, .int .i64 p.ptr, .int .i64 p.state, .bool p.flag, .slice pa (List.length p.data) pcap]) 9 (fun _ => by kernel_rfl) (holds_own (.there .here)) rfl (by exact ⟨rfl, rfl, rfl, rfl, rfl, rfl, rfl, rfl, rfl, trivial⟩)) ?_
   obtain ⟨y1_6, hy1_6, H⟩ := bindE H
   refine s_call 16 42 #[.agg #[.int .i64 d.kind, .int .i64 d.line, .int .i64 d.id, .int .i64 d.step, .int .i64 d.state, .int .i64 d.head, .slice da (List.length d.data) dcap, .int .i64 d.next, .int .i64 d.told], .agg #[.int .i64 p.kind, .int .i64 p.src, .int .i64 p.dst, .int .i64 p.id, .int .i64 p.line, .int .i64 p.ptr, .int .i64 p.state, .bool p.flag, .slice pa (List.length p.data) pcap]] (by kernel_rfl) (by kernel_rfl) (fun _ => by kernel_rfl) (DFitsF_tr da dcap d pa pcap p (ImmR.reads (k := 1) (.there (.there (.there .here)))) (Reads.conv (fun w hw => hw.less (.drop .here (.drop .here (.drop .here (.drop .here (.drop .here .refl)))))) hrpa) y1_6 hy1_6) ?_
   rintro _ _ ⟨rfl, rfl⟩
   refine sp 17 (.bool !y1_6) ?_
   refine sp 18 (.bool !y1_6) ?_
   refine ops_end ?_
   refine ae [(2, .pointer (some ⟨c, 0, none⟩)), (4, .pointer (some ⟨b0_0, 0, none⟩)), (7, .pointer (some ⟨b0_1, 0, none⟩)), (8, .pointer (some ⟨b0_2, 0, none⟩)), (18, .bool !y1_6)] ?_
   refine at_round_normal ?_
   exact at_join_mk [(2, .pointer (some ⟨c, 0, none⟩)), (4, .pointer (some ⟨b0_0, 0, none⟩)), (7, .pointer (some ⟨b0_1, 0, none⟩)), (8, .pointer (some ⟨b0_2, 0, none⟩)), (18, .bool !y1_6)] ((Asn.own b0_2 (.cells #[.int .i64 (0), .int .i64 (0), .int .i64 (0), .int .i64 (0), .int .i64 (0), .int .i64 (0), .slice none 0 0, .int .i64 (0), .int .i64 (0)] 35 (0, 0))) :: (Asn.own b0_1 (.cells #[.int .i64 p.kind, .int .i64 p.src, .int .i64 p.dst, .int .i64 p.id, .int .i64 p.line, .int .i64 p.ptr, .int .i64 p.state, .bool p.flag, .slice pa (List.length p.data) pcap] 40 (0, 0))) :: (Asn.own b0_0 (.cells #[.int .i64 d.kind, .int .i64 d.line, .int .i64 d.id, .int .i64 d.step, .int .i64 d.state, .int .i64 d.head, .slice da (List.length d.data) dcap, .int .i64 d.next, .int .i64 d.told] 35 (0, 0))) :: (ImmI da d.data) :: (CacheA c cc) :: Γ) ⟨by kernel_rfl, by kernel_rfl, by kernel_rfl, by kernel_rfl, by kernel_rfl, trivial⟩ (fun w hw => (Sat.less (.take .here (.take .here (.take .here (.take .here (.take .here .refl))))) hw)) ⟨!y1_6, H, rfl, rfl⟩
end Go.Proofs.Ytlnjnkbnppnbkaa
