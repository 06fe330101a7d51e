/- Deals by small numbers. -/
import Derived.Test.YtfndeehlbcbkpaaOwnA
import Derived.Test.YtfndeehlbcbkpaaKsA
namespace Go.Proofs.Ytfndeehlbcbkpaa
open Go Go.RowKit
set_option linter.unusedVariables false
set_option linter.unusedSimpArgs false
structure RawS where
 kind : Int
 line : Int
 id : Int
 step : Int
 state : Int
 head : Int
 next : Int
 told : Int
 data : List Int
noncomputable def C24 (p : List Nat) : Code := codeAt (bodyOf Try.f24) p
set_option maxRecDepth 100000 in
theorem Ref13_tr {W0 : World} {Γ : List Asn} (k l i t u h x y : Int) (a : Option Addr) (n c : Nat) : Tr Try.prog 24 #[.agg #[.int .i64 k, .int .i64 l, .int .i64 i, .int .i64 t, .int .i64 u, .int .i64 h, .slice a n c, .int .i64 x, .int .i64 y]] W0 (Γ) (fun r Δ => r = .agg #[.int .i64 k, .int .i64 l, .int .i64 i, .int .i64 t, .int .i64 u, .int .i64 h, .slice a n c, .int .i64 x, .int .i64 y] ∧ Δ = Γ) := by
 refine Tr.enter (fn := Try.f24) (c := C24 []) (args := [.agg #[.int .i64 k, .int .i64 l, .int .i64 i, .int .i64 t, .int .i64 u, .int .i64 h, .slice a n c, .int .i64 x, .int .i64 y]]) 22 Try.func24 (by kernel_rfl) (by kernel_rfl) ?_
 refine ae [(0, .agg #[.int .i64 k, .int .i64 l, .int .i64 i, .int .i64 t, .int .i64 u, .int .i64 h, .slice a n c, .int .i64 x, .int .i64 y])] ?_
 refine aq (x := C24 [0]) (y := C24 [1]) ?_
 refine ar (id := 0) 2 ?_
 refine s_step 1 (by kernel_rfl) (by kernel_rfl) (st_new (T := 29) (cells := #[.int .i64 k, .int .i64 l, .int .i64 i, .int .i64 t, .int .i64 u, .int .i64 h, .slice a n c, .int .i64 x, .int .i64 y]) (fun a => .pointer (some a)) (fun _ => by kernel_rfl)) ?_
 rintro _ _ ⟨b0_0, rfl, rfl⟩
 refine s_step 2 (by kernel_rfl) (by kernel_rfl) (st_new (T := 60) (cells := #[.int .i64 (0), .int .i64 (0), .int .i64 (0), .int .i64 (0), .int .i64 (0), .int .i64 (0), .slice none 0 0, .int .i64 (0), .int .i64 (0)]) (fun a => .pointer (some a)) (fun _ => by kernel_rfl)) ?_
 rintro _ _ ⟨b0_1, rfl, rfl⟩
 refine ops_end ?_
 refine ae [(1, .pointer (some ⟨b0_0, 0, none⟩)), (2, .pointer (some ⟨b0_1, 0, none⟩))] ?_
 refine at_then_normal ?_
 refine aq (x := C24 [1,0]) (y := C24 [1,1]) ?_
 refine ar (id := 1) 20 ?_
 refine sp 3 (.pointer (some ⟨b0_0, 0, none⟩)) ?_
 refine sl 4 (.int .i64 k) (load1 (off := 0) (fun _ => by kernel_rfl) (holds_own (.there .here)) (by kernel_rfl)) ?_
 refine sp 5 (.pointer (some ⟨b0_0, 1, none⟩)) ?_
 refine sl 6 (.int .i64 l) (load1 (off := 1) (fun _ => by kernel_rfl) (holds_own (.there .here)) (by kernel_rfl)) ?_
 refine sp 7 (.pointer (some ⟨b0_0, 2, none⟩)) ?_
 refine sl 8 (.int .i64 i) (load1 (off := 2) (fun _ => by kernel_rfl) (holds_own (.there .here)) (by kernel_rfl)) ?_
 refine sp 9 (.pointer (some ⟨b0_0, 3, none⟩)) ?_
 refine sl 10 (.int .i64 t) (load1 (off := 3) (fun _ => by kernel_rfl) (holds_own (.there .here)) (by kernel_rfl)) ?_
 refine sp 11 (.pointer (some ⟨b0_0, 4, none⟩)) ?_
 refine sl 12 (.int .i64 u) (load1 (off := 4) (fun _ => by kernel_rfl) (holds_own (.there .here)) (by kernel_rfl)) ?_
 refine sp 13 (.pointer (some ⟨b0_0, 5, none⟩)) ?_
 refine sl 14 (.int .i64 h) (load1 (off := 5) (fun _ => by kernel_rfl) (holds_own (.there .here)) (by kernel_rfl)) ?_
 refine sp 15 (.pointer (some ⟨b0_0, 7, none⟩)) ?_
 refine sl 16 (.int .i64 x) (load1 (off := 7) (fun _ => by kernel_rfl) (holds_own (.there .here)) (by kernel_rfl)) ?_
 refine sp 17 (.pointer (some ⟨b0_0, 8, none⟩)) ?_
 refine sl 18 (.int .i64 y) (load1 (off := 8) (fun _ => by kernel_rfl) (holds_own (.there .here)) (by kernel_rfl)) ?_
 refine sp 19 (.pointer (some ⟨b0_0, 6, none⟩)) ?_
 refine sl 20 (.slice a n c) (load1 (off := 6) (fun _ => by kernel_rfl) (holds_own (.there .here)) (by kernel_rfl)) ?_
 refine sp 21 (.agg #[.int .i64 k, .int .i64 l, .int .i64 i, .int .i64 t, .int .i64 u, .int .i64 h, .slice a n c, .int .i64 x, .int .i64 y]) ?_
 refine s_do (by kernel_rfl) (by kernel_rfl) (st_store (off := 0) (vs := [.int .i64 k, .int .i64 l, .int .i64 i, .int .i64 t, .int .i64 u, .int .i64 h, .slice a n c, .int .i64 x, .int .i64 y]) (c' := #[.int .i64 k, .int .i64 l, .int .i64 i, .int .i64 t, .int .i64 u, .int .i64 h, .slice a n c, .int .i64 x, .int .i64 y]) (fun _ => by kernel_rfl) .here (by kernel_rfl) (by kernel_rfl) (by kernel_rfl)) ?_
 rintro _ _ ⟨rfl, rfl⟩
 refine ops_end ?_
 refine ae [(2, .pointer (some ⟨b0_1, 0, none⟩))] ?_
 refine at_then_normal ?_
 refine at_ret (by kernel_rfl) ?_
 refine at_backR [.agg #[.int .i64 k, .int .i64 l, .int .i64 i, .int .i64 t, .int .i64 u, .int .i64 h, .slice a n c, .int .i64 x, .int .i64 y]] (Γ) (rs := [.cell 2 60]) (by kernel_rfl) (.cons (.cell (by kernel_rfl) (retN (off := 0) (vs := [.int .i64 k, .int .i64 l, .int .i64 i, .int .i64 t, .int .i64 u, .int .i64 h, .slice a n c, .int .i64 x, .int .i64 y]) 9 (fun _ => by kernel_rfl) (holds_own .here) rfl (by exact ⟨rfl, rfl, rfl, rfl, rfl, rfl, rfl, rfl, rfl, trivial⟩))) .nil) (fun w hw => (Sat.less (.drop .here (.drop .here .refl)) hw)) ?_
 exact ⟨rfl, rfl⟩
def deal13S (x : RawS) : Option (DealS) :=
 (withinS x.kind (5 : Int)).bind fun y1_2 => (withinS x.line (4 : Int)).bind fun y1_5 => (withinS x.id (5 : Int)).bind fun y1_8 => (withinS x.step (8 : Int)).bind fun y1_11 => (withinS x.state (3 : Int)).bind fun y1_14 => (withinS x.head (5 : Int)).bind fun y1_17 => (withinS x.next (5 : Int)).bind fun y1_21 => (withinS x.told (5 : Int)).bind fun y1_25 => (cutS x.data (3 : Int)).bind fun y1_29 => some (⟨y1_2, y1_5, y1_8, y1_11, y1_14, wr (y1_17 - (1 : Int)), y1_29, wr (y1_21 - (1 : Int)), wr (y1_25 - (1 : Int))⟩ : DealS)
noncomputable def C20 (p : List Nat) : Code := codeAt (bodyOf Try.f20) p
set_option maxRecDepth 100000 in
set_option maxHeartbeats 8000000 in
theorem Deal13F_tr {W0 : World} {Γ : List Asn} (xa : Option Addr) (xcap : Nat) (x : RawS) (hrxa : Reads W0 Γ xa (ints x.data)) (hcxa : x.data.length ≤ xcap) (y : DealS) (H : deal13S x = some y) : Tr Try.prog 20 #[.agg #[.int .i64 x.kind, .int .i64 x.line, .int .i64 x.id, .int .i64 x.step, .int .i64 x.state, .int .i64 x.head, .int .i64 x.next, .int .i64 x.told, .slice xa (List.length x.data) xcap]] W0 (Γ) (fun r Δ => ∃ (a0_0 : Option Addr) (c0_0 : Nat), r = .agg #[.int .i64 y.kind, .int .i64 y.line, .int .i64 y.id, .int .i64 y.step, .int .i64 y.state, .int .i64 y.head, .slice a0_0 (List.length y.data) c0_0, .int .i64 y.next, .int .i64 y.told] ∧ Δ = (ImmI a0_0 y.data) :: Γ) := by
 unfold deal13S at H
 refine Tr.enter (fn := Try.f20) (c := C20 []) (args := [.agg #[.int .i64 x.kind, .int .i64 x.line, .int .i64 x.id, .int .i64 x.step, .int .i64 x.state, .int .i64 x.head, .int .i64 x.next, .int .i64 x.told, .slice xa (List.length x.data) xcap]]) 34 Try.func20 (by kernel_rfl) (by kernel_rfl) ?_
 refine ae [(0, .agg #[.int .i64 x.kind, .int .i64 x.line, .int .i64 x.id, .int .i64 x.step, .int .i64 x.state, .int .i64 x.head, .int .i64 x.next, .int .i64 x.told, .slice xa (List.length x.data) xcap])] ?_
 refine aq (x := C20 [0]) (y := C20 [1]) ?_
 refine ar (id := 0) 2 ?_
 refine s_step 1 (by kernel_rfl) (by kernel_rfl) (st_new (T := 56) (cells := #[.int .i64 x.kind, .int .i64 x.line, .int .i64 x.id, .int .i64 x.step, .int .i64 x.state, .int .i64 x.head, .int .i64 x.next, .int .i64 x.told, .slice xa (List.length x.data) xcap]) (fun a => .pointer (some a)) (fun _ => by kernel_rfl)) ?_
 rintro _ _ ⟨b0_0, rfl, rfl⟩
 refine s_step 2 (by kernel_rfl) (by kernel_rfl) (st_new (T := 29) (cells := #[.int .i64 (0), .int .i64 (0), .int .i64 (0), .int .i64 (0), .int .i64 (0), .int .i64 (0), .slice none 0 0, .int .i64 (0), .int .i64 (0)]) (fun a => .pointer (some a)) (fun _ => by kernel_rfl)) ?_
 rintro _ _ ⟨b0_1, rfl, rfl⟩
 refine ops_end ?_
 refine ae [(1, .pointer (some ⟨b0_0, 0, none⟩)), (2, .pointer (some ⟨b0_1, 0, none⟩))] ?_
 refine at_then_normal ?_
 refine aq (x := C20 [1,0]) (y := C20 [1,1]) ?_
 refine at_region_draw (id := 1) (by kernel_rfl) (by kernel_rfl) ?_
 refine dp 0 3 (.pointer (some ⟨b0_0, 0, none⟩)) ?_
 refine dl 1 4 (.int .i64 x.kind) (load1 (off := 0) (fun _ => by kernel_rfl) (holds_own (.there .here)) (by kernel_rfl)) ?_
 obtain ⟨y1_2, hy1_2, H⟩ := bindE H
 refine d_quiet 2 5 (.int .i64 y1_2) 8 #[.int .i64 x.kind, .int .i64 (5)] (by kernel_rfl) (by kernel_rfl) (by kernel_rfl) (fun _ => by kernel_rfl) (fun _ => (WithinF_tr x.kind (5 : Int) y1_2 hy1_2)) ?_
 refine dp 3 6 (.pointer (some ⟨b0_0, 1, none⟩)) ?_
 refine dl 4 7 (.int .i64 x.line) (load1 (off := 1) (fun _ => by kernel_rfl) (holds_own (.there .here)) (by kernel_rfl)) ?_
 obtain ⟨y1_5, hy1_5, H⟩ := bindE H
 refine d_quiet 5 8 (.int .i64 y1_5) 8 #[.int .i64 x.line, .int .i64 (4)] (by kernel_rfl) (by kernel_rfl) (by kernel_rfl) (fun _ => by kernel_rfl) (fun _ => (WithinF_tr x.line (4 : Int) y1_5 hy1_5)) ?_
 refine dp 6 9 (.pointer (some ⟨b0_0, 2, none⟩)) ?_
 refine dl 7 10 (.int .i64 x.id) (load1 (off := 2) (fun _ => by kernel_rfl) (holds_own (.there .here)) (by kernel_rfl)) ?_
 obtain ⟨y1_8, hy1_8, H⟩ := bindE H
 refine d_quiet 8 11 (.int .i64 y1_8) 8 #[.int .i64 x.id, .int .i64 (5)] (by kernel_rfl) (by kernel_rfl) (by kernel_rfl) (fun _ => by kernel_rfl) (fun _ => (WithinF_tr x.id (5 : Int) y1_8 hy1_8)) ?_
 refine dp 9 12 (.pointer (some ⟨b0_0, 3, none⟩)) ?_
 refine dl 10 13 (.int .i64 x.step) (load1 (off := 3) (fun _ => by kernel_rfl) (holds_own (.there .here)) (by kernel_rfl)) ?_
 obtain ⟨y1_11, hy1_11, H⟩ := bindE H
 refine d_quiet 11 14 (.int .i64 y1_11) 8 #[.int .i64 x.step, .int .i64 (8)] (by kernel_rfl) (by kernel_rfl) (by kernel_rfl) (fun _ => by kernel_rfl) (fun _ => (WithinF_tr x.step (8 : Int) y1_11 hy1_11)) ?_
 refine dp 12 15 (.pointer (some ⟨b0_0, 4, none⟩)) ?_
 refine dl 13 16 (.int .i64 x.state) (load1 (off := 4) (fun _ => by kernel_rfl) (holds_own (.there .here)) (by kernel_rfl)) ?_
 obtain ⟨y1_14, hy1_14, H⟩ := bindE H
 refine d_quiet 14 17 (.int .i64 y1_14) 8 #[.int .i64 x.state, .int .i64 (3)] (by kernel_rfl) (by kernel_rfl) (by kernel_rfl) (fun _ => by kernel_rfl) (fun _ => (WithinF_tr x.state (3 : Int) y1_14 hy1_14)) ?_
 refine dp 15 18 (.pointer (some ⟨b0_0, 5, none⟩)) ?_
 refine dl 16 19 (.int .i64 x.head) (load1 (off := 5) (fun _ => by kernel_rfl) (holds_own (.there .here)) (by kernel_rfl)) ?_
 obtain ⟨y1_17, hy1_17, H⟩ := bindE H
 refine d_quiet 17 20 (.int .i64 y1_17) 8 #[.int .i64 x.head, .int .i64 (5)] (by kernel_rfl) (by kernel_rfl) (by kernel_rfl) (fun _ => by kernel_rfl) (fun _ => (WithinF_tr x.head (5 : Int) y1_17 hy1_17)) ?_
 refine dp 18 21 (.int .i64 (wr (y1_17 - (1 : Int)))) ?_
 refine dp 19 22 (.pointer (some ⟨b0_0, 6, none⟩)) ?_
 refine dl 20 23 (.int .i64 x.next) (load1 (off := 6) (fun _ => by kernel_rfl) (holds_own (.there .here)) (by kernel_rfl)) ?_
 obtain ⟨y1_21, hy1_21, H⟩ := bindE H
 refine d_quiet 21 24 (.int .i64 y1_21) 8 #[.int .i64 x.next, .int .i64 (5)] (by kernel_rfl) (by kernel_rfl) (by kernel_rfl) (fun _ => by kernel_rfl) (fun _ => (WithinF_tr x.next (5 : Int) y1_21 hy1_21)) ?_
 refine dp 22 25 (.int .i64 (wr (y1_21 - (1 : Int)))) ?_
 refine dp 23 26 (.pointer (some ⟨b0_0, 7, none⟩)) ?_
 refine dl 24 27 (.int .i64 x.told) (load1 (off := 7) (fun _ => by kernel_rfl) (holds_own (.there .here)) (by kernel_rfl)) ?_
 obtain ⟨y1_25, hy1_25, H⟩ := bindE H
 refine d_quiet 25 28 (.int .i64 y1_25) 8 #[.int .i64 x.told, .int .i64 (5)] (by kernel_rfl) (by kernel_rfl) (by kernel_rfl) (fun _ => by kernel_rfl) (fun _ => (WithinF_tr x.told (5 : Int) y1_25 hy1_25)) ?_
 refine dp 26 29 (.int .i64 (wr (y1_25 - (1 : Int)))) ?_
 refine dp 27 30 (.pointer (some ⟨b0_0, 8, none⟩)) ?_
 refine dl 28 31 (.slice xa (List.length x.data) xcap) (load1 (off := 8) (fun _ => by kernel_rfl) (holds_own (.there .here)) (by kernel_rfl)) ?_
 obtain ⟨y1_29, hy1_29, H⟩ := bindE H
 refine d_call 29 32 [28, 25, 27, 24, 21, 23, 20, 17, 19, 16, 14, 15, 13, 11, 12, 10, 8, 9, 7, 5, 6, 4, 2, 3, 1, 0] [26, 22, 18] [] 32 #[.slice xa (List.length x.data) xcap, .int .i64 (3)] (by kernel_rfl) (by kernel_rfl) (by kernel_rfl) (fun _ => by kernel_rfl) (CutF_tr xa xcap x.data (3 : Int) (Reads.conv (fun w hw => hw.less (.drop .here (.drop .here .refl))) hrxa) hcxa y1_29 hy1_29) ?_
 rintro _ _ ⟨a1_29_00, c1_29_00, rfl, rfl⟩
 refine ⟨stable_nil, ?_⟩
 refine dp 30 33 (.agg #[.int .i64 y1_2, .int .i64 y1_5, .int .i64 y1_8, .int .i64 y1_11, .int .i64 y1_14, .int .i64 (wr (y1_17 - (1 : Int))), .slice a1_29_00 (List.length y1_29) c1_29_00, .int .i64 (wr (y1_21 - (1 : Int))), .int .i64 (wr (y1_25 - (1 : Int)))]) ?_
 refine d_do 31 [30, 29, 0, 1, 2, 3, 4, 5, 6, 7, 8, 9, 10, 11, 12, 13, 14, 15, 16, 17, 18, 19, 20, 21, 22, 23, 24, 25, 26, 27, 28] [] [] (by kernel_rfl) (by kernel_rfl) (by kernel_rfl) (st_store (off := 0) (vs := [.int .i64 y1_2, .int .i64 y1_5, .int .i64 y1_8, .int .i64 y1_11, .int .i64 y1_14, .int .i64 (wr (y1_17 - (1 : Int))), .slice a1_29_00 (List.length y1_29) c1_29_00, .int .i64 (wr (y1_21 - (1 : Int))), .int .i64 (wr (y1_25 - (1 : Int)))]) (c' := #[.int .i64 y1_2, .int .i64 y1_5, .int .i64 y1_8, .int .i64 y1_11, .int .i64 y1_14, .int .i64 (wr (y1_17 - (1 : Int))), .slice a1_29_00 (List.length y1_29) c1_29_00, .int .i64 (wr (y1_21 - (1 : Int))), .int .i64 (wr (y1_25 - (1 : Int)))]) (fun _ => by kernel_rfl) (.there .here) (by kernel_rfl) (by kernel_rfl) (by kernel_rfl)) ?_
 rintro _ _ ⟨rfl, rfl⟩
 refine ⟨stable_nil, ?_⟩
 refine draw_end (by kernel_rfl) ?_
 refine ae [(2, .pointer (some ⟨b0_1, 0, none⟩))] ?_
 refine at_then_normal ?_
 refine at_ret (by kernel_rfl) ?_
 obtain rfl := someE H
 refine at_backR [.agg #[.int .i64 y1_2, .int .i64 y1_5, .int .i64 y1_8, .int .i64 y1_11, .int .i64 y1_14, .int .i64 (wr (y1_17 - (1 : Int))), .slice a1_29_00 (List.length y1_29) c1_29_00, .int .i64 (wr (y1_21 - (1 : Int))), .int .i64 (wr (y1_25 - (1 : Int)))]] ((ImmI a1_29_00 y1_29) :: Γ) (rs := [.cell 2 29]) (by kernel_rfl) (.cons (.cell (by kernel_rfl) (retN (off := 0) (vs := [.int .i64 y1_2, .int .i64 y1_5, .int .i64 y1_8, .int .i64 y1_11, .int .i64 y1_14, .int .i64 (wr (y1_17 - (1 : Int))), .slice a1_29_00 (List.length y1_29) c1_29_00, .int .i64 (wr (y1_21 - (1 : Int))), .int .i64 (wr (y1_25 - (1 : Int)))]) 9 (fun _ => by kernel_rfl) (holds_own .here) rfl (by exact ⟨rfl, rfl, rfl, rfl, rfl, rfl, rfl, rfl, rfl, trivial⟩))) .nil) (fun w hw => (Sat.less (.take .here (.drop .here (.drop .here .refl))) (RowsA.freeze (Sat.less (.take (.there .here) (.take .here (.take .here .refl))) hw)))) ?_
 exact ⟨a1_29_00, c1_29_00, rfl, rfl⟩
def same13S (a : DealS) (b : DealS) : Option (Bool) :=
 (bif decide (a.kind = b.kind) then (bif decide (a.line = b.line) then (bif decide (a.id = b.id) then (bif decide (a.step = b.step) then (bif decide (a.state = b.state) then (bif decide (a.head = b.head) then (bif decide (a.next = b.next) then (bif decide (a.told = b.told) then (ksameS a.data b.data).bind fun y1_59 => some y1_59 else some false) else some false) else some false) else some false) else some false) else some false) else some false) else some false)
noncomputable def C25 (p : List Nat) : Code := codeAt (bodyOf Try.f25) p
set_option maxRecDepth 100000 in
set_option maxHeartbeats 8000000 in
theorem Same13F_tr {W0 : World} {Γ : List Asn} (aa : Option Addr) (acap : Nat) (a : DealS) (ba : Option Addr) (bcap : Nat) (b : DealS) (hraa : Reads W0 Γ aa (ints a.data)) (hrba : Reads W0 Γ ba (ints b.data)) (y : Bool) (H : same13S a b = some y) : Tr Try.prog 25 #[.agg #[.int .i64 a.kind, .int .i64 a.line, .int .i64 a.id, .int .i64 a.step, .int .i64 a.state, .int .i64 a.head, .slice aa (List.length a.data) acap, .int .i64 a.next, .int .i64 a.told], .agg #[.int .i64 b.kind, .int .i64 b.line, .int .i64 b.id, .int .i64 b.step, .int .i64 b.state, .int .i64 b.head, .slice ba (List.length b.data) bcap, .int .i64 b.next, .int .i64 b.told]] W0 (Γ) (fun r Δ => r = .bool y ∧ Δ = Γ) := by
 unfold same13S at H
 refine Tr.enter (fn := Try.f25) (c := C25 []) (args := [.agg #[.int .i64 a.kind, .int .i64 a.line, .int .i64 a.id, .int .i64 a.step, .int .i64 a.state, .int .i64 a.head, .slice aa (List.length a.data) acap, .int .i64 a.next, .int .i64 a.told], .agg #[.int .i64 b.kind, .int .i64 b.line, .int .i64 b.id, .int .i64 b.step, .int .i64 b.state, .int .i64 b.head, .slice ba (List.length b.data) bcap, .int .i64 b.next, .int .i64 b.told]]) 66 Try.func25 (by kernel_rfl) (by kernel_rfl) ?_
 refine ae [(0, .agg #[.int .i64 a.kind, .int .i64 a.line, .int .i64 a.id, .int .i64 a.step, .int .i64 a.state, .int .i64 a.head, .slice aa (List.length a.data) acap, .int .i64 a.next, .int .i64 a.told]), (1, .agg #[.int .i64 b.kind, .int .i64 b.line, .int .i64 b.id, .int .i64 b.step, .int .i64 b.state, .int .i64 b.head, .slice ba (List.length b.data) bcap, .int .i64 b.next, .int .i64 b.told])] ?_
 refine aq (x := C25 [0]) (y := C25 [1]) ?_
 refine ar (id := 0) 3 ?_
 refine s_step 2 (by kernel_rfl) (by kernel_rfl) (st_new (T := 29) (cells := #[.int .i64 a.kind, .int .i64 a.line, .int .i64 a.id, .int .i64 a.step, .int .i64 a.state, .int .i64 a.head, .slice aa (List.length a.data) acap, .int .i64 a.next, .int .i64 a.told]) (fun a => .pointer (some a)) (fun _ => by kernel_rfl)) ?_
 rintro _ _ ⟨b0_0, rfl, rfl⟩
 refine s_step 3 (by kernel_rfl) (by kernel_rfl) (st_new (T := 60) (cells := #[.int .i64 b.kind, .int .i64 b.line, .int .i64 b.id, .int .i64 b.step, .int .i64 b.state, .int .i64 b.head, .slice ba (List.length b.data) bcap, .int .i64 b.next, .int .i64 b.told]) (fun a => .pointer (some a)) (fun _ => by kernel_rfl)) ?_
 rintro _ _ ⟨b0_1, rfl, rfl⟩
 refine sp 4 (.bool false) ?_
 refine ops_end ?_
 refine ae [(2, .pointer (some ⟨b0_0, 0, none⟩)), (3, .pointer (some ⟨b0_1, 0, none⟩))] ?_
 refine at_then_normal ?_
 refine aq (x := C25 [1,0]) (y := C25 [1,1]) ?_
 refine ar (id := 1) 62 ?_
 refine sp 5 (.pointer (some ⟨b0_0, 0, none⟩)) ?_
 refine sl 6 (.int .i64 a.kind) (load1 (off := 0) (fun _ => by kernel_rfl) (holds_own (.there .here)) (by kernel_rfl)) ?_
 refine sp 7 (.pointer (some ⟨b0_1, 0, none⟩)) ?_
 refine sl 8 (.int .i64 b.kind) (load1 (off := 0) (fun _ => by kernel_rfl) (holds_own .here) (by kernel_rfl)) ?_
 refine sp 9 (.bool (decide (a.kind = b.kind))) ?_
 rcases Bool.eq_false_or_eq_true (decide (a.kind = b.kind)) with h1 | h1
 ·replace H := bifT H h1
  refine sr 10 (.bool true) (run_eq (v := .bool (decide (a.kind = b.kind))) (fun _ => by kernel_rfl) (congrArg Value.bool h1)) ?_
  refine sp 11 (.pointer (some ⟨b0_0, 1, none⟩)) ?_
  refine sl 12 (.int .i64 a.line) (load1 (off := 1) (fun _ => by kernel_rfl) (holds_own (.there .here)) (by kernel_rfl)) ?_
  refine sp 13 (.pointer (some ⟨b0_1, 1, none⟩)) ?_
  refine sl 14 (.int .i64 b.line) (load1 (off := 1) (fun _ => by kernel_rfl) (holds_own .here) (by kernel_rfl)) ?_
  refine sp 15 (.bool (decide (a.line = b.line))) ?_
  refine sp 16 (.bool (decide (a.line = b.line))) ?_
  rcases Bool.eq_false_or_eq_true (decide (a.line = b.line)) with h2 | h2
  ·replace H := bifT H h2
   refine sr 17 (.bool true) (run_eq (v := .bool (decide (a.line = b.line))) (fun _ => by kernel_rfl) (congrArg Value.bool h2)) ?_
   refine sp 18 (.pointer (some ⟨b0_0, 2, none⟩)) ?_
   refine sl 19 (.int .i64 a.id) (load1 (off := 2) (fun _ => by kernel_rfl) (holds_own (.there .here)) (by kernel_rfl)) ?_
   refine sp 20 (.pointer (some ⟨b0_1, 2, none⟩)) ?_
   refine sl 21 (.int .i64 b.id) (load1 (off := 2) (fun _ => by kernel_rfl) (holds_own .here) (by kernel_rfl)) ?_
   refine sp 22 (.bool (decide (a.id = b.id))) ?_
   refine sp 23 (.bool (decide (a.id = b.id))) ?_
   rcases Bool.eq_false_or_eq_true (decide (a.id = b.id)) with h3 | h3
   ·replace H := bifT H h3
    refine sr 24 (.bool true) (run_eq (v := .bool (decide (a.id = b.id))) (fun _ => by kernel_rfl) (congrArg Value.bool h3)) ?_
    refine sp 25 (.pointer (some ⟨b0_0, 3, none⟩)) ?_
    refine sl 26 (.int .i64 a.step) (load1 (off := 3) (fun _ => by kernel_rfl) (holds_own (.there .here)) (by kernel_rfl)) ?_
    refine sp 27 (.pointer (some ⟨b0_1, 3, none⟩)) ?_
    refine sl 28 (.int .i64 b.step) (load1 (off := 3) (fun _ => by kernel_rfl) (holds_own .here) (by kernel_rfl)) ?_
    refine sp 29 (.bool (decide (a.step = b.step))) ?_
    refine sp 30 (.bool (decide (a.step = b.step))) ?_
    rcases Bool.eq_false_or_eq_true (decide (a.step = b.step)) with h4 | h4
    ·replace H := bifT H h4
     refine sr 31 (.bool true) (run_eq (v := .bool (decide (a.step = b.step))) (fun _ => by kernel_rfl) (congrArg Value.bool h4)) ?_
     refine sp 32 (.pointer (some ⟨b0_0, 4, none⟩)) ?_
     refine sl 33 (.int .i64 a.state) (load1 (off := 4) (fun _ => by kernel_rfl) (holds_own (.there .here)) (by kernel_rfl)) ?_
     refine sp 34 (.pointer (some ⟨b0_1, 4, none⟩)) ?_
     refine sl 35 (.int .i64 b.state) (load1 (off := 4) (fun _ => by kernel_rfl) (holds_own .here) (by kernel_rfl)) ?_
     refine sp 36 (.bool (decide (a.state = b.state))) ?_
     refine sp 37 (.bool (decide (a.state = b.state))) ?_
     rcases Bool.eq_false_or_eq_true (decide (a.state = b.state)) with h5 | h5
     ·replace H := bifT H h5
      refine sr 38 (.bool true) (run_eq (v := .bool (decide (a.state = b.state))) (fun _ => by kernel_rfl) (congrArg Value.bool h5)) ?_
      refine sp 39 (.pointer (some ⟨b0_0, 5, none⟩)) ?_
      refine sl 40 (.int .i64 a.head) (load1 (off := 5) (fun _ => by kernel_rfl) (holds_own (.there .here)) (by kernel_rfl)) ?_
      refine sp 41 (.pointer (some ⟨b0_1, 5, none⟩)) ?_
      refine sl 42 (.int .i64 b.head) (load1 (off := 5) (fun _ => by kernel_rfl) (holds_own .here) (by kernel_rfl)) ?_
      refine sp 43 (.bool (decide (a.head = b.head))) ?_
      refine sp 44 (.bool (decide (a.head = b.head))) ?_
      rcases Bool.eq_false_or_eq_true (decide (a.head = b.head)) with h6 | h6
      ·replace H := bifT H h6
       refine sr 45 (.bool true) (run_eq (v := .bool (decide (a.head = b.head))) (fun _ => by kernel_rfl) (congrArg Value.bool h6)) ?_
       refine sp 46 (.pointer (some ⟨b0_0, 7, none⟩)) ?_
       refine sl 47 (.int .i64 a.next) (load1 (off := 7) (fun _ => by kernel_rfl) (holds_own (.there .here)) (by kernel_rfl)) ?_
       refine sp 48 (.pointer (some ⟨b0_1, 7, none⟩)) ?_
       refine sl 49 (.int .i64 b.next) (load1 (off := 7) (fun _ => by kernel_rfl) (holds_own .here) (by kernel_rfl)) ?_
       refine sp 50 (.bool (decide (a.next = b.next))) ?_
       refine sp 51 (.bool (decide (a.next = b.next))) ?_
       rcases Bool.eq_false_or_eq_true (decide (a.next = b.next)) with h7 | h7
       ·replace H := bifT H h7
        refine sr 52 (.bool true) (run_eq (v := .bool (decide (a.next = b.next))) (fun _ => by kernel_rfl) (congrArg Value.bool h7)) ?_
        refine sp 53 (.pointer (some ⟨b0_0, 8, none⟩)) ?_
        refine sl 54 (.int .i64 a.told) (load1 (off := 8) (fun _ => by kernel_rfl) (holds_own (.there .here)) (by kernel_rfl)) ?_
        refine sp 55 (.pointer (some ⟨b0_1, 8, none⟩)) ?_
        refine sl 56 (.int .i64 b.told) (load1 (off := 8) (fun _ => by kernel_rfl) (holds_own .here) (by kernel_rfl)) ?_
        refine sp 57 (.bool (decide (a.told = b.told))) ?_
        refine sp 58 (.bool (decide (a.told = b.told))) ?_
        rcases Bool.eq_false_or_eq_true (decide (a.told = b.told)) with h8 | h8
        ·replace H := bifT H h8
         refine sr 59 (.bool true) (run_eq (v := .bool (decide (a.told = b.told))) (fun _ => by kernel_rfl) (congrArg Value.bool h8)) ?_
         refine sp 60 (.pointer (some ⟨b0_0, 6, none⟩)) ?_
         refine sl 61 (.slice aa (List.length a.data) acap) (load1 (off := 6) (fun _ => by kernel_rfl) (holds_own (.there .here)) (by kernel_rfl)) ?_
         refine sp 62 (.pointer (some ⟨b0_1, 6, none⟩)) ?_
         refine sl 63 (.slice ba (List.length b.data) bcap) (load1 (off := 6) (fun _ => by kernel_rfl) (holds_own .here) (by kernel_rfl)) ?_
         obtain ⟨y1_59, hy1_59, H⟩ := bindE H
         refine s_call 64 26 #[.slice aa (List.length a.data) acap, .slice ba (List.length b.data) bcap] (by kernel_rfl) (by kernel_rfl) (fun _ => by kernel_rfl) (KSameF_tr aa acap a.data ba bcap b.data (Reads.conv (fun w hw => hw.less (.drop .here (.drop .here .refl))) hraa) (Reads.conv (fun w hw => hw.less (.drop .here (.drop .here .refl))) hrba) y1_59 hy1_59) ?_
         rintro _ _ ⟨rfl, rfl⟩
         refine sp 65 (.bool y1_59) ?_
         refine sp 4 (.bool y1_59) ?_
         refine ops_end ?_
         refine ae [(4, .bool y1_59)] ?_
         refine at_then_normal ?_
         refine at_ret (by kernel_rfl) ?_
         obtain rfl := someE H
         refine at_backR [.bool y1_59] (Γ) (rs := [.tmp 4]) (by kernel_rfl) (.cons (.tmp (by kernel_rfl)) .nil) (fun w hw => (Sat.less (.drop .here (.drop .here .refl)) hw)) ?_
         exact ⟨rfl, rfl⟩
        ·replace H := bifF H h8
         refine sr 59 (.bool false) (run_eq (v := .bool (decide (a.told = b.told))) (fun _ => by kernel_rfl) (congrArg Value.bool h8)) ?_
         refine sa 60 ?_
         refine sa 61 ?_
         refine sa 62 ?_
         refine sa 63 ?_
         refine sa 64 ?_
         refine sp 65 (.bool false) ?_
         refine sp 4 (.bool false) ?_
         refine ops_end ?_
         refine ae [(4, .bool false)] ?_
         refine at_then_normal ?_
         refine at_ret (by kernel_rfl) ?_
         obtain rfl := someE H
         refine at_backR [.bool false] (Γ) (rs := [.tmp 4]) (by kernel_rfl) (.cons (.tmp (by kernel_rfl)) .nil) (fun w hw => (Sat.less (.drop .here (.drop .here .refl)) hw)) ?_
         exact ⟨rfl, rfl⟩
       ·replace H := bifF H h7
        refine sr 52 (.bool false) (run_eq (v := .bool (decide (a.next = b.next))) (fun _ => by kernel_rfl) (congrArg Value.bool h7)) ?_
        refine sa 53 ?_
        refine sa 54 ?_
        refine sa 55 ?_
        refine sa 56 ?_
        refine sa 57 ?_
        refine sp 58 (.bool false) ?_
        refine sp 59 (.bool false) ?_
        refine sa 60 ?_
        refine sa 61 ?_
        refine sa 62 ?_
        refine sa 63 ?_
        refine sa 64 ?_
        refine sp 65 (.bool false) ?_
        refine sp 4 (.bool false) ?_
        refine ops_end ?_
        refine ae [(4, .bool false)] ?_
        refine at_then_normal ?_
        refine at_ret (by kernel_rfl) ?_
        obtain rfl := someE H
        refine at_backR [.bool false] (Γ) (rs := [.tmp 4]) (by kernel_rfl) (.cons (.tmp (by kernel_rfl)) .nil) (fun w hw => (Sat.less (.drop .here (.drop .here .refl)) hw)) ?_
        exact ⟨rfl, rfl⟩
      ·replace H := bifF H h6
       refine sr 45 (.bool false) (run_eq (v := .bool (decide (a.head = b.head))) (fun _ => by kernel_rfl) (congrArg Value.bool h6)) ?_
       refine sa 46 ?_
       refine sa 47 ?_
       refine sa 48 ?_
       refine sa 49 ?_
       refine sa 50 ?_
       refine sp 51 (.bool false) ?_
       refine sp 52 (.bool false) ?_
       refine sa 53 ?_
       refine sa 54 ?_
       refine sa 55 ?_
       refine sa 56 ?_
       refine sa 57 ?_
       refine sp 58 (.bool false) ?_
       refine sp 59 (.bool false) ?_
       refine sa 60 ?_
       refine sa 61 ?_
       refine sa 62 ?_
       refine sa 63 ?_
       refine sa 64 ?_
       refine sp 65 (.bool false) ?_
       refine sp 4 (.bool false) ?_
       refine ops_end ?_
       refine ae [(4, .bool false)] ?_
       refine at_then_normal ?_
       refine at_ret (by kernel_rfl) ?_
       obtain rfl := someE H
       refine at_backR [.bool false] (Γ) (rs := [.tmp 4]) (by kernel_rfl) (.cons (.tmp (by kernel_rfl)) .nil) (fun w hw => (Sat.less (.drop .here (.drop .here .refl)) hw)) ?_
       exact ⟨rfl, rfl⟩
     ·replace H := bifF H h5
      refine sr 38 (.bool false) (run_eq (v := .bool (decide (a.state = b.state))) (fun _ => by kernel_rfl) (congrArg Value.bool h5)) ?_
      refine sa 39 ?_
      refine sa 40 ?_
      refine sa 41 ?_
      refine sa 42 ?_
      refine sa 43 ?_
      refine sp 44 (.bool false) ?_
      refine sp 45 (.bool false) ?_
      refine sa 46 ?_
      refine sa 47 ?_
      refine sa 48 ?_
      refine sa 49 ?_
      refine sa 50 ?_
      refine sp 51 (.bool false) ?_
      refine sp 52 (.bool false) ?_
      refine sa 53 ?_
      refine sa 54 ?_
      refine sa 55 ?_
      refine sa 56 ?_
      refine sa 57 ?_
      refine sp 58 (.bool false) ?_
      refine sp 59 (.bool false) ?_
      refine sa 60 ?_
      refine sa 61 ?_
      refine sa 62 ?_
      refine sa 63 ?_
      refine sa 64 ?_
      refine sp 65 (.bool false) ?_
      refine sp 4 (.bool false) ?_
      refine ops_end ?_
      refine ae [(4, .bool false)] ?_
      refine at_then_normal ?_
      refine at_ret (by kernel_rfl) ?_
      obtain rfl := someE H
      refine at_backR [.bool false] (Γ) (rs := [.tmp 4]) (by kernel_rfl) (.cons (.tmp (by kernel_rfl)) .nil) (fun w hw => (Sat.less (.drop .here (.drop .here .refl)) hw)) ?_
      exact ⟨rfl, rfl⟩
    ·replace H := bifF H h4
     refine sr 31 (.bool false) (run_eq (v := .bool (decide (a.step = b.step))) (fun _ => by kernel_rfl) (congrArg Value.bool h4)) ?_
     refine sa 32 ?_
     refine sa 33 ?_
     refine sa 34 ?_
     refine sa 35 ?_
     refine sa 36 ?_
     refine sp 37 (.bool false) ?_
     refine sp 38 (.bool false) ?_
     refine sa 39 ?_
     refine sa 40 ?_
     refine sa 41 ?_
     refine sa 42 ?_
     refine sa 43 ?_
     refine sp 44 (.bool false) ?_
     refine sp 45 (.bool false) ?_
     refine sa 46 ?_
     refine sa 47 ?_
     refine sa 48 ?_
     refine sa 49 ?_
     refine sa 50 ?_
     refine sp 51 (.bool false) ?_
     refine sp 52 (.bool false) ?_
     refine sa 53 ?_
     refine sa 54 ?_
     refine sa 55 ?_
     refine sa 56 ?_
     refine sa 57 ?_
     refine sp 58 (.bool false) ?_
     refine sp 59 (.bool false) ?_
     refine sa 60 ?_
     refine sa 61 ?_
     refine sa 62 ?_
     refine sa 63 ?_
     refine sa 64 ?_
     refine sp 65 (.bool false) ?_
     refine sp 4 (.bool false) ?_
     refine ops_end ?_
     refine ae [(4, .bool false)] ?_
     refine at_then_normal ?_
     refine at_ret (by kernel_rfl) ?_
     obtain rfl := someE H
     refine at_backR [.bool false] (Γ) (rs := [.tmp 4]) (by kernel_rfl) (.cons (.tmp (by kernel_rfl)) .nil) (fun w hw => (Sat.less (.drop .here (.drop .here .refl)) hw)) ?_
     exact ⟨rfl, rfl⟩
   ·replace H := bifF H h3
    refine sr 24 (.bool false) (run_eq (v := .bool (decide (a.id = b.id))) (fun _ => by kernel_rfl) (congrArg Value.bool h3)) ?_
    refine sa 25 ?_
    refine sa 26 ?_
    refine sa 27 ?_
    refine sa 28 ?_
    refine sa 29 ?_
    refine sp 30 (.bool false) ?_
    refine sp 31 (.bool false) ?_
    refine sa 32 ?_
    refine sa 33 ?_
    refine sa 34 ?_
    refine sa 35 ?_
    refine sa 36 ?_
    refine sp 37 (.bool false) ?_
    refine sp 38 (.bool false) ?_
    refine sa 39 ?_
    refine sa 40 ?_
    refine sa 41 ?_
    refine sa 42 ?_
    refine sa 43 ?_
    refine sp 44 (.bool false) ?_
    refine sp 45 (.bool false) ?_
    refine sa 46 ?_
    refine sa 47 ?_
    refine sa 48 ?_
    refine sa 49 ?_
    refine sa 50 ?_
    refine sp 51 (.bool false) ?_
    refine sp 52 (.bool false) ?_
    refine sa 53 ?_
    refine sa 54 ?_
    refine sa 55 ?_
    refine sa 56 ?_
    refine sa 57 ?_
    refine sp 58 (.bool false) ?_
    refine sp 59 (.bool false) ?_
    refine sa 60 ?_
    refine sa 61 ?_
    refine sa 62 ?_
    refine sa 63 ?_
    refine sa 64 ?_
    refine sp 65 (.bool false) ?_
    refine sp 4 (.bool false) ?_
    refine ops_end ?_
    refine ae [(4, .bool false)] ?_
    refine at_then_normal ?_
    refine at_ret (by kernel_rfl) ?_
    obtain rfl := someE H
    refine at_backR [.bool false] (Γ) (rs := [.tmp 4]) (by kernel_rfl) (.cons (.tmp (by kernel_rfl)) .nil) (fun w hw => (Sat.less (.drop .here (.drop .here .refl)) hw)) ?_
    exact ⟨rfl, rfl⟩
  ·replace H := bifF H h2
   refine sr 17 (.bool false) (run_eq (v := .bool (decide (a.line = b.line))) (fun _ => by kernel_rfl) (congrArg Value.bool h2)) ?_
   refine sa 18 ?_
   refine sa 19 ?_
   refine sa 20 ?_
   refine sa 21 ?_
   refine sa 22 ?_
   refine sp 23 (.bool false) ?_
   refine sp 24 (.bool false) ?_
   refine sa 25 ?_
   refine sa 26 ?_
   refine sa 27 ?_
   refine sa 28 ?_
   refine sa 29 ?_
   refine sp 30 (.bool false) ?_
   refine sp 31 (.bool false) ?_
   refine sa 32 ?_
   refine sa 33 ?_
   refine sa 34 ?_
   refine sa 35 ?_
   refine sa 36 ?_
   refine sp 37 (.bool false) ?_
   refine sp 38 (.bool false) ?_
   refine sa 39 ?_
   refine sa 40 ?_
   refine sa 41 ?_
   refine sa 42 ?_
   refine sa 43 ?_
   refine sp 44 (.bool false) ?_
   refine sp 45 (.bool false) ?_
   refine sa 46 ?_
   refine sa 47 ?_
   refine sa 48 ?_
   refine sa 49 ?_
   refine sa 50 ?_
   refine sp 51 (.bool false) ?_
   refine sp 52 (.bool false) ?_
   refine sa 53 ?_
   refine sa 54 ?_
   refine sa 55 ?_
   refine sa 56 ?_
   refine sa 57 ?_
   refine sp 58 (.bool false) ?_
   refine sp 59 (.bool false) ?_
   refine sa 60 ?_
   refine sa 61 ?_
   refine sa 62 ?_
   refine sa 63 ?_
   refine sa 64 ?_
   refine sp 65 (.bool false) ?_
   refine sp 4 (.bool false) ?_
   refine ops_end ?_
   refine ae [(4, .bool false)] ?_
   refine at_then_normal ?_
   refine at_ret (by kernel_rfl) ?_
   obtain rfl := someE H
   refine at_backR [.bool false] (Γ) (rs := [.tmp 4]) (by kernel_rfl) (.cons (.tmp (by kernel_rfl)) .nil) (fun w hw => (Sat.less (.drop .here (.drop .here .refl)) hw)) ?_
   exact ⟨rfl, rfl⟩
 ·replace H := bifF H h1
  refine sr 10 (.bool false) (run_eq (v := .bool (decide (a.kind = b.kind))) (fun _ => by kernel_rfl) (congrArg Value.bool h1)) ?_
  refine sa 11 ?_
  refine sa 12 ?_
  refine sa 13 ?_
  refine sa 14 ?_
  refine sa 15 ?_
  refine sp 16 (.bool false) ?_
  refine sp 17 (.bool false) ?_
  refine sa 18 ?_
  refine sa 19 ?_
  refine sa 20 ?_
  refine sa 21 ?_
  refine sa 22 ?_
  refine sp 23 (.bool false) ?_
  refine sp 24 (.bool false) ?_
  refine sa 25 ?_
  refine sa 26 ?_
  refine sa 27 ?_
  refine sa 28 ?_
  refine sa 29 ?_
  refine sp 30 (.bool false) ?_
  refine sp 31 (.bool false) ?_
  refine sa 32 ?_
  refine sa 33 ?_
  refine sa 34 ?_
  refine sa 35 ?_
  refine sa 36 ?_
  refine sp 37 (.bool false) ?_
  refine sp 38 (.bool false) ?_
  refine sa 39 ?_
  refine sa 40 ?_
  refine sa 41 ?_
  refine sa 42 ?_
  refine sa 43 ?_
  refine sp 44 (.bool false) ?_
  refine sp 45 (.bool false) ?_
  refine sa 46 ?_
  refine sa 47 ?_
  refine sa 48 ?_
  refine sa 49 ?_
  refine sa 50 ?_
  refine sp 51 (.bool false) ?_
  refine sp 52 (.bool false) ?_
  refine sa 53 ?_
  refine sa 54 ?_
  refine sa 55 ?_
  refine sa 56 ?_
  refine sa 57 ?_
  refine sp 58 (.bool false) ?_
  refine sp 59 (.bool false) ?_
  refine sa 60 ?_
  refine sa 61 ?_
  refine sa 62 ?_
  refine sa 63 ?_
  refine sa 64 ?_
  refine sp 65 (.bool false) ?_
  refine sp 4 (.bool false) ?_
  refine ops_end ?_
  refine ae [(4, .bool false)] ?_
  refine at_then_normal ?_
  refine at_ret (by kernel_rfl) ?_
  obtain rfl := someE H
  refine at_backR [.bool false] (Γ) (rs := [.tmp 4]) (by kernel_rfl) (.cons (.tmp (by kernel_rfl)) .nil) (fun w hw => (Sat.less (.drop .here (.drop .here .refl)) hw)) ?_
  exact ⟨rfl, rfl⟩
end Go.Proofs.Ytfndeehlbcbkpaa
