/- Purge: what comes of an answer; caches at first: each function answers what its plain function says. -/
import Derived.Test.YtlnjnkbnppnbkaaPdA
namespace Go.Proofs.Ytlnjnkbnppnbkaa
open Go Go.RowKit
set_option linter.unusedVariables false
set_option linter.unusedSimpArgs false
def rnewS (sets : Int) (ways : Int) : Option (CacheS) :=
  letP (if sets < (1 : Int) then (1 : Int) else sets) fun u1_1 => letP (if ways < (1 : Int) then (1 : Int) else ways) fun u1_3 => some (⟨[], u1_1, u1_3, 0⟩ : CacheS)
noncomputable def C35 (p : List Nat) : Code := codeAt (bodyOf Try.f35) p
set_option maxRecDepth 100000 in
set_option maxHeartbeats 8000000 in
theorem RNewF_tr {W0 : World} {Γ : List Asn} (sets : Int) (ways : Int)  (y : CacheS) (H : rnewS sets ways = some y) : Tr Try.prog 35 #[.int .i64 sets, .int .i64 ways] W0 (Γ) (fun r Δ => ∃ (b0 : Nat), r = .pointer (some ⟨b0, 0, none⟩) ∧ Δ = (RCacheA b0 y) :: Γ) := by
  unfold rnewS at H
  refine Tr.enter (fn := Try.f35) (c := C35 []) (args := [.int .i64 sets, .int .i64 ways]) 11 Try.func35 (by kernel_rfl) (by kernel_rfl) ?_
  refine At.env [(0, .int .i64 sets), (1, .int .i64 ways)] ⟨by kernel_rfl, by kernel_rfl, trivial⟩ ?_
  refine at_seq (x := C35 [0]) (y := C35 [1]) (by kernel_rfl) ?_
  refine at_region (id := 0) 1 (by kernel_rfl) (by kernel_rfl) ?_
  refine s_pure 4 (.pointer none) (by kernel_rfl) (by kernel_rfl) (fun _ => by kernel_rfl) ?_
  refine ops_end ?_
  refine At.env [(0, .int .i64 sets), (1, .int .i64 ways)] ⟨by kernel_rfl, by kernel_rfl, trivial⟩ ?_
  refine at_then_normal ?_
  refine at_seq (x := C35 [1,0]) (y := C35 [1,1]) (by kernel_rfl) ?_
  refine at_region (id := 1) 7 (by kernel_rfl) (by kernel_rfl) ?_
  refine s_pure 5 (.int .i64 sets) (by kernel_rfl) (by kernel_rfl) (fun _ => by kernel_rfl) ?_
  obtain ⟨u1_1, hu1_1, H⟩ := letE H
  refine s_pure 6 (.int .i64 u1_1) (by kernel_rfl) (by kernel_rfl) (run_eq (v := .int .i64 (if sets < (1 : Int) then (1 : Int) else sets)) (run_eq (v := .int .i64 (if sets < (1 : Int) then (1 : Int) else sets)) (fun _ => by kernel_rfl) rfl) (by rw [hu1_1])) ?_
  refine s_pure 7 (.int .i64 ways) (by kernel_rfl) (by kernel_rfl) (fun _ => by kernel_rfl) ?_
  obtain ⟨u1_3, hu1_3, H⟩ := letE H
  refine s_pure 8 (.int .i64 u1_3) (by kernel_rfl) (by kernel_rfl) (run_eq (v := .int .i64 (if ways < (1 : Int) then (1 : Int) else ways)) (run_eq (v := .int .i64 (if ways < (1 : Int) then (1 : Int) else ways)) (fun _ => by kernel_rfl) rfl) (by rw [hu1_3])) ?_
  refine s_pure 9 (.agg #[.int .i64 u1_1, .int .i64 u1_3, .int .i64 (0), .slice none 0 0]) (by kernel_rfl) (by kernel_rfl) (fun _ => by kernel_rfl) ?_
  refine s_step 10 (by kernel_rfl) (by kernel_rfl) (st_new (T := 83) (cells := #[.int .i64 u1_1, .int .i64 u1_3, .int .i64 (0), .slice none 0 0]) (fun a => .pointer (some a)) (fun _ => by kernel_rfl)) ?_
  rintro _ _ ⟨b1_5, rfl, rfl⟩
  refine s_pure 4 (.pointer (some ⟨b1_5, 0, none⟩)) (by kernel_rfl) (by kernel_rfl) (fun _ => by kernel_rfl) ?_
  refine ops_end ?_
  refine At.env [(4, .pointer (some ⟨b1_5, 0, none⟩))] ⟨by kernel_rfl, trivial⟩ ?_
  refine at_then_normal ?_
  refine at_ret (by kernel_rfl) ?_
  refine At.conv (Γ' := (RCacheA b1_5 (⟨[], u1_1, u1_3, 0⟩ : CacheS)) :: Γ) (fun w hw => RCacheA.mk0 (hw.pull .here)) ?_
  obtain rfl := someE H
  refine at_backR [.pointer (some ⟨b1_5, 0, none⟩)] ((RCacheA b1_5 (⟨[], u1_1, u1_3, 0⟩ : CacheS)) :: Γ) (rs := [.tmp 4]) (by kernel_rfl) (.cons (.tmp (by kernel_rfl)) .nil) (fun w hw => (Sat.less (.take .here .refl) hw)) ?_
  exact ⟨b1_5, rfl, rfl⟩
def bothNilS_k0 (y1_0 : CacheS) (y1_1 : CacheS) : Option (CacheS × CacheS) :=
  some (y1_0, y1_1)
def bothNilS_l0 (k0 : Option (CacheS × CacheS)) : Nat → Option (CacheS × CacheS)
  | 0 => none
  | m + 1 => k0 
def bothNilS : Option (CacheS × CacheS) :=
  letP (newC (2 : Int) (2 : Int)) fun y1_0 => (rnewS (2 : Int) (2 : Int)).bind fun y1_1 => bothNilS_l0 (bothNilS_k0 y1_0 y1_1) 64 
noncomputable def C13 (p : List Nat) : Code := codeAt (bodyOf Try.f13) p
set_option maxRecDepth 100000 in
set_option maxHeartbeats 8000000 in
theorem BothNilF_tr {W0 : World} {Γ : List Asn}   (y : CacheS × CacheS) (H : bothNilS = some y) : Tr Try.prog 13 #[.slice none 0 0, .slice none 0 0, .slice none 0 0] W0 (Γ) (fun r Δ => ∃ (b0 : Nat) (b1 : Nat), r = .tuple #[.pointer (some ⟨b0, 0, none⟩), .pointer (some ⟨b1, 0, none⟩)] ∧ Δ = (CacheA b0 y.1) :: (RCacheA b1 y.2) :: Γ) := by
  unfold bothNilS at H
  refine Tr.enter (fn := Try.f13) (c := C13 []) (args := [.slice none 0 0, .slice none 0 0, .slice none 0 0]) 75 Try.func13 (by kernel_rfl) (by kernel_rfl) ?_
  refine At.env [(0, .slice none 0 0), (1, .slice none 0 0), (2, .slice none 0 0)] ⟨by kernel_rfl, by kernel_rfl, by kernel_rfl, trivial⟩ ?_
  refine at_seq (x := C13 [0]) (y := C13 [1]) (by kernel_rfl) ?_
  refine at_region (id := 0) 2 (by kernel_rfl) (by kernel_rfl) ?_
  refine s_pure 6 (.pointer none) (by kernel_rfl) (by kernel_rfl) (fun _ => by kernel_rfl) ?_
  refine s_pure 7 (.pointer none) (by kernel_rfl) (by kernel_rfl) (fun _ => by kernel_rfl) ?_
  refine ops_end ?_
  refine At.env [(0, .slice none 0 0), (1, .slice none 0 0), (2, .slice none 0 0)] ⟨by kernel_rfl, by kernel_rfl, by kernel_rfl, trivial⟩ ?_
  refine at_then_normal ?_
  refine at_seq (x := C13 [1,0]) (y := C13 [1,1]) (by kernel_rfl) ?_
  refine at_region (id := 1) 4 (by kernel_rfl) (by kernel_rfl) ?_
  obtain ⟨y1_0, hy1_0, H⟩ := letE H
  refine s_call 14 32 #[.int .i64 (2), .int .i64 (2)] (by kernel_rfl) (by kernel_rfl) (fun _ => by kernel_rfl) (NewF_tr (2 : Int) (2 : Int) y1_0 hy1_0) ?_
  rintro _ _ ⟨b1_0, rfl, rfl⟩
  obtain ⟨y1_1, hy1_1, H⟩ := bindE H
  refine s_call 15 35 #[.int .i64 (2), .int .i64 (2)] (by kernel_rfl) (by kernel_rfl) (fun _ => by kernel_rfl) (RNewF_tr (2 : Int) (2 : Int) y1_1 hy1_1) ?_
  rintro _ _ ⟨b1_1, rfl, rfl⟩
  refine s_pure 8 (.pointer (some ⟨b1_0, 0, none⟩)) (by kernel_rfl) (by kernel_rfl) (fun _ => by kernel_rfl) ?_
  refine s_pure 9 (.pointer (some ⟨b1_1, 0, none⟩)) (by kernel_rfl) (by kernel_rfl) (fun _ => by kernel_rfl) ?_
  refine ops_end ?_
  refine At.env [(0, .slice none 0 0), (1, .slice none 0 0), (2, .slice none 0 0), (8, .pointer (some ⟨b1_0, 0, none⟩)), (9, .pointer (some ⟨b1_1, 0, none⟩))] ⟨by kernel_rfl, by kernel_rfl, by kernel_rfl, by kernel_rfl, by kernel_rfl, trivial⟩ ?_
  refine at_then_normal ?_
  refine at_seq (x := C13 [1,1,0]) (y := C13 [1,1,1]) (by kernel_rfl) ?_
  refine at_seq (x := C13 [1,1,0,0]) (y := C13 [1,1,0,1]) (by kernel_rfl) ?_
  refine at_region (id := 2) 1 (by kernel_rfl) (by kernel_rfl) ?_
  refine s_pure 10 (.int .i64 (0)) (by kernel_rfl) (by kernel_rfl) (fun _ => by kernel_rfl) ?_
  refine ops_end ?_
  refine At.env [(0, .slice none 0 0), (1, .slice none 0 0), (2, .slice none 0 0), (8, .pointer (some ⟨b1_0, 0, none⟩)), (9, .pointer (some ⟨b1_1, 0, none⟩)), (10, .int .i64 (0))] ⟨by kernel_rfl, by kernel_rfl, by kernel_rfl, by kernel_rfl, by kernel_rfl, by kernel_rfl, trivial⟩ ?_
  refine at_then_normal ?_
  refine at_block (i := 0) (x := C13 [1,1,0,1,0]) (by kernel_rfl) ?_
  refine At.conv (Γ' := (RCacheA b1_1 y1_1) :: (CacheA b1_0 y1_0) :: Γ) (fun w hw => (Sat.less (.take .here (.take .here .refl)) hw)) ?_
  refine at_loopR (x := C13 [1,1,0,1,0,0]) (fun mm ff ΔΔ => ∃ (fuel : Nat), bothNilS_l0 (bothNilS_k0 y1_0 y1_1) fuel  = some y ∧ fuel = mm ∧ ff = [(0, .slice none 0 0), (1, .slice none 0 0), (2, .slice none 0 0), (8, .pointer (some ⟨b1_0, 0, none⟩)), (9, .pointer (some ⟨b1_1, 0, none⟩)), (10, .int .i64 (0))] ∧ (RCacheA b1_1 y1_1) :: (CacheA b1_0 y1_0) :: Γ = ΔΔ) (64) (by kernel_rfl) [(0, .slice none 0 0), (1, .slice none 0 0), (2, .slice none 0 0), (8, .pointer (some ⟨b1_0, 0, none⟩)), (9, .pointer (some ⟨b1_1, 0, none⟩)), (10, .int .i64 (0))] ⟨by kernel_rfl, by kernel_rfl, by kernel_rfl, by kernel_rfl, by kernel_rfl, by kernel_rfl, trivial⟩ ⟨64, H, rfl, rfl, rfl⟩ ?_
  rintro _ _ _ ⟨fuel1, H, rfl, rfl, rfl⟩
  rcases fuel1 with _ | fuel1
  · exact (noneE H).elim
  rw [bothNilS_l0] at H
  refine at_seq (x := C13 [1,1,0,1,0,0,0]) (y := C13 [1,1,0,1,0,0,1]) (by kernel_rfl) ?_
  refine at_seq (x := C13 [1,1,0,1,0,0,0,0]) (y := C13 [1,1,0,1,0,0,0,1]) (by kernel_rfl) ?_
  refine at_region (id := 3) 12 (by kernel_rfl) (by kernel_rfl) ?_
  refine s_pure 16 (.pointer (some ⟨b1_0, 0, none⟩)) (by kernel_rfl) (by kernel_rfl) (fun _ => by kernel_rfl) ?_
  refine s_pure 17 (.bool true) (by kernel_rfl) (by kernel_rfl) (fun _ => by kernel_rfl) ?_
  refine s_pure 18 (.bool true) (by kernel_rfl) (by kernel_rfl) (fun _ => by kernel_rfl) ?_
  refine s_pure 19 (.int .i64 (0)) (by kernel_rfl) (by kernel_rfl) (fun _ => by kernel_rfl) ?_
  refine s_pure 20 (.slice none 0 0) (by kernel_rfl) (by kernel_rfl) (fun _ => by kernel_rfl) ?_
  refine s_pure 21 (.int .i64 (0)) (by kernel_rfl) (by kernel_rfl) (fun _ => by kernel_rfl) ?_
  refine s_pure 22 (.bool false) (by kernel_rfl) (by kernel_rfl) (fun _ => by kernel_rfl) ?_
  refine s_pure 23 (.bool false) (by kernel_rfl) (by kernel_rfl) (fun _ => by kernel_rfl) ?_
  refine s_pure 24 (.bool false) (by kernel_rfl) (by kernel_rfl) (fun _ => by kernel_rfl) ?_
  refine s_pass 25 (by kernel_rfl) (by kernel_rfl) ?_
  refine s_pass 26 (by kernel_rfl) (by kernel_rfl) ?_
  refine s_pure 27 (.bool false) (by kernel_rfl) (by kernel_rfl) (fun _ => by kernel_rfl) ?_
  refine ops_end ?_
  refine At.env [(0, .slice none 0 0), (1, .slice none 0 0), (2, .slice none 0 0), (8, .pointer (some ⟨b1_0, 0, none⟩)), (9, .pointer (some ⟨b1_1, 0, none⟩)), (10, .int .i64 (0)), (27, .bool false)] ⟨by kernel_rfl, by kernel_rfl, by kernel_rfl, by kernel_rfl, by kernel_rfl, by kernel_rfl, by kernel_rfl, trivial⟩ ?_
  refine at_then_normal ?_
  refine at_false (t := false) (x := C13 [1,1,0,1,0,0,0,1,0]) (y := C13 [1,1,0,1,0,0,0,1,1]) (o := .tmp 27) (by kernel_rfl) (by kernel_rfl) (by kernel_rfl) rfl ?_
  refine at_exit (i := 0) (by kernel_rfl) ?_
  refine at_then_exit ?_
  refine at_then_exit ?_
  rw [bothNilS_k0] at H
  refine At.env [(0, .slice none 0 0), (1, .slice none 0 0), (2, .slice none 0 0), (8, .pointer (some ⟨b1_0, 0, none⟩)), (9, .pointer (some ⟨b1_1, 0, none⟩)), (10, .int .i64 (0))] ⟨by kernel_rfl, by kernel_rfl, by kernel_rfl, by kernel_rfl, by kernel_rfl, by kernel_rfl, trivial⟩ ?_
  refine At.conv (Γ' := (RCacheA b1_1 y1_1) :: (CacheA b1_0 y1_0) :: Γ) (fun w hw => (Sat.less (.take .here (.take .here .refl)) hw)) ?_
  refine at_in_here ?_
  refine at_then_normal ?_
  refine at_seq (x := C13 [1,1,1,0]) (y := C13 [1,1,1,1]) (by kernel_rfl) ?_
  refine at_region (id := 11) 4 (by kernel_rfl) (by kernel_rfl) ?_
  refine s_pure 73 (.pointer (some ⟨b1_0, 0, none⟩)) (by kernel_rfl) (by kernel_rfl) (fun _ => by kernel_rfl) ?_
  refine s_pure 74 (.pointer (some ⟨b1_1, 0, none⟩)) (by kernel_rfl) (by kernel_rfl) (fun _ => by kernel_rfl) ?_
  refine s_pure 6 (.pointer (some ⟨b1_0, 0, none⟩)) (by kernel_rfl) (by kernel_rfl) (fun _ => by kernel_rfl) ?_
  refine s_pure 7 (.pointer (some ⟨b1_1, 0, none⟩)) (by kernel_rfl) (by kernel_rfl) (fun _ => by kernel_rfl) ?_
  refine ops_end ?_
  refine At.env [(6, .pointer (some ⟨b1_0, 0, none⟩)), (7, .pointer (some ⟨b1_1, 0, none⟩))] ⟨by kernel_rfl, by kernel_rfl, trivial⟩ ?_
  refine at_then_normal ?_
  refine at_ret (by kernel_rfl) ?_
  obtain rfl := someE H
  refine at_backR [.pointer (some ⟨b1_0, 0, none⟩), .pointer (some ⟨b1_1, 0, none⟩)] ((CacheA b1_0 y1_0) :: (RCacheA b1_1 y1_1) :: Γ) (rs := [.tmp 6, .tmp 7]) (by kernel_rfl) (.cons (.tmp (by kernel_rfl)) (.cons (.tmp (by kernel_rfl)) .nil)) (fun w hw => (Sat.less (.take (.there .here) (.take .here .refl)) hw)) ?_
  exact ⟨b1_0, b1_1, rfl, rfl⟩
def pwalkS_j0 (d : DealS) (cc : CacheS) (node : Int) (e0_b0_0_7 : Int) : Option (DealS × CacheS) :=
  (bif !(decide (e0_b0_0_7 = ((-1) : Int))) then some ((⟨d.kind, d.line, d.id, 3, d.state, d.head, d.data, e0_b0_0_7, d.told⟩ : DealS), cc) else (enewS d.line ((-1) : Int) ((-1) : Int) true d.data).bind fun y7_5 => (putS cc y7_5).bind fun y7_6 => some ((⟨d.kind, d.line, d.id, 6, 2, node, ([] : List Int), e0_b0_0_7, d.told⟩ : DealS), y7_6.2))
def pwalkS (d : DealS) (node : Int) (cc : CacheS) : Option (DealS × CacheS) :=
  (findS cc d.line).bind fun y1_3 => (bif decide (d.next = node) then (bif y1_3.2 then pwalkS_j0 d cc node y1_3.1.fwd else pwalkS_j0 d cc node d.next) else pwalkS_j0 d cc node d.next)
noncomputable def C43 (p : List Nat) : Code := codeAt (bodyOf Try.f43) p
set_option maxRecDepth 100000 in
set_option maxHeartbeats 8000000 in
theorem PWalkF_tr {W0 : World} {Γ : List Asn} (da : Option Addr) (dcap : Nat) (d : DealS) (node : Int) (c : Nat) (cc : CacheS)  (y : DealS × CacheS) (H : pwalkS d node cc = some y) : Tr Try.prog 43 #[.agg #[.int .i64 d.kind, .int .i64 d.line, .int .i64 d.id, .int .i64 d.step, .int .i64 d.state, .int .i64 d.head, .slice da (List.length d.data) dcap, .int .i64 d.next, .int .i64 d.told], .int .i64 node, .pointer (some ⟨c, 0, none⟩)] W0 ((ImmI da d.data) :: (CacheA c cc) :: Γ) (fun r Δ => ∃ (a0_0 : Option Addr) (c0_0 : Nat), r = .agg #[.int .i64 y.1.kind, .int .i64 y.1.line, .int .i64 y.1.id, .int .i64 y.1.step, .int .i64 y.1.state, .int .i64 y.1.head, .slice a0_0 (List.length y.1.data) c0_0, .int .i64 y.1.next, .int .i64 y.1.told] ∧ Δ = (ImmI a0_0 y.1.data) :: (CacheA c y.2) :: Γ) := by
  unfold pwalkS at H
  refine Tr.enter (fn := Try.f43) (c := C43 []) (args := [.agg #[.int .i64 d.kind, .int .i64 d.line, .int .i64 d.id, .int .i64 d.step, .int .i64 d.state, .int .i64 d.head, .slice da (List.length d.data) dcap, .int .i64 d.next, .int .i64 d.told], .int .i64 node, .pointer (some ⟨c, 0, none⟩)]) 45 Try.func43 (by kernel_rfl) (by kernel_rfl) ?_
  refine At.env [(0, .agg #[.int .i64 d.kind, .int .i64 d.line, .int .i64 d.id, .int .i64 d.step, .int .i64 d.state, .int .i64 d.head, .slice da (List.length d.data) dcap, .int .i64 d.next, .int .i64 d.told]), (1, .int .i64 node), (2, .pointer (some ⟨c, 0, none⟩))] ⟨by kernel_rfl, by kernel_rfl, by kernel_rfl, trivial⟩ ?_
  refine at_seq (x := C43 [0]) (y := C43 [1]) (by kernel_rfl) ?_
  refine at_region (id := 0) 2 (by kernel_rfl) (by kernel_rfl) ?_
  refine s_step 3 (by kernel_rfl) (by kernel_rfl) (st_new (T := 35) (cells := #[.int .i64 d.kind, .int .i64 d.line, .int .i64 d.id, .int .i64 d.step, .int .i64 d.state, .int .i64 d.head, .slice da (List.length d.data) dcap, .int .i64 d.next, .int .i64 d.told]) (fun a => .pointer (some a)) (fun _ => by kernel_rfl)) ?_
  rintro _ _ ⟨b0_0, rfl, rfl⟩
  refine s_step 6 (by kernel_rfl) (by kernel_rfl) (st_new (T := 35) (cells := #[.int .i64 (0), .int .i64 (0), .int .i64 (0), .int .i64 (0), .int .i64 (0), .int .i64 (0), .slice none 0 0, .int .i64 (0), .int .i64 (0)]) (fun a => .pointer (some a)) (fun _ => by kernel_rfl)) ?_
  rintro _ _ ⟨b0_1, rfl, rfl⟩
  refine ops_end ?_
  refine At.env [(1, .int .i64 node), (2, .pointer (some ⟨c, 0, none⟩)), (3, .pointer (some ⟨b0_0, 0, none⟩)), (6, .pointer (some ⟨b0_1, 0, none⟩))] ⟨by kernel_rfl, by kernel_rfl, by kernel_rfl, by kernel_rfl, trivial⟩ ?_
  refine at_then_normal ?_
  refine at_seq (x := C43 [1,0]) (y := C43 [1,1]) (by kernel_rfl) ?_
  refine at_region (id := 1) 10 (by kernel_rfl) (by kernel_rfl) ?_
  refine s_pure 10 (.pointer (some ⟨c, 0, none⟩)) (by kernel_rfl) (by kernel_rfl) (fun _ => by kernel_rfl) ?_
  refine s_pure 11 (.pointer (some ⟨b0_0, 1, none⟩)) (by kernel_rfl) (by kernel_rfl) (fun _ => by kernel_rfl) ?_
  refine s_load 12 (.int .i64 d.line) (by kernel_rfl) (by kernel_rfl) (load1 (off := 1) (fun _ => by kernel_rfl) (holds_own (.there .here)) (by kernel_rfl)) ?_
  obtain ⟨y1_3, hy1_3, H⟩ := bindE H
  refine s_call 13 18 #[.pointer (some ⟨c, 0, none⟩), .int .i64 d.line] (by kernel_rfl) (by kernel_rfl) (fun _ => by kernel_rfl) (Tr.conv (Γ' := (CacheA c cc) :: (Asn.own b0_1 (.cells #[.int .i64 (0), .int .i64 (0), .int .i64 (0), .int .i64 (0), .int .i64 (0), .int .i64 (0), .slice none 0 0, .int .i64 (0), .int .i64 (0)] 35 (0, 0))) :: (Asn.own b0_0 (.cells #[.int .i64 d.kind, .int .i64 d.line, .int .i64 d.id, .int .i64 d.step, .int .i64 d.state, .int .i64 d.head, .slice da (List.length d.data) dcap, .int .i64 d.next, .int .i64 d.told] 35 (0, 0))) :: (ImmI da d.data) :: Γ) (fun w hw => (Sat.less (.take (.there (.there (.there .here))) (.take .here (.take .here (.take .here .refl)))) hw)) (FindF_tr c cc d.line y1_3 hy1_3)) ?_
  rintro _ _ ⟨a1_3_00, c1_3_00, rfl, rfl⟩
  refine s_pure 9 (.tuple #[.agg #[.int .i64 y1_3.1.fwd, .int .i64 y1_3.1.back, .int .i64 y1_3.1.line, .int .i64 y1_3.1.used, .bool y1_3.1.dirty, .slice a1_3_00 (List.length y1_3.1.data) c1_3_00], .bool y1_3.2]) (by kernel_rfl) (by kernel_rfl) (fun _ => by kernel_rfl) ?_
  refine s_pure 14 (.agg #[.int .i64 y1_3.1.fwd, .int .i64 y1_3.1.back, .int .i64 y1_3.1.line, .int .i64 y1_3.1.used, .bool y1_3.1.dirty, .slice a1_3_00 (List.length y1_3.1.data) c1_3_00]) (by kernel_rfl) (by kernel_rfl) (fun _ => by kernel_rfl) ?_
  refine s_pure 15 (.bool y1_3.2) (by kernel_rfl) (by kernel_rfl) (fun _ => by kernel_rfl) ?_
  refine s_step 7 (by kernel_rfl) (by kernel_rfl) (st_new (T := 32) (cells := #[.int .i64 (0), .int .i64 (0), .int .i64 (0), .int .i64 (0), .bool false, .slice none 0 0]) (fun a => .pointer (some a)) (fun _ => by kernel_rfl)) ?_
  rintro _ _ ⟨b1_7, rfl, rfl⟩
  refine s_do (by kernel_rfl) (by kernel_rfl) (st_store (off := 0) (vs := [.int .i64 y1_3.1.fwd, .int .i64 y1_3.1.back, .int .i64 y1_3.1.line, .int .i64 y1_3.1.used, .bool y1_3.1.dirty, .slice a1_3_00 (List.length y1_3.1.data) c1_3_00]) (c' := #[.int .i64 y1_3.1.fwd, .int .i64 y1_3.1.back, .int .i64 y1_3.1.line, .int .i64 y1_3.1.used, .bool y1_3.1.dirty, .slice a1_3_00 (List.length y1_3.1.data) c1_3_00]) (fun _ => by kernel_rfl) .here (by kernel_rfl) (by kernel_rfl) (by kernel_rfl)) ?_
  rintro _ _ ⟨rfl, rfl⟩
  refine s_pure 8 (.bool y1_3.2) (by kernel_rfl) (by kernel_rfl) (fun _ => by kernel_rfl) ?_
  refine ops_end ?_
  refine At.env [(1, .int .i64 node), (2, .pointer (some ⟨c, 0, none⟩)), (3, .pointer (some ⟨b0_0, 0, none⟩)), (6, .pointer (some ⟨b0_1, 0, none⟩)), (7, .pointer (some ⟨b1_7, 0, none⟩)), (8, .bool y1_3.2)] ⟨by kernel_rfl, by kernel_rfl, by kernel_rfl, by kernel_rfl, by kernel_rfl, by kernel_rfl, trivial⟩ ?_
  refine at_then_normal ?_
  refine at_seq_join (x := C43 [1,1,0]) (y := C43 [1,1,1]) (fun ff ΔΔ => ∃ (e0_b0_0_7 : Int), pwalkS_j0 d cc node e0_b0_0_7 = some y ∧ ff = [(1, .int .i64 node), (2, .pointer (some ⟨c, 0, none⟩)), (3, .pointer (some ⟨b0_0, 0, none⟩)), (6, .pointer (some ⟨b0_1, 0, none⟩))] ∧ (CacheA c cc) :: (Asn.own b0_1 (.cells #[.int .i64 (0), .int .i64 (0), .int .i64 (0), .int .i64 (0), .int .i64 (0), .int .i64 (0), .slice none 0 0, .int .i64 (0), .int .i64 (0)] 35 (0, 0))) :: (Asn.own b0_0 (.cells #[.int .i64 d.kind, .int .i64 d.line, .int .i64 d.id, .int .i64 d.step, .int .i64 d.state, .int .i64 d.head, .slice da (List.length d.data) dcap, .int .i64 e0_b0_0_7, .int .i64 d.told] 35 (0, 0))) :: (ImmI da d.data) :: Γ = ΔΔ) (by kernel_rfl) ?_ ?_
  · rintro _ _ ⟨e0_b0_0_7, H, rfl, rfl⟩
    rw [pwalkS_j0] at H
    refine at_seq (x := C43 [1,1,1,0]) (y := C43 [1,1,1,1]) (by kernel_rfl) ?_
    refine at_seq (x := C43 [1,1,1,0,0]) (y := C43 [1,1,1,0,1]) (by kernel_rfl) ?_
    refine at_region (id := 4) 3 (by kernel_rfl) (by kernel_rfl) ?_
    refine s_pure 27 (.pointer (some ⟨b0_0, 7, none⟩)) (by kernel_rfl) (by kernel_rfl) (fun _ => by kernel_rfl) ?_
    refine s_load 28 (.int .i64 e0_b0_0_7) (by kernel_rfl) (by kernel_rfl) (load1 (off := 7) (fun _ => by kernel_rfl) (holds_own (.there (.there .here))) (by kernel_rfl)) ?_
    refine s_pure 29 (.bool (!(decide (e0_b0_0_7 = ((-1) : Int))))) (by kernel_rfl) (by kernel_rfl) (fun _ => by kernel_rfl) ?_
    refine ops_end ?_
    refine At.env [(1, .int .i64 node), (2, .pointer (some ⟨c, 0, none⟩)), (3, .pointer (some ⟨b0_0, 0, none⟩)), (6, .pointer (some ⟨b0_1, 0, none⟩)), (29, .bool (!(decide (e0_b0_0_7 = ((-1) : Int)))))] ⟨by kernel_rfl, by kernel_rfl, by kernel_rfl, by kernel_rfl, by kernel_rfl, trivial⟩ ?_
    refine at_then_normal ?_
    rcases Bool.eq_false_or_eq_true (!(decide (e0_b0_0_7 = ((-1) : Int)))) with h1 | h1
    · replace H := bifT H h1
      refine at_true (t := !(decide (e0_b0_0_7 = ((-1) : Int)))) (x := C43 [1,1,1,0,1,0]) (y := C43 [1,1,1,0,1,1]) (o := .tmp 29) (by kernel_rfl) (by kernel_rfl) (by kernel_rfl) h1 ?_
      refine at_seq (x := C43 [1,1,1,0,1,0,0]) (y := C43 [1,1,1,0,1,0,1]) (by kernel_rfl) ?_
      refine at_region (id := 5) 2 (by kernel_rfl) (by kernel_rfl) ?_
      refine s_pure 30 (.pointer (some ⟨b0_0, 3, none⟩)) (by kernel_rfl) (by kernel_rfl) (fun _ => by kernel_rfl) ?_
      refine s_do (by kernel_rfl) (by kernel_rfl) (st_store (off := 3) (vs := [.int .i64 (3)]) (c' := #[.int .i64 d.kind, .int .i64 d.line, .int .i64 d.id, .int .i64 (3), .int .i64 d.state, .int .i64 d.head, .slice da (List.length d.data) dcap, .int .i64 e0_b0_0_7, .int .i64 d.told]) (fun _ => by kernel_rfl) (.there (.there .here)) (by kernel_rfl) (by kernel_rfl) (by kernel_rfl)) ?_
      rintro _ _ ⟨rfl, rfl⟩
      refine ops_end ?_
      refine At.env [(3, .pointer (some ⟨b0_0, 0, none⟩)), (6, .pointer (some ⟨b0_1, 0, none⟩))] ⟨by kernel_rfl, by kernel_rfl, trivial⟩ ?_
      refine at_then_normal ?_
      refine at_seq (x := C43 [1,1,1,0,1,0,1,0]) (y := C43 [1,1,1,0,1,0,1,1]) (by kernel_rfl) ?_
      refine at_region (id := 6) 2 (by kernel_rfl) (by kernel_rfl) ?_
      refine s_load 31 (.agg #[.int .i64 d.kind, .int .i64 d.line, .int .i64 d.id, .int .i64 (3), .int .i64 d.state, .int .i64 d.head, .slice da (List.length d.data) dcap, .int .i64 e0_b0_0_7, .int .i64 d.told]) (by kernel_rfl) (by kernel_rfl) (loadN (off := 0) (vs := [.int .i64 d.kind, .int .i64 d.line, .int .i64 d.id, .int .i64 (3), .int .i64 d.state, .int .i64 d.head, .slice da (List.length d.data) dcap, .int .i64 e0_b0_0_7, .int .i64 d.told]) 9 (fun _ => by kernel_rfl) (holds_own .here) rfl (by exact ⟨rfl, rfl, rfl, rfl, rfl, rfl, rfl, rfl, rfl, trivial⟩)) ?_
      refine s_do (by kernel_rfl) (by kernel_rfl) (st_store (off := 0) (vs := [.int .i64 d.kind, .int .i64 d.line, .int .i64 d.id, .int .i64 (3), .int .i64 d.state, .int .i64 d.head, .slice da (List.length d.data) dcap, .int .i64 e0_b0_0_7, .int .i64 d.told]) (c' := #[.int .i64 d.kind, .int .i64 d.line, .int .i64 d.id, .int .i64 (3), .int .i64 d.state, .int .i64 d.head, .slice da (List.length d.data) dcap, .int .i64 e0_b0_0_7, .int .i64 d.told]) (fun _ => by kernel_rfl) (.there (.there .here)) (by kernel_rfl) (by kernel_rfl) (by kernel_rfl)) ?_
      rintro _ _ ⟨rfl, rfl⟩
      refine ops_end ?_
      refine At.env [(6, .pointer (some ⟨b0_1, 0, none⟩))] ⟨by kernel_rfl, trivial⟩ ?_
      refine at_then_normal ?_
      refine at_ret (by kernel_rfl) ?_
      refine at_then_ret ?_
      obtain rfl := someE H
      refine at_backR [.agg #[.int .i64 d.kind, .int .i64 d.line, .int .i64 d.id, .int .i64 (3), .int .i64 d.state, .int .i64 d.head, .slice da (List.length d.data) dcap, .int .i64 e0_b0_0_7, .int .i64 d.told]] ((ImmI da d.data) :: (CacheA c cc) :: Γ) (rs := [.cell 6 35]) (by kernel_rfl) (.cons (.cell (by kernel_rfl) (retN (off := 0) (vs := [.int .i64 d.kind, .int .i64 d.line, .int .i64 d.id, .int .i64 (3), .int .i64 d.state, .int .i64 d.head, .slice da (List.length d.data) dcap, .int .i64 e0_b0_0_7, .int .i64 d.told]) 9 (fun _ => by kernel_rfl) (holds_own .here) rfl (by exact ⟨rfl, rfl, rfl, rfl, rfl, rfl, rfl, rfl, rfl, trivial⟩))) .nil) (fun w hw => (Sat.less (.take (.there (.there (.there .here))) (.take (.there (.there .here)) (.drop .here (.drop .here .refl)))) hw)) ?_
      exact ⟨da, dcap, rfl, rfl⟩
    · replace H := bifF H h1
      refine at_false (t := !(decide (e0_b0_0_7 = ((-1) : Int)))) (x := C43 [1,1,1,0,1,0]) (y := C43 [1,1,1,0,1,1]) (o := .tmp 29) (by kernel_rfl) (by kernel_rfl) (by kernel_rfl) h1 ?_
      refine at_skip (by kernel_rfl) ?_
      refine at_then_normal ?_
      refine at_seq (x := C43 [1,1,1,1,0]) (y := C43 [1,1,1,1,1]) (by kernel_rfl) ?_
      refine at_region (id := 7) 7 (by kernel_rfl) (by kernel_rfl) ?_
      refine s_pure 32 (.pointer (some ⟨c, 0, none⟩)) (by kernel_rfl) (by kernel_rfl) (fun _ => by kernel_rfl) ?_
      refine s_pure 33 (.pointer (some ⟨b0_0, 1, none⟩)) (by kernel_rfl) (by kernel_rfl) (fun _ => by kernel_rfl) ?_
      refine s_load 34 (.int .i64 d.line) (by kernel_rfl) (by kernel_rfl) (load1 (off := 1) (fun _ => by kernel_rfl) (holds_own (.there (.there .here))) (by kernel_rfl)) ?_
      refine s_pure 35 (.pointer (some ⟨b0_0, 6, none⟩)) (by kernel_rfl) (by kernel_rfl) (fun _ => by kernel_rfl) ?_
      refine s_load 36 (.slice da (List.length d.data) dcap) (by kernel_rfl) (by kernel_rfl) (load1 (off := 6) (fun _ => by kernel_rfl) (holds_own (.there (.there .here))) (by kernel_rfl)) ?_
      obtain ⟨y7_5, hy7_5, H⟩ := bindE H
      refine s_call 37 15 #[.int .i64 d.line, .int .i64 (-1), .int .i64 (-1), .bool true, .slice da (List.length d.data) dcap] (by kernel_rfl) (by kernel_rfl) (fun _ => by kernel_rfl) (ENewF_tr d.line ((-1) : Int) ((-1) : Int) true da dcap d.data (ImmR.reads (k := 1) (.there (.there (.there .here)))) y7_5 hy7_5) ?_
      rintro _ _ ⟨a7_5_00, c7_5_00, rfl, rfl⟩
      obtain ⟨y7_6, hy7_6, H⟩ := bindE H
      refine s_call 38 14 #[.pointer (some ⟨c, 0, none⟩), .agg #[.int .i64 y7_5.fwd, .int .i64 y7_5.back, .int .i64 y7_5.line, .int .i64 y7_5.used, .bool y7_5.dirty, .slice a7_5_00 (List.length y7_5.data) c7_5_00]] (by kernel_rfl) (by kernel_rfl) (fun _ => by kernel_rfl) (Tr.conv (Γ' := (CacheA c cc) :: (IntsA a7_5_00 c7_5_00 y7_5.data) :: (Asn.own b0_1 (.cells #[.int .i64 (0), .int .i64 (0), .int .i64 (0), .int .i64 (0), .int .i64 (0), .int .i64 (0), .slice none 0 0, .int .i64 (0), .int .i64 (0)] 35 (0, 0))) :: (Asn.own b0_0 (.cells #[.int .i64 d.kind, .int .i64 d.line, .int .i64 d.id, .int .i64 d.step, .int .i64 d.state, .int .i64 d.head, .slice da (List.length d.data) dcap, .int .i64 e0_b0_0_7, .int .i64 d.told] 35 (0, 0))) :: (ImmI da d.data) :: Γ) (fun w hw => (Sat.less (.take (.there .here) (.take .here (.take .here (.take .here (.take .here .refl))))) hw)) (PutF_tr c cc a7_5_00 c7_5_00 y7_5 (RowsA.reads (k := 1) .here) y7_6 hy7_6)) ?_
      rintro _ _ ⟨rfl, rfl⟩
      refine ops_end ?_
      refine At.env [(1, .int .i64 node), (3, .pointer (some ⟨b0_0, 0, none⟩)), (6, .pointer (some ⟨b0_1, 0, none⟩))] ⟨by kernel_rfl, by kernel_rfl, by kernel_rfl, trivial⟩ ?_
      refine at_then_normal ?_
      refine at_seq (x := C43 [1,1,1,1,1,0]) (y := C43 [1,1,1,1,1,1]) (by kernel_rfl) ?_
      refine at_region (id := 8) 9 (by kernel_rfl) (by kernel_rfl) ?_
      refine s_pure 39 (.int .i64 node) (by kernel_rfl) (by kernel_rfl) (fun _ => by kernel_rfl) ?_
      refine s_pure 40 (.pointer (some ⟨b0_0, 3, none⟩)) (by kernel_rfl) (by kernel_rfl) (fun _ => by kernel_rfl) ?_
      refine s_do (by kernel_rfl) (by kernel_rfl) (st_store (off := 3) (vs := [.int .i64 (6)]) (c' := #[.int .i64 d.kind, .int .i64 d.line, .int .i64 d.id, .int .i64 (6), .int .i64 d.state, .int .i64 d.head, .slice da (List.length d.data) dcap, .int .i64 e0_b0_0_7, .int .i64 d.told]) (fun _ => by kernel_rfl) (.there (.there (.there .here))) (by kernel_rfl) (by kernel_rfl) (by kernel_rfl)) ?_
      rintro _ _ ⟨rfl, rfl⟩
      refine s_pure 41 (.pointer (some ⟨b0_0, 4, none⟩)) (by kernel_rfl) (by kernel_rfl) (fun _ => by kernel_rfl) ?_
      refine s_do (by kernel_rfl) (by kernel_rfl) (st_store (off := 4) (vs := [.int .i64 (2)]) (c' := #[.int .i64 d.kind, .int .i64 d.line, .int .i64 d.id, .int .i64 (6), .int .i64 (2), .int .i64 d.head, .slice da (List.length d.data) dcap, .int .i64 e0_b0_0_7, .int .i64 d.told]) (fun _ => by kernel_rfl) .here (by kernel_rfl) (by kernel_rfl) (by kernel_rfl)) ?_
      rintro _ _ ⟨rfl, rfl⟩
      refine s_pure 42 (.pointer (some ⟨b0_0, 5, none⟩)) (by kernel_rfl) (by kernel_rfl) (fun _ => by kernel_rfl) ?_
      refine s_do (by kernel_rfl) (by kernel_rfl) (st_store (off := 5) (vs := [.int .i64 node]) (c' := #[.int .i64 d.kind, .int .i64 d.line, .int .i64 d.id, .int .i64 (6), .int .i64 (2), .int .i64 node, .slice da (List.length d.data) dcap, .int .i64 e0_b0_0_7, .int .i64 d.told]) (fun _ => by kernel_rfl) .here (by kernel_rfl) (by kernel_rfl) (by kernel_rfl)) ?_
      rintro _ _ ⟨rfl, rfl⟩
      refine s_pure 43 (.pointer (some ⟨b0_0, 6, none⟩)) (by kernel_rfl) (by kernel_rfl) (fun _ => by kernel_rfl) ?_
      refine s_do (by kernel_rfl) (by kernel_rfl) (st_store (off := 6) (vs := [.slice none 0 0]) (c' := #[.int .i64 d.kind, .int .i64 d.line, .int .i64 d.id, .int .i64 (6), .int .i64 (2), .int .i64 node, .slice none 0 0, .int .i64 e0_b0_0_7, .int .i64 d.told]) (fun _ => by kernel_rfl) .here (by kernel_rfl) (by kernel_rfl) (by kernel_rfl)) ?_
      rintro _ _ ⟨rfl, rfl⟩
      refine ops_end ?_
      refine At.env [(3, .pointer (some ⟨b0_0, 0, none⟩)), (6, .pointer (some ⟨b0_1, 0, none⟩))] ⟨by kernel_rfl, by kernel_rfl, trivial⟩ ?_
      refine at_then_normal ?_
      refine at_seq (x := C43 [1,1,1,1,1,1,0]) (y := C43 [1,1,1,1,1,1,1]) (by kernel_rfl) ?_
      refine at_region (id := 9) 2 (by kernel_rfl) (by kernel_rfl) ?_
      refine s_load 44 (.agg #[.int .i64 d.kind, .int .i64 d.line, .int .i64 d.id, .int .i64 (6), .int .i64 (2), .int .i64 node, .slice none 0 0, .int .i64 e0_b0_0_7, .int .i64 d.told]) (by kernel_rfl) (by kernel_rfl) (loadN (off := 0) (vs := [.int .i64 d.kind, .int .i64 d.line, .int .i64 d.id, .int .i64 (6), .int .i64 (2), .int .i64 node, .slice none 0 0, .int .i64 e0_b0_0_7, .int .i64 d.told]) 9 (fun _ => by kernel_rfl) (holds_own .here) rfl (by exact ⟨rfl, rfl, rfl, rfl, rfl, rfl, rfl, rfl, rfl, trivial⟩)) ?_
      refine s_do (by kernel_rfl) (by kernel_rfl) (st_store (off := 0) (vs := [.int .i64 d.kind, .int .i64 d.line, .int .i64 d.id, .int .i64 (6), .int .i64 (2), .int .i64 node, .slice none 0 0, .int .i64 e0_b0_0_7, .int .i64 d.told]) (c' := #[.int .i64 d.kind, .int .i64 d.line, .int .i64 d.id, .int .i64 (6), .int .i64 (2), .int .i64 node, .slice none 0 0, .int .i64 e0_b0_0_7, .int .i64 d.told]) (fun _ => by kernel_rfl) (.there (.there (.there .here))) (by kernel_rfl) (by kernel_rfl) (by kernel_rfl)) ?_
      rintro _ _ ⟨rfl, rfl⟩
      refine ops_end ?_
      refine At.env [(6, .pointer (some ⟨b0_1, 0, none⟩))] ⟨by kernel_rfl, trivial⟩ ?_
      refine at_then_normal ?_
      refine at_ret (by kernel_rfl) ?_
      obtain rfl := someE H
      refine at_backR [.agg #[.int .i64 d.kind, .int .i64 d.line, .int .i64 d.id, .int .i64 (6), .int .i64 (2), .int .i64 node, .slice none 0 0, .int .i64 e0_b0_0_7, .int .i64 d.told]] ((ImmI none ([] : List Int)) :: (CacheA c y7_6.2) :: Γ) (rs := [.cell 6 35]) (by kernel_rfl) (.cons (.cell (by kernel_rfl) (retN (off := 0) (vs := [.int .i64 d.kind, .int .i64 d.line, .int .i64 d.id, .int .i64 (6), .int .i64 (2), .int .i64 node, .slice none 0 0, .int .i64 e0_b0_0_7, .int .i64 d.told]) 9 (fun _ => by kernel_rfl) (holds_own .here) rfl (by exact ⟨rfl, rfl, rfl, rfl, rfl, rfl, rfl, rfl, rfl, trivial⟩))) .nil) (fun w hw => (Sat.less (.take .here (.take (.there (.there .here)) (.drop .here (.drop .here (.drop .here (.drop .here .refl)))))) (ImmR.nil_mk (k := 1) (a := none) hw))) ?_
      exact ⟨none, 0, rfl, rfl⟩
  · refine at_seq (x := C43 [1,1,0,0]) (y := C43 [1,1,0,1]) (by kernel_rfl) ?_
    refine at_region (id := 2) 7 (by kernel_rfl) (by kernel_rfl) ?_
    refine s_pure 16 (.pointer (some ⟨b0_0, 7, none⟩)) (by kernel_rfl) (by kernel_rfl) (fun _ => by kernel_rfl) ?_
    refine s_load 17 (.int .i64 d.next) (by kernel_rfl) (by kernel_rfl) (load1 (off := 7) (fun _ => by kernel_rfl) (holds_own (.there (.there (.there (.there .here))))) (by kernel_rfl)) ?_
    refine s_pure 18 (.int .i64 node) (by kernel_rfl) (by kernel_rfl) (fun _ => by kernel_rfl) ?_
    refine s_pure 19 (.bool (decide (d.next = node))) (by kernel_rfl) (by kernel_rfl) (fun _ => by kernel_rfl) ?_
    rcases Bool.eq_false_or_eq_true (decide (d.next = node)) with h2 | h2
    · replace H := bifT H h2
      refine s_pure 20 (.bool true) (by kernel_rfl) (by kernel_rfl) (run_eq (v := .bool (decide (d.next = node))) (fun _ => by kernel_rfl) (congrArg Value.bool h2)) ?_
      refine s_pure 21 (.bool y1_3.2) (by kernel_rfl) (by kernel_rfl) (fun _ => by kernel_rfl) ?_
      refine s_pure 22 (.bool y1_3.2) (by kernel_rfl) (by kernel_rfl) (fun _ => by kernel_rfl) ?_
      refine ops_end ?_
      refine At.env [(1, .int .i64 node), (2, .pointer (some ⟨c, 0, none⟩)), (3, .pointer (some ⟨b0_0, 0, none⟩)), (6, .pointer (some ⟨b0_1, 0, none⟩)), (7, .pointer (some ⟨b1_7, 0, none⟩)), (22, .bool y1_3.2)] ⟨by kernel_rfl, by kernel_rfl, by kernel_rfl, by kernel_rfl, by kernel_rfl, by kernel_rfl, trivial⟩ ?_
      refine at_then_normal ?_
      rcases Bool.eq_false_or_eq_true (y1_3.2) with h3 | h3
      · replace H := bifT H h3
        refine at_true (t := y1_3.2) (x := C43 [1,1,0,1,0]) (y := C43 [1,1,0,1,1]) (o := .tmp 22) (by kernel_rfl) (by kernel_rfl) (by kernel_rfl) h3 ?_
        refine at_region (id := 3) 5 (by kernel_rfl) (by kernel_rfl) ?_
        refine s_pure 23 (.pointer (some ⟨b1_7, 0, none⟩)) (by kernel_rfl) (by kernel_rfl) (fun _ => by kernel_rfl) ?_
        refine s_pure 24 (.pointer (some ⟨b1_7, 0, none⟩)) (by kernel_rfl) (by kernel_rfl) (fun _ => by kernel_rfl) ?_
        refine s_load 25 (.int .i64 y1_3.1.fwd) (by kernel_rfl) (by kernel_rfl) (load1 (off := 0) (fun _ => by kernel_rfl) (holds_own .here) (by kernel_rfl)) ?_
        refine s_pure 26 (.pointer (some ⟨b0_0, 7, none⟩)) (by kernel_rfl) (by kernel_rfl) (fun _ => by kernel_rfl) ?_
        refine s_do (by kernel_rfl) (by kernel_rfl) (st_store (off := 7) (vs := [.int .i64 y1_3.1.fwd]) (c' := #[.int .i64 d.kind, .int .i64 d.line, .int .i64 d.id, .int .i64 d.step, .int .i64 d.state, .int .i64 d.head, .slice da (List.length d.data) dcap, .int .i64 y1_3.1.fwd, .int .i64 d.told]) (fun _ => by kernel_rfl) (.there (.there (.there (.there .here)))) (by kernel_rfl) (by kernel_rfl) (by kernel_rfl)) ?_
        rintro _ _ ⟨rfl, rfl⟩
        refine ops_end ?_
        refine At.env [(1, .int .i64 node), (2, .pointer (some ⟨c, 0, none⟩)), (3, .pointer (some ⟨b0_0, 0, none⟩)), (6, .pointer (some ⟨b0_1, 0, none⟩))] ⟨by kernel_rfl, by kernel_rfl, by kernel_rfl, by kernel_rfl, trivial⟩ ?_
        refine at_round_normal ?_
        exact at_join_mk [(1, .int .i64 node), (2, .pointer (some ⟨c, 0, none⟩)), (3, .pointer (some ⟨b0_0, 0, none⟩)), (6, .pointer (some ⟨b0_1, 0, none⟩))] ((CacheA c cc) :: (Asn.own b0_1 (.cells #[.int .i64 (0), .int .i64 (0), .int .i64 (0), .int .i64 (0), .int .i64 (0), .int .i64 (0), .slice none 0 0, .int .i64 (0), .int .i64 (0)] 35 (0, 0))) :: (Asn.own b0_0 (.cells #[.int .i64 d.kind, .int .i64 d.line, .int .i64 d.id, .int .i64 d.step, .int .i64 d.state, .int .i64 d.head, .slice da (List.length d.data) dcap, .int .i64 y1_3.1.fwd, .int .i64 d.told] 35 (0, 0))) :: (ImmI da d.data) :: Γ) ⟨by kernel_rfl, by kernel_rfl, by kernel_rfl, by kernel_rfl, trivial⟩ (fun w hw => (Sat.less (.take (.there (.there (.there .here))) (.take (.there (.there (.there .here))) (.take .here (.take (.there (.there .here)) (.drop .here (.drop .here .refl)))))) hw)) ⟨y1_3.1.fwd, H, rfl, rfl⟩
      · replace H := bifF H h3
        refine at_false (t := y1_3.2) (x := C43 [1,1,0,1,0]) (y := C43 [1,1,0,1,1]) (o := .tmp 22) (by kernel_rfl) (by kernel_rfl) (by kernel_rfl) h3 ?_
        refine at_skip (by kernel_rfl) ?_
        refine at_round_normal ?_
        exact at_join_mk [(1, .int .i64 node), (2, .pointer (some ⟨c, 0, none⟩)), (3, .pointer (some ⟨b0_0, 0, none⟩)), (6, .pointer (some ⟨b0_1, 0, none⟩))] ((CacheA c cc) :: (Asn.own b0_1 (.cells #[.int .i64 (0), .int .i64 (0), .int .i64 (0), .int .i64 (0), .int .i64 (0), .int .i64 (0), .slice none 0 0, .int .i64 (0), .int .i64 (0)] 35 (0, 0))) :: (Asn.own b0_0 (.cells #[.int .i64 d.kind, .int .i64 d.line, .int .i64 d.id, .int .i64 d.step, .int .i64 d.state, .int .i64 d.head, .slice da (List.length d.data) dcap, .int .i64 d.next, .int .i64 d.told] 35 (0, 0))) :: (ImmI da d.data) :: Γ) ⟨by kernel_rfl, by kernel_rfl, by kernel_rfl, by kernel_rfl, trivial⟩ (fun w hw => (Sat.less (.take (.there (.there .here)) (.take (.there (.there .here)) (.take (.there (.there .here)) (.take (.there (.there .here)) (.drop .here (.drop .here .refl)))))) hw)) ⟨d.next, H, rfl, rfl⟩
    · replace H := bifF H h2
      refine s_pure 20 (.bool false) (by kernel_rfl) (by kernel_rfl) (run_eq (v := .bool (decide (d.next = node))) (fun _ => by kernel_rfl) (congrArg Value.bool h2)) ?_
      refine s_pass 21 (by kernel_rfl) (by kernel_rfl) ?_
      refine s_pure 22 (.bool false) (by kernel_rfl) (by kernel_rfl) (fun _ => by kernel_rfl) ?_
      refine ops_end ?_
      refine At.env [(1, .int .i64 node), (2, .pointer (some ⟨c, 0, none⟩)), (3, .pointer (some ⟨b0_0, 0, none⟩)), (6, .pointer (some ⟨b0_1, 0, none⟩)), (7, .pointer (some ⟨b1_7, 0, none⟩)), (22, .bool false)] ⟨by kernel_rfl, by kernel_rfl, by kernel_rfl, by kernel_rfl, by kernel_rfl, by kernel_rfl, trivial⟩ ?_
      refine at_then_normal ?_
      refine at_false (t := false) (x := C43 [1,1,0,1,0]) (y := C43 [1,1,0,1,1]) (o := .tmp 22) (by kernel_rfl) (by kernel_rfl) (by kernel_rfl) rfl ?_
      refine at_skip (by kernel_rfl) ?_
      refine at_round_normal ?_
      exact at_join_mk [(1, .int .i64 node), (2, .pointer (some ⟨c, 0, none⟩)), (3, .pointer (some ⟨b0_0, 0, none⟩)), (6, .pointer (some ⟨b0_1, 0, none⟩))] ((CacheA c cc) :: (Asn.own b0_1 (.cells #[.int .i64 (0), .int .i64 (0), .int .i64 (0), .int .i64 (0), .int .i64 (0), .int .i64 (0), .slice none 0 0, .int .i64 (0), .int .i64 (0)] 35 (0, 0))) :: (Asn.own b0_0 (.cells #[.int .i64 d.kind, .int .i64 d.line, .int .i64 d.id, .int .i64 d.step, .int .i64 d.state, .int .i64 d.head, .slice da (List.length d.data) dcap, .int .i64 d.next, .int .i64 d.told] 35 (0, 0))) :: (ImmI da d.data) :: Γ) ⟨by kernel_rfl, by kernel_rfl, by kernel_rfl, by kernel_rfl, trivial⟩ (fun w hw => (Sat.less (.take (.there (.there .here)) (.take (.there (.there .here)) (.take (.there (.there .here)) (.take (.there (.there .here)) (.drop .here (.drop .here .refl)))))) hw)) ⟨d.next, H, rfl, rfl⟩
def pnextS_j1 (d : DealS) (p : PktS) (node : Int) (cc : CacheS) (e1_b0_0_6x : List Int) : Option (DealS × Bool × CacheS) :=
  (pwalkS (⟨d.kind, d.line, d.id, d.step, p.state, p.ptr, e1_b0_0_6x, p.ptr, p.ptr⟩ : DealS) node cc).bind fun y10_3 => some (y10_3.1, true, y10_3.2)
def pnextS_j2 (d : DealS) (p : PktS) (node : Int) (cc : CacheS) (e2_b0_0_6x : List Int) : Option (DealS × Bool × CacheS) :=
  (pwalkS (⟨d.kind, d.line, d.id, d.step, d.state, d.head, e2_b0_0_6x, p.ptr, d.told⟩ : DealS) node cc).bind fun y15_3 => some (y15_3.1, true, y15_3.2)
def pnextS_j0 (cc : CacheS) (d : DealS) (p : PktS) (node : Int) (e0_20 : Bool) : Option (DealS × Bool × CacheS) :=
  (bif e0_20 then some ((⟨0, 0, 0, 0, 0, 0, ([] : List Int), 0, 0⟩ : DealS), false, cc) else (findS cc d.line).bind fun y3_3 => (bif decide (d.step = (1 : Int)) then (copyS p.data).bind fun y6_8 => (bif y3_3.2 then pnextS_j1 d p node cc y3_3.1.data else pnextS_j1 d p node cc y6_8) else (bif decide (d.step = (3 : Int)) then (bif !y3_3.2 then (copyS p.data).bind fun y13_2 => pnextS_j2 d p node cc y13_2 else pnextS_j2 d p node cc d.data) else (bif decide (d.step = (6 : Int)) then some ((⟨d.kind, d.line, d.id, 0, d.state, d.head, d.data, d.next, d.told⟩ : DealS), true, cc) else some ((⟨0, 0, 0, 0, 0, 0, ([] : List Int), 0, 0⟩ : DealS), false, cc)))))
def pnextS (d : DealS) (node : Int) (cc : CacheS) (p : PktS) : Option (DealS × Bool × CacheS) :=
  (bif !(decide (d.kind = (2 : Int))) then pnextS_j0 cc d p node true else (dfitsS d p).bind fun y1_6 => pnextS_j0 cc d p node !y1_6)
noncomputable def C16 (p : List Nat) : Code := codeAt (bodyOf Try.f16) p
set_option maxRecDepth 100000 in
set_option maxHeartbeats 8000000 in
theorem PNextF_tr {W0 : World} {Γ : List Asn} (da : Option Addr) (dcap : Nat) (d : DealS) (node : Int) (c : Nat) (cc : CacheS) (pa : Option Addr) (pcap : Nat) (p : PktS) (hrpa : Reads W0 Γ pa (ints p.data)) (y : DealS × Bool × CacheS) (H : pnextS d node cc p = some y) : Tr Try.prog 16 #[.agg #[.int .i64 d.kind, .int .i64 d.line, .int .i64 d.id, .int .i64 d.step, .int .i64 d.state, .int .i64 d.head, .slice da (List.length d.data) dcap, .int .i64 d.next, .int .i64 d.told], .int .i64 node, .pointer (some ⟨c, 0, none⟩), .agg #[.int .i64 p.kind, .int .i64 p.src, .int .i64 p.dst, .int .i64 p.id, .int .i64 p.line, .int .i64 p.ptr, .int .i64 p.state, .bool p.flag, .slice pa (List.length p.data) pcap]] W0 ((ImmI da d.data) :: (CacheA c cc) :: Γ) (fun r Δ => ∃ (a0_0 : Option Addr) (c0_0 : Nat), r = .tuple #[.agg #[.int .i64 y.1.kind, .int .i64 y.1.line, .int .i64 y.1.id, .int .i64 y.1.step, .int .i64 y.1.state, .int .i64 y.1.head, .slice a0_0 (List.length y.1.data) c0_0, .int .i64 y.1.next, .int .i64 y.1.told], .bool y.2.1] ∧ Δ = (ImmI a0_0 y.1.data) :: (CacheA c y.2.2) :: Γ) := by
  unfold pnextS at H
  refine Tr.enter (fn := Try.f16) (c := C16 []) (args := [.agg #[.int .i64 d.kind, .int .i64 d.line, .int .i64 d.id, .int .i64 d.step, .int .i64 d.state, .int .i64 d.head, .slice da (List.length d.data) dcap, .int .i64 d.next, .int .i64 d.told], .int .i64 node, .pointer (some ⟨c, 0, none⟩), .agg #[.int .i64 p.kind, .int .i64 p.src, .int .i64 p.dst, .int .i64 p.id, .int .i64 p.line, .int .i64 p.ptr, .int .i64 p.state, .bool p.flag, .slice pa (List.length p.data) pcap]]) 77 Try.func16 (by kernel_rfl) (by kernel_rfl) ?_
  refine At.env [(0, .agg #[.int .i64 d.kind, .int .i64 d.line, .int .i64 d.id, .int .i64 d.step, .int .i64 d.state, .int .i64 d.head, .slice da (List.length d.data) dcap, .int .i64 d.next, .int .i64 d.told]), (1, .int .i64 node), (2, .pointer (some ⟨c, 0, none⟩)), (3, .agg #[.int .i64 p.kind, .int .i64 p.src, .int .i64 p.dst, .int .i64 p.id, .int .i64 p.line, .int .i64 p.ptr, .int .i64 p.state, .bool p.flag, .slice pa (List.length p.data) pcap])] ⟨by kernel_rfl, by kernel_rfl, by kernel_rfl, by kernel_rfl, trivial⟩ ?_
  refine at_seq (x := C16 [0]) (y := C16 [1]) (by kernel_rfl) ?_
  refine at_region (id := 0) 4 (by kernel_rfl) (by kernel_rfl) ?_
  refine s_step 4 (by kernel_rfl) (by kernel_rfl) (st_new (T := 35) (cells := #[.int .i64 d.kind, .int .i64 d.line, .int .i64 d.id, .int .i64 d.step, .int .i64 d.state, .int .i64 d.head, .slice da (List.length d.data) dcap, .int .i64 d.next, .int .i64 d.told]) (fun a => .pointer (some a)) (fun _ => by kernel_rfl)) ?_
  rintro _ _ ⟨b0_0, rfl, rfl⟩
  refine s_step 7 (by kernel_rfl) (by kernel_rfl) (st_new (T := 40) (cells := #[.int .i64 p.kind, .int .i64 p.src, .int .i64 p.dst, .int .i64 p.id, .int .i64 p.line, .int .i64 p.ptr, .int .i64 p.state, .bool p.flag, .slice pa (List.length p.data) pcap]) (fun a => .pointer (some a)) (fun _ => by kernel_rfl)) ?_
  rintro _ _ ⟨b0_1, rfl, rfl⟩
  refine s_step 8 (by kernel_rfl) (by kernel_rfl) (st_new (T := 35) (cells := #[.int .i64 (0), .int .i64 (0), .int .i64 (0), .int .i64 (0), .int .i64 (0), .int .i64 (0), .slice none 0 0, .int .i64 (0), .int .i64 (0)]) (fun a => .pointer (some a)) (fun _ => by kernel_rfl)) ?_
  rintro _ _ ⟨b0_2, rfl, rfl⟩
  refine s_pure 9 (.bool false) (by kernel_rfl) (by kernel_rfl) (fun _ => by kernel_rfl) ?_
  refine ops_end ?_
  refine At.env [(1, .int .i64 node), (2, .pointer (some ⟨c, 0, none⟩)), (4, .pointer (some ⟨b0_0, 0, none⟩)), (7, .pointer (some ⟨b0_1, 0, none⟩)), (8, .pointer (some ⟨b0_2, 0, none⟩))] ⟨by kernel_rfl, by kernel_rfl, by kernel_rfl, by kernel_rfl, by kernel_rfl, trivial⟩ ?_
  refine at_then_normal ?_
  refine at_seq (x := C16 [1,0]) (y := C16 [1,1]) (by kernel_rfl) ?_
  refine at_seq_join (x := C16 [1,0,0]) (y := C16 [1,0,1]) (fun ff ΔΔ => ∃ (e0_20 : Bool), pnextS_j0 cc d p node e0_20 = some y ∧ ff = [(1, .int .i64 node), (2, .pointer (some ⟨c, 0, none⟩)), (4, .pointer (some ⟨b0_0, 0, none⟩)), (7, .pointer (some ⟨b0_1, 0, none⟩)), (8, .pointer (some ⟨b0_2, 0, none⟩)), (20, .bool e0_20)] ∧ (Asn.own b0_2 (.cells #[.int .i64 (0), .int .i64 (0), .int .i64 (0), .int .i64 (0), .int .i64 (0), .int .i64 (0), .slice none 0 0, .int .i64 (0), .int .i64 (0)] 35 (0, 0))) :: (Asn.own b0_1 (.cells #[.int .i64 p.kind, .int .i64 p.src, .int .i64 p.dst, .int .i64 p.id, .int .i64 p.line, .int .i64 p.ptr, .int .i64 p.state, .bool p.flag, .slice pa (List.length p.data) pcap] 40 (0, 0))) :: (Asn.own b0_0 (.cells #[.int .i64 d.kind, .int .i64 d.line, .int .i64 d.id, .int .i64 d.step, .int .i64 d.state, .int .i64 d.head, .slice da (List.length d.data) dcap, .int .i64 d.next, .int .i64 d.told] 35 (0, 0))) :: (ImmI da d.data) :: (CacheA c cc) :: Γ = ΔΔ) (by kernel_rfl) ?_ ?_
  · rintro _ _ ⟨e0_20, H, rfl, rfl⟩
    rw [pnextS_j0] at H
    rcases Bool.eq_false_or_eq_true (e0_20) with h1 | h1
    · replace H := bifT H h1
      refine at_true (t := e0_20) (x := C16 [1,0,1,0]) (y := C16 [1,0,1,1]) (o := .tmp 20) (by kernel_rfl) (by kernel_rfl) (by kernel_rfl) h1 ?_
      refine at_seq (x := C16 [1,0,1,0,0]) (y := C16 [1,0,1,0,1]) (by kernel_rfl) ?_
      refine at_region (id := 2) 3 (by kernel_rfl) (by kernel_rfl) ?_
      refine s_pure 21 (.agg #[.int .i64 (0), .int .i64 (0), .int .i64 (0), .int .i64 (0), .int .i64 (0), .int .i64 (0), .slice none 0 0, .int .i64 (0), .int .i64 (0)]) (by kernel_rfl) (by kernel_rfl) (fun _ => by kernel_rfl) ?_
      refine s_do (by kernel_rfl) (by kernel_rfl) (st_store (off := 0) (vs := [.int .i64 (0), .int .i64 (0), .int .i64 (0), .int .i64 (0), .int .i64 (0), .int .i64 (0), .slice none 0 0, .int .i64 (0), .int .i64 (0)]) (c' := #[.int .i64 (0), .int .i64 (0), .int .i64 (0), .int .i64 (0), .int .i64 (0), .int .i64 (0), .slice none 0 0, .int .i64 (0), .int .i64 (0)]) (fun _ => by kernel_rfl) .here (by kernel_rfl) (by kernel_rfl) (by kernel_rfl)) ?_
      rintro _ _ ⟨rfl, rfl⟩
      refine s_pure 9 (.bool false) (by kernel_rfl) (by kernel_rfl) (fun _ => by kernel_rfl) ?_
      refine ops_end ?_
      refine At.env [(8, .pointer (some ⟨b0_2, 0, none⟩)), (9, .bool false)] ⟨by kernel_rfl, by kernel_rfl, trivial⟩ ?_
      refine at_then_normal ?_
      refine at_ret (by kernel_rfl) ?_
      refine at_then_ret ?_
      obtain rfl := someE H
      refine at_backR [.agg #[.int .i64 (0), .int .i64 (0), .int .i64 (0), .int .i64 (0), .int .i64 (0), .int .i64 (0), .slice none 0 0, .int .i64 (0), .int .i64 (0)], .bool false] ((ImmI none ([] : List Int)) :: (CacheA c cc) :: Γ) (rs := [.cell 8 35, .tmp 9]) (by kernel_rfl) (.cons (.cell (by kernel_rfl) (retN (off := 0) (vs := [.int .i64 (0), .int .i64 (0), .int .i64 (0), .int .i64 (0), .int .i64 (0), .int .i64 (0), .slice none 0 0, .int .i64 (0), .int .i64 (0)]) 9 (fun _ => by kernel_rfl) (holds_own .here) rfl (by exact ⟨rfl, rfl, rfl, rfl, rfl, rfl, rfl, rfl, rfl, trivial⟩))) (.cons (.tmp (by kernel_rfl)) .nil)) (fun w hw => (Sat.less (.take .here (.take (.there (.there (.there (.there .here)))) (.drop .here (.drop .here (.drop .here (.drop .here .refl)))))) (ImmR.nil_mk (k := 1) (a := none) hw))) ?_
      exact ⟨none, 0, rfl, rfl⟩
    · replace H := bifF H h1
      refine at_false (t := e0_20) (x := C16 [1,0,1,0]) (y := C16 [1,0,1,1]) (o := .tmp 20) (by kernel_rfl) (by kernel_rfl) (by kernel_rfl) h1 ?_
      refine at_skip (by kernel_rfl) ?_
      refine at_then_normal ?_
      refine at_seq (x := C16 [1,1,0]) (y := C16 [1,1,1]) (by kernel_rfl) ?_
      refine at_region (id := 3) 10 (by kernel_rfl) (by kernel_rfl) ?_
      refine s_pure 23 (.pointer (some ⟨c, 0, none⟩)) (by kernel_rfl) (by kernel_rfl) (fun _ => by kernel_rfl) ?_
      refine s_pure 24 (.pointer (some ⟨b0_0, 1, none⟩)) (by kernel_rfl) (by kernel_rfl) (fun _ => by kernel_rfl) ?_
      refine s_load 25 (.int .i64 d.line) (by kernel_rfl) (by kernel_rfl) (load1 (off := 1) (fun _ => by kernel_rfl) (holds_own (.there (.there .here))) (by kernel_rfl)) ?_
      obtain ⟨y3_3, hy3_3, H⟩ := bindE H
      refine s_call 26 18 #[.pointer (some ⟨c, 0, none⟩), .int .i64 d.line] (by kernel_rfl) (by kernel_rfl) (fun _ => by kernel_rfl) (Tr.conv (Γ' := (CacheA c cc) :: (Asn.own b0_2 (.cells #[.int .i64 (0), .int .i64 (0), .int .i64 (0), .int .i64 (0), .int .i64 (0), .int .i64 (0), .slice none 0 0, .int .i64 (0), .int .i64 (0)] 35 (0, 0))) :: (Asn.own b0_1 (.cells #[.int .i64 p.kind, .int .i64 p.src, .int .i64 p.dst, .int .i64 p.id, .int .i64 p.line, .int .i64 p.ptr, .int .i64 p.state, .bool p.flag, .slice pa (List.length p.data) pcap] 40 (0, 0))) :: (Asn.own b0_0 (.cells #[.int .i64 d.kind, .int .i64 d.line, .int .i64 d.id, .int .i64 d.step, .int .i64 d.state, .int .i64 d.head, .slice da (List.length d.data) dcap, .int .i64 d.next, .int .i64 d.told] 35 (0, 0))) :: (ImmI da d.data) :: Γ) (fun w hw => (Sat.less (.take (.there (.there (.there (.there .here)))) (.take .here (.take .here (.take .here (.take .here .refl))))) hw)) (FindF_tr c cc d.line y3_3 hy3_3)) ?_
      rintro _ _ ⟨a3_3_00, c3_3_00, rfl, rfl⟩
      refine s_pure 22 (.tuple #[.agg #[.int .i64 y3_3.1.fwd, .int .i64 y3_3.1.back, .int .i64 y3_3.1.line, .int .i64 y3_3.1.used, .bool y3_3.1.dirty, .slice a3_3_00 (List.length y3_3.1.data) c3_3_00], .bool y3_3.2]) (by kernel_rfl) (by kernel_rfl) (fun _ => by kernel_rfl) ?_
      refine s_pure 27 (.agg #[.int .i64 y3_3.1.fwd, .int .i64 y3_3.1.back, .int .i64 y3_3.1.line, .int .i64 y3_3.1.used, .bool y3_3.1.dirty, .slice a3_3_00 (List.length y3_3.1.data) c3_3_00]) (by kernel_rfl) (by kernel_rfl) (fun _ => by kernel_rfl) ?_
      refine s_pure 28 (.bool y3_3.2) (by kernel_rfl) (by kernel_rfl) (fun _ => by kernel_rfl) ?_
      refine s_step 10 (by kernel_rfl) (by kernel_rfl) (st_new (T := 32) (cells := #[.int .i64 (0), .int .i64 (0), .int .i64 (0), .int .i64 (0), .bool false, .slice none 0 0]) (fun a => .pointer (some a)) (fun _ => by kernel_rfl)) ?_
      rintro _ _ ⟨b3_7, rfl, rfl⟩
      refine s_do (by kernel_rfl) (by kernel_rfl) (st_store (off := 0) (vs := [.int .i64 y3_3.1.fwd, .int .i64 y3_3.1.back, .int .i64 y3_3.1.line, .int .i64 y3_3.1.used, .bool y3_3.1.dirty, .slice a3_3_00 (List.length y3_3.1.data) c3_3_00]) (c' := #[.int .i64 y3_3.1.fwd, .int .i64 y3_3.1.back, .int .i64 y3_3.1.line, .int .i64 y3_3.1.used, .bool y3_3.1.dirty, .slice a3_3_00 (List.length y3_3.1.data) c3_3_00]) (fun _ => by kernel_rfl) .here (by kernel_rfl) (by kernel_rfl) (by kernel_rfl)) ?_
      rintro _ _ ⟨rfl, rfl⟩
      refine s_pure 11 (.bool y3_3.2) (by kernel_rfl) (by kernel_rfl) (fun _ => by kernel_rfl) ?_
      refine ops_end ?_
      refine At.env [(1, .int .i64 node), (2, .pointer (some ⟨c, 0, none⟩)), (4, .pointer (some ⟨b0_0, 0, none⟩)), (7, .pointer (some ⟨b0_1, 0, none⟩)), (8, .pointer (some ⟨b0_2, 0, none⟩)), (10, .pointer (some ⟨b3_7, 0, none⟩)), (11, .bool y3_3.2)] ⟨by kernel_rfl, by kernel_rfl, by kernel_rfl, by kernel_rfl, by kernel_rfl, by kernel_rfl, by kernel_rfl, trivial⟩ ?_
      refine at_then_normal ?_
      refine at_seq (x := C16 [1,1,1,0]) (y := C16 [1,1,1,1]) (by kernel_rfl) ?_
      refine at_seq (x := C16 [1,1,1,0,0]) (y := C16 [1,1,1,0,1]) (by kernel_rfl) ?_
      refine at_region (id := 4) 2 (by kernel_rfl) (by kernel_rfl) ?_
      refine s_pure 29 (.pointer (some ⟨b0_0, 3, none⟩)) (by kernel_rfl) (by kernel_rfl) (fun _ => by kernel_rfl) ?_
      refine s_load 30 (.int .i64 d.step) (by kernel_rfl) (by kernel_rfl) (load1 (off := 3) (fun _ => by kernel_rfl) (holds_own (.there (.there (.there (.there (.there .here)))))) (by kernel_rfl)) ?_
      refine ops_end ?_
      refine At.env [(1, .int .i64 node), (2, .pointer (some ⟨c, 0, none⟩)), (4, .pointer (some ⟨b0_0, 0, none⟩)), (7, .pointer (some ⟨b0_1, 0, none⟩)), (8, .pointer (some ⟨b0_2, 0, none⟩)), (10, .pointer (some ⟨b3_7, 0, none⟩)), (11, .bool y3_3.2), (30, .int .i64 d.step)] ⟨by kernel_rfl, by kernel_rfl, by kernel_rfl, by kernel_rfl, by kernel_rfl, by kernel_rfl, by kernel_rfl, by kernel_rfl, trivial⟩ ?_
      refine at_then_normal ?_
      refine at_block (i := 0) (x := C16 [1,1,1,0,1,0]) (by kernel_rfl) ?_
      refine at_seq (x := C16 [1,1,1,0,1,0,0]) (y := C16 [1,1,1,0,1,0,1]) (by kernel_rfl) ?_
      refine at_region (id := 5) 2 (by kernel_rfl) (by kernel_rfl) ?_
      refine s_pure 32 (.bool (decide (d.step = (1 : Int)))) (by kernel_rfl) (by kernel_rfl) (fun _ => by kernel_rfl) ?_
      refine s_pure 31 (.bool (decide (d.step = (1 : Int)))) (by kernel_rfl) (by kernel_rfl) (fun _ => by kernel_rfl) ?_
      refine ops_end ?_
      refine At.env [(1, .int .i64 node), (2, .pointer (some ⟨c, 0, none⟩)), (4, .pointer (some ⟨b0_0, 0, none⟩)), (7, .pointer (some ⟨b0_1, 0, none⟩)), (8, .pointer (some ⟨b0_2, 0, none⟩)), (10, .pointer (some ⟨b3_7, 0, none⟩)), (11, .bool y3_3.2), (30, .int .i64 d.step), (31, .bool (decide (d.step = (1 : Int))))] ⟨by kernel_rfl, by kernel_rfl, by kernel_rfl, by kernel_rfl, by kernel_rfl, by kernel_rfl, by kernel_rfl, by kernel_rfl, by kernel_rfl, trivial⟩ ?_
      refine at_then_normal ?_
      rcases Bool.eq_false_or_eq_true (decide (d.step = (1 : Int))) with h2 | h2
      · replace H := bifT H h2
        refine at_true (t := decide (d.step = (1 : Int))) (x := C16 [1,1,1,0,1,0,1,0]) (y := C16 [1,1,1,0,1,0,1,1]) (o := .tmp 31) (by kernel_rfl) (by kernel_rfl) (by kernel_rfl) h2 ?_
        refine at_seq (x := C16 [1,1,1,0,1,0,1,0,0]) (y := C16 [1,1,1,0,1,0,1,0,1]) (by kernel_rfl) ?_
        refine at_region_draw (id := 6) (by kernel_rfl) (by kernel_rfl) ?_
        refine d_pure 0 33 (.pointer (some ⟨b0_1, 6, none⟩)) (by kernel_rfl) (by kernel_rfl) (by kernel_rfl) (fun _ => by kernel_rfl) ?_
        refine d_load 1 34 (.int .i64 p.state) (by kernel_rfl) (by kernel_rfl) (by kernel_rfl) (load1 (off := 6) (fun _ => by kernel_rfl) (holds_own (.there (.there (.there (.there .here))))) (by kernel_rfl)) ?_
        refine d_pure 2 35 (.pointer (some ⟨b0_1, 5, none⟩)) (by kernel_rfl) (by kernel_rfl) (by kernel_rfl) (fun _ => by kernel_rfl) ?_
        refine d_load 3 36 (.int .i64 p.ptr) (by kernel_rfl) (by kernel_rfl) (by kernel_rfl) (load1 (off := 5) (fun _ => by kernel_rfl) (holds_own (.there (.there (.there (.there .here))))) (by kernel_rfl)) ?_
        refine d_pure 4 37 (.pointer (some ⟨b0_1, 5, none⟩)) (by kernel_rfl) (by kernel_rfl) (by kernel_rfl) (fun _ => by kernel_rfl) ?_
        refine d_load 5 38 (.int .i64 p.ptr) (by kernel_rfl) (by kernel_rfl) (by kernel_rfl) (load1 (off := 5) (fun _ => by kernel_rfl) (holds_own (.there (.there (.there (.there .here))))) (by kernel_rfl)) ?_
        refine d_pure 6 39 (.pointer (some ⟨b0_1, 8, none⟩)) (by kernel_rfl) (by kernel_rfl) (by kernel_rfl) (fun _ => by kernel_rfl) ?_
        refine d_load 7 40 (.slice pa (List.length p.data) pcap) (by kernel_rfl) (by kernel_rfl) (by kernel_rfl) (load1 (off := 8) (fun _ => by kernel_rfl) (holds_own (.there (.there (.there (.there .here))))) (by kernel_rfl)) ?_
        refine d_pure 9 42 (.pointer (some ⟨b0_0, 4, none⟩)) (by kernel_rfl) (by kernel_rfl) (by kernel_rfl) (fun _ => by kernel_rfl) ?_
        obtain ⟨y6_8, hy6_8, H⟩ := bindE H
        refine d_call 8 41 [7, 6] [9, 4, 2, 0] [5, 3, 1] 41 #[.slice pa (List.length p.data) pcap] (by kernel_rfl) (by kernel_rfl) (by kernel_rfl) (fun _ => by kernel_rfl) (CloneF_tr pa pcap p.data (Reads.conv (fun w hw => hw.less (.drop .here (.drop .here (.drop .here (.drop .here (.drop .here (.drop .here (.drop .here .refl)))))))) hrpa) y6_8 hy6_8) ?_
        rintro _ _ ⟨a6_8_00, c6_8_00, rfl, rfl⟩
        refine ⟨(stable_cons 5 38 (.int .i64 p.ptr) (by kernel_rfl) (by kernel_rfl) (by kernel_rfl) (load1 (off := 5) (fun _ => by kernel_rfl) (holds_own (.there (.there (.there (.there (.there .here)))))) (by kernel_rfl)) (stable_cons 3 36 (.int .i64 p.ptr) (by kernel_rfl) (by kernel_rfl) (by kernel_rfl) (load1 (off := 5) (fun _ => by kernel_rfl) (holds_own (.there (.there (.there (.there (.there .here)))))) (by kernel_rfl)) (stable_cons 1 34 (.int .i64 p.state) (by kernel_rfl) (by kernel_rfl) (by kernel_rfl) (load1 (off := 6) (fun _ => by kernel_rfl) (holds_own (.there (.there (.there (.there (.there .here)))))) (by kernel_rfl)) stable_nil))), ?_⟩
        refine d_do 10 [9, 1, 8, 0, 7, 6] [4, 2] [5, 3] (by kernel_rfl) (by kernel_rfl) (by kernel_rfl) (st_store (off := 4) (vs := [.int .i64 p.state]) (c' := #[.int .i64 d.kind, .int .i64 d.line, .int .i64 d.id, .int .i64 d.step, .int .i64 p.state, .int .i64 d.head, .slice da (List.length d.data) dcap, .int .i64 d.next, .int .i64 d.told]) (fun _ => by kernel_rfl) (.there (.there (.there (.there (.there (.there .here)))))) (by kernel_rfl) (by kernel_rfl) (by kernel_rfl)) ?_
        rintro _ _ ⟨rfl, rfl⟩
        refine ⟨(stable_cons 5 38 (.int .i64 p.ptr) (by kernel_rfl) (by kernel_rfl) (by kernel_rfl) (load1 (off := 5) (fun _ => by kernel_rfl) (holds_own (.there (.there (.there (.there (.there (.there .here))))))) (by kernel_rfl)) (stable_cons 3 36 (.int .i64 p.ptr) (by kernel_rfl) (by kernel_rfl) (by kernel_rfl) (load1 (off := 5) (fun _ => by kernel_rfl) (holds_own (.there (.there (.there (.there (.there (.there .here))))))) (by kernel_rfl)) stable_nil)), ?_⟩
        refine d_pure 11 43 (.pointer (some ⟨b0_0, 5, none⟩)) (by kernel_rfl) (by kernel_rfl) (by kernel_rfl) (fun _ => by kernel_rfl) ?_
        refine d_do 12 [11, 3, 10, 0, 1, 2, 9, 8, 7, 6] [4] [5] (by kernel_rfl) (by kernel_rfl) (by kernel_rfl) (st_store (off := 5) (vs := [.int .i64 p.ptr]) (c' := #[.int .i64 d.kind, .int .i64 d.line, .int .i64 d.id, .int .i64 d.step, .int .i64 p.state, .int .i64 p.ptr, .slice da (List.length d.data) dcap, .int .i64 d.next, .int .i64 d.told]) (fun _ => by kernel_rfl) .here (by kernel_rfl) (by kernel_rfl) (by kernel_rfl)) ?_
        rintro _ _ ⟨rfl, rfl⟩
        refine ⟨(stable_cons 5 38 (.int .i64 p.ptr) (by kernel_rfl) (by kernel_rfl) (by kernel_rfl) (load1 (off := 5) (fun _ => by kernel_rfl) (holds_own (.there (.there (.there (.there (.there (.there .here))))))) (by kernel_rfl)) stable_nil), ?_⟩
        refine d_pure 13 44 (.pointer (some ⟨b0_0, 8, none⟩)) (by kernel_rfl) (by kernel_rfl) (by kernel_rfl) (fun _ => by kernel_rfl) ?_
        refine d_do 14 [13, 5, 12, 0, 1, 2, 3, 4, 9, 10, 11, 8, 7, 6] [] [] (by kernel_rfl) (by kernel_rfl) (by kernel_rfl) (st_store (off := 8) (vs := [.int .i64 p.ptr]) (c' := #[.int .i64 d.kind, .int .i64 d.line, .int .i64 d.id, .int .i64 d.step, .int .i64 p.state, .int .i64 p.ptr, .slice da (List.length d.data) dcap, .int .i64 d.next, .int .i64 p.ptr]) (fun _ => by kernel_rfl) .here (by kernel_rfl) (by kernel_rfl) (by kernel_rfl)) ?_
        rintro _ _ ⟨rfl, rfl⟩
        refine ⟨stable_nil, ?_⟩
        refine d_pure 15 45 (.pointer (some ⟨b0_0, 6, none⟩)) (by kernel_rfl) (by kernel_rfl) (by kernel_rfl) (fun _ => by kernel_rfl) ?_
        refine d_do 16 [15, 8, 14, 0, 1, 2, 3, 4, 5, 6, 7, 9, 10, 11, 12, 13] [] [] (by kernel_rfl) (by kernel_rfl) (by kernel_rfl) (st_store (off := 6) (vs := [.slice a6_8_00 (List.length y6_8) c6_8_00]) (c' := #[.int .i64 d.kind, .int .i64 d.line, .int .i64 d.id, .int .i64 d.step, .int .i64 p.state, .int .i64 p.ptr, .slice a6_8_00 (List.length y6_8) c6_8_00, .int .i64 d.next, .int .i64 p.ptr]) (fun _ => by kernel_rfl) .here (by kernel_rfl) (by kernel_rfl) (by kernel_rfl)) ?_
        rintro _ _ ⟨rfl, rfl⟩
        refine ⟨stable_nil, ?_⟩
        refine draw_end (by kernel_rfl) ?_
        refine At.env [(1, .int .i64 node), (2, .pointer (some ⟨c, 0, none⟩)), (4, .pointer (some ⟨b0_0, 0, none⟩)), (8, .pointer (some ⟨b0_2, 0, none⟩)), (10, .pointer (some ⟨b3_7, 0, none⟩)), (11, .bool y3_3.2)] ⟨by kernel_rfl, by kernel_rfl, by kernel_rfl, by kernel_rfl, by kernel_rfl, by kernel_rfl, trivial⟩ ?_
        refine at_then_normal ?_
        refine at_seq_join (x := C16 [1,1,1,0,1,0,1,0,1,0]) (y := C16 [1,1,1,0,1,0,1,0,1,1]) (fun ff ΔΔ => ∃ (e1_b0_0_6x : List Int) (e1_b0_0_6a : Option Addr) (e1_b0_0_6c : Nat), pnextS_j1 d p node cc e1_b0_0_6x = some y ∧ ff = [(1, .int .i64 node), (2, .pointer (some ⟨c, 0, none⟩)), (4, .pointer (some ⟨b0_0, 0, none⟩)), (8, .pointer (some ⟨b0_2, 0, none⟩))] ∧ (IntsA e1_b0_0_6a e1_b0_0_6c e1_b0_0_6x) :: (Asn.own b0_0 (.cells #[.int .i64 d.kind, .int .i64 d.line, .int .i64 d.id, .int .i64 d.step, .int .i64 p.state, .int .i64 p.ptr, .slice e1_b0_0_6a (List.length e1_b0_0_6x) e1_b0_0_6c, .int .i64 d.next, .int .i64 p.ptr] 35 (0, 0))) :: (CacheA c cc) :: (Asn.own b0_2 (.cells #[.int .i64 (0), .int .i64 (0), .int .i64 (0), .int .i64 (0), .int .i64 (0), .int .i64 (0), .slice none 0 0, .int .i64 (0), .int .i64 (0)] 35 (0, 0))) :: Γ = ΔΔ) (by kernel_rfl) ?_ ?_
        · rintro _ _ ⟨e1_b0_0_6x, e1_b0_0_6a, e1_b0_0_6c, H, rfl, rfl⟩
          rw [pnextS_j1] at H
          refine at_seq (x := C16 [1,1,1,0,1,0,1,0,1,1,0]) (y := C16 [1,1,1,0,1,0,1,0,1,1,1]) (by kernel_rfl) ?_
          refine at_region (id := 9) 4 (by kernel_rfl) (by kernel_rfl) ?_
          refine s_pure 50 (.pointer (some ⟨b0_0, 5, none⟩)) (by kernel_rfl) (by kernel_rfl) (fun _ => by kernel_rfl) ?_
          refine s_load 51 (.int .i64 p.ptr) (by kernel_rfl) (by kernel_rfl) (load1 (off := 5) (fun _ => by kernel_rfl) (holds_own (.there .here)) (by kernel_rfl)) ?_
          refine s_pure 52 (.pointer (some ⟨b0_0, 7, none⟩)) (by kernel_rfl) (by kernel_rfl) (fun _ => by kernel_rfl) ?_
          refine s_do (by kernel_rfl) (by kernel_rfl) (st_store (off := 7) (vs := [.int .i64 p.ptr]) (c' := #[.int .i64 d.kind, .int .i64 d.line, .int .i64 d.id, .int .i64 d.step, .int .i64 p.state, .int .i64 p.ptr, .slice e1_b0_0_6a (List.length e1_b0_0_6x) e1_b0_0_6c, .int .i64 p.ptr, .int .i64 p.ptr]) (fun _ => by kernel_rfl) (.there .here) (by kernel_rfl) (by kernel_rfl) (by kernel_rfl)) ?_
          rintro _ _ ⟨rfl, rfl⟩
          refine ops_end ?_
          refine At.env [(1, .int .i64 node), (2, .pointer (some ⟨c, 0, none⟩)), (4, .pointer (some ⟨b0_0, 0, none⟩)), (8, .pointer (some ⟨b0_2, 0, none⟩))] ⟨by kernel_rfl, by kernel_rfl, by kernel_rfl, by kernel_rfl, trivial⟩ ?_
          refine at_then_normal ?_
          refine at_seq (x := C16 [1,1,1,0,1,0,1,0,1,1,1,0]) (y := C16 [1,1,1,0,1,0,1,0,1,1,1,1]) (by kernel_rfl) ?_
          refine at_region (id := 10) 6 (by kernel_rfl) (by kernel_rfl) ?_
          refine s_load 53 (.agg #[.int .i64 d.kind, .int .i64 d.line, .int .i64 d.id, .int .i64 d.step, .int .i64 p.state, .int .i64 p.ptr, .slice e1_b0_0_6a (List.length e1_b0_0_6x) e1_b0_0_6c, .int .i64 p.ptr, .int .i64 p.ptr]) (by kernel_rfl) (by kernel_rfl) (loadN (off := 0) (vs := [.int .i64 d.kind, .int .i64 d.line, .int .i64 d.id, .int .i64 d.step, .int .i64 p.state, .int .i64 p.ptr, .slice e1_b0_0_6a (List.length e1_b0_0_6x) e1_b0_0_6c, .int .i64 p.ptr, .int .i64 p.ptr]) 9 (fun _ => by kernel_rfl) (holds_own .here) rfl (by exact ⟨rfl, rfl, rfl, rfl, rfl, rfl, rfl, rfl, rfl, trivial⟩)) ?_
          refine s_pure 54 (.int .i64 node) (by kernel_rfl) (by kernel_rfl) (fun _ => by kernel_rfl) ?_
          refine s_pure 55 (.pointer (some ⟨c, 0, none⟩)) (by kernel_rfl) (by kernel_rfl) (fun _ => by kernel_rfl) ?_
          obtain ⟨y10_3, hy10_3, H⟩ := bindE H
          refine s_call 56 43 #[.agg #[.int .i64 d.kind, .int .i64 d.line, .int .i64 d.id, .int .i64 d.step, .int .i64 p.state, .int .i64 p.ptr, .slice e1_b0_0_6a (List.length e1_b0_0_6x) e1_b0_0_6c, .int .i64 p.ptr, .int .i64 p.ptr], .int .i64 node, .pointer (some ⟨c, 0, none⟩)] (by kernel_rfl) (by kernel_rfl) (fun _ => by kernel_rfl) (Tr.conv (Γ' := (ImmI e1_b0_0_6a e1_b0_0_6x) :: (CacheA c cc) :: (ImmI e1_b0_0_6a e1_b0_0_6x) :: (Asn.own b0_0 (.cells #[.int .i64 d.kind, .int .i64 d.line, .int .i64 d.id, .int .i64 d.step, .int .i64 p.state, .int .i64 p.ptr, .slice e1_b0_0_6a (List.length e1_b0_0_6x) e1_b0_0_6c, .int .i64 p.ptr, .int .i64 p.ptr] 35 (0, 0))) :: (Asn.own b0_2 (.cells #[.int .i64 (0), .int .i64 (0), .int .i64 (0), .int .i64 (0), .int .i64 (0), .int .i64 (0), .slice none 0 0, .int .i64 (0), .int .i64 (0)] 35 (0, 0))) :: Γ) (fun w hw => (Sat.less (.take .here (.take (.there (.there .here)) (.take .here (.take .here (.take .here .refl))))) (ImmR.dup (Sat.less (.take .here (.take .here (.take .here (.take .here .refl)))) (RowsA.freeze (Sat.less (.take (.there .here) (.take .here (.take .here (.take .here .refl)))) hw)))))) (PWalkF_tr e1_b0_0_6a e1_b0_0_6c (⟨d.kind, d.line, d.id, d.step, p.state, p.ptr, e1_b0_0_6x, p.ptr, p.ptr⟩ : DealS) node c cc y10_3 hy10_3)) ?_
          rintro _ _ ⟨a10_3_00, c10_3_00, rfl, rfl⟩
          refine s_do (by kernel_rfl) (by kernel_rfl) (st_store (off := 0) (vs := [.int .i64 y10_3.1.kind, .int .i64 y10_3.1.line, .int .i64 y10_3.1.id, .int .i64 y10_3.1.step, .int .i64 y10_3.1.state, .int .i64 y10_3.1.head, .slice a10_3_00 (List.length y10_3.1.data) c10_3_00, .int .i64 y10_3.1.next, .int .i64 y10_3.1.told]) (c' := #[.int .i64 y10_3.1.kind, .int .i64 y10_3.1.line, .int .i64 y10_3.1.id, .int .i64 y10_3.1.step, .int .i64 y10_3.1.state, .int .i64 y10_3.1.head, .slice a10_3_00 (List.length y10_3.1.data) c10_3_00, .int .i64 y10_3.1.next, .int .i64 y10_3.1.told]) (fun _ => by kernel_rfl) (.there (.there (.there (.there .here)))) (by kernel_rfl) (by kernel_rfl) (by kernel_rfl)) ?_
          rintro _ _ ⟨rfl, rfl⟩
          refine s_pure 9 (.bool true) (by kernel_rfl) (by kernel_rfl) (fun _ => by kernel_rfl) ?_
          refine ops_end ?_
          refine At.env [(8, .pointer (some ⟨b0_2, 0, none⟩)), (9, .bool true)] ⟨by kernel_rfl, by kernel_rfl, trivial⟩ ?_
          refine at_then_normal ?_
          refine at_ret (by kernel_rfl) ?_
          refine at_in_ret ?_
          refine at_then_ret ?_
          obtain rfl := someE H
          refine at_backR [.agg #[.int .i64 y10_3.1.kind, .int .i64 y10_3.1.line, .int .i64 y10_3.1.id, .int .i64 y10_3.1.step, .int .i64 y10_3.1.state, .int .i64 y10_3.1.head, .slice a10_3_00 (List.length y10_3.1.data) c10_3_00, .int .i64 y10_3.1.next, .int .i64 y10_3.1.told], .bool true] ((ImmI a10_3_00 y10_3.1.data) :: (CacheA c y10_3.2) :: Γ) (rs := [.cell 8 35, .tmp 9]) (by kernel_rfl) (.cons (.cell (by kernel_rfl) (retN (off := 0) (vs := [.int .i64 y10_3.1.kind, .int .i64 y10_3.1.line, .int .i64 y10_3.1.id, .int .i64 y10_3.1.step, .int .i64 y10_3.1.state, .int .i64 y10_3.1.head, .slice a10_3_00 (List.length y10_3.1.data) c10_3_00, .int .i64 y10_3.1.next, .int .i64 y10_3.1.told]) 9 (fun _ => by kernel_rfl) (holds_own .here) rfl (by exact ⟨rfl, rfl, rfl, rfl, rfl, rfl, rfl, rfl, rfl, trivial⟩))) (.cons (.tmp (by kernel_rfl)) .nil)) (fun w hw => (Sat.less (.take (.there .here) (.take (.there .here) (.drop .here (.drop .here (.drop .here .refl))))) hw)) ?_
          exact ⟨a10_3_00, c10_3_00, rfl, rfl⟩
        · refine at_seq (x := C16 [1,1,1,0,1,0,1,0,1,0,0]) (y := C16 [1,1,1,0,1,0,1,0,1,0,1]) (by kernel_rfl) ?_
          refine at_region (id := 7) 1 (by kernel_rfl) (by kernel_rfl) ?_
          refine s_pure 46 (.bool y3_3.2) (by kernel_rfl) (by kernel_rfl) (fun _ => by kernel_rfl) ?_
          refine ops_end ?_
          refine At.env [(1, .int .i64 node), (2, .pointer (some ⟨c, 0, none⟩)), (4, .pointer (some ⟨b0_0, 0, none⟩)), (8, .pointer (some ⟨b0_2, 0, none⟩)), (10, .pointer (some ⟨b3_7, 0, none⟩)), (46, .bool y3_3.2)] ⟨by kernel_rfl, by kernel_rfl, by kernel_rfl, by kernel_rfl, by kernel_rfl, by kernel_rfl, trivial⟩ ?_
          refine at_then_normal ?_
          rcases Bool.eq_false_or_eq_true (y3_3.2) with h3 | h3
          · replace H := bifT H h3
            refine at_true (t := y3_3.2) (x := C16 [1,1,1,0,1,0,1,0,1,0,1,0]) (y := C16 [1,1,1,0,1,0,1,0,1,0,1,1]) (o := .tmp 46) (by kernel_rfl) (by kernel_rfl) (by kernel_rfl) h3 ?_
            refine at_region (id := 8) 4 (by kernel_rfl) (by kernel_rfl) ?_
            refine s_pure 47 (.pointer (some ⟨b3_7, 5, none⟩)) (by kernel_rfl) (by kernel_rfl) (fun _ => by kernel_rfl) ?_
            refine s_load 48 (.slice a3_3_00 (List.length y3_3.1.data) c3_3_00) (by kernel_rfl) (by kernel_rfl) (load1 (off := 5) (fun _ => by kernel_rfl) (holds_own (.there (.there .here))) (by kernel_rfl)) ?_
            refine s_pure 49 (.pointer (some ⟨b0_0, 6, none⟩)) (by kernel_rfl) (by kernel_rfl) (fun _ => by kernel_rfl) ?_
            refine s_do (by kernel_rfl) (by kernel_rfl) (st_store (off := 6) (vs := [.slice a3_3_00 (List.length y3_3.1.data) c3_3_00]) (c' := #[.int .i64 d.kind, .int .i64 d.line, .int .i64 d.id, .int .i64 d.step, .int .i64 p.state, .int .i64 p.ptr, .slice a3_3_00 (List.length y3_3.1.data) c3_3_00, .int .i64 d.next, .int .i64 p.ptr]) (fun _ => by kernel_rfl) .here (by kernel_rfl) (by kernel_rfl) (by kernel_rfl)) ?_
            rintro _ _ ⟨rfl, rfl⟩
            refine ops_end ?_
            refine At.env [(1, .int .i64 node), (2, .pointer (some ⟨c, 0, none⟩)), (4, .pointer (some ⟨b0_0, 0, none⟩)), (8, .pointer (some ⟨b0_2, 0, none⟩))] ⟨by kernel_rfl, by kernel_rfl, by kernel_rfl, by kernel_rfl, trivial⟩ ?_
            refine at_round_normal ?_
            exact at_join_mk [(1, .int .i64 node), (2, .pointer (some ⟨c, 0, none⟩)), (4, .pointer (some ⟨b0_0, 0, none⟩)), (8, .pointer (some ⟨b0_2, 0, none⟩))] ((IntsA a3_3_00 c3_3_00 y3_3.1.data) :: (Asn.own b0_0 (.cells #[.int .i64 d.kind, .int .i64 d.line, .int .i64 d.id, .int .i64 d.step, .int .i64 p.state, .int .i64 p.ptr, .slice a3_3_00 (List.length y3_3.1.data) c3_3_00, .int .i64 d.next, .int .i64 p.ptr] 35 (0, 0))) :: (CacheA c cc) :: (Asn.own b0_2 (.cells #[.int .i64 (0), .int .i64 (0), .int .i64 (0), .int .i64 (0), .int .i64 (0), .int .i64 (0), .slice none 0 0, .int .i64 (0), .int .i64 (0)] 35 (0, 0))) :: Γ) ⟨by kernel_rfl, by kernel_rfl, by kernel_rfl, by kernel_rfl, trivial⟩ (fun w hw => (Sat.less (.take (.there (.there (.there .here))) (.take .here (.take (.there (.there .here)) (.take (.there (.there .here)) (.drop .here (.drop .here (.drop .here (.drop .here .refl)))))))) hw)) ⟨y3_3.1.data, a3_3_00, c3_3_00, H, rfl, rfl⟩
          · replace H := bifF H h3
            refine at_false (t := y3_3.2) (x := C16 [1,1,1,0,1,0,1,0,1,0,1,0]) (y := C16 [1,1,1,0,1,0,1,0,1,0,1,1]) (o := .tmp 46) (by kernel_rfl) (by kernel_rfl) (by kernel_rfl) h3 ?_
            refine at_skip (by kernel_rfl) ?_
            refine at_round_normal ?_
            exact at_join_mk [(1, .int .i64 node), (2, .pointer (some ⟨c, 0, none⟩)), (4, .pointer (some ⟨b0_0, 0, none⟩)), (8, .pointer (some ⟨b0_2, 0, none⟩))] ((IntsA a6_8_00 c6_8_00 y6_8) :: (Asn.own b0_0 (.cells #[.int .i64 d.kind, .int .i64 d.line, .int .i64 d.id, .int .i64 d.step, .int .i64 p.state, .int .i64 p.ptr, .slice a6_8_00 (List.length y6_8) c6_8_00, .int .i64 d.next, .int .i64 p.ptr] 35 (0, 0))) :: (CacheA c cc) :: (Asn.own b0_2 (.cells #[.int .i64 (0), .int .i64 (0), .int .i64 (0), .int .i64 (0), .int .i64 (0), .int .i64 (0), .slice none 0 0, .int .i64 (0), .int .i64 (0)] 35 (0, 0))) :: Γ) ⟨by kernel_rfl, by kernel_rfl, by kernel_rfl, by kernel_rfl, trivial⟩ (fun w hw => (Sat.less (.take (.there .here) (.take .here (.take (.there (.there .here)) (.take (.there (.there .here)) (.drop .here (.drop .here (.drop .here (.drop .here .refl)))))))) hw)) ⟨y6_8, a6_8_00, c6_8_00, H, rfl, rfl⟩
      · replace H := bifF H h2
        refine at_false (t := decide (d.step = (1 : Int))) (x := C16 [1,1,1,0,1,0,1,0]) (y := C16 [1,1,1,0,1,0,1,1]) (o := .tmp 31) (by kernel_rfl) (by kernel_rfl) (by kernel_rfl) h2 ?_
        refine at_seq (x := C16 [1,1,1,0,1,0,1,1,0]) (y := C16 [1,1,1,0,1,0,1,1,1]) (by kernel_rfl) ?_
        refine at_region (id := 11) 2 (by kernel_rfl) (by kernel_rfl) ?_
        refine s_pure 58 (.bool (decide (d.step = (3 : Int)))) (by kernel_rfl) (by kernel_rfl) (fun _ => by kernel_rfl) ?_
        refine s_pure 57 (.bool (decide (d.step = (3 : Int)))) (by kernel_rfl) (by kernel_rfl) (fun _ => by kernel_rfl) ?_
        refine ops_end ?_
        refine At.env [(1, .int .i64 node), (2, .pointer (some ⟨c, 0, none⟩)), (4, .pointer (some ⟨b0_0, 0, none⟩)), (7, .pointer (some ⟨b0_1, 0, none⟩)), (8, .pointer (some ⟨b0_2, 0, none⟩)), (11, .bool y3_3.2), (30, .int .i64 d.step), (57, .bool (decide (d.step = (3 : Int))))] ⟨by kernel_rfl, by kernel_rfl, by kernel_rfl, by kernel_rfl, by kernel_rfl, by kernel_rfl, by kernel_rfl, by kernel_rfl, trivial⟩ ?_
        refine at_then_normal ?_
        rcases Bool.eq_false_or_eq_true (decide (d.step = (3 : Int))) with h4 | h4
        · replace H := bifT H h4
          refine at_true (t := decide (d.step = (3 : Int))) (x := C16 [1,1,1,0,1,0,1,1,1,0]) (y := C16 [1,1,1,0,1,0,1,1,1,1]) (o := .tmp 57) (by kernel_rfl) (by kernel_rfl) (by kernel_rfl) h4 ?_
          refine at_seq_join (x := C16 [1,1,1,0,1,0,1,1,1,0,0]) (y := C16 [1,1,1,0,1,0,1,1,1,0,1]) (fun ff ΔΔ => ∃ (e2_b0_0_6x : List Int) (e2_b0_0_6a : Option Addr) (e2_b0_0_6c : Nat), pnextS_j2 d p node cc e2_b0_0_6x = some y ∧ ff = [(1, .int .i64 node), (2, .pointer (some ⟨c, 0, none⟩)), (4, .pointer (some ⟨b0_0, 0, none⟩)), (7, .pointer (some ⟨b0_1, 0, none⟩)), (8, .pointer (some ⟨b0_2, 0, none⟩))] ∧ (ImmI e2_b0_0_6a e2_b0_0_6x) :: (CacheA c cc) :: (Asn.own b0_2 (.cells #[.int .i64 (0), .int .i64 (0), .int .i64 (0), .int .i64 (0), .int .i64 (0), .int .i64 (0), .slice none 0 0, .int .i64 (0), .int .i64 (0)] 35 (0, 0))) :: (Asn.own b0_1 (.cells #[.int .i64 p.kind, .int .i64 p.src, .int .i64 p.dst, .int .i64 p.id, .int .i64 p.line, .int .i64 p.ptr, .int .i64 p.state, .bool p.flag, .slice pa (List.length p.data) pcap] 40 (0, 0))) :: (Asn.own b0_0 (.cells #[.int .i64 d.kind, .int .i64 d.line, .int .i64 d.id, .int .i64 d.step, .int .i64 d.state, .int .i64 d.head, .slice e2_b0_0_6a (List.length e2_b0_0_6x) e2_b0_0_6c, .int .i64 d.next, .int .i64 d.told] 35 (0, 0))) :: Γ = ΔΔ) (by kernel_rfl) ?_ ?_
          · rintro _ _ ⟨e2_b0_0_6x, e2_b0_0_6a, e2_b0_0_6c, H, rfl, rfl⟩
            rw [pnextS_j2] at H
            refine at_seq (x := C16 [1,1,1,0,1,0,1,1,1,0,1,0]) (y := C16 [1,1,1,0,1,0,1,1,1,0,1,1]) (by kernel_rfl) ?_
            refine at_region (id := 14) 4 (by kernel_rfl) (by kernel_rfl) ?_
            refine s_pure 65 (.pointer (some ⟨b0_1, 5, none⟩)) (by kernel_rfl) (by kernel_rfl) (fun _ => by kernel_rfl) ?_
            refine s_load 66 (.int .i64 p.ptr) (by kernel_rfl) (by kernel_rfl) (load1 (off := 5) (fun _ => by kernel_rfl) (holds_own (.there (.there (.there .here)))) (by kernel_rfl)) ?_
            refine s_pure 67 (.pointer (some ⟨b0_0, 7, none⟩)) (by kernel_rfl) (by kernel_rfl) (fun _ => by kernel_rfl) ?_
            refine s_do (by kernel_rfl) (by kernel_rfl) (st_store (off := 7) (vs := [.int .i64 p.ptr]) (c' := #[.int .i64 d.kind, .int .i64 d.line, .int .i64 d.id, .int .i64 d.step, .int .i64 d.state, .int .i64 d.head, .slice e2_b0_0_6a (List.length e2_b0_0_6x) e2_b0_0_6c, .int .i64 p.ptr, .int .i64 d.told]) (fun _ => by kernel_rfl) (.there (.there (.there (.there .here)))) (by kernel_rfl) (by kernel_rfl) (by kernel_rfl)) ?_
            rintro _ _ ⟨rfl, rfl⟩
            refine ops_end ?_
            refine At.env [(1, .int .i64 node), (2, .pointer (some ⟨c, 0, none⟩)), (4, .pointer (some ⟨b0_0, 0, none⟩)), (8, .pointer (some ⟨b0_2, 0, none⟩))] ⟨by kernel_rfl, by kernel_rfl, by kernel_rfl, by kernel_rfl, trivial⟩ ?_
            refine at_then_normal ?_
            refine at_seq (x := C16 [1,1,1,0,1,0,1,1,1,0,1,1,0]) (y := C16 [1,1,1,0,1,0,1,1,1,0,1,1,1]) (by kernel_rfl) ?_
            refine at_region (id := 15) 6 (by kernel_rfl) (by kernel_rfl) ?_
            refine s_load 68 (.agg #[.int .i64 d.kind, .int .i64 d.line, .int .i64 d.id, .int .i64 d.step, .int .i64 d.state, .int .i64 d.head, .slice e2_b0_0_6a (List.length e2_b0_0_6x) e2_b0_0_6c, .int .i64 p.ptr, .int .i64 d.told]) (by kernel_rfl) (by kernel_rfl) (loadN (off := 0) (vs := [.int .i64 d.kind, .int .i64 d.line, .int .i64 d.id, .int .i64 d.step, .int .i64 d.state, .int .i64 d.head, .slice e2_b0_0_6a (List.length e2_b0_0_6x) e2_b0_0_6c, .int .i64 p.ptr, .int .i64 d.told]) 9 (fun _ => by kernel_rfl) (holds_own .here) rfl (by exact ⟨rfl, rfl, rfl, rfl, rfl, rfl, rfl, rfl, rfl, trivial⟩)) ?_
            refine s_pure 69 (.int .i64 node) (by kernel_rfl) (by kernel_rfl) (fun _ => by kernel_rfl) ?_
            refine s_pure 70 (.pointer (some ⟨c, 0, none⟩)) (by kernel_rfl) (by kernel_rfl) (fun _ => by kernel_rfl) ?_
            obtain ⟨y15_3, hy15_3, H⟩ := bindE H
            refine s_call 71 43 #[.agg #[.int .i64 d.kind, .int .i64 d.line, .int .i64 d.id, .int .i64 d.step, .int .i64 d.state, .int .i64 d.head, .slice e2_b0_0_6a (List.length e2_b0_0_6x) e2_b0_0_6c, .int .i64 p.ptr, .int .i64 d.told], .int .i64 node, .pointer (some ⟨c, 0, none⟩)] (by kernel_rfl) (by kernel_rfl) (fun _ => by kernel_rfl) (Tr.conv (Γ' := (ImmI e2_b0_0_6a e2_b0_0_6x) :: (CacheA c cc) :: (ImmI e2_b0_0_6a e2_b0_0_6x) :: (Asn.own b0_0 (.cells #[.int .i64 d.kind, .int .i64 d.line, .int .i64 d.id, .int .i64 d.step, .int .i64 d.state, .int .i64 d.head, .slice e2_b0_0_6a (List.length e2_b0_0_6x) e2_b0_0_6c, .int .i64 p.ptr, .int .i64 d.told] 35 (0, 0))) :: (Asn.own b0_2 (.cells #[.int .i64 (0), .int .i64 (0), .int .i64 (0), .int .i64 (0), .int .i64 (0), .int .i64 (0), .slice none 0 0, .int .i64 (0), .int .i64 (0)] 35 (0, 0))) :: (Asn.own b0_1 (.cells #[.int .i64 p.kind, .int .i64 p.src, .int .i64 p.dst, .int .i64 p.id, .int .i64 p.line, .int .i64 p.ptr, .int .i64 p.state, .bool p.flag, .slice pa (List.length p.data) pcap] 40 (0, 0))) :: Γ) (fun w hw => (Sat.less (.take .here (.take (.there (.there .here)) (.take .here (.take .here (.take .here (.take .here .refl)))))) (ImmR.dup (Sat.less (.take (.there .here) (.take .here (.take .here (.take .here (.take .here .refl))))) hw)))) (PWalkF_tr e2_b0_0_6a e2_b0_0_6c (⟨d.kind, d.line, d.id, d.step, d.state, d.head, e2_b0_0_6x, p.ptr, d.told⟩ : DealS) node c cc y15_3 hy15_3)) ?_
            rintro _ _ ⟨a15_3_00, c15_3_00, rfl, rfl⟩
            refine s_do (by kernel_rfl) (by kernel_rfl) (st_store (off := 0) (vs := [.int .i64 y15_3.1.kind, .int .i64 y15_3.1.line, .int .i64 y15_3.1.id, .int .i64 y15_3.1.step, .int .i64 y15_3.1.state, .int .i64 y15_3.1.head, .slice a15_3_00 (List.length y15_3.1.data) c15_3_00, .int .i64 y15_3.1.next, .int .i64 y15_3.1.told]) (c' := #[.int .i64 y15_3.1.kind, .int .i64 y15_3.1.line, .int .i64 y15_3.1.id, .int .i64 y15_3.1.step, .int .i64 y15_3.1.state, .int .i64 y15_3.1.head, .slice a15_3_00 (List.length y15_3.1.data) c15_3_00, .int .i64 y15_3.1.next, .int .i64 y15_3.1.told]) (fun _ => by kernel_rfl) (.there (.there (.there (.there .here)))) (by kernel_rfl) (by kernel_rfl) (by kernel_rfl)) ?_
            rintro _ _ ⟨rfl, rfl⟩
            refine s_pure 9 (.bool true) (by kernel_rfl) (by kernel_rfl) (fun _ => by kernel_rfl) ?_
            refine ops_end ?_
            refine At.env [(8, .pointer (some ⟨b0_2, 0, none⟩)), (9, .bool true)] ⟨by kernel_rfl, by kernel_rfl, trivial⟩ ?_
            refine at_then_normal ?_
            refine at_ret (by kernel_rfl) ?_
            refine at_in_ret ?_
            refine at_then_ret ?_
            obtain rfl := someE H
            refine at_backR [.agg #[.int .i64 y15_3.1.kind, .int .i64 y15_3.1.line, .int .i64 y15_3.1.id, .int .i64 y15_3.1.step, .int .i64 y15_3.1.state, .int .i64 y15_3.1.head, .slice a15_3_00 (List.length y15_3.1.data) c15_3_00, .int .i64 y15_3.1.next, .int .i64 y15_3.1.told], .bool true] ((ImmI a15_3_00 y15_3.1.data) :: (CacheA c y15_3.2) :: Γ) (rs := [.cell 8 35, .tmp 9]) (by kernel_rfl) (.cons (.cell (by kernel_rfl) (retN (off := 0) (vs := [.int .i64 y15_3.1.kind, .int .i64 y15_3.1.line, .int .i64 y15_3.1.id, .int .i64 y15_3.1.step, .int .i64 y15_3.1.state, .int .i64 y15_3.1.head, .slice a15_3_00 (List.length y15_3.1.data) c15_3_00, .int .i64 y15_3.1.next, .int .i64 y15_3.1.told]) 9 (fun _ => by kernel_rfl) (holds_own .here) rfl (by exact ⟨rfl, rfl, rfl, rfl, rfl, rfl, rfl, rfl, rfl, trivial⟩))) (.cons (.tmp (by kernel_rfl)) .nil)) (fun w hw => (Sat.less (.take (.there .here) (.take (.there .here) (.drop .here (.drop .here (.drop .here (.drop .here .refl)))))) hw)) ?_
            exact ⟨a15_3_00, c15_3_00, rfl, rfl⟩
          · refine at_seq (x := C16 [1,1,1,0,1,0,1,1,1,0,0,0]) (y := C16 [1,1,1,0,1,0,1,1,1,0,0,1]) (by kernel_rfl) ?_
            refine at_region (id := 12) 2 (by kernel_rfl) (by kernel_rfl) ?_
            refine s_pure 59 (.bool y3_3.2) (by kernel_rfl) (by kernel_rfl) (fun _ => by kernel_rfl) ?_
            refine s_pure 60 (.bool !y3_3.2) (by kernel_rfl) (by kernel_rfl) (fun _ => by kernel_rfl) ?_
            refine ops_end ?_
            refine At.env [(1, .int .i64 node), (2, .pointer (some ⟨c, 0, none⟩)), (4, .pointer (some ⟨b0_0, 0, none⟩)), (7, .pointer (some ⟨b0_1, 0, none⟩)), (8, .pointer (some ⟨b0_2, 0, none⟩)), (60, .bool !y3_3.2)] ⟨by kernel_rfl, by kernel_rfl, by kernel_rfl, by kernel_rfl, by kernel_rfl, by kernel_rfl, trivial⟩ ?_
            refine at_then_normal ?_
            rcases Bool.eq_false_or_eq_true (!y3_3.2) with h5 | h5
            · replace H := bifT H h5
              refine at_true (t := !y3_3.2) (x := C16 [1,1,1,0,1,0,1,1,1,0,0,1,0]) (y := C16 [1,1,1,0,1,0,1,1,1,0,0,1,1]) (o := .tmp 60) (by kernel_rfl) (by kernel_rfl) (by kernel_rfl) h5 ?_
              refine at_region (id := 13) 5 (by kernel_rfl) (by kernel_rfl) ?_
              refine s_pure 61 (.pointer (some ⟨b0_1, 8, none⟩)) (by kernel_rfl) (by kernel_rfl) (fun _ => by kernel_rfl) ?_
              refine s_load 62 (.slice pa (List.length p.data) pcap) (by kernel_rfl) (by kernel_rfl) (load1 (off := 8) (fun _ => by kernel_rfl) (holds_own (.there (.there (.there (.there .here))))) (by kernel_rfl)) ?_
              obtain ⟨y13_2, hy13_2, H⟩ := bindE H
              refine s_call 63 41 #[.slice pa (List.length p.data) pcap] (by kernel_rfl) (by kernel_rfl) (fun _ => by kernel_rfl) (CloneF_tr pa pcap p.data (Reads.conv (fun w hw => hw.less (.drop .here (.drop .here (.drop .here (.drop .here (.drop .here (.drop .here (.drop .here .refl)))))))) hrpa) y13_2 hy13_2) ?_
              rintro _ _ ⟨a13_2_00, c13_2_00, rfl, rfl⟩
              refine s_pure 64 (.pointer (some ⟨b0_0, 6, none⟩)) (by kernel_rfl) (by kernel_rfl) (fun _ => by kernel_rfl) ?_
              refine s_do (by kernel_rfl) (by kernel_rfl) (st_store (off := 6) (vs := [.slice a13_2_00 (List.length y13_2) c13_2_00]) (c' := #[.int .i64 d.kind, .int .i64 d.line, .int .i64 d.id, .int .i64 d.step, .int .i64 d.state, .int .i64 d.head, .slice a13_2_00 (List.length y13_2) c13_2_00, .int .i64 d.next, .int .i64 d.told]) (fun _ => by kernel_rfl) (.there (.there (.there (.there (.there (.there .here)))))) (by kernel_rfl) (by kernel_rfl) (by kernel_rfl)) ?_
              rintro _ _ ⟨rfl, rfl⟩
              refine ops_end ?_
              refine At.env [(1, .int .i64 node), (2, .pointer (some ⟨c, 0, none⟩)), (4, .pointer (some ⟨b0_0, 0, none⟩)), (7, .pointer (some ⟨b0_1, 0, none⟩)), (8, .pointer (some ⟨b0_2, 0, none⟩))] ⟨by kernel_rfl, by kernel_rfl, by kernel_rfl, by kernel_rfl, by kernel_rfl, trivial⟩ ?_
              refine at_round_normal ?_
              exact at_join_mk [(1, .int .i64 node), (2, .pointer (some ⟨c, 0, none⟩)), (4, .pointer (some ⟨b0_0, 0, none⟩)), (7, .pointer (some ⟨b0_1, 0, none⟩)), (8, .pointer (some ⟨b0_2, 0, none⟩))] ((ImmI a13_2_00 y13_2) :: (CacheA c cc) :: (Asn.own b0_2 (.cells #[.int .i64 (0), .int .i64 (0), .int .i64 (0), .int .i64 (0), .int .i64 (0), .int .i64 (0), .slice none 0 0, .int .i64 (0), .int .i64 (0)] 35 (0, 0))) :: (Asn.own b0_1 (.cells #[.int .i64 p.kind, .int .i64 p.src, .int .i64 p.dst, .int .i64 p.id, .int .i64 p.line, .int .i64 p.ptr, .int .i64 p.state, .bool p.flag, .slice pa (List.length p.data) pcap] 40 (0, 0))) :: (Asn.own b0_0 (.cells #[.int .i64 d.kind, .int .i64 d.line, .int .i64 d.id, .int .i64 d.step, .int .i64 d.state, .int .i64 d.head, .slice a13_2_00 (List.length y13_2) c13_2_00, .int .i64 d.next, .int .i64 d.told] 35 (0, 0))) :: Γ) ⟨by kernel_rfl, by kernel_rfl, by kernel_rfl, by kernel_rfl, by kernel_rfl, trivial⟩ (fun w hw => (Sat.less (.take .here (.take (.there (.there (.there .here))) (.take (.there (.there (.there .here))) (.take (.there (.there (.there .here))) (.take .here (.drop .here (.drop .here (.drop .here .refl)))))))) (RowsA.freeze (Sat.less (.take (.there .here) (.take .here (.take .here (.take .here (.take .here (.take .here (.take .here (.take .here .refl)))))))) hw)))) ⟨y13_2, a13_2_00, c13_2_00, H, rfl, rfl⟩
            · replace H := bifF H h5
              refine at_false (t := !y3_3.2) (x := C16 [1,1,1,0,1,0,1,1,1,0,0,1,0]) (y := C16 [1,1,1,0,1,0,1,1,1,0,0,1,1]) (o := .tmp 60) (by kernel_rfl) (by kernel_rfl) (by kernel_rfl) h5 ?_
              refine at_skip (by kernel_rfl) ?_
              refine at_round_normal ?_
              exact at_join_mk [(1, .int .i64 node), (2, .pointer (some ⟨c, 0, none⟩)), (4, .pointer (some ⟨b0_0, 0, none⟩)), (7, .pointer (some ⟨b0_1, 0, none⟩)), (8, .pointer (some ⟨b0_2, 0, none⟩))] ((ImmI da d.data) :: (CacheA c cc) :: (Asn.own b0_2 (.cells #[.int .i64 (0), .int .i64 (0), .int .i64 (0), .int .i64 (0), .int .i64 (0), .int .i64 (0), .slice none 0 0, .int .i64 (0), .int .i64 (0)] 35 (0, 0))) :: (Asn.own b0_1 (.cells #[.int .i64 p.kind, .int .i64 p.src, .int .i64 p.dst, .int .i64 p.id, .int .i64 p.line, .int .i64 p.ptr, .int .i64 p.state, .bool p.flag, .slice pa (List.length p.data) pcap] 40 (0, 0))) :: (Asn.own b0_0 (.cells #[.int .i64 d.kind, .int .i64 d.line, .int .i64 d.id, .int .i64 d.step, .int .i64 d.state, .int .i64 d.head, .slice da (List.length d.data) dcap, .int .i64 d.next, .int .i64 d.told] 35 (0, 0))) :: Γ) ⟨by kernel_rfl, by kernel_rfl, by kernel_rfl, by kernel_rfl, by kernel_rfl, trivial⟩ (fun w hw => (Sat.less (.take (.there (.there (.there (.there (.there (.there .here)))))) (.take (.there (.there .here)) (.take (.there (.there .here)) (.take (.there (.there .here)) (.take (.there (.there .here)) (.drop .here (.drop .here .refl))))))) hw)) ⟨d.data, da, dcap, H, rfl, rfl⟩
        · replace H := bifF H h4
          refine at_false (t := decide (d.step = (3 : Int))) (x := C16 [1,1,1,0,1,0,1,1,1,0]) (y := C16 [1,1,1,0,1,0,1,1,1,1]) (o := .tmp 57) (by kernel_rfl) (by kernel_rfl) (by kernel_rfl) h4 ?_
          refine at_seq (x := C16 [1,1,1,0,1,0,1,1,1,1,0]) (y := C16 [1,1,1,0,1,0,1,1,1,1,1]) (by kernel_rfl) ?_
          refine at_region (id := 16) 2 (by kernel_rfl) (by kernel_rfl) ?_
          refine s_pure 73 (.bool (decide (d.step = (6 : Int)))) (by kernel_rfl) (by kernel_rfl) (fun _ => by kernel_rfl) ?_
          refine s_pure 72 (.bool (decide (d.step = (6 : Int)))) (by kernel_rfl) (by kernel_rfl) (fun _ => by kernel_rfl) ?_
          refine ops_end ?_
          refine At.env [(4, .pointer (some ⟨b0_0, 0, none⟩)), (8, .pointer (some ⟨b0_2, 0, none⟩)), (72, .bool (decide (d.step = (6 : Int))))] ⟨by kernel_rfl, by kernel_rfl, by kernel_rfl, trivial⟩ ?_
          refine at_then_normal ?_
          rcases Bool.eq_false_or_eq_true (decide (d.step = (6 : Int))) with h6 | h6
          · replace H := bifT H h6
            refine at_true (t := decide (d.step = (6 : Int))) (x := C16 [1,1,1,0,1,0,1,1,1,1,1,0]) (y := C16 [1,1,1,0,1,0,1,1,1,1,1,1]) (o := .tmp 72) (by kernel_rfl) (by kernel_rfl) (by kernel_rfl) h6 ?_
            refine at_seq (x := C16 [1,1,1,0,1,0,1,1,1,1,1,0,0]) (y := C16 [1,1,1,0,1,0,1,1,1,1,1,0,1]) (by kernel_rfl) ?_
            refine at_region (id := 17) 2 (by kernel_rfl) (by kernel_rfl) ?_
            refine s_pure 74 (.pointer (some ⟨b0_0, 3, none⟩)) (by kernel_rfl) (by kernel_rfl) (fun _ => by kernel_rfl) ?_
            refine s_do (by kernel_rfl) (by kernel_rfl) (st_store (off := 3) (vs := [.int .i64 (0)]) (c' := #[.int .i64 d.kind, .int .i64 d.line, .int .i64 d.id, .int .i64 (0), .int .i64 d.state, .int .i64 d.head, .slice da (List.length d.data) dcap, .int .i64 d.next, .int .i64 d.told]) (fun _ => by kernel_rfl) (.there (.there (.there (.there (.there .here))))) (by kernel_rfl) (by kernel_rfl) (by kernel_rfl)) ?_
            rintro _ _ ⟨rfl, rfl⟩
            refine ops_end ?_
            refine At.env [(4, .pointer (some ⟨b0_0, 0, none⟩)), (8, .pointer (some ⟨b0_2, 0, none⟩))] ⟨by kernel_rfl, by kernel_rfl, trivial⟩ ?_
            refine at_then_normal ?_
            refine at_seq (x := C16 [1,1,1,0,1,0,1,1,1,1,1,0,1,0]) (y := C16 [1,1,1,0,1,0,1,1,1,1,1,0,1,1]) (by kernel_rfl) ?_
            refine at_region (id := 18) 3 (by kernel_rfl) (by kernel_rfl) ?_
            refine s_load 75 (.agg #[.int .i64 d.kind, .int .i64 d.line, .int .i64 d.id, .int .i64 (0), .int .i64 d.state, .int .i64 d.head, .slice da (List.length d.data) dcap, .int .i64 d.next, .int .i64 d.told]) (by kernel_rfl) (by kernel_rfl) (loadN (off := 0) (vs := [.int .i64 d.kind, .int .i64 d.line, .int .i64 d.id, .int .i64 (0), .int .i64 d.state, .int .i64 d.head, .slice da (List.length d.data) dcap, .int .i64 d.next, .int .i64 d.told]) 9 (fun _ => by kernel_rfl) (holds_own .here) rfl (by exact ⟨rfl, rfl, rfl, rfl, rfl, rfl, rfl, rfl, rfl, trivial⟩)) ?_
            refine s_do (by kernel_rfl) (by kernel_rfl) (st_store (off := 0) (vs := [.int .i64 d.kind, .int .i64 d.line, .int .i64 d.id, .int .i64 (0), .int .i64 d.state, .int .i64 d.head, .slice da (List.length d.data) dcap, .int .i64 d.next, .int .i64 d.told]) (c' := #[.int .i64 d.kind, .int .i64 d.line, .int .i64 d.id, .int .i64 (0), .int .i64 d.state, .int .i64 d.head, .slice da (List.length d.data) dcap, .int .i64 d.next, .int .i64 d.told]) (fun _ => by kernel_rfl) (.there (.there (.there (.there .here)))) (by kernel_rfl) (by kernel_rfl) (by kernel_rfl)) ?_
            rintro _ _ ⟨rfl, rfl⟩
            refine s_pure 9 (.bool true) (by kernel_rfl) (by kernel_rfl) (fun _ => by kernel_rfl) ?_
            refine ops_end ?_
            refine At.env [(8, .pointer (some ⟨b0_2, 0, none⟩)), (9, .bool true)] ⟨by kernel_rfl, by kernel_rfl, trivial⟩ ?_
            refine at_then_normal ?_
            refine at_ret (by kernel_rfl) ?_
            refine at_in_ret ?_
            refine at_then_ret ?_
            obtain rfl := someE H
            refine at_backR [.agg #[.int .i64 d.kind, .int .i64 d.line, .int .i64 d.id, .int .i64 (0), .int .i64 d.state, .int .i64 d.head, .slice da (List.length d.data) dcap, .int .i64 d.next, .int .i64 d.told], .bool true] ((ImmI da d.data) :: (CacheA c cc) :: Γ) (rs := [.cell 8 35, .tmp 9]) (by kernel_rfl) (.cons (.cell (by kernel_rfl) (retN (off := 0) (vs := [.int .i64 d.kind, .int .i64 d.line, .int .i64 d.id, .int .i64 (0), .int .i64 d.state, .int .i64 d.head, .slice da (List.length d.data) dcap, .int .i64 d.next, .int .i64 d.told]) 9 (fun _ => by kernel_rfl) (holds_own .here) rfl (by exact ⟨rfl, rfl, rfl, rfl, rfl, rfl, rfl, rfl, rfl, trivial⟩))) (.cons (.tmp (by kernel_rfl)) .nil)) (fun w hw => (Sat.less (.take (.there (.there (.there (.there (.there (.there .here)))))) (.take (.there (.there (.there (.there .here)))) (.drop .here (.drop .here (.drop .here (.drop .here (.drop .here .refl))))))) hw)) ?_
            exact ⟨da, dcap, rfl, rfl⟩
          · replace H := bifF H h6
            refine at_false (t := decide (d.step = (6 : Int))) (x := C16 [1,1,1,0,1,0,1,1,1,1,1,0]) (y := C16 [1,1,1,0,1,0,1,1,1,1,1,1]) (o := .tmp 72) (by kernel_rfl) (by kernel_rfl) (by kernel_rfl) h6 ?_
            refine at_skip (by kernel_rfl) ?_
            refine at_in_normal ?_
            refine at_then_normal ?_
            refine at_seq (x := C16 [1,1,1,1,0]) (y := C16 [1,1,1,1,1]) (by kernel_rfl) ?_
            refine at_region (id := 19) 3 (by kernel_rfl) (by kernel_rfl) ?_
            refine s_pure 76 (.agg #[.int .i64 (0), .int .i64 (0), .int .i64 (0), .int .i64 (0), .int .i64 (0), .int .i64 (0), .slice none 0 0, .int .i64 (0), .int .i64 (0)]) (by kernel_rfl) (by kernel_rfl) (fun _ => by kernel_rfl) ?_
            refine s_do (by kernel_rfl) (by kernel_rfl) (st_store (off := 0) (vs := [.int .i64 (0), .int .i64 (0), .int .i64 (0), .int .i64 (0), .int .i64 (0), .int .i64 (0), .slice none 0 0, .int .i64 (0), .int .i64 (0)]) (c' := #[.int .i64 (0), .int .i64 (0), .int .i64 (0), .int .i64 (0), .int .i64 (0), .int .i64 (0), .slice none 0 0, .int .i64 (0), .int .i64 (0)]) (fun _ => by kernel_rfl) (.there (.there (.there .here))) (by kernel_rfl) (by kernel_rfl) (by kernel_rfl)) ?_
            rintro _ _ ⟨rfl, rfl⟩
            refine s_pure 9 (.bool false) (by kernel_rfl) (by kernel_rfl) (fun _ => by kernel_rfl) ?_
            refine ops_end ?_
            refine At.env [(8, .pointer (some ⟨b0_2, 0, none⟩)), (9, .bool false)] ⟨by kernel_rfl, by kernel_rfl, trivial⟩ ?_
            refine at_then_normal ?_
            refine at_ret (by kernel_rfl) ?_
            obtain rfl := someE H
            refine at_backR [.agg #[.int .i64 (0), .int .i64 (0), .int .i64 (0), .int .i64 (0), .int .i64 (0), .int .i64 (0), .slice none 0 0, .int .i64 (0), .int .i64 (0)], .bool false] ((ImmI none ([] : List Int)) :: (CacheA c cc) :: Γ) (rs := [.cell 8 35, .tmp 9]) (by kernel_rfl) (.cons (.cell (by kernel_rfl) (retN (off := 0) (vs := [.int .i64 (0), .int .i64 (0), .int .i64 (0), .int .i64 (0), .int .i64 (0), .int .i64 (0), .slice none 0 0, .int .i64 (0), .int .i64 (0)]) 9 (fun _ => by kernel_rfl) (holds_own .here) rfl (by exact ⟨rfl, rfl, rfl, rfl, rfl, rfl, rfl, rfl, rfl, trivial⟩))) (.cons (.tmp (by kernel_rfl)) .nil)) (fun w hw => (Sat.less (.take .here (.take (.there (.there (.there .here))) (.drop .here (.drop .here (.drop .here (.drop .here (.drop .here (.drop .here .refl)))))))) (ImmR.nil_mk (k := 1) (a := none) hw))) ?_
            exact ⟨none, 0, rfl, rfl⟩
  · refine at_region (id := 1) 9 (by kernel_rfl) (by kernel_rfl) ?_
    refine s_pure 12 (.pointer (some ⟨b0_0, 0, none⟩)) (by kernel_rfl) (by kernel_rfl) (fun _ => by kernel_rfl) ?_
    refine s_load 13 (.int .i64 d.kind) (by kernel_rfl) (by kernel_rfl) (load1 (off := 0) (fun _ => by kernel_rfl) (holds_own (.there (.there .here))) (by kernel_rfl)) ?_
    refine s_pure 14 (.bool (!(decide (d.kind = (2 : Int))))) (by kernel_rfl) (by kernel_rfl) (fun _ => by kernel_rfl) ?_
    rcases Bool.eq_false_or_eq_true (!(decide (d.kind = (2 : Int)))) with h7 | h7
    · replace H := bifT H h7
      refine s_pure 15 (.bool true) (by kernel_rfl) (by kernel_rfl) (run_eq (v := .bool (!(decide (d.kind = (2 : Int))))) (fun _ => by kernel_rfl) (congrArg Value.bool h7)) ?_
      refine s_pass 16 (by kernel_rfl) (by kernel_rfl) ?_
      refine s_pass 17 (by kernel_rfl) (by kernel_rfl) ?_
      refine s_pass 18 (by kernel_rfl) (by kernel_rfl) ?_
      refine s_pass 19 (by kernel_rfl) (by kernel_rfl) ?_
      refine s_pure 20 (.bool true) (by kernel_rfl) (by kernel_rfl) (fun _ => by kernel_rfl) ?_
      refine ops_end ?_
      refine At.env [(1, .int .i64 node), (2, .pointer (some ⟨c, 0, none⟩)), (4, .pointer (some ⟨b0_0, 0, none⟩)), (7, .pointer (some ⟨b0_1, 0, none⟩)), (8, .pointer (some ⟨b0_2, 0, none⟩)), (20, .bool true)] ⟨by kernel_rfl, by kernel_rfl, by kernel_rfl, by kernel_rfl, by kernel_rfl, by kernel_rfl, trivial⟩ ?_
      refine at_round_normal ?_
      exact at_join_mk [(1, .int .i64 node), (2, .pointer (some ⟨c, 0, none⟩)), (4, .pointer (some ⟨b0_0, 0, none⟩)), (7, .pointer (some ⟨b0_1, 0, none⟩)), (8, .pointer (some ⟨b0_2, 0, none⟩)), (20, .bool true)] ((Asn.own b0_2 (.cells #[.int .i64 (0), .int .i64 (0), .int .i64 (0), .int .i64 (0), .int .i64 (0), .int .i64 (0), .slice none 0 0, .int .i64 (0), .int .i64 (0)] 35 (0, 0))) :: (Asn.own b0_1 (.cells #[.int .i64 p.kind, .int .i64 p.src, .int .i64 p.dst, .int .i64 p.id, .int .i64 p.line, .int .i64 p.ptr, .int .i64 p.state, .bool p.flag, .slice pa (List.length p.data) pcap] 40 (0, 0))) :: (Asn.own b0_0 (.cells #[.int .i64 d.kind, .int .i64 d.line, .int .i64 d.id, .int .i64 d.step, .int .i64 d.state, .int .i64 d.head, .slice da (List.length d.data) dcap, .int .i64 d.next, .int .i64 d.told] 35 (0, 0))) :: (ImmI da d.data) :: (CacheA c cc) :: Γ) ⟨by kernel_rfl, by kernel_rfl, by kernel_rfl, by kernel_rfl, by kernel_rfl, by kernel_rfl, trivial⟩ (fun w hw => (Sat.less (.take .here (.take .here (.take .here (.take .here (.take .here .refl))))) hw)) ⟨true, H, rfl, rfl⟩
    · replace H := bifF H h7
      refine s_pure 15 (.bool false) (by kernel_rfl) (by kernel_rfl) (run_eq (v := .bool (!(decide (d.kind = (2 : Int))))) (fun _ => by kernel_rfl) (congrArg Value.bool h7)) ?_
      refine s_load 16 (.agg #[.int .i64 d.kind, .int .i64 d.line, .int .i64 d.id, .int .i64 d.step, .int .i64 d.state, .int .i64 d.head, .slice da (List.length d.data) dcap, .int .i64 d.next, .int .i64 d.told]) (by kernel_rfl) (by kernel_rfl) (loadN (off := 0) (vs := [.int .i64 d.kind, .int .i64 d.line, .int .i64 d.id, .int .i64 d.step, .int .i64 d.state, .int .i64 d.head, .slice da (List.length d.data) dcap, .int .i64 d.next, .int .i64 d.told]) 9 (fun _ => by kernel_rfl) (holds_own (.there (.there .here))) rfl (by exact ⟨rfl, rfl, rfl, rfl, rfl, rfl, rfl, rfl, rfl, trivial⟩)) ?_
      refine s_load 17 (.agg #[.int .i64 p.kind, .int .i64 p.src, .int .i64 p.dst, .int .i64 p.id, .int .i64 p.line, .int .i64 p.ptr, .int .i64 p.state, .bool p.flag, .slice pa (List.length p.data) pcap]) (by kernel_rfl) (by kernel_rfl) (loadN (off := 0) (vs := [.int .i64 p.kind, .int .i64 p.src, .int .i64 p.dst, .int .i64 p.id, .int .i64 p.line, .int .i64 p.ptr, .int .i64 p.state, .bool p.flag, .slice pa (List.length p.data) pcap]) 9 (fun _ => by kernel_rfl) (holds_own (.there .here)) rfl (by exact ⟨rfl, rfl, rfl, rfl, rfl, rfl, rfl, rfl, rfl, trivial⟩)) ?_
      obtain ⟨y1_6, hy1_6, H⟩ := bindE H
      refine s_call 18 42 #[.agg #[.int .i64 d.kind, .int .i64 d.line, .int .i64 d.id, .int .i64 d.step, .int .i64 d.state, .int .i64 d.head, .slice da (List.length d.data) dcap, .int .i64 d.next, .int .i64 d.told], .agg #[.int .i64 p.kind, .int .i64 p.src, .int .i64 p.dst, .int .i64 p.id, .int .i64 p.line, .int .i64 p.ptr, .int .i64 p.state, .bool p.flag, .slice pa (List.length p.data) pcap]] (by kernel_rfl) (by kernel_rfl) (fun _ => by kernel_rfl) (DFitsF_tr da dcap d pa pcap p (ImmR.reads (k := 1) (.there (.there (.there .here)))) (Reads.conv (fun w hw => hw.less (.drop .here (.drop .here (.drop .here (.drop .here (.drop .here .refl)))))) hrpa) y1_6 hy1_6) ?_
      rintro _ _ ⟨rfl, rfl⟩
      refine s_pure 19 (.bool !y1_6) (by kernel_rfl) (by kernel_rfl) (fun _ => by kernel_rfl) ?_
      refine s_pure 20 (.bool !y1_6) (by kernel_rfl) (by kernel_rfl) (fun _ => by kernel_rfl) ?_
      refine ops_end ?_
      refine At.env [(1, .int .i64 node), (2, .pointer (some ⟨c, 0, none⟩)), (4, .pointer (some ⟨b0_0, 0, none⟩)), (7, .pointer (some ⟨b0_1, 0, none⟩)), (8, .pointer (some ⟨b0_2, 0, none⟩)), (20, .bool !y1_6)] ⟨by kernel_rfl, by kernel_rfl, by kernel_rfl, by kernel_rfl, by kernel_rfl, by kernel_rfl, trivial⟩ ?_
      refine at_round_normal ?_
      exact at_join_mk [(1, .int .i64 node), (2, .pointer (some ⟨c, 0, none⟩)), (4, .pointer (some ⟨b0_0, 0, none⟩)), (7, .pointer (some ⟨b0_1, 0, none⟩)), (8, .pointer (some ⟨b0_2, 0, none⟩)), (20, .bool !y1_6)] ((Asn.own b0_2 (.cells #[.int .i64 (0), .int .i64 (0), .int .i64 (0), .int .i64 (0), .int .i64 (0), .int .i64 (0), .slice none 0 0, .int .i64 (0), .int .i64 (0)] 35 (0, 0))) :: (Asn.own b0_1 (.cells #[.int .i64 p.kind, .int .i64 p.src, .int .i64 p.dst, .int .i64 p.id, .int .i64 p.line, .int .i64 p.ptr, .int .i64 p.state, .bool p.flag, .slice pa (List.length p.data) pcap] 40 (0, 0))) :: (Asn.own b0_0 (.cells #[.int .i64 d.kind, .int .i64 d.line, .int .i64 d.id, .int .i64 d.step, .int .i64 d.state, .int .i64 d.head, .slice da (List.length d.data) dcap, .int .i64 d.next, .int .i64 d.told] 35 (0, 0))) :: (ImmI da d.data) :: (CacheA c cc) :: Γ) ⟨by kernel_rfl, by kernel_rfl, by kernel_rfl, by kernel_rfl, by kernel_rfl, by kernel_rfl, trivial⟩ (fun w hw => (Sat.less (.take .here (.take .here (.take .here (.take .here (.take .here .refl))))) hw)) ⟨!y1_6, H, rfl, rfl⟩
def wakes15S : Option (Bool) :=
  (bothNilS).bind fun y1_0 => (dbeginS (2 : Int) (1 : Int) (0 : Int)).bind fun y4_0 => letP ([7] : List Int) fun l4_2 => (pnextS y4_0 (2 : Int) y1_0.1 (⟨7, 0, 0, 0, 1, (-1), 0, false, l4_2⟩ : PktS)).bind fun y4_4 => (findS y4_4.2.2 (1 : Int)).bind fun y5_1 => (bif y4_4.2.1 then (bif decide (y4_4.1.step = (6 : Int)) then (bif decide (y4_4.1.state = (2 : Int)) then (bif decide (y4_4.1.head = (2 : Int)) then (bif y5_1.2 then (bif y5_1.1.dirty then (lonlyS (⟨y5_1.1.fwd, y5_1.1.back⟩ : LinkS)).bind fun y6_26 => (bif y6_26 then (ewordS y5_1.1 (0 : Int)).bind fun y6_30 => some (decide (y6_30 = (7 : Int))) else some false) else some false) else some false) else some false) else some false) else some false) else some false)
noncomputable def C21 (p : List Nat) : Code := codeAt (bodyOf Try.f21) p
set_option maxRecDepth 100000 in
set_option maxHeartbeats 8000000 in
theorem W15F_tr {W0 : World} {Γ : List Asn}   (y : Bool) (H : wakes15S = some y) : Tr Try.prog 21 #[] W0 (Γ) (fun r Δ => r = .bool y ∧ Δ = Γ) := by
  unfold wakes15S at H
  refine Tr.enter (fn := Try.f21) (c := C21 []) (args := []) 59 Try.func21 (by kernel_rfl) (by kernel_rfl) ?_
  refine At.env [] trivial ?_
  refine at_seq (x := C21 [0]) (y := C21 [1]) (by kernel_rfl) ?_
  refine at_region (id := 0) 1 (by kernel_rfl) (by kernel_rfl) ?_
  refine s_pure 0 (.bool false) (by kernel_rfl) (by kernel_rfl) (fun _ => by kernel_rfl) ?_
  refine ops_end ?_
  refine At.env [] trivial ?_
  refine at_then_normal ?_
  refine at_seq (x := C21 [1,0]) (y := C21 [1,1]) (by kernel_rfl) ?_
  refine at_region (id := 1) 6 (by kernel_rfl) (by kernel_rfl) ?_
  obtain ⟨y1_0, hy1_0, H⟩ := bindE H
  refine s_call 8 13 #[.slice none 0 0, .slice none 0 0, .slice none 0 0] (by kernel_rfl) (by kernel_rfl) (fun _ => by kernel_rfl) (BothNilF_tr  y1_0 hy1_0) ?_
  rintro _ _ ⟨b1_0_0, b1_0_1, rfl, rfl⟩
  refine s_pure 7 (.tuple #[.pointer (some ⟨b1_0_0, 0, none⟩), .pointer (some ⟨b1_0_1, 0, none⟩)]) (by kernel_rfl) (by kernel_rfl) (fun _ => by kernel_rfl) ?_
  refine s_pure 9 (.pointer (some ⟨b1_0_0, 0, none⟩)) (by kernel_rfl) (by kernel_rfl) (fun _ => by kernel_rfl) ?_
  refine s_pure 10 (.pointer (some ⟨b1_0_1, 0, none⟩)) (by kernel_rfl) (by kernel_rfl) (fun _ => by kernel_rfl) ?_
  refine s_pure 1 (.pointer (some ⟨b1_0_0, 0, none⟩)) (by kernel_rfl) (by kernel_rfl) (fun _ => by kernel_rfl) ?_
  refine s_pure 2 (.pointer (some ⟨b1_0_1, 0, none⟩)) (by kernel_rfl) (by kernel_rfl) (fun _ => by kernel_rfl) ?_
  refine ops_end ?_
  refine At.env [(1, .pointer (some ⟨b1_0_0, 0, none⟩))] ⟨by kernel_rfl, trivial⟩ ?_
  refine at_then_normal ?_
  refine at_seq (x := C21 [1,1,0]) (y := C21 [1,1,1]) (by kernel_rfl) ?_
  refine at_seq (x := C21 [1,1,0,0]) (y := C21 [1,1,0,1]) (by kernel_rfl) ?_
  refine at_region (id := 2) 2 (by kernel_rfl) (by kernel_rfl) ?_
  refine s_pure 11 (.pointer (some ⟨b1_0_0, 0, none⟩)) (by kernel_rfl) (by kernel_rfl) (fun _ => by kernel_rfl) ?_
  refine s_pure 12 (.bool false) (by kernel_rfl) (by kernel_rfl) (fun _ => by kernel_rfl) ?_
  refine ops_end ?_
  refine At.env [(1, .pointer (some ⟨b1_0_0, 0, none⟩)), (12, .bool false)] ⟨by kernel_rfl, by kernel_rfl, trivial⟩ ?_
  refine at_then_normal ?_
  refine at_false (t := false) (x := C21 [1,1,0,1,0]) (y := C21 [1,1,0,1,1]) (o := .tmp 12) (by kernel_rfl) (by kernel_rfl) (by kernel_rfl) rfl ?_
  refine at_skip (by kernel_rfl) ?_
  refine at_then_normal ?_
  refine at_seq (x := C21 [1,1,1,0]) (y := C21 [1,1,1,1]) (by kernel_rfl) ?_
  refine at_region (id := 4) 11 (by kernel_rfl) (by kernel_rfl) ?_
  obtain ⟨y4_0, hy4_0, H⟩ := bindE H
  refine s_call 14 17 #[.int .i64 (2), .int .i64 (1), .int .i64 (0)] (by kernel_rfl) (by kernel_rfl) (fun _ => by kernel_rfl) (DBeginF_tr (2 : Int) (1 : Int) (0 : Int) y4_0 hy4_0) ?_
  rintro _ _ ⟨a4_0_00, c4_0_00, rfl, rfl⟩
  refine s_pure 15 (.pointer (some ⟨b1_0_0, 0, none⟩)) (by kernel_rfl) (by kernel_rfl) (fun _ => by kernel_rfl) ?_
  obtain ⟨l4_2, hl4_2, H⟩ := letE H
  refine s_step 16 (by kernel_rfl) (by kernel_rfl) (st_new_ints (T := 3) (xs := l4_2) 1 hl4_2 (fun _ => by kernel_rfl) (by kernel_rfl)) ?_
  rintro _ _ ⟨b4_2, rfl, rfl⟩
  refine s_pure 17 (.agg #[.int .i64 (7), .int .i64 (0), .int .i64 (0), .int .i64 (0), .int .i64 (1), .int .i64 (-1), .int .i64 (0), .bool false, .slice (some ⟨b4_2, 0, none⟩) (List.length l4_2) 1]) (by kernel_rfl) (by kernel_rfl) (fun _ => by kernel_rfl) ?_
  obtain ⟨y4_4, hy4_4, H⟩ := bindE H
  refine s_call 18 16 #[.agg #[.int .i64 y4_0.kind, .int .i64 y4_0.line, .int .i64 y4_0.id, .int .i64 y4_0.step, .int .i64 y4_0.state, .int .i64 y4_0.head, .slice a4_0_00 (List.length y4_0.data) c4_0_00, .int .i64 y4_0.next, .int .i64 y4_0.told], .int .i64 (2), .pointer (some ⟨b1_0_0, 0, none⟩), .agg #[.int .i64 (7), .int .i64 (0), .int .i64 (0), .int .i64 (0), .int .i64 (1), .int .i64 (-1), .int .i64 (0), .bool false, .slice (some ⟨b4_2, 0, none⟩) (List.length l4_2) 1]] (by kernel_rfl) (by kernel_rfl) (fun _ => by kernel_rfl) (Tr.conv (Γ' := (ImmI a4_0_00 y4_0.data) :: (CacheA b1_0_0 y1_0.1) :: (ImmI a4_0_00 y4_0.data) :: (IntsA (some ⟨b4_2, 0, none⟩) 1 l4_2) :: (RCacheA b1_0_1 y1_0.2) :: Γ) (fun w hw => (Sat.less (.take .here (.take (.there (.there .here)) (.take .here (.take .here (.take .here .refl))))) (ImmR.dup (Sat.less (.take (.there .here) (.take .here (.take .here (.take .here .refl)))) hw)))) (PNextF_tr a4_0_00 c4_0_00 y4_0 (2 : Int) b1_0_0 y1_0.1 (some ⟨b4_2, 0, none⟩) 1 (⟨7, 0, 0, 0, 1, (-1), 0, false, l4_2⟩ : PktS) (RowsA.reads (k := 1) (.there .here)) y4_4 hy4_4)) ?_
  rintro _ _ ⟨a4_4_00, c4_4_00, rfl, rfl⟩
  refine s_pure 13 (.tuple #[.agg #[.int .i64 y4_4.1.kind, .int .i64 y4_4.1.line, .int .i64 y4_4.1.id, .int .i64 y4_4.1.step, .int .i64 y4_4.1.state, .int .i64 y4_4.1.head, .slice a4_4_00 (List.length y4_4.1.data) c4_4_00, .int .i64 y4_4.1.next, .int .i64 y4_4.1.told], .bool y4_4.2.1]) (by kernel_rfl) (by kernel_rfl) (fun _ => by kernel_rfl) ?_
  refine s_pure 19 (.agg #[.int .i64 y4_4.1.kind, .int .i64 y4_4.1.line, .int .i64 y4_4.1.id, .int .i64 y4_4.1.step, .int .i64 y4_4.1.state, .int .i64 y4_4.1.head, .slice a4_4_00 (List.length y4_4.1.data) c4_4_00, .int .i64 y4_4.1.next, .int .i64 y4_4.1.told]) (by kernel_rfl) (by kernel_rfl) (fun _ => by kernel_rfl) ?_
  refine s_pure 20 (.bool y4_4.2.1) (by kernel_rfl) (by kernel_rfl) (fun _ => by kernel_rfl) ?_
  refine s_step 3 (by kernel_rfl) (by kernel_rfl) (st_new (T := 35) (cells := #[.int .i64 (0), .int .i64 (0), .int .i64 (0), .int .i64 (0), .int .i64 (0), .int .i64 (0), .slice none 0 0, .int .i64 (0), .int .i64 (0)]) (fun a => .pointer (some a)) (fun _ => by kernel_rfl)) ?_
  rintro _ _ ⟨b4_8, rfl, rfl⟩
  refine s_do (by kernel_rfl) (by kernel_rfl) (st_store (off := 0) (vs := [.int .i64 y4_4.1.kind, .int .i64 y4_4.1.line, .int .i64 y4_4.1.id, .int .i64 y4_4.1.step, .int .i64 y4_4.1.state, .int .i64 y4_4.1.head, .slice a4_4_00 (List.length y4_4.1.data) c4_4_00, .int .i64 y4_4.1.next, .int .i64 y4_4.1.told]) (c' := #[.int .i64 y4_4.1.kind, .int .i64 y4_4.1.line, .int .i64 y4_4.1.id, .int .i64 y4_4.1.step, .int .i64 y4_4.1.state, .int .i64 y4_4.1.head, .slice a4_4_00 (List.length y4_4.1.data) c4_4_00, .int .i64 y4_4.1.next, .int .i64 y4_4.1.told]) (fun _ => by kernel_rfl) .here (by kernel_rfl) (by kernel_rfl) (by kernel_rfl)) ?_
  rintro _ _ ⟨rfl, rfl⟩
  refine s_pure 4 (.bool y4_4.2.1) (by kernel_rfl) (by kernel_rfl) (fun _ => by kernel_rfl) ?_
  refine ops_end ?_
  refine At.env [(1, .pointer (some ⟨b1_0_0, 0, none⟩)), (3, .pointer (some ⟨b4_8, 0, none⟩)), (4, .bool y4_4.2.1)] ⟨by kernel_rfl, by kernel_rfl, by kernel_rfl, trivial⟩ ?_
  refine at_then_normal ?_
  refine at_seq (x := C21 [1,1,1,1,0]) (y := C21 [1,1,1,1,1]) (by kernel_rfl) ?_
  refine at_region (id := 5) 8 (by kernel_rfl) (by kernel_rfl) ?_
  refine s_pure 22 (.pointer (some ⟨b1_0_0, 0, none⟩)) (by kernel_rfl) (by kernel_rfl) (fun _ => by kernel_rfl) ?_
  obtain ⟨y5_1, hy5_1, H⟩ := bindE H
  refine s_call 23 18 #[.pointer (some ⟨b1_0_0, 0, none⟩), .int .i64 (1)] (by kernel_rfl) (by kernel_rfl) (fun _ => by kernel_rfl) (Tr.conv (Γ' := (CacheA b1_0_0 y4_4.2.2) :: (Asn.own b4_8 (.cells #[.int .i64 y4_4.1.kind, .int .i64 y4_4.1.line, .int .i64 y4_4.1.id, .int .i64 y4_4.1.step, .int .i64 y4_4.1.state, .int .i64 y4_4.1.head, .slice a4_4_00 (List.length y4_4.1.data) c4_4_00, .int .i64 y4_4.1.next, .int .i64 y4_4.1.told] 35 (0, 0))) :: (ImmI a4_4_00 y4_4.1.data) :: (ImmI a4_0_00 y4_0.data) :: (IntsA (some ⟨b4_2, 0, none⟩) 1 l4_2) :: (RCacheA b1_0_1 y1_0.2) :: Γ) (fun w hw => (Sat.less (.take (.there (.there .here)) (.take .here (.take .here (.take .here (.take .here (.take .here .refl)))))) hw)) (FindF_tr b1_0_0 y4_4.2.2 (1 : Int) y5_1 hy5_1)) ?_
  rintro _ _ ⟨a5_1_00, c5_1_00, rfl, rfl⟩
  refine s_pure 21 (.tuple #[.agg #[.int .i64 y5_1.1.fwd, .int .i64 y5_1.1.back, .int .i64 y5_1.1.line, .int .i64 y5_1.1.used, .bool y5_1.1.dirty, .slice a5_1_00 (List.length y5_1.1.data) c5_1_00], .bool y5_1.2]) (by kernel_rfl) (by kernel_rfl) (fun _ => by kernel_rfl) ?_
  refine s_pure 24 (.agg #[.int .i64 y5_1.1.fwd, .int .i64 y5_1.1.back, .int .i64 y5_1.1.line, .int .i64 y5_1.1.used, .bool y5_1.1.dirty, .slice a5_1_00 (List.length y5_1.1.data) c5_1_00]) (by kernel_rfl) (by kernel_rfl) (fun _ => by kernel_rfl) ?_
  refine s_pure 25 (.bool y5_1.2) (by kernel_rfl) (by kernel_rfl) (fun _ => by kernel_rfl) ?_
  refine s_step 5 (by kernel_rfl) (by kernel_rfl) (st_new (T := 32) (cells := #[.int .i64 (0), .int .i64 (0), .int .i64 (0), .int .i64 (0), .bool false, .slice none 0 0]) (fun a => .pointer (some a)) (fun _ => by kernel_rfl)) ?_
  rintro _ _ ⟨b5_5, rfl, rfl⟩
  refine s_do (by kernel_rfl) (by kernel_rfl) (st_store (off := 0) (vs := [.int .i64 y5_1.1.fwd, .int .i64 y5_1.1.back, .int .i64 y5_1.1.line, .int .i64 y5_1.1.used, .bool y5_1.1.dirty, .slice a5_1_00 (List.length y5_1.1.data) c5_1_00]) (c' := #[.int .i64 y5_1.1.fwd, .int .i64 y5_1.1.back, .int .i64 y5_1.1.line, .int .i64 y5_1.1.used, .bool y5_1.1.dirty, .slice a5_1_00 (List.length y5_1.1.data) c5_1_00]) (fun _ => by kernel_rfl) .here (by kernel_rfl) (by kernel_rfl) (by kernel_rfl)) ?_
  rintro _ _ ⟨rfl, rfl⟩
  refine s_pure 6 (.bool y5_1.2) (by kernel_rfl) (by kernel_rfl) (fun _ => by kernel_rfl) ?_
  refine ops_end ?_
  refine At.env [(3, .pointer (some ⟨b4_8, 0, none⟩)), (4, .bool y4_4.2.1), (5, .pointer (some ⟨b5_5, 0, none⟩)), (6, .bool y5_1.2)] ⟨by kernel_rfl, by kernel_rfl, by kernel_rfl, by kernel_rfl, trivial⟩ ?_
  refine at_then_normal ?_
  refine at_seq (x := C21 [1,1,1,1,1,0]) (y := C21 [1,1,1,1,1,1]) (by kernel_rfl) ?_
  refine at_region (id := 6) 34 (by kernel_rfl) (by kernel_rfl) ?_
  refine s_pure 26 (.bool y4_4.2.1) (by kernel_rfl) (by kernel_rfl) (fun _ => by kernel_rfl) ?_
  rcases Bool.eq_false_or_eq_true (y4_4.2.1) with h1 | h1
  · replace H := bifT H h1
    refine s_pure 27 (.bool true) (by kernel_rfl) (by kernel_rfl) (run_eq (v := .bool (y4_4.2.1)) (fun _ => by kernel_rfl) (congrArg Value.bool h1)) ?_
    refine s_pure 28 (.pointer (some ⟨b4_8, 3, none⟩)) (by kernel_rfl) (by kernel_rfl) (fun _ => by kernel_rfl) ?_
    refine s_load 29 (.int .i64 y4_4.1.step) (by kernel_rfl) (by kernel_rfl) (load1 (off := 3) (fun _ => by kernel_rfl) (holds_own (.there (.there (.there .here)))) (by kernel_rfl)) ?_
    refine s_pure 30 (.bool (decide (y4_4.1.step = (6 : Int)))) (by kernel_rfl) (by kernel_rfl) (fun _ => by kernel_rfl) ?_
    refine s_pure 31 (.bool (decide (y4_4.1.step = (6 : Int)))) (by kernel_rfl) (by kernel_rfl) (fun _ => by kernel_rfl) ?_
    rcases Bool.eq_false_or_eq_true (decide (y4_4.1.step = (6 : Int))) with h2 | h2
    · replace H := bifT H h2
      refine s_pure 32 (.bool true) (by kernel_rfl) (by kernel_rfl) (run_eq (v := .bool (decide (y4_4.1.step = (6 : Int)))) (fun _ => by kernel_rfl) (congrArg Value.bool h2)) ?_
      refine s_pure 33 (.pointer (some ⟨b4_8, 4, none⟩)) (by kernel_rfl) (by kernel_rfl) (fun _ => by kernel_rfl) ?_
      refine s_load 34 (.int .i64 y4_4.1.state) (by kernel_rfl) (by kernel_rfl) (load1 (off := 4) (fun _ => by kernel_rfl) (holds_own (.there (.there (.there .here)))) (by kernel_rfl)) ?_
      refine s_pure 35 (.bool (decide (y4_4.1.state = (2 : Int)))) (by kernel_rfl) (by kernel_rfl) (fun _ => by kernel_rfl) ?_
      refine s_pure 36 (.bool (decide (y4_4.1.state = (2 : Int)))) (by kernel_rfl) (by kernel_rfl) (fun _ => by kernel_rfl) ?_
      rcases Bool.eq_false_or_eq_true (decide (y4_4.1.state = (2 : Int))) with h3 | h3
      · replace H := bifT H h3
        refine s_pure 37 (.bool true) (by kernel_rfl) (by kernel_rfl) (run_eq (v := .bool (decide (y4_4.1.state = (2 : Int)))) (fun _ => by kernel_rfl) (congrArg Value.bool h3)) ?_
        refine s_pure 38 (.pointer (some ⟨b4_8, 5, none⟩)) (by kernel_rfl) (by kernel_rfl) (fun _ => by kernel_rfl) ?_
        refine s_load 39 (.int .i64 y4_4.1.head) (by kernel_rfl) (by kernel_rfl) (load1 (off := 5) (fun _ => by kernel_rfl) (holds_own (.there (.there (.there .here)))) (by kernel_rfl)) ?_
        refine s_pure 40 (.bool (decide (y4_4.1.head = (2 : Int)))) (by kernel_rfl) (by kernel_rfl) (fun _ => by kernel_rfl) ?_
        refine s_pure 41 (.bool (decide (y4_4.1.head = (2 : Int)))) (by kernel_rfl) (by kernel_rfl) (fun _ => by kernel_rfl) ?_
        rcases Bool.eq_false_or_eq_true (decide (y4_4.1.head = (2 : Int))) with h4 | h4
        · replace H := bifT H h4
          refine s_pure 42 (.bool true) (by kernel_rfl) (by kernel_rfl) (run_eq (v := .bool (decide (y4_4.1.head = (2 : Int)))) (fun _ => by kernel_rfl) (congrArg Value.bool h4)) ?_
          refine s_pure 43 (.bool y5_1.2) (by kernel_rfl) (by kernel_rfl) (fun _ => by kernel_rfl) ?_
          refine s_pure 44 (.bool y5_1.2) (by kernel_rfl) (by kernel_rfl) (fun _ => by kernel_rfl) ?_
          rcases Bool.eq_false_or_eq_true (y5_1.2) with h5 | h5
          · replace H := bifT H h5
            refine s_pure 45 (.bool true) (by kernel_rfl) (by kernel_rfl) (run_eq (v := .bool (y5_1.2)) (fun _ => by kernel_rfl) (congrArg Value.bool h5)) ?_
            refine s_pure 46 (.pointer (some ⟨b5_5, 4, none⟩)) (by kernel_rfl) (by kernel_rfl) (fun _ => by kernel_rfl) ?_
            refine s_load 47 (.bool y5_1.1.dirty) (by kernel_rfl) (by kernel_rfl) (load1 (off := 4) (fun _ => by kernel_rfl) (holds_own .here) (by kernel_rfl)) ?_
            refine s_pure 48 (.bool y5_1.1.dirty) (by kernel_rfl) (by kernel_rfl) (fun _ => by kernel_rfl) ?_
            rcases Bool.eq_false_or_eq_true (y5_1.1.dirty) with h6 | h6
            · replace H := bifT H h6
              refine s_pure 49 (.bool true) (by kernel_rfl) (by kernel_rfl) (run_eq (v := .bool (y5_1.1.dirty)) (fun _ => by kernel_rfl) (congrArg Value.bool h6)) ?_
              refine s_pure 50 (.pointer (some ⟨b5_5, 0, none⟩)) (by kernel_rfl) (by kernel_rfl) (fun _ => by kernel_rfl) ?_
              refine s_load 51 (.agg #[.int .i64 y5_1.1.fwd, .int .i64 y5_1.1.back]) (by kernel_rfl) (by kernel_rfl) (loadN (off := 0) (vs := [.int .i64 y5_1.1.fwd, .int .i64 y5_1.1.back]) 2 (fun _ => by kernel_rfl) (holds_own .here) rfl (by exact ⟨rfl, rfl, trivial⟩)) ?_
              obtain ⟨y6_26, hy6_26, H⟩ := bindE H
              refine s_quiet 52 (.bool y6_26) 19 #[.agg #[.int .i64 y5_1.1.fwd, .int .i64 y5_1.1.back]] (by kernel_rfl) (by kernel_rfl) (fun _ => by kernel_rfl) (LOnlyF_tr (⟨y5_1.1.fwd, y5_1.1.back⟩ : LinkS) y6_26 hy6_26) ?_
              refine s_pure 53 (.bool y6_26) (by kernel_rfl) (by kernel_rfl) (fun _ => by kernel_rfl) ?_
              rcases Bool.eq_false_or_eq_true (y6_26) with h7 | h7
              · replace H := bifT H h7
                refine s_pure 54 (.bool true) (by kernel_rfl) (by kernel_rfl) (run_eq (v := .bool (y6_26)) (fun _ => by kernel_rfl) (congrArg Value.bool h7)) ?_
                refine s_load 55 (.agg #[.int .i64 y5_1.1.fwd, .int .i64 y5_1.1.back, .int .i64 y5_1.1.line, .int .i64 y5_1.1.used, .bool y5_1.1.dirty, .slice a5_1_00 (List.length y5_1.1.data) c5_1_00]) (by kernel_rfl) (by kernel_rfl) (loadN (off := 0) (vs := [.int .i64 y5_1.1.fwd, .int .i64 y5_1.1.back, .int .i64 y5_1.1.line, .int .i64 y5_1.1.used, .bool y5_1.1.dirty, .slice a5_1_00 (List.length y5_1.1.data) c5_1_00]) 6 (fun _ => by kernel_rfl) (holds_own .here) rfl (by exact ⟨rfl, rfl, rfl, rfl, rfl, rfl, trivial⟩)) ?_
                obtain ⟨y6_30, hy6_30, H⟩ := bindE H
                refine s_call 56 20 #[.agg #[.int .i64 y5_1.1.fwd, .int .i64 y5_1.1.back, .int .i64 y5_1.1.line, .int .i64 y5_1.1.used, .bool y5_1.1.dirty, .slice a5_1_00 (List.length y5_1.1.data) c5_1_00], .int .i64 (0)] (by kernel_rfl) (by kernel_rfl) (fun _ => by kernel_rfl) (EWordF_tr a5_1_00 c5_1_00 y5_1.1 (0 : Int) (RowsA.reads (k := 1) (.there .here)) y6_30 hy6_30) ?_
                rintro _ _ ⟨rfl, rfl⟩
                refine s_pure 57 (.bool (decide (y6_30 = (7 : Int)))) (by kernel_rfl) (by kernel_rfl) (fun _ => by kernel_rfl) ?_
                refine s_pure 58 (.bool (decide (y6_30 = (7 : Int)))) (by kernel_rfl) (by kernel_rfl) (fun _ => by kernel_rfl) ?_
                refine s_pure 0 (.bool (decide (y6_30 = (7 : Int)))) (by kernel_rfl) (by kernel_rfl) (fun _ => by kernel_rfl) ?_
                refine ops_end ?_
                refine At.env [(0, .bool (decide (y6_30 = (7 : Int))))] ⟨by kernel_rfl, trivial⟩ ?_
                refine at_then_normal ?_
                refine at_ret (by kernel_rfl) ?_
                obtain rfl := someE H
                refine at_backR [.bool (decide (y6_30 = (7 : Int)))] (Γ) (rs := [.tmp 0]) (by kernel_rfl) (.cons (.tmp (by kernel_rfl)) .nil) (fun w hw => (Sat.less (.drop .here (.drop .here (.drop .here (.drop .here (.drop .here (.drop .here (.drop .here (.drop .here .refl)))))))) hw)) ?_
                exact ⟨rfl, rfl⟩
              · replace H := bifF H h7
                refine s_pure 54 (.bool false) (by kernel_rfl) (by kernel_rfl) (run_eq (v := .bool (y6_26)) (fun _ => by kernel_rfl) (congrArg Value.bool h7)) ?_
                refine s_pass 55 (by kernel_rfl) (by kernel_rfl) ?_
                refine s_pass 56 (by kernel_rfl) (by kernel_rfl) ?_
                refine s_pass 57 (by kernel_rfl) (by kernel_rfl) ?_
                refine s_pure 58 (.bool false) (by kernel_rfl) (by kernel_rfl) (fun _ => by kernel_rfl) ?_
                refine s_pure 0 (.bool false) (by kernel_rfl) (by kernel_rfl) (fun _ => by kernel_rfl) ?_
                refine ops_end ?_
                refine At.env [(0, .bool false)] ⟨by kernel_rfl, trivial⟩ ?_
                refine at_then_normal ?_
                refine at_ret (by kernel_rfl) ?_
                obtain rfl := someE H
                refine at_backR [.bool false] (Γ) (rs := [.tmp 0]) (by kernel_rfl) (.cons (.tmp (by kernel_rfl)) .nil) (fun w hw => (Sat.less (.drop .here (.drop .here (.drop .here (.drop .here (.drop .here (.drop .here (.drop .here (.drop .here .refl)))))))) hw)) ?_
                exact ⟨rfl, rfl⟩
            · replace H := bifF H h6
              refine s_pure 49 (.bool false) (by kernel_rfl) (by kernel_rfl) (run_eq (v := .bool (y5_1.1.dirty)) (fun _ => by kernel_rfl) (congrArg Value.bool h6)) ?_
              refine s_pass 50 (by kernel_rfl) (by kernel_rfl) ?_
              refine s_pass 51 (by kernel_rfl) (by kernel_rfl) ?_
              refine s_pass 52 (by kernel_rfl) (by kernel_rfl) ?_
              refine s_pure 53 (.bool false) (by kernel_rfl) (by kernel_rfl) (fun _ => by kernel_rfl) ?_
              refine s_pure 54 (.bool false) (by kernel_rfl) (by kernel_rfl) (fun _ => by kernel_rfl) ?_
              refine s_pass 55 (by kernel_rfl) (by kernel_rfl) ?_
              refine s_pass 56 (by kernel_rfl) (by kernel_rfl) ?_
              refine s_pass 57 (by kernel_rfl) (by kernel_rfl) ?_
              refine s_pure 58 (.bool false) (by kernel_rfl) (by kernel_rfl) (fun _ => by kernel_rfl) ?_
              refine s_pure 0 (.bool false) (by kernel_rfl) (by kernel_rfl) (fun _ => by kernel_rfl) ?_
              refine ops_end ?_
              refine At.env [(0, .bool false)] ⟨by kernel_rfl, trivial⟩ ?_
              refine at_then_normal ?_
              refine at_ret (by kernel_rfl) ?_
              obtain rfl := someE H
              refine at_backR [.bool false] (Γ) (rs := [.tmp 0]) (by kernel_rfl) (.cons (.tmp (by kernel_rfl)) .nil) (fun w hw => (Sat.less (.drop .here (.drop .here (.drop .here (.drop .here (.drop .here (.drop .here (.drop .here (.drop .here .refl)))))))) hw)) ?_
              exact ⟨rfl, rfl⟩
          · replace H := bifF H h5
            refine s_pure 45 (.bool false) (by kernel_rfl) (by kernel_rfl) (run_eq (v := .bool (y5_1.2)) (fun _ => by kernel_rfl) (congrArg Value.bool h5)) ?_
            refine s_pass 46 (by kernel_rfl) (by kernel_rfl) ?_
            refine s_pass 47 (by kernel_rfl) (by kernel_rfl) ?_
            refine s_pure 48 (.bool false) (by kernel_rfl) (by kernel_rfl) (fun _ => by kernel_rfl) ?_
            refine s_pure 49 (.bool false) (by kernel_rfl) (by kernel_rfl) (fun _ => by kernel_rfl) ?_
            refine s_pass 50 (by kernel_rfl) (by kernel_rfl) ?_
            refine s_pass 51 (by kernel_rfl) (by kernel_rfl) ?_
            refine s_pass 52 (by kernel_rfl) (by kernel_rfl) ?_
            refine s_pure 53 (.bool false) (by kernel_rfl) (by kernel_rfl) (fun _ => by kernel_rfl) ?_
            refine s_pure 54 (.bool false) (by kernel_rfl) (by kernel_rfl) (fun _ => by kernel_rfl) ?_
            refine s_pass 55 (by kernel_rfl) (by kernel_rfl) ?_
            refine s_pass 56 (by kernel_rfl) (by kernel_rfl) ?_
            refine s_pass 57 (by kernel_rfl) (by kernel_rfl) ?_
            refine s_pure 58 (.bool false) (by kernel_rfl) (by kernel_rfl) (fun _ => by kernel_rfl) ?_
            refine s_pure 0 (.bool false) (by kernel_rfl) (by kernel_rfl) (fun _ => by kernel_rfl) ?_
            refine ops_end ?_
            refine At.env [(0, .bool false)] ⟨by kernel_rfl, trivial⟩ ?_
            refine at_then_normal ?_
            refine at_ret (by kernel_rfl) ?_
            obtain rfl := someE H
            refine at_backR [.bool false] (Γ) (rs := [.tmp 0]) (by kernel_rfl) (.cons (.tmp (by kernel_rfl)) .nil) (fun w hw => (Sat.less (.drop .here (.drop .here (.drop .here (.drop .here (.drop .here (.drop .here (.drop .here (.drop .here .refl)))))))) hw)) ?_
            exact ⟨rfl, rfl⟩
        · replace H := bifF H h4
          refine s_pure 42 (.bool false) (by kernel_rfl) (by kernel_rfl) (run_eq (v := .bool (decide (y4_4.1.head = (2 : Int)))) (fun _ => by kernel_rfl) (congrArg Value.bool h4)) ?_
          refine s_pass 43 (by kernel_rfl) (by kernel_rfl) ?_
          refine s_pure 44 (.bool false) (by kernel_rfl) (by kernel_rfl) (fun _ => by kernel_rfl) ?_
          refine s_pure 45 (.bool false) (by kernel_rfl) (by kernel_rfl) (fun _ => by kernel_rfl) ?_
          refine s_pass 46 (by kernel_rfl) (by kernel_rfl) ?_
          refine s_pass 47 (by kernel_rfl) (by kernel_rfl) ?_
          refine s_pure 48 (.bool false) (by kernel_rfl) (by kernel_rfl) (fun _ => by kernel_rfl) ?_
          refine s_pure 49 (.bool false) (by kernel_rfl) (by kernel_rfl) (fun _ => by kernel_rfl) ?_
          refine s_pass 50 (by kernel_rfl) (by kernel_rfl) ?_
          refine s_pass 51 (by kernel_rfl) (by kernel_rfl) ?_
          refine s_pass 52 (by kernel_rfl) (by kernel_rfl) ?_
          refine s_pure 53 (.bool false) (by kernel_rfl) (by kernel_rfl) (fun _ => by kernel_rfl) ?_
          refine s_pure 54 (.bool false) (by kernel_rfl) (by kernel_rfl) (fun _ => by kernel_rfl) ?_
          refine s_pass 55 (by kernel_rfl) (by kernel_rfl) ?_
          refine s_pass 56 (by kernel_rfl) (by kernel_rfl) ?_
          refine s_pass 57 (by kernel_rfl) (by kernel_rfl) ?_
          refine s_pure 58 (.bool false) (by kernel_rfl) (by kernel_rfl) (fun _ => by kernel_rfl) ?_
          refine s_pure 0 (.bool false) (by kernel_rfl) (by kernel_rfl) (fun _ => by kernel_rfl) ?_
          refine ops_end ?_
          refine At.env [(0, .bool false)] ⟨by kernel_rfl, trivial⟩ ?_
          refine at_then_normal ?_
          refine at_ret (by kernel_rfl) ?_
          obtain rfl := someE H
          refine at_backR [.bool false] (Γ) (rs := [.tmp 0]) (by kernel_rfl) (.cons (.tmp (by kernel_rfl)) .nil) (fun w hw => (Sat.less (.drop .here (.drop .here (.drop .here (.drop .here (.drop .here (.drop .here (.drop .here (.drop .here .refl)))))))) hw)) ?_
          exact ⟨rfl, rfl⟩
      · replace H := bifF H h3
        refine s_pure 37 (.bool false) (by kernel_rfl) (by kernel_rfl) (run_eq (v := .bool (decide (y4_4.1.state = (2 : Int)))) (fun _ => by kernel_rfl) (congrArg Value.bool h3)) ?_
        refine s_pass 38 (by kernel_rfl) (by kernel_rfl) ?_
        refine s_pass 39 (by kernel_rfl) (by kernel_rfl) ?_
        refine s_pass 40 (by kernel_rfl) (by kernel_rfl) ?_
        refine s_pure 41 (.bool false) (by kernel_rfl) (by kernel_rfl) (fun _ => by kernel_rfl) ?_
        refine s_pure 42 (.bool false) (by kernel_rfl) (by kernel_rfl) (fun _ => by kernel_rfl) ?_
        refine s_pass 43 (by kernel_rfl) (by kernel_rfl) ?_
        refine s_pure 44 (.bool false) (by kernel_rfl) (by kernel_rfl) (fun _ => by kernel_rfl) ?_
        refine s_pure 45 (.bool false) (by kernel_rfl) (by kernel_rfl) (fun _ => by kernel_rfl) ?_
        refine s_pass 46 (by kernel_rfl) (by kernel_rfl) ?_
        refine s_pass 47 (by kernel_rfl) (by kernel_rfl) ?_
        refine s_pure 48 (.bool false) (by kernel_rfl) (by kernel_rfl) (fun _ => by kernel_rfl) ?_
        refine s_pure 49 (.bool false) (by kernel_rfl) (by kernel_rfl) (fun _ => by kernel_rfl) ?_
        refine s_pass 50 (by kernel_rfl) (by kernel_rfl) ?_
        refine s_pass 51 (by kernel_rfl) (by kernel_rfl) ?_
        refine s_pass 52 (by kernel_rfl) (by kernel_rfl) ?_
        refine s_pure 53 (.bool false) (by kernel_rfl) (by kernel_rfl) (fun _ => by kernel_rfl) ?_
        refine s_pure 54 (.bool false) (by kernel_rfl) (by kernel_rfl) (fun _ => by kernel_rfl) ?_
        refine s_pass 55 (by kernel_rfl) (by kernel_rfl) ?_
        refine s_pass 56 (by kernel_rfl) (by kernel_rfl) ?_
        refine s_pass 57 (by kernel_rfl) (by kernel_rfl) ?_
        refine s_pure 58 (.bool false) (by kernel_rfl) (by kernel_rfl) (fun _ => by kernel_rfl) ?_
        refine s_pure 0 (.bool false) (by kernel_rfl) (by kernel_rfl) (fun _ => by kernel_rfl) ?_
        refine ops_end ?_
        refine At.env [(0, .bool false)] ⟨by kernel_rfl, trivial⟩ ?_
        refine at_then_normal ?_
        refine at_ret (by kernel_rfl) ?_
        obtain rfl := someE H
        refine at_backR [.bool false] (Γ) (rs := [.tmp 0]) (by kernel_rfl) (.cons (.tmp (by kernel_rfl)) .nil) (fun w hw => (Sat.less (.drop .here (.drop .here (.drop .here (.drop .here (.drop .here (.drop .here (.drop .here (.drop .here .refl)))))))) hw)) ?_
        exact ⟨rfl, rfl⟩
    · replace H := bifF H h2
      refine s_pure 32 (.bool false) (by kernel_rfl) (by kernel_rfl) (run_eq (v := .bool (decide (y4_4.1.step = (6 : Int)))) (fun _ => by kernel_rfl) (congrArg Value.bool h2)) ?_
      refine s_pass 33 (by kernel_rfl) (by kernel_rfl) ?_
      refine s_pass 34 (by kernel_rfl) (by kernel_rfl) ?_
      refine s_pass 35 (by kernel_rfl) (by kernel_rfl) ?_
      refine s_pure 36 (.bool false) (by kernel_rfl) (by kernel_rfl) (fun _ => by kernel_rfl) ?_
      refine s_pure 37 (.bool false) (by kernel_rfl) (by kernel_rfl) (fun _ => by kernel_rfl) ?_
      refine s_pass 38 (by kernel_rfl) (by kernel_rfl) ?_
      refine s_pass 39 (by kernel_rfl) (by kernel_rfl) ?_
      refine s_pass 40 (by kernel_rfl) (by kernel_rfl) ?_
      refine s_pure 41 (.bool false) (by kernel_rfl) (by kernel_rfl) (fun _ => by kernel_rfl) ?_
      refine s_pure 42 (.bool false) (by kernel_rfl) (by kernel_rfl) (fun _ => by kernel_rfl) ?_
      refine s_pass 43 (by kernel_rfl) (by kernel_rfl) ?_
      refine s_pure 44 (.bool false) (by kernel_rfl) (by kernel_rfl) (fun _ => by kernel_rfl) ?_
      refine s_pure 45 (.bool false) (by kernel_rfl) (by kernel_rfl) (fun _ => by kernel_rfl) ?_
      refine s_pass 46 (by kernel_rfl) (by kernel_rfl) ?_
      refine s_pass 47 (by kernel_rfl) (by kernel_rfl) ?_
      refine s_pure 48 (.bool false) (by kernel_rfl) (by kernel_rfl) (fun _ => by kernel_rfl) ?_
      refine s_pure 49 (.bool false) (by kernel_rfl) (by kernel_rfl) (fun _ => by kernel_rfl) ?_
      refine s_pass 50 (by kernel_rfl) (by kernel_rfl) ?_
      refine s_pass 51 (by kernel_rfl) (by kernel_rfl) ?_
      refine s_pass 52 (by kernel_rfl) (by kernel_rfl) ?_
      refine s_pure 53 (.bool false) (by kernel_rfl) (by kernel_rfl) (fun _ => by kernel_rfl) ?_
      refine s_pure 54 (.bool false) (by kernel_rfl) (by kernel_rfl) (fun _ => by kernel_rfl) ?_
      refine s_pass 55 (by kernel_rfl) (by kernel_rfl) ?_
      refine s_pass 56 (by kernel_rfl) (by kernel_rfl) ?_
      refine s_pass 57 (by kernel_rfl) (by kernel_rfl) ?_
      refine s_pure 58 (.bool false) (by kernel_rfl) (by kernel_rfl) (fun _ => by kernel_rfl) ?_
      refine s_pure 0 (.bool false) (by kernel_rfl) (by kernel_rfl) (fun _ => by kernel_rfl) ?_
      refine ops_end ?_
      refine At.env [(0, .bool false)] ⟨by kernel_rfl, trivial⟩ ?_
      refine at_then_normal ?_
      refine at_ret (by kernel_rfl) ?_
      obtain rfl := someE H
      refine at_backR [.bool false] (Γ) (rs := [.tmp 0]) (by kernel_rfl) (.cons (.tmp (by kernel_rfl)) .nil) (fun w hw => (Sat.less (.drop .here (.drop .here (.drop .here (.drop .here (.drop .here (.drop .here (.drop .here (.drop .here .refl)))))))) hw)) ?_
      exact ⟨rfl, rfl⟩
  · replace H := bifF H h1
    refine s_pure 27 (.bool false) (by kernel_rfl) (by kernel_rfl) (run_eq (v := .bool (y4_4.2.1)) (fun _ => by kernel_rfl) (congrArg Value.bool h1)) ?_
    refine s_pass 28 (by kernel_rfl) (by kernel_rfl) ?_
    refine s_pass 29 (by kernel_rfl) (by kernel_rfl) ?_
    refine s_pass 30 (by kernel_rfl) (by kernel_rfl) ?_
    refine s_pure 31 (.bool false) (by kernel_rfl) (by kernel_rfl) (fun _ => by kernel_rfl) ?_
    refine s_pure 32 (.bool false) (by kernel_rfl) (by kernel_rfl) (fun _ => by kernel_rfl) ?_
    refine s_pass 33 (by kernel_rfl) (by kernel_rfl) ?_
    refine s_pass 34 (by kernel_rfl) (by kernel_rfl) ?_
    refine s_pass 35 (by kernel_rfl) (by kernel_rfl) ?_
    refine s_pure 36 (.bool false) (by kernel_rfl) (by kernel_rfl) (fun _ => by kernel_rfl) ?_
    refine s_pure 37 (.bool false) (by kernel_rfl) (by kernel_rfl) (fun _ => by kernel_rfl) ?_
    refine s_pass 38 (by kernel_rfl) (by kernel_rfl) ?_
    refine s_pass 39 (by kernel_rfl) (by kernel_rfl) ?_
    refine s_pass 40 (by kernel_rfl) (by kernel_rfl) ?_
    refine s_pure 41 (.bool false) (by kernel_rfl) (by kernel_rfl) (fun _ => by kernel_rfl) ?_
    refine s_pure 42 (.bool false) (by kernel_rfl) (by kernel_rfl) (fun _ => by kernel_rfl) ?_
    refine s_pass 43 (by kernel_rfl) (by kernel_rfl) ?_
    refine s_pure 44 (.bool false) (by kernel_rfl) (by kernel_rfl) (fun _ => by kernel_rfl) ?_
    refine s_pure 45 (.bool false) (by kernel_rfl) (by kernel_rfl) (fun _ => by kernel_rfl) ?_
    refine s_pass 46 (by kernel_rfl) (by kernel_rfl) ?_
    refine s_pass 47 (by kernel_rfl) (by kernel_rfl) ?_
    refine s_pure 48 (.bool false) (by kernel_rfl) (by kernel_rfl) (fun _ => by kernel_rfl) ?_
    refine s_pure 49 (.bool false) (by kernel_rfl) (by kernel_rfl) (fun _ => by kernel_rfl) ?_
    refine s_pass 50 (by kernel_rfl) (by kernel_rfl) ?_
    refine s_pass 51 (by kernel_rfl) (by kernel_rfl) ?_
    refine s_pass 52 (by kernel_rfl) (by kernel_rfl) ?_
    refine s_pure 53 (.bool false) (by kernel_rfl) (by kernel_rfl) (fun _ => by kernel_rfl) ?_
    refine s_pure 54 (.bool false) (by kernel_rfl) (by kernel_rfl) (fun _ => by kernel_rfl) ?_
    refine s_pass 55 (by kernel_rfl) (by kernel_rfl) ?_
    refine s_pass 56 (by kernel_rfl) (by kernel_rfl) ?_
    refine s_pass 57 (by kernel_rfl) (by kernel_rfl) ?_
    refine s_pure 58 (.bool false) (by kernel_rfl) (by kernel_rfl) (fun _ => by kernel_rfl) ?_
    refine s_pure 0 (.bool false) (by kernel_rfl) (by kernel_rfl) (fun _ => by kernel_rfl) ?_
    refine ops_end ?_
    refine At.env [(0, .bool false)] ⟨by kernel_rfl, trivial⟩ ?_
    refine at_then_normal ?_
    refine at_ret (by kernel_rfl) ?_
    obtain rfl := someE H
    refine at_backR [.bool false] (Γ) (rs := [.tmp 0]) (by kernel_rfl) (.cons (.tmp (by kernel_rfl)) .nil) (fun w hw => (Sat.less (.drop .here (.drop .here (.drop .here (.drop .here (.drop .here (.drop .here (.drop .here (.drop .here .refl)))))))) hw)) ?_
    exact ⟨rfl, rfl⟩
end Go.Proofs.Ytlnjnkbnppnbkaa
