/- Both caches; packets by small numbers. -/
import Derived.Test.YtlnjnkbnppnbkaaSmA
namespace Go.Proofs.Ytlnjnkbnppnbkaa
open Go Go.RowKit
set_option linter.unusedVariables false
set_option linter.unusedSimpArgs false
def bothS_j3 (v0_b1_0 : CacheS) (y8_18 : Ent) (v0_b1_1 : CacheS) (v0_10 : Int) (r0 : Int → CacheS → CacheS → Option (CacheS × CacheS)) : Option (CacheS × CacheS) :=
 (putS v0_b1_0 y8_18).bind fun y9_2 => (rputS v0_b1_1 y8_18).bind fun y10_3 => chk (inR (v0_10 + (1 : Int))) (r0 (v0_10 + (1 : Int)) y10_3.2 y9_2.2)
def bothS_j2 (v0_10 : Int) (lines : List Int) (data : List Int) (v0_b1_0 : CacheS) (v0_b1_1 : CacheS) (r0 : Int → CacheS → CacheS → Option (CacheS × CacheS)) (e2_11 : Int) (e2_12 : Int) : Option (CacheS × CacheS) :=
 chk (0 ≤ v0_10 ∧ v0_10 < ((lines.length : Nat) : Int)) ((withinS (nth lines v0_10) (4 : Int)).bind fun y8_4 => chk (0 ≤ v0_10 ∧ v0_10 < ((lines.length : Nat) : Int)) (chk (inR ((1 : Int) + (v0_10.tmod (3 : Int)))) ((cutS data ((1 : Int) + (v0_10.tmod (3 : Int)))).bind fun y8_17 => (enewS y8_4 e2_11 e2_12 (decide (((nth lines v0_10).tmod (5 : Int)) = (0 : Int))) y8_17).bind fun y8_18 => bothS_j3 v0_b1_0 y8_18 v0_b1_1 v0_10 r0)))
def bothS_j1 (v0_10 : Int) (links : List Int) (lines : List Int) (data : List Int) (v0_b1_0 : CacheS) (v0_b1_1 : CacheS) (r0 : Int → CacheS → CacheS → Option (CacheS × CacheS)) (k0 : Int → CacheS → CacheS → Option (CacheS × CacheS)) (e1_27 : Bool) : Option (CacheS × CacheS) :=
 (bif e1_27 then (bif decide (v0_10 < (((List.length links) : Nat) : Int)) then chk (0 ≤ v0_10 ∧ v0_10 < ((links.length : Nat) : Int)) ((withinS (nth links v0_10) (5 : Int)).bind fun y7_4 => chk (0 ≤ v0_10 ∧ v0_10 < ((links.length : Nat) : Int)) ((withinS (wr ((nth links v0_10).tdiv (5 : Int))) (5 : Int)).bind fun y7_11 => bothS_j2 v0_10 lines data v0_b1_0 v0_b1_1 r0 (wr (y7_4 - (1 : Int))) (wr (y7_11 - (1 : Int))))) else bothS_j2 v0_10 lines data v0_b1_0 v0_b1_1 r0 (-1) (-1)) else k0 v0_10 v0_b1_1 v0_b1_0)
def bothS_k0 (e0_10 : Int) (e0_b1_1 : CacheS) (e0_b1_0 : CacheS) : Option (CacheS × CacheS) :=
 some (e0_b1_0, e0_b1_1)
def bothS_l0 (lines : List Int) (links : List Int) (data : List Int) (k0 : Int → CacheS → CacheS → Option (CacheS × CacheS)) : Nat → Int → CacheS → CacheS → Option (CacheS × CacheS)
 | 0 => fun _ _ _ => none
 | m + 1 => fun v0_10 v0_b1_1 v0_b1_0 => (bif decide (v0_10 < (((List.length lines) : Nat) : Int)) then bothS_j1 v0_10 links lines data v0_b1_0 v0_b1_1 (bothS_l0 lines links data k0 m) k0 (decide (v0_10 < (5 : Int))) else bothS_j1 v0_10 links lines data v0_b1_0 v0_b1_1 (bothS_l0 lines links data k0 m) k0 false)
def bothS (lines : List Int) (links : List Int) (data : List Int) : Option (CacheS × CacheS) :=
 letP (newC (2 : Int) (2 : Int)) fun y1_0 => (rnewcS (2 : Int) (2 : Int)).bind fun y1_1 => bothS_l0 lines links data (bothS_k0 ) 64 0 y1_1 y1_0
noncomputable def C13 (p : List Nat) : Code := codeAt (bodyOf Try.f13) p
set_option maxRecDepth 100000 in
set_option maxHeartbeats 8000000 in
theorem BothF_tr {W0 : World} {Γ : List Asn} (linesa : Option Addr) (linescap : Nat) (lines : List Int) (linksa : Option Addr) (linkscap : Nat) (links : List Int) (dataa : Option Addr) (datacap : Nat) (data : List Int) (hrlinesa : Reads W0 Γ linesa (ints lines)) (hrlinksa : Reads W0 Γ linksa (ints links)) (hrdataa : Reads W0 Γ dataa (ints data)) (hcdataa : data.length ≤ datacap) (y : CacheS × CacheS) (H : bothS lines links data = some y) : Tr Try.prog 13 #[.slice linesa (List.length lines) linescap, .slice linksa (List.length links) linkscap, .slice dataa (List.length data) datacap] W0 (Γ) (fun r Δ => ∃ (b0 : Nat) (b1 : Nat), r = .tuple #[.pointer (some ⟨b0, 0, none⟩), .pointer (some ⟨b1, 0, none⟩)] ∧ Δ = (CacheA b0 y.1) :: (RChA b1 y.2) :: Γ) := by
 unfold bothS at H
 refine Tr.enter (fn := Try.f13) (c := C13 []) (args := [.slice linesa (List.length lines) linescap, .slice linksa (List.length links) linkscap, .slice dataa (List.length data) datacap]) 75 Try.func13 (by kernel_rfl) (by kernel_rfl) ?_
 refine ae [(0, .slice linesa (List.length lines) linescap), (1, .slice linksa (List.length links) linkscap), (2, .slice dataa (List.length data) datacap)] ?_
 refine aq (x := C13 [0]) (y := C13 [1]) ?_
 refine ar (id := 0) 2 ?_
 refine sp 6 (.pointer none) ?_
 refine sp 7 (.pointer none) ?_
 refine ops_end ?_
 refine ae [(0, .slice linesa (List.length lines) linescap), (1, .slice linksa (List.length links) linkscap), (2, .slice dataa (List.length data) datacap)] ?_
 refine at_then_normal ?_
 refine aq (x := C13 [1,0]) (y := C13 [1,1]) ?_
 refine ar (id := 1) 4 ?_
 obtain ⟨y1_0, hy1_0, H⟩ := letE H
 refine s_call 14 32 #[.int .i64 (2), .int .i64 (2)] (by kernel_rfl) (by kernel_rfl) (fun _ => by kernel_rfl) (NewF_tr (2 : Int) (2 : Int) y1_0 hy1_0) ?_
 rintro _ _ ⟨b1_0, rfl, rfl⟩
 obtain ⟨y1_1, hy1_1, H⟩ := bindE H
 refine s_call 15 35 #[.int .i64 (2), .int .i64 (2)] (by kernel_rfl) (by kernel_rfl) (fun _ => by kernel_rfl) (RNewCF_tr (2 : Int) (2 : Int) y1_1 hy1_1) ?_
 rintro _ _ ⟨b1_1, rfl, rfl⟩
 refine sp 8 (.pointer (some ⟨b1_0, 0, none⟩)) ?_
 refine sp 9 (.pointer (some ⟨b1_1, 0, none⟩)) ?_
 refine ops_end ?_
 refine ae [(0, .slice linesa (List.length lines) linescap), (1, .slice linksa (List.length links) linkscap), (2, .slice dataa (List.length data) datacap), (8, .pointer (some ⟨b1_0, 0, none⟩)), (9, .pointer (some ⟨b1_1, 0, none⟩))] ?_
 refine at_then_normal ?_
 refine aq (x := C13 [1,1,0]) (y := C13 [1,1,1]) ?_
 refine aq (x := C13 [1,1,0,0]) (y := C13 [1,1,0,1]) ?_
 refine ar (id := 2) 1 ?_
 refine sp 10 (.int .i64 (0)) ?_
 refine ops_end ?_
 refine ae [(0, .slice linesa (List.length lines) linescap), (1, .slice linksa (List.length links) linkscap), (2, .slice dataa (List.length data) datacap), (8, .pointer (some ⟨b1_0, 0, none⟩)), (9, .pointer (some ⟨b1_1, 0, none⟩)), (10, .int .i64 (0))] ?_
 refine at_then_normal ?_
 refine at_block (i := 0) (x := C13 [1,1,0,1,0]) (by kernel_rfl) ?_
 refine At.conv (Γ' := (RChA b1_1 y1_1) :: (CacheA b1_0 y1_0) :: Γ) (fun w hw => (Sat.less (.take .here (.take .here .refl)) hw)) ?_
 refine at_loopR (x := C13 [1,1,0,1,0,0]) (fun mm ff ΔΔ => ∃ (fuel : Nat) (v0_10 : Int) (v0_b1_1 : CacheS) (v0_b1_0 : CacheS), bothS_l0 lines links data (bothS_k0 ) fuel v0_10 v0_b1_1 v0_b1_0 = some y ∧ fuel = mm ∧ ff = [(0, .slice linesa (List.length lines) linescap), (1, .slice linksa (List.length links) linkscap), (2, .slice dataa (List.length data) datacap), (8, .pointer (some ⟨b1_0, 0, none⟩)), (9, .pointer (some ⟨b1_1, 0, none⟩)), (10, .int .i64 v0_10)] ∧ (RChA b1_1 v0_b1_1) :: (CacheA b1_0 v0_b1_0) :: Γ = ΔΔ) (64) (by kernel_rfl) [(0, .slice linesa (List.length lines) linescap), (1, .slice linksa (List.length links) linkscap), (2, .slice dataa (List.length data) datacap), (8, .pointer (some ⟨b1_0, 0, none⟩)), (9, .pointer (some ⟨b1_1, 0, none⟩)), (10, .int .i64 0)] ⟨by kernel_rfl, by kernel_rfl, by kernel_rfl, by kernel_rfl, by kernel_rfl, by kernel_rfl, trivial⟩ ⟨64, 0, y1_1, y1_0, H, rfl, rfl, rfl⟩ ?_
 rintro _ _ _ ⟨fuel1, v0_10, v0_b1_1, v0_b1_0, H, rfl, rfl, rfl⟩
 rcases fuel1 with _ | fuel1
 ·exact (noneE H).elim
 rw [bothS_l0] at H
 refine aq (x := C13 [1,1,0,1,0,0,0]) (y := C13 [1,1,0,1,0,0,1]) ?_
 refine at_seq_join (x := C13 [1,1,0,1,0,0,0,0]) (y := C13 [1,1,0,1,0,0,0,1]) (fun ff ΔΔ => ∃ (e1_27 : Bool), bothS_j1 v0_10 links lines data v0_b1_0 v0_b1_1 (bothS_l0 lines links data (bothS_k0 ) fuel1) (bothS_k0 ) e1_27 = some y ∧ ff = [(0, .slice linesa (List.length lines) linescap), (1, .slice linksa (List.length links) linkscap), (2, .slice dataa (List.length data) datacap), (8, .pointer (some ⟨b1_0, 0, none⟩)), (9, .pointer (some ⟨b1_1, 0, none⟩)), (10, .int .i64 v0_10), (27, .bool e1_27)] ∧ (RChA b1_1 v0_b1_1) :: (CacheA b1_0 v0_b1_0) :: Γ = ΔΔ) (by kernel_rfl) ?_ ?_
 ·rintro _ _ ⟨e1_27, H, rfl, rfl⟩
  rw [bothS_j1] at H
  rcases Bool.eq_false_or_eq_true (e1_27) with h1 | h1
  ·replace H := bifT H h1
   refine at_true (t := e1_27) (x := C13 [1,1,0,1,0,0,0,1,0]) (y := C13 [1,1,0,1,0,0,0,1,1]) (o := .tmp 27) (by kernel_rfl) (by kernel_rfl) (by kernel_rfl) h1 ?_
   refine at_skip (by kernel_rfl) ?_
   refine at_then_normal ?_
   refine aq (x := C13 [1,1,0,1,0,0,1,0]) (y := C13 [1,1,0,1,0,0,1,1]) ?_
   refine at_block (i := 1) (x := C13 [1,1,0,1,0,0,1,0,0]) (by kernel_rfl) ?_
   refine aq (x := C13 [1,1,0,1,0,0,1,0,0,0]) (y := C13 [1,1,0,1,0,0,1,0,0,1]) ?_
   refine ar (id := 5) 2 ?_
   refine sp 11 (.int .i64 (-1)) ?_
   refine sp 12 (.int .i64 (-1)) ?_
   refine ops_end ?_
   refine ae [(0, .slice linesa (List.length lines) linescap), (1, .slice linksa (List.length links) linkscap), (2, .slice dataa (List.length data) datacap), (8, .pointer (some ⟨b1_0, 0, none⟩)), (9, .pointer (some ⟨b1_1, 0, none⟩)), (10, .int .i64 v0_10), (11, .int .i64 (-1)), (12, .int .i64 (-1))] ?_
   refine at_then_normal ?_
   refine at_seq_join (x := C13 [1,1,0,1,0,0,1,0,0,1,0]) (y := C13 [1,1,0,1,0,0,1,0,0,1,1]) (fun ff ΔΔ => ∃ (e2_11 : Int) (e2_12 : Int), bothS_j2 v0_10 lines data v0_b1_0 v0_b1_1 (bothS_l0 lines links data (bothS_k0 ) fuel1) e2_11 e2_12 = some y ∧ ff = [(0, .slice linesa (List.length lines) linescap), (1, .slice linksa (List.length links) linkscap), (2, .slice dataa (List.length data) datacap), (8, .pointer (some ⟨b1_0, 0, none⟩)), (9, .pointer (some ⟨b1_1, 0, none⟩)), (10, .int .i64 v0_10), (11, .int .i64 e2_11), (12, .int .i64 e2_12)] ∧ (RChA b1_1 v0_b1_1) :: (CacheA b1_0 v0_b1_0) :: Γ = ΔΔ) (by kernel_rfl) ?_ ?_
   ·rintro _ _ ⟨e2_11, e2_12, H, rfl, rfl⟩
    rw [bothS_j2] at H
    refine at_seq_join (x := C13 [1,1,0,1,0,0,1,0,0,1,1,0]) (y := C13 [1,1,0,1,0,0,1,0,0,1,1,1]) (fun ff ΔΔ => ∃ (b8_19 : Nat) (y8_18 : Ent) (a8_18_00 : Option Addr) (c8_18_00 : Nat), bothS_j3 v0_b1_0 y8_18 v0_b1_1 v0_10 (bothS_l0 lines links data (bothS_k0 ) fuel1) = some y ∧ ff = [(0, .slice linesa (List.length lines) linescap), (1, .slice linksa (List.length links) linkscap), (2, .slice dataa (List.length data) datacap), (8, .pointer (some ⟨b1_0, 0, none⟩)), (9, .pointer (some ⟨b1_1, 0, none⟩)), (10, .int .i64 v0_10), (13, .pointer (some ⟨b8_19, 0, none⟩))] ∧ (Asn.own b8_19 (.cells #[.int .i64 y8_18.fwd, .int .i64 y8_18.back, .int .i64 y8_18.line, .int .i64 y8_18.used, .bool y8_18.dirty, .slice a8_18_00 (List.length y8_18.data) c8_18_00] 32 (0, 0))) :: (IntsA a8_18_00 c8_18_00 y8_18.data) :: (RChA b1_1 v0_b1_1) :: (CacheA b1_0 v0_b1_0) :: Γ = ΔΔ) (by kernel_rfl) ?_ ?_
    ·rintro _ _ ⟨b8_19, y8_18, a8_18_00, c8_18_00, H, rfl, rfl⟩
     rw [bothS_j3] at H
     refine aq (x := C13 [1,1,0,1,0,0,1,0,0,1,1,1,0]) (y := C13 [1,1,0,1,0,0,1,0,0,1,1,1,1]) ?_
     refine ar (id := 9) 3 ?_
     refine sp 66 (.pointer (some ⟨b1_0, 0, none⟩)) ?_
     refine sl 67 (.agg #[.int .i64 y8_18.fwd, .int .i64 y8_18.back, .int .i64 y8_18.line, .int .i64 y8_18.used, .bool y8_18.dirty, .slice a8_18_00 (List.length y8_18.data) c8_18_00]) (loadN (off := 0) (vs := [.int .i64 y8_18.fwd, .int .i64 y8_18.back, .int .i64 y8_18.line, .int .i64 y8_18.used, .bool y8_18.dirty, .slice a8_18_00 (List.length y8_18.data) c8_18_00]) 6 (fun _ => by kernel_rfl) (holds_own .here) rfl (by exact ⟨rfl, rfl, rfl, rfl, rfl, rfl, trivial⟩)) ?_
     obtain ⟨y9_2, hy9_2, H⟩ := bindE H
     refine s_call 68 14 #[.pointer (some ⟨b1_0, 0, none⟩), .agg #[.int .i64 y8_18.fwd, .int .i64 y8_18.back, .int .i64 y8_18.line, .int .i64 y8_18.used, .bool y8_18.dirty, .slice a8_18_00 (List.length y8_18.data) c8_18_00]] (by kernel_rfl) (by kernel_rfl) (fun _ => by kernel_rfl) (Tr.conv (Γ' := (CacheA b1_0 v0_b1_0) :: (Asn.own b8_19 (.cells #[.int .i64 y8_18.fwd, .int .i64 y8_18.back, .int .i64 y8_18.line, .int .i64 y8_18.used, .bool y8_18.dirty, .slice a8_18_00 (List.length y8_18.data) c8_18_00] 32 (0, 0))) :: (IntsA a8_18_00 c8_18_00 y8_18.data) :: (RChA b1_1 v0_b1_1) :: Γ) (fun w hw => (Sat.less (.take (.there (.there (.there .here))) (.take .here (.take .here (.take .here .refl)))) hw)) (PutF_tr b1_0 v0_b1_0 a8_18_00 c8_18_00 y8_18 (RowsA.reads (k := 1) (.there .here)) y9_2 hy9_2)) ?_
     rintro _ _ ⟨rfl, rfl⟩
     refine ops_end ?_
     refine ae [(0, .slice linesa (List.length lines) linescap), (1, .slice linksa (List.length links) linkscap), (2, .slice dataa (List.length data) datacap), (8, .pointer (some ⟨b1_0, 0, none⟩)), (9, .pointer (some ⟨b1_1, 0, none⟩)), (10, .int .i64 v0_10), (13, .pointer (some ⟨b8_19, 0, none⟩))] ?_
     refine at_then_normal ?_
     refine ar (id := 10) 4 ?_
     refine sp 69 (.pointer (some ⟨b1_1, 0, none⟩)) ?_
     refine sl 70 (.agg #[.int .i64 y8_18.fwd, .int .i64 y8_18.back, .int .i64 y8_18.line, .int .i64 y8_18.used, .bool y8_18.dirty, .slice a8_18_00 (List.length y8_18.data) c8_18_00]) (loadN (off := 0) (vs := [.int .i64 y8_18.fwd, .int .i64 y8_18.back, .int .i64 y8_18.line, .int .i64 y8_18.used, .bool y8_18.dirty, .slice a8_18_00 (List.length y8_18.data) c8_18_00]) 6 (fun _ => by kernel_rfl) (holds_own (.there .here)) rfl (by exact ⟨rfl, rfl, rfl, rfl, rfl, rfl, trivial⟩)) ?_
     refine s_call 71 37 #[.agg #[.int .i64 y8_18.fwd, .int .i64 y8_18.back, .int .i64 y8_18.line, .int .i64 y8_18.used, .bool y8_18.dirty, .slice a8_18_00 (List.length y8_18.data) c8_18_00]] (by kernel_rfl) (by kernel_rfl) (fun _ => by kernel_rfl) (Ref_tr y8_18.fwd y8_18.back y8_18.line y8_18.used y8_18.dirty a8_18_00 (List.length y8_18.data) c8_18_00 ) ?_
     rintro _ _ ⟨rfl, rfl⟩
     obtain ⟨y10_3, hy10_3, H⟩ := bindE H
     refine s_call 72 36 #[.pointer (some ⟨b1_1, 0, none⟩), .agg #[.int .i64 y8_18.fwd, .int .i64 y8_18.back, .int .i64 y8_18.line, .int .i64 y8_18.used, .bool y8_18.dirty, .slice a8_18_00 (List.length y8_18.data) c8_18_00]] (by kernel_rfl) (by kernel_rfl) (fun _ => by kernel_rfl) (Tr.conv (Γ' := (RChA b1_1 v0_b1_1) :: (CacheA b1_0 y9_2.2) :: (Asn.own b8_19 (.cells #[.int .i64 y8_18.fwd, .int .i64 y8_18.back, .int .i64 y8_18.line, .int .i64 y8_18.used, .bool y8_18.dirty, .slice a8_18_00 (List.length y8_18.data) c8_18_00] 32 (0, 0))) :: (IntsA a8_18_00 c8_18_00 y8_18.data) :: Γ) (fun w hw => (Sat.less (.take (.there (.there (.there .here))) (.take .here (.take .here (.take .here .refl)))) hw)) (RPutF_tr b1_1 v0_b1_1 a8_18_00 c8_18_00 y8_18 (RowsA.reads (k := 1) (.there (.there .here))) y10_3 hy10_3)) ?_
     rintro _ _ ⟨rfl, rfl⟩
     refine ops_end ?_
     refine ae [(0, .slice linesa (List.length lines) linescap), (1, .slice linksa (List.length links) linkscap), (2, .slice dataa (List.length data) datacap), (8, .pointer (some ⟨b1_0, 0, none⟩)), (9, .pointer (some ⟨b1_1, 0, none⟩)), (10, .int .i64 v0_10)] ?_
     refine at_in_normal ?_
     refine at_then_normal ?_
     refine ar (id := 4) 3 ?_
     refine sp 28 (.int .i64 v0_10) ?_
     obtain ⟨hc4_1_0, H⟩ := chkE H
     refine sr 29 (.int .i64 (v0_10 + (1 : Int))) (run_eq (v := .int .i64 (IntKind.i64.wrap (v0_10 + (1 : Int)))) (fun _ => by kernel_rfl) (by rw [inR.wrap hc4_1_0])) ?_
     refine sp 10 (.int .i64 (v0_10 + (1 : Int))) ?_
     refine ops_end ?_
     refine ae [(0, .slice linesa (List.length lines) linescap), (1, .slice linksa (List.length links) linkscap), (2, .slice dataa (List.length data) datacap), (8, .pointer (some ⟨b1_0, 0, none⟩)), (9, .pointer (some ⟨b1_1, 0, none⟩)), (10, .int .i64 (v0_10 + (1 : Int)))] ?_
     refine at_round_normal ?_
     exact at_roundR fuel1 [(0, .slice linesa (List.length lines) linescap), (1, .slice linksa (List.length links) linkscap), (2, .slice dataa (List.length data) datacap), (8, .pointer (some ⟨b1_0, 0, none⟩)), (9, .pointer (some ⟨b1_1, 0, none⟩)), (10, .int .i64 (v0_10 + (1 : Int)))] ((RChA b1_1 y10_3.2) :: (CacheA b1_0 y9_2.2) :: Γ) (Nat.lt_succ_self _) ⟨by kernel_rfl, by kernel_rfl, by kernel_rfl, by kernel_rfl, by kernel_rfl, by kernel_rfl, trivial⟩ (fun w hw => (Sat.less (.take .here (.take .here (.drop .here (.drop .here .refl)))) hw)) ⟨fuel1, v0_10 + (1 : Int), y10_3.2, y9_2.2, H, rfl, rfl, rfl⟩
    ·refine at_region_draw (id := 8) (by kernel_rfl) (by kernel_rfl) ?_
     refine dp 0 47 (.slice linesa (List.length lines) linescap) ?_
     refine dp 1 48 (.int .i64 v0_10) ?_
     obtain ⟨hc8_2_0, H⟩ := chkE H
     refine reads_at_draw (Reads.conv (fun w hw => hw.less (.drop .here (.drop .here .refl))) hrlinesa) (by have := hc8_2_0; omega) ?_
     intro bb1 oo1 ha1
     refine d_pure 2 49 (.pointer (some ⟨bb1, oo1 + ((v0_10).toNat * 1 + 0), none⟩)) (by kernel_rfl) (by kernel_rfl) (by kernel_rfl) (index_at (t := 30) (sz := 1) (E := 3) (a := linesa) (m := (List.length lines)) (c := linescap) (b := bb1) (off := oo1) (i := (v0_10).toNat) (tinfo 3) (fun _ => by kernel_rfl) (by kernel_rfl) (by kernel_rfl) (by kernel_rfl) ha1 (idx_cast hc8_2_0) (idx_nat hc8_2_0) rfl) ?_
     refine dl 3 50 (.int .i64 (nth lines v0_10)) (load1_at (off := oo1 + ((v0_10).toNat * 1 + 0)) (v := .int .i64 (nth lines v0_10)) (fun _ => by kernel_rfl) rfl (reads_cell (k := 1) (Reads.conv (fun w hw => hw.less (.drop .here (.drop .here .refl))) hrlinesa) (ints_rows _) ha1 (nth_row hc8_2_0) (show [(.int .i64 (nth lines v0_10) : Value)][0]? = some _ from rfl))) ?_
     obtain ⟨y8_4, hy8_4, H⟩ := bindE H
     refine d_quiet 4 51 (.int .i64 y8_4) 22 #[.int .i64 (nth lines v0_10), .int .i64 (4)] (by kernel_rfl) (by kernel_rfl) (by kernel_rfl) (fun _ => by kernel_rfl) (fun _ => (WithinF_tr (nth lines v0_10) (4 : Int) y8_4 hy8_4)) ?_
     refine dp 5 52 (.int .i64 e2_11) ?_
     refine dp 6 53 (.int .i64 e2_12) ?_
     refine dp 7 54 (.slice linesa (List.length lines) linescap) ?_
     refine dp 8 55 (.int .i64 v0_10) ?_
     obtain ⟨hc8_9_0, H⟩ := chkE H
     refine d_pure 9 56 (.pointer (some ⟨bb1, oo1 + ((v0_10).toNat * 1 + 0), none⟩)) (by kernel_rfl) (by kernel_rfl) (by kernel_rfl) (index_at (t := 30) (sz := 1) (E := 3) (a := linesa) (m := (List.length lines)) (c := linescap) (b := bb1) (off := oo1) (i := (v0_10).toNat) (tinfo 3) (fun _ => by kernel_rfl) (by kernel_rfl) (by kernel_rfl) (by kernel_rfl) ha1 (idx_cast hc8_9_0) (idx_nat hc8_9_0) rfl) ?_
     refine dl 10 57 (.int .i64 (nth lines v0_10)) (load1_at (off := oo1 + ((v0_10).toNat * 1 + 0)) (v := .int .i64 (nth lines v0_10)) (fun _ => by kernel_rfl) rfl (reads_cell (k := 1) (Reads.conv (fun w hw => hw.less (.drop .here (.drop .here .refl))) hrlinesa) (ints_rows _) ha1 (nth_row hc8_9_0) (show [(.int .i64 (nth lines v0_10) : Value)][0]? = some _ from rfl))) ?_
     refine d_pure 11 58 (.int .i64 ((nth lines v0_10).tmod (5 : Int))) (by kernel_rfl) (by kernel_rfl) (by kernel_rfl) (run_remP (a := nth lines v0_10) (b := 5) (fun _ => by kernel_rfl) (by decide)) ?_
     refine dp 12 59 (.bool (decide (((nth lines v0_10).tmod (5 : Int)) = (0 : Int)))) ?_
     refine dp 13 60 (.slice dataa (List.length data) datacap) ?_
     refine dp 14 61 (.int .i64 v0_10) ?_
     refine d_pure 15 62 (.int .i64 (v0_10.tmod (3 : Int))) (by kernel_rfl) (by kernel_rfl) (by kernel_rfl) (run_remP (a := v0_10) (b := 3) (fun _ => by kernel_rfl) (by decide)) ?_
     obtain ⟨hc8_16_0, H⟩ := chkE H
     refine d_pure 16 63 (.int .i64 ((1 : Int) + (v0_10.tmod (3 : Int)))) (by kernel_rfl) (by kernel_rfl) (by kernel_rfl) (run_eq (v := .int .i64 (IntKind.i64.wrap ((1 : Int) + (v0_10.tmod (3 : Int))))) (fun _ => by kernel_rfl) (by rw [inR.wrap hc8_16_0])) ?_
     refine draw_turns 17 [19] (by kernel_rfl) (turns_cons ?_ (turns_cons ?_ turns_nil))
     ·obtain ⟨y8_17, hy8_17, H⟩ := bindE H
      refine t_call 17 64 [13, 16, 4, 15, 3, 14, 2, 0, 1] [12, 11, 9, 8, 7, 6, 5] [10] 24 #[.slice dataa (List.length data) datacap, .int .i64 ((1 : Int) + (v0_10.tmod (3 : Int)))] (by kernel_rfl) (by kernel_rfl) (by kernel_rfl) (fun _ => by kernel_rfl) (CutF_tr dataa datacap data ((1 : Int) + (v0_10.tmod (3 : Int))) (Reads.conv (fun w hw => hw.less (.drop .here (.drop .here .refl))) hrdataa) hcdataa y8_17 hy8_17) ?_
      rintro _ _ ⟨a8_17_00, c8_17_00, rfl, rfl⟩
      refine ⟨(stable_cons 10 57 (.int .i64 (nth lines v0_10)) (by kernel_rfl) (by kernel_rfl) (by kernel_rfl) (load1_at (off := oo1 + ((v0_10).toNat * 1 + 0)) (v := .int .i64 (nth lines v0_10)) (fun _ => by kernel_rfl) rfl (reads_cell (k := 1) (Reads.conv (fun w hw => hw.less (.drop .here (.drop .here (.drop .here .refl)))) hrlinesa) (ints_rows _) ha1 (nth_row hc8_9_0) (show [(.int .i64 (nth lines v0_10) : Value)][0]? = some _ from rfl))) stable_nil), ?_⟩
      refine draw_turns 18 [19] (by kernel_rfl) (turns_cons ?_ (turns_cons ?_ turns_nil))
      ·obtain ⟨y8_18, hy8_18, H⟩ := bindE H
       refine t_call 18 65 [4, 5, 6, 12, 17, 3, 11, 13, 16, 2, 10, 15, 0, 1, 9, 14, 7, 8] [] [] 15 #[.int .i64 y8_4, .int .i64 e2_11, .int .i64 e2_12, .bool (decide (((nth lines v0_10).tmod (5 : Int)) = (0 : Int))), .slice a8_17_00 (List.length y8_17) c8_17_00] (by kernel_rfl) (by kernel_rfl) (by kernel_rfl) (fun _ => by kernel_rfl) (ENewF_tr y8_4 e2_11 e2_12 (decide (((nth lines v0_10).tmod (5 : Int)) = (0 : Int))) a8_17_00 c8_17_00 y8_17 (RowsA.reads (k := 1) .here) y8_18 hy8_18) ?_
       rintro _ _ ⟨a8_18_00, c8_18_00, rfl, rfl⟩
       refine ⟨stable_nil, ?_⟩
       refine d_step 19 13 [] [] [] (by kernel_rfl) (by kernel_rfl) (by kernel_rfl) (st_new (T := 32) (cells := #[.int .i64 (0), .int .i64 (0), .int .i64 (0), .int .i64 (0), .bool false, .slice none 0 0]) (fun a => .pointer (some a)) (fun _ => by kernel_rfl)) ?_
       rintro _ _ ⟨b8_19, rfl, rfl⟩
       refine ⟨stable_nil, ?_⟩
       refine d_do 20 [19, 18, 0, 1, 2, 3, 4, 5, 6, 7, 8, 9, 10, 11, 12, 13, 14, 15, 16, 17] [] [] (by kernel_rfl) (by kernel_rfl) (by kernel_rfl) (st_store (off := 0) (vs := [.int .i64 y8_18.fwd, .int .i64 y8_18.back, .int .i64 y8_18.line, .int .i64 y8_18.used, .bool y8_18.dirty, .slice a8_18_00 (List.length y8_18.data) c8_18_00]) (c' := #[.int .i64 y8_18.fwd, .int .i64 y8_18.back, .int .i64 y8_18.line, .int .i64 y8_18.used, .bool y8_18.dirty, .slice a8_18_00 (List.length y8_18.data) c8_18_00]) (fun _ => by kernel_rfl) .here (by kernel_rfl) (by kernel_rfl) (by kernel_rfl)) ?_
       rintro _ _ ⟨rfl, rfl⟩
       refine ⟨stable_nil, ?_⟩
       refine draw_end (by kernel_rfl) ?_
       refine ae [(0, .slice linesa (List.length lines) linescap), (1, .slice linksa (List.length links) linkscap), (2, .slice dataa (List.length data) datacap), (8, .pointer (some ⟨b1_0, 0, none⟩)), (9, .pointer (some ⟨b1_1, 0, none⟩)), (10, .int .i64 v0_10), (13, .pointer (some ⟨b8_19, 0, none⟩))] ?_
       refine at_round_normal ?_
       exact at_join_mk [(0, .slice linesa (List.length lines) linescap), (1, .slice linksa (List.length links) linkscap), (2, .slice dataa (List.length data) datacap), (8, .pointer (some ⟨b1_0, 0, none⟩)), (9, .pointer (some ⟨b1_1, 0, none⟩)), (10, .int .i64 v0_10), (13, .pointer (some ⟨b8_19, 0, none⟩))] ((Asn.own b8_19 (.cells #[.int .i64 y8_18.fwd, .int .i64 y8_18.back, .int .i64 y8_18.line, .int .i64 y8_18.used, .bool y8_18.dirty, .slice a8_18_00 (List.length y8_18.data) c8_18_00] 32 (0, 0))) :: (IntsA a8_18_00 c8_18_00 y8_18.data) :: (RChA b1_1 v0_b1_1) :: (CacheA b1_0 v0_b1_0) :: Γ) ⟨by kernel_rfl, by kernel_rfl, by kernel_rfl, by kernel_rfl, by kernel_rfl, by kernel_rfl, by kernel_rfl, trivial⟩ (fun w hw => (Sat.less (.take .here (.take .here (.take (.there .here) (.take (.there .here) (.drop .here .refl))))) hw)) ⟨b8_19, y8_18, a8_18_00, c8_18_00, H, rfl, rfl⟩
      ·refine t_step 19 13 [] [12, 11, 9, 8, 7, 6, 5] [10] (by kernel_rfl) (by kernel_rfl) (by kernel_rfl) (st_new (T := 32) (cells := #[.int .i64 (0), .int .i64 (0), .int .i64 (0), .int .i64 (0), .bool false, .slice none 0 0]) (fun a => .pointer (some a)) (fun _ => by kernel_rfl)) ?_
       rintro _ _ ⟨b8_19, rfl, rfl⟩
       refine ⟨(stable_cons 10 57 (.int .i64 (nth lines v0_10)) (by kernel_rfl) (by kernel_rfl) (by kernel_rfl) (load1_at (off := oo1 + ((v0_10).toNat * 1 + 0)) (v := .int .i64 (nth lines v0_10)) (fun _ => by kernel_rfl) rfl (reads_cell (k := 1) (Reads.conv (fun w hw => hw.less (.drop .here (.drop .here (.drop .here (.drop .here .refl))))) hrlinesa) (ints_rows _) ha1 (nth_row hc8_9_0) (show [(.int .i64 (nth lines v0_10) : Value)][0]? = some _ from rfl))) stable_nil), ?_⟩
       obtain ⟨y8_18, hy8_18, H⟩ := bindE H
       refine d_call 18 65 [4, 5, 6, 12, 17, 3, 11, 13, 16, 2, 10, 15, 0, 1, 9, 14, 7, 8] [] [] 15 #[.int .i64 y8_4, .int .i64 e2_11, .int .i64 e2_12, .bool (decide (((nth lines v0_10).tmod (5 : Int)) = (0 : Int))), .slice a8_17_00 (List.length y8_17) c8_17_00] (by kernel_rfl) (by kernel_rfl) (by kernel_rfl) (fun _ => by kernel_rfl) (ENewF_tr y8_4 e2_11 e2_12 (decide (((nth lines v0_10).tmod (5 : Int)) = (0 : Int))) a8_17_00 c8_17_00 y8_17 (RowsA.reads (k := 1) (.there .here)) y8_18 hy8_18) ?_
       rintro _ _ ⟨a8_18_00, c8_18_00, rfl, rfl⟩
       refine ⟨stable_nil, ?_⟩
       refine d_do 20 [19, 18, 0, 1, 2, 3, 4, 5, 6, 7, 8, 9, 10, 11, 12, 13, 14, 15, 16, 17] [] [] (by kernel_rfl) (by kernel_rfl) (by kernel_rfl) (st_store (off := 0) (vs := [.int .i64 y8_18.fwd, .int .i64 y8_18.back, .int .i64 y8_18.line, .int .i64 y8_18.used, .bool y8_18.dirty, .slice a8_18_00 (List.length y8_18.data) c8_18_00]) (c' := #[.int .i64 y8_18.fwd, .int .i64 y8_18.back, .int .i64 y8_18.line, .int .i64 y8_18.used, .bool y8_18.dirty, .slice a8_18_00 (List.length y8_18.data) c8_18_00]) (fun _ => by kernel_rfl) (.there .here) (by kernel_rfl) (by kernel_rfl) (by kernel_rfl)) ?_
       rintro _ _ ⟨rfl, rfl⟩
       refine ⟨stable_nil, ?_⟩
       refine draw_end (by kernel_rfl) ?_
       refine ae [(0, .slice linesa (List.length lines) linescap), (1, .slice linksa (List.length links) linkscap), (2, .slice dataa (List.length data) datacap), (8, .pointer (some ⟨b1_0, 0, none⟩)), (9, .pointer (some ⟨b1_1, 0, none⟩)), (10, .int .i64 v0_10), (13, .pointer (some ⟨b8_19, 0, none⟩))] ?_
       refine at_round_normal ?_
       exact at_join_mk [(0, .slice linesa (List.length lines) linescap), (1, .slice linksa (List.length links) linkscap), (2, .slice dataa (List.length data) datacap), (8, .pointer (some ⟨b1_0, 0, none⟩)), (9, .pointer (some ⟨b1_1, 0, none⟩)), (10, .int .i64 v0_10), (13, .pointer (some ⟨b8_19, 0, none⟩))] ((Asn.own b8_19 (.cells #[.int .i64 y8_18.fwd, .int .i64 y8_18.back, .int .i64 y8_18.line, .int .i64 y8_18.used, .bool y8_18.dirty, .slice a8_18_00 (List.length y8_18.data) c8_18_00] 32 (0, 0))) :: (IntsA a8_18_00 c8_18_00 y8_18.data) :: (RChA b1_1 v0_b1_1) :: (CacheA b1_0 v0_b1_0) :: Γ) ⟨by kernel_rfl, by kernel_rfl, by kernel_rfl, by kernel_rfl, by kernel_rfl, by kernel_rfl, by kernel_rfl, trivial⟩ (fun w hw => (Sat.less (.take .here (.take .here (.take (.there .here) (.take (.there .here) (.drop .here .refl))))) hw)) ⟨b8_19, y8_18, a8_18_00, c8_18_00, H, rfl, rfl⟩
     ·refine t_step 19 13 [] [16, 15, 14, 13, 12, 11, 9, 8, 7, 6, 5, 4, 2, 1, 0] [10, 3] (by kernel_rfl) (by kernel_rfl) (by kernel_rfl) (st_new (T := 32) (cells := #[.int .i64 (0), .int .i64 (0), .int .i64 (0), .int .i64 (0), .bool false, .slice none 0 0]) (fun a => .pointer (some a)) (fun _ => by kernel_rfl)) ?_
      rintro _ _ ⟨b8_19, rfl, rfl⟩
      refine ⟨(stable_cons 10 57 (.int .i64 (nth lines v0_10)) (by kernel_rfl) (by kernel_rfl) (by kernel_rfl) (load1_at (off := oo1 + ((v0_10).toNat * 1 + 0)) (v := .int .i64 (nth lines v0_10)) (fun _ => by kernel_rfl) rfl (reads_cell (k := 1) (Reads.conv (fun w hw => hw.less (.drop .here (.drop .here (.drop .here .refl)))) hrlinesa) (ints_rows _) ha1 (nth_row hc8_9_0) (show [(.int .i64 (nth lines v0_10) : Value)][0]? = some _ from rfl))) (stable_cons 3 50 (.int .i64 (nth lines v0_10)) (by kernel_rfl) (by kernel_rfl) (by kernel_rfl) (load1_at (off := oo1 + ((v0_10).toNat * 1 + 0)) (v := .int .i64 (nth lines v0_10)) (fun _ => by kernel_rfl) rfl (reads_cell (k := 1) (Reads.conv (fun w hw => hw.less (.drop .here (.drop .here (.drop .here .refl)))) hrlinesa) (ints_rows _) ha1 (nth_row hc8_2_0) (show [(.int .i64 (nth lines v0_10) : Value)][0]? = some _ from rfl))) stable_nil)), ?_⟩
      obtain ⟨y8_17, hy8_17, H⟩ := bindE H
      refine d_call 17 64 [13, 16, 4, 15, 3, 14, 2, 0, 1] [12, 11, 9, 8, 7, 6, 5] [10] 24 #[.slice dataa (List.length data) datacap, .int .i64 ((1 : Int) + (v0_10.tmod (3 : Int)))] (by kernel_rfl) (by kernel_rfl) (by kernel_rfl) (fun _ => by kernel_rfl) (CutF_tr dataa datacap data ((1 : Int) + (v0_10.tmod (3 : Int))) (Reads.conv (fun w hw => hw.less (.drop .here (.drop .here (.drop .here .refl)))) hrdataa) hcdataa y8_17 hy8_17) ?_
      rintro _ _ ⟨a8_17_00, c8_17_00, rfl, rfl⟩
      refine ⟨(stable_cons 10 57 (.int .i64 (nth lines v0_10)) (by kernel_rfl) (by kernel_rfl) (by kernel_rfl) (load1_at (off := oo1 + ((v0_10).toNat * 1 + 0)) (v := .int .i64 (nth lines v0_10)) (fun _ => by kernel_rfl) rfl (reads_cell (k := 1) (Reads.conv (fun w hw => hw.less (.drop .here (.drop .here (.drop .here (.drop .here .refl))))) hrlinesa) (ints_rows _) ha1 (nth_row hc8_9_0) (show [(.int .i64 (nth lines v0_10) : Value)][0]? = some _ from rfl))) stable_nil), ?_⟩
      obtain ⟨y8_18, hy8_18, H⟩ := bindE H
      refine d_call 18 65 [4, 5, 6, 12, 17, 3, 11, 13, 16, 2, 10, 15, 0, 1, 9, 14, 7, 8] [] [] 15 #[.int .i64 y8_4, .int .i64 e2_11, .int .i64 e2_12, .bool (decide (((nth lines v0_10).tmod (5 : Int)) = (0 : Int))), .slice a8_17_00 (List.length y8_17) c8_17_00] (by kernel_rfl) (by kernel_rfl) (by kernel_rfl) (fun _ => by kernel_rfl) (ENewF_tr y8_4 e2_11 e2_12 (decide (((nth lines v0_10).tmod (5 : Int)) = (0 : Int))) a8_17_00 c8_17_00 y8_17 (RowsA.reads (k := 1) .here) y8_18 hy8_18) ?_
      rintro _ _ ⟨a8_18_00, c8_18_00, rfl, rfl⟩
      refine ⟨stable_nil, ?_⟩
      refine d_do 20 [19, 18, 0, 1, 2, 3, 4, 5, 6, 7, 8, 9, 10, 11, 12, 13, 14, 15, 16, 17] [] [] (by kernel_rfl) (by kernel_rfl) (by kernel_rfl) (st_store (off := 0) (vs := [.int .i64 y8_18.fwd, .int .i64 y8_18.back, .int .i64 y8_18.line, .int .i64 y8_18.used, .bool y8_18.dirty, .slice a8_18_00 (List.length y8_18.data) c8_18_00]) (c' := #[.int .i64 y8_18.fwd, .int .i64 y8_18.back, .int .i64 y8_18.line, .int .i64 y8_18.used, .bool y8_18.dirty, .slice a8_18_00 (List.length y8_18.data) c8_18_00]) (fun _ => by kernel_rfl) (.there (.there .here)) (by kernel_rfl) (by kernel_rfl) (by kernel_rfl)) ?_
      rintro _ _ ⟨rfl, rfl⟩
      refine ⟨stable_nil, ?_⟩
      refine draw_end (by kernel_rfl) ?_
      refine ae [(0, .slice linesa (List.length lines) linescap), (1, .slice linksa (List.length links) linkscap), (2, .slice dataa (List.length data) datacap), (8, .pointer (some ⟨b1_0, 0, none⟩)), (9, .pointer (some ⟨b1_1, 0, none⟩)), (10, .int .i64 v0_10), (13, .pointer (some ⟨b8_19, 0, none⟩))] ?_
      refine at_round_normal ?_
      exact at_join_mk [(0, .slice linesa (List.length lines) linescap), (1, .slice linksa (List.length links) linkscap), (2, .slice dataa (List.length data) datacap), (8, .pointer (some ⟨b1_0, 0, none⟩)), (9, .pointer (some ⟨b1_1, 0, none⟩)), (10, .int .i64 v0_10), (13, .pointer (some ⟨b8_19, 0, none⟩))] ((Asn.own b8_19 (.cells #[.int .i64 y8_18.fwd, .int .i64 y8_18.back, .int .i64 y8_18.line, .int .i64 y8_18.used, .bool y8_18.dirty, .slice a8_18_00 (List.length y8_18.data) c8_18_00] 32 (0, 0))) :: (IntsA a8_18_00 c8_18_00 y8_18.data) :: (RChA b1_1 v0_b1_1) :: (CacheA b1_0 v0_b1_0) :: Γ) ⟨by kernel_rfl, by kernel_rfl, by kernel_rfl, by kernel_rfl, by kernel_rfl, by kernel_rfl, by kernel_rfl, trivial⟩ (fun w hw => (Sat.less (.take .here (.take .here (.take (.there .here) (.take (.there .here) (.drop .here .refl))))) hw)) ⟨b8_19, y8_18, a8_18_00, c8_18_00, H, rfl, rfl⟩
   ·refine aq (x := C13 [1,1,0,1,0,0,1,0,0,1,0,0]) (y := C13 [1,1,0,1,0,0,1,0,0,1,0,1]) ?_
    refine ar (id := 6) 4 ?_
    refine sp 30 (.int .i64 v0_10) ?_
    refine sp 31 (.slice linksa (List.length links) linkscap) ?_
    refine sp 32 (.int .i64 (((List.length links) : Nat) : Int)) ?_
    refine sp 33 (.bool (decide (v0_10 < (((List.length links) : Nat) : Int)))) ?_
    refine ops_end ?_
    refine ae [(0, .slice linesa (List.length lines) linescap), (1, .slice linksa (List.length links) linkscap), (2, .slice dataa (List.length data) datacap), (8, .pointer (some ⟨b1_0, 0, none⟩)), (9, .pointer (some ⟨b1_1, 0, none⟩)), (10, .int .i64 v0_10), (11, .int .i64 (-1)), (12, .int .i64 (-1)), (33, .bool (decide (v0_10 < (((List.length links) : Nat) : Int))))] ?_
    refine at_then_normal ?_
    rcases Bool.eq_false_or_eq_true (decide (v0_10 < (((List.length links) : Nat) : Int))) with h2 | h2
    ·replace H := bifT H h2
     refine at_true (t := decide (v0_10 < (((List.length links) : Nat) : Int))) (x := C13 [1,1,0,1,0,0,1,0,0,1,0,1,0]) (y := C13 [1,1,0,1,0,0,1,0,0,1,0,1,1]) (o := .tmp 33) (by kernel_rfl) (by kernel_rfl) (by kernel_rfl) h2 ?_
     refine at_region_draw (id := 7) (by kernel_rfl) (by kernel_rfl) ?_
     refine dp 0 34 (.slice linksa (List.length links) linkscap) ?_
     refine dp 1 35 (.int .i64 v0_10) ?_
     obtain ⟨hc7_2_0, H⟩ := chkE H
     refine reads_at_draw (Reads.conv (fun w hw => hw.less (.drop .here (.drop .here .refl))) hrlinksa) (by have := hc7_2_0; omega) ?_
     intro bb2 oo2 ha2
     refine d_pure 2 36 (.pointer (some ⟨bb2, oo2 + ((v0_10).toNat * 1 + 0), none⟩)) (by kernel_rfl) (by kernel_rfl) (by kernel_rfl) (index_at (t := 30) (sz := 1) (E := 3) (a := linksa) (m := (List.length links)) (c := linkscap) (b := bb2) (off := oo2) (i := (v0_10).toNat) (tinfo 3) (fun _ => by kernel_rfl) (by kernel_rfl) (by kernel_rfl) (by kernel_rfl) ha2 (idx_cast hc7_2_0) (idx_nat hc7_2_0) rfl) ?_
     refine dl 3 37 (.int .i64 (nth links v0_10)) (load1_at (off := oo2 + ((v0_10).toNat * 1 + 0)) (v := .int .i64 (nth links v0_10)) (fun _ => by kernel_rfl) rfl (reads_cell (k := 1) (Reads.conv (fun w hw => hw.less (.drop .here (.drop .here .refl))) hrlinksa) (ints_rows _) ha2 (nth_row hc7_2_0) (show [(.int .i64 (nth links v0_10) : Value)][0]? = some _ from rfl))) ?_
     obtain ⟨y7_4, hy7_4, H⟩ := bindE H
     refine d_quiet 4 38 (.int .i64 y7_4) 22 #[.int .i64 (nth links v0_10), .int .i64 (5)] (by kernel_rfl) (by kernel_rfl) (by kernel_rfl) (fun _ => by kernel_rfl) (fun _ => (WithinF_tr (nth links v0_10) (5 : Int) y7_4 hy7_4)) ?_
     refine dp 5 39 (.int .i64 (wr (y7_4 - (1 : Int)))) ?_
     refine dp 6 40 (.slice linksa (List.length links) linkscap) ?_
     refine dp 7 41 (.int .i64 v0_10) ?_
     obtain ⟨hc7_8_0, H⟩ := chkE H
     refine d_pure 8 42 (.pointer (some ⟨bb2, oo2 + ((v0_10).toNat * 1 + 0), none⟩)) (by kernel_rfl) (by kernel_rfl) (by kernel_rfl) (index_at (t := 30) (sz := 1) (E := 3) (a := linksa) (m := (List.length links)) (c := linkscap) (b := bb2) (off := oo2) (i := (v0_10).toNat) (tinfo 3) (fun _ => by kernel_rfl) (by kernel_rfl) (by kernel_rfl) (by kernel_rfl) ha2 (idx_cast hc7_8_0) (idx_nat hc7_8_0) rfl) ?_
     refine dl 9 43 (.int .i64 (nth links v0_10)) (load1_at (off := oo2 + ((v0_10).toNat * 1 + 0)) (v := .int .i64 (nth links v0_10)) (fun _ => by kernel_rfl) rfl (reads_cell (k := 1) (Reads.conv (fun w hw => hw.less (.drop .here (.drop .here .refl))) hrlinksa) (ints_rows _) ha2 (nth_row hc7_8_0) (show [(.int .i64 (nth links v0_10) : Value)][0]? = some _ from rfl))) ?_
     refine d_pure 10 44 (.int .i64 (wr ((nth links v0_10).tdiv (5 : Int)))) (by kernel_rfl) (by kernel_rfl) (by kernel_rfl) (run_quoP (a := nth links v0_10) (b := 5) (fun _ => by kernel_rfl) (by decide)) ?_
     obtain ⟨y7_11, hy7_11, H⟩ := bindE H
     refine d_quiet 11 45 (.int .i64 y7_11) 22 #[.int .i64 (wr ((nth links v0_10).tdiv (5 : Int))), .int .i64 (5)] (by kernel_rfl) (by kernel_rfl) (by kernel_rfl) (fun _ => by kernel_rfl) (fun _ => (WithinF_tr (wr ((nth links v0_10).tdiv (5 : Int))) (5 : Int) y7_11 hy7_11)) ?_
     refine dp 12 46 (.int .i64 (wr (y7_11 - (1 : Int)))) ?_
     refine dp 13 11 (.int .i64 (wr (y7_4 - (1 : Int)))) ?_
     refine dp 14 12 (.int .i64 (wr (y7_11 - (1 : Int)))) ?_
     refine draw_end (by kernel_rfl) ?_
     refine ae [(0, .slice linesa (List.length lines) linescap), (1, .slice linksa (List.length links) linkscap), (2, .slice dataa (List.length data) datacap), (8, .pointer (some ⟨b1_0, 0, none⟩)), (9, .pointer (some ⟨b1_1, 0, none⟩)), (10, .int .i64 v0_10), (11, .int .i64 (wr (y7_4 - (1 : Int)))), (12, .int .i64 (wr (y7_11 - (1 : Int))))] ?_
     refine at_round_normal ?_
     exact at_join_mk [(0, .slice linesa (List.length lines) linescap), (1, .slice linksa (List.length links) linkscap), (2, .slice dataa (List.length data) datacap), (8, .pointer (some ⟨b1_0, 0, none⟩)), (9, .pointer (some ⟨b1_1, 0, none⟩)), (10, .int .i64 v0_10), (11, .int .i64 (wr (y7_4 - (1 : Int)))), (12, .int .i64 (wr (y7_11 - (1 : Int))))] ((RChA b1_1 v0_b1_1) :: (CacheA b1_0 v0_b1_0) :: Γ) ⟨by kernel_rfl, by kernel_rfl, by kernel_rfl, by kernel_rfl, by kernel_rfl, by kernel_rfl, by kernel_rfl, by kernel_rfl, trivial⟩ (fun w hw => (Sat.less (.take .here (.take .here .refl)) hw)) ⟨wr (y7_4 - (1 : Int)), wr (y7_11 - (1 : Int)), H, rfl, rfl⟩
    ·replace H := bifF H h2
     refine at_false (t := decide (v0_10 < (((List.length links) : Nat) : Int))) (x := C13 [1,1,0,1,0,0,1,0,0,1,0,1,0]) (y := C13 [1,1,0,1,0,0,1,0,0,1,0,1,1]) (o := .tmp 33) (by kernel_rfl) (by kernel_rfl) (by kernel_rfl) h2 ?_
     refine at_skip (by kernel_rfl) ?_
     refine at_round_normal ?_
     exact at_join_mk [(0, .slice linesa (List.length lines) linescap), (1, .slice linksa (List.length links) linkscap), (2, .slice dataa (List.length data) datacap), (8, .pointer (some ⟨b1_0, 0, none⟩)), (9, .pointer (some ⟨b1_1, 0, none⟩)), (10, .int .i64 v0_10), (11, .int .i64 (-1)), (12, .int .i64 (-1))] ((RChA b1_1 v0_b1_1) :: (CacheA b1_0 v0_b1_0) :: Γ) ⟨by kernel_rfl, by kernel_rfl, by kernel_rfl, by kernel_rfl, by kernel_rfl, by kernel_rfl, by kernel_rfl, by kernel_rfl, trivial⟩ (fun w hw => (Sat.less (.take .here (.take .here .refl)) hw)) ⟨(-1), (-1), H, rfl, rfl⟩
  ·replace H := bifF H h1
   refine at_false (t := e1_27) (x := C13 [1,1,0,1,0,0,0,1,0]) (y := C13 [1,1,0,1,0,0,0,1,1]) (o := .tmp 27) (by kernel_rfl) (by kernel_rfl) (by kernel_rfl) h1 ?_
   refine at_exit (i := 0) (by kernel_rfl) ?_
   refine at_then_exit ?_
   refine at_then_exit ?_
   rw [bothS_k0] at H
   refine ae [(0, .slice linesa (List.length lines) linescap), (1, .slice linksa (List.length links) linkscap), (2, .slice dataa (List.length data) datacap), (8, .pointer (some ⟨b1_0, 0, none⟩)), (9, .pointer (some ⟨b1_1, 0, none⟩)), (10, .int .i64 v0_10)] ?_
   refine At.conv (Γ' := (RChA b1_1 v0_b1_1) :: (CacheA b1_0 v0_b1_0) :: Γ) (fun w hw => (Sat.less (.take .here (.take .here .refl)) hw)) ?_
   refine at_in_here ?_
   refine at_then_normal ?_
   refine aq (x := C13 [1,1,1,0]) (y := C13 [1,1,1,1]) ?_
   refine ar (id := 11) 4 ?_
   refine sp 73 (.pointer (some ⟨b1_0, 0, none⟩)) ?_
   refine sp 74 (.pointer (some ⟨b1_1, 0, none⟩)) ?_
   refine sp 6 (.pointer (some ⟨b1_0, 0, none⟩)) ?_
   refine sp 7 (.pointer (some ⟨b1_1, 0, none⟩)) ?_
   refine ops_end ?_
   refine ae [(6, .pointer (some ⟨b1_0, 0, none⟩)), (7, .pointer (some ⟨b1_1, 0, none⟩))] ?_
   refine at_then_normal ?_
   refine at_ret (by kernel_rfl) ?_
   obtain rfl := someE H
   refine at_backR [.pointer (some ⟨b1_0, 0, none⟩), .pointer (some ⟨b1_1, 0, none⟩)] ((CacheA b1_0 v0_b1_0) :: (RChA b1_1 v0_b1_1) :: Γ) (rs := [.tmp 6, .tmp 7]) (by kernel_rfl) (.cons (.tmp (by kernel_rfl)) (.cons (.tmp (by kernel_rfl)) .nil)) (fun w hw => (Sat.less (.take (.there .here) (.take .here .refl)) hw)) ?_
   exact ⟨b1_0, b1_1, rfl, rfl⟩
 ·refine ar (id := 3) 12 ?_
  refine sp 16 (.pointer (some ⟨b1_0, 0, none⟩)) ?_
  refine sp 17 (.bool true) ?_
  refine sp 18 (.bool true) ?_
  refine sp 19 (.int .i64 v0_10) ?_
  refine sp 20 (.slice linesa (List.length lines) linescap) ?_
  refine sp 21 (.int .i64 (((List.length lines) : Nat) : Int)) ?_
  refine sp 22 (.bool (decide (v0_10 < (((List.length lines) : Nat) : Int)))) ?_
  refine sp 23 (.bool (decide (v0_10 < (((List.length lines) : Nat) : Int)))) ?_
  rcases Bool.eq_false_or_eq_true (decide (v0_10 < (((List.length lines) : Nat) : Int))) with h3 | h3
  ·replace H := bifT H h3
   refine sr 24 (.bool true) (run_eq (v := .bool (decide (v0_10 < (((List.length lines) : Nat) : Int)))) (fun _ => by kernel_rfl) (congrArg Value.bool h3)) ?_
   refine sp 25 (.int .i64 v0_10) ?_
   refine sp 26 (.bool (decide (v0_10 < (5 : Int)))) ?_
   refine sp 27 (.bool (decide (v0_10 < (5 : Int)))) ?_
   refine ops_end ?_
   refine ae [(0, .slice linesa (List.length lines) linescap), (1, .slice linksa (List.length links) linkscap), (2, .slice dataa (List.length data) datacap), (8, .pointer (some ⟨b1_0, 0, none⟩)), (9, .pointer (some ⟨b1_1, 0, none⟩)), (10, .int .i64 v0_10), (27, .bool (decide (v0_10 < (5 : Int))))] ?_
   refine at_round_normal ?_
   exact at_join_mk [(0, .slice linesa (List.length lines) linescap), (1, .slice linksa (List.length links) linkscap), (2, .slice dataa (List.length data) datacap), (8, .pointer (some ⟨b1_0, 0, none⟩)), (9, .pointer (some ⟨b1_1, 0, none⟩)), (10, .int .i64 v0_10), (27, .bool (decide (v0_10 < (5 : Int))))] ((RChA b1_1 v0_b1_1) :: (CacheA b1_0 v0_b1_0) :: Γ) ⟨by kernel_rfl, by kernel_rfl, by kernel_rfl, by kernel_rfl, by kernel_rfl, by kernel_rfl, by kernel_rfl, trivial⟩ (fun w hw => (Sat.less (.take .here (.take .here .refl)) hw)) ⟨decide (v0_10 < (5 : Int)), H, rfl, rfl⟩
  ·replace H := bifF H h3
   refine sr 24 (.bool false) (run_eq (v := .bool (decide (v0_10 < (((List.length lines) : Nat) : Int)))) (fun _ => by kernel_rfl) (congrArg Value.bool h3)) ?_
   refine sa 25 ?_
   refine sa 26 ?_
   refine sp 27 (.bool false) ?_
   refine ops_end ?_
   refine ae [(0, .slice linesa (List.length lines) linescap), (1, .slice linksa (List.length links) linkscap), (2, .slice dataa (List.length data) datacap), (8, .pointer (some ⟨b1_0, 0, none⟩)), (9, .pointer (some ⟨b1_1, 0, none⟩)), (10, .int .i64 v0_10), (27, .bool false)] ?_
   refine at_round_normal ?_
   exact at_join_mk [(0, .slice linesa (List.length lines) linescap), (1, .slice linksa (List.length links) linkscap), (2, .slice dataa (List.length data) datacap), (8, .pointer (some ⟨b1_0, 0, none⟩)), (9, .pointer (some ⟨b1_1, 0, none⟩)), (10, .int .i64 v0_10), (27, .bool false)] ((RChA b1_1 v0_b1_1) :: (CacheA b1_0 v0_b1_0) :: Γ) ⟨by kernel_rfl, by kernel_rfl, by kernel_rfl, by kernel_rfl, by kernel_rfl, by kernel_rfl, by kernel_rfl, trivial⟩ (fun w hw => (Sat.less (.take .here (.take .here .refl)) hw)) ⟨false, H, rfl, rfl⟩
end Go.Proofs.Ytlnjnkbnppnbkaa
