/- The law PurgeWalks: its walk. -/
import Derived.Test.YtlnjnkbnppnbkaaPdB
import Derived.Test.YtlnjnkbnppnbkaaSlArr
namespace Go.Proofs.Ytlnjnkbnppnbkaa
open Go Go.RowKit
set_option linter.unusedVariables false
set_option linter.unusedSimpArgs false
def behindS_k0 (e0_4 : Int) (e0_b1_1 : List Int) : Option ((List Int)) :=
  chk ((e0_b1_1).length = 6) (chk ((([nth e0_b1_1 0, nth e0_b1_1 1, nth e0_b1_1 2, nth e0_b1_1 3, nth e0_b1_1 4, nth e0_b1_1 5] : List Int)).length = 6) (some ([nth e0_b1_1 0, nth e0_b1_1 1, nth e0_b1_1 2, nth e0_b1_1 3, nth e0_b1_1 4, nth e0_b1_1 5] : List Int)))
def behindS_l0 (l : List Int) (k0 : Int → (List Int) → Option ((List Int))) : Nat → Int → (List Int) → Option ((List Int))
  | 0 => fun _ _ => none
  | m + 1 => fun v0_4 v0_b1_1 => chk (inR (v0_4 + (1 : Int))) ((bif decide ((v0_4 + (1 : Int)) < (((List.length l) : Nat) : Int)) then chk (0 ≤ v0_4 ∧ v0_4 < ((l.length : Nat) : Int)) (chk (inR (v0_4 + (1 : Int))) (chk (0 ≤ (v0_4 + (1 : Int)) ∧ (v0_4 + (1 : Int)) < ((l.length : Nat) : Int)) (chk ((0 ≤ (nth l v0_4) ∧ (nth l v0_4) < (6 : Int)) ∧ 0 ≤ (nth l v0_4) ∧ (nth l v0_4) < ((v0_b1_1.length : Nat) : Int)) (letP (setI v0_b1_1 (nth l v0_4) (nth l (v0_4 + (1 : Int)))) fun w5_10 => chk (inR (v0_4 + (1 : Int))) ((behindS_l0 l k0 m) (v0_4 + (1 : Int)) w5_10))))) else k0 v0_4 v0_b1_1))
def behindS (l : List Int) : Option ((List Int)) :=
  behindS_l0 l (behindS_k0 ) 64 0 ([(-1), (-1), (-1), (-1), (-1), (-1)] : List Int)
noncomputable def C29 (p : List Nat) : Code := codeAt (bodyOf Try.f29) p
set_option maxRecDepth 100000 in
set_option maxHeartbeats 8000000 in
theorem BehindF_tr {W0 : World} {Γ : List Asn} (la : Option Addr) (lcap : Nat) (l : List Int) (hrla : Reads W0 Γ la (ints l)) (y : (List Int)) (H : behindS l = some y) : Tr Try.prog 29 #[.slice la (List.length l) lcap] W0 (Γ) (fun r Δ => r = .agg #[.int .i64 (nth y 0), .int .i64 (nth y 1), .int .i64 (nth y 2), .int .i64 (nth y 3), .int .i64 (nth y 4), .int .i64 (nth y 5)] ∧ Δ = Γ) := by
  unfold behindS at H
  refine Tr.enter (fn := Try.f29) (c := C29 []) (args := [.slice la (List.length l) lcap]) 24 Try.func29 (by kernel_rfl) (by kernel_rfl) ?_
  refine At.env [(0, .slice la (List.length l) lcap)] ⟨by kernel_rfl, trivial⟩ ?_
  refine at_seq (x := C29 [0]) (y := C29 [1]) (by kernel_rfl) ?_
  refine at_region (id := 0) 1 (by kernel_rfl) (by kernel_rfl) ?_
  refine s_step 2 (by kernel_rfl) (by kernel_rfl) (st_new (T := 54) (cells := arrI ([0, 0, 0, 0, 0, 0] : List Int)) (fun a => .pointer (some a)) (fun _ => by kernel_rfl)) ?_
  rintro _ _ ⟨b0_0, rfl, rfl⟩
  refine ops_end ?_
  refine At.env [(0, .slice la (List.length l) lcap), (2, .pointer (some ⟨b0_0, 0, none⟩))] ⟨by kernel_rfl, by kernel_rfl, trivial⟩ ?_
  refine at_then_normal ?_
  refine at_seq (x := C29 [1,0]) (y := C29 [1,1]) (by kernel_rfl) ?_
  refine at_region (id := 1) 3 (by kernel_rfl) (by kernel_rfl) ?_
  refine s_pure 5 (.agg #[.int .i64 (-1), .int .i64 (-1), .int .i64 (-1), .int .i64 (-1), .int .i64 (-1), .int .i64 (-1)]) (by kernel_rfl) (by kernel_rfl) (fun _ => by kernel_rfl) ?_
  refine s_step 3 (by kernel_rfl) (by kernel_rfl) (st_new (T := 54) (cells := arrI ([0, 0, 0, 0, 0, 0] : List Int)) (fun a => .pointer (some a)) (fun _ => by kernel_rfl)) ?_
  rintro _ _ ⟨b1_1, rfl, rfl⟩
  refine s_do (by kernel_rfl) (by kernel_rfl) (st_store (off := 0) (vs := [.int .i64 (-1), .int .i64 (-1), .int .i64 (-1), .int .i64 (-1), .int .i64 (-1), .int .i64 (-1)]) (c' := arrI ([(-1), (-1), (-1), (-1), (-1), (-1)] : List Int)) (fun _ => by kernel_rfl) .here (by kernel_rfl) (by kernel_rfl) (by kernel_rfl)) ?_
  rintro _ _ ⟨rfl, rfl⟩
  refine ops_end ?_
  refine At.env [(0, .slice la (List.length l) lcap), (2, .pointer (some ⟨b0_0, 0, none⟩)), (3, .pointer (some ⟨b1_1, 0, none⟩))] ⟨by kernel_rfl, by kernel_rfl, by kernel_rfl, trivial⟩ ?_
  refine at_then_normal ?_
  refine at_seq (x := C29 [1,1,0]) (y := C29 [1,1,1]) (by kernel_rfl) ?_
  refine at_seq (x := C29 [1,1,0,0]) (y := C29 [1,1,0,1]) (by kernel_rfl) ?_
  refine at_region (id := 2) 1 (by kernel_rfl) (by kernel_rfl) ?_
  refine s_pure 4 (.int .i64 (0)) (by kernel_rfl) (by kernel_rfl) (fun _ => by kernel_rfl) ?_
  refine ops_end ?_
  refine At.env [(0, .slice la (List.length l) lcap), (2, .pointer (some ⟨b0_0, 0, none⟩)), (3, .pointer (some ⟨b1_1, 0, none⟩)), (4, .int .i64 (0))] ⟨by kernel_rfl, by kernel_rfl, by kernel_rfl, by kernel_rfl, trivial⟩ ?_
  refine at_then_normal ?_
  refine at_block (i := 0) (x := C29 [1,1,0,1,0]) (by kernel_rfl) ?_
  refine At.conv (Γ' := (Asn.own b1_1 (.cells (arrI ([(-1), (-1), (-1), (-1), (-1), (-1)] : List Int)) 54 (0, 0))) :: (Asn.own b0_0 (.cells (arrI ([0, 0, 0, 0, 0, 0] : List Int)) 54 (0, 0))) :: Γ) (fun w hw => (Sat.less (.take .here (.take .here .refl)) hw)) ?_
  refine at_loopR (x := C29 [1,1,0,1,0,0]) (fun mm ff ΔΔ => ∃ (fuel : Nat) (v0_4 : Int) (v0_b1_1 : List Int), behindS_l0 l (behindS_k0 ) fuel v0_4 v0_b1_1 = some y ∧ fuel = mm ∧ ff = [(0, .slice la (List.length l) lcap), (2, .pointer (some ⟨b0_0, 0, none⟩)), (3, .pointer (some ⟨b1_1, 0, none⟩)), (4, .int .i64 v0_4)] ∧ (Asn.own b1_1 (.cells (arrI v0_b1_1) 54 (0, 0))) :: (Asn.own b0_0 (.cells (arrI ([0, 0, 0, 0, 0, 0] : List Int)) 54 (0, 0))) :: Γ = ΔΔ) (64) (by kernel_rfl) [(0, .slice la (List.length l) lcap), (2, .pointer (some ⟨b0_0, 0, none⟩)), (3, .pointer (some ⟨b1_1, 0, none⟩)), (4, .int .i64 0)] ⟨by kernel_rfl, by kernel_rfl, by kernel_rfl, by kernel_rfl, trivial⟩ ⟨64, 0, ([(-1), (-1), (-1), (-1), (-1), (-1)] : List Int), H, rfl, rfl, rfl⟩ ?_
  rintro _ _ _ ⟨fuel1, v0_4, v0_b1_1, H, rfl, rfl, rfl⟩
  rcases fuel1 with _ | fuel1
  · exact (noneE H).elim
  rw [behindS_l0] at H
  refine at_seq (x := C29 [1,1,0,1,0,0,0]) (y := C29 [1,1,0,1,0,0,1]) (by kernel_rfl) ?_
  refine at_seq (x := C29 [1,1,0,1,0,0,0,0]) (y := C29 [1,1,0,1,0,0,0,1]) (by kernel_rfl) ?_
  refine at_region (id := 3) 5 (by kernel_rfl) (by kernel_rfl) ?_
  refine s_pure 6 (.int .i64 v0_4) (by kernel_rfl) (by kernel_rfl) (fun _ => by kernel_rfl) ?_
  obtain ⟨hc3_1_0, H⟩ := chkE H
  refine s_pure 7 (.int .i64 (v0_4 + (1 : Int))) (by kernel_rfl) (by kernel_rfl) (run_eq (v := .int .i64 (IntKind.i64.wrap (v0_4 + (1 : Int)))) (fun _ => by kernel_rfl) (by rw [inR.wrap hc3_1_0])) ?_
  refine s_pure 8 (.slice la (List.length l) lcap) (by kernel_rfl) (by kernel_rfl) (fun _ => by kernel_rfl) ?_
  refine s_pure 9 (.int .i64 (((List.length l) : Nat) : Int)) (by kernel_rfl) (by kernel_rfl) (fun _ => by kernel_rfl) ?_
  refine s_pure 10 (.bool (decide ((v0_4 + (1 : Int)) < (((List.length l) : Nat) : Int)))) (by kernel_rfl) (by kernel_rfl) (fun _ => by kernel_rfl) ?_
  refine ops_end ?_
  refine At.env [(0, .slice la (List.length l) lcap), (2, .pointer (some ⟨b0_0, 0, none⟩)), (3, .pointer (some ⟨b1_1, 0, none⟩)), (4, .int .i64 v0_4), (10, .bool (decide ((v0_4 + (1 : Int)) < (((List.length l) : Nat) : Int))))] ⟨by kernel_rfl, by kernel_rfl, by kernel_rfl, by kernel_rfl, by kernel_rfl, trivial⟩ ?_
  refine at_then_normal ?_
  rcases Bool.eq_false_or_eq_true (decide ((v0_4 + (1 : Int)) < (((List.length l) : Nat) : Int))) with h1 | h1
  · replace H := bifT H h1
    refine at_true (t := decide ((v0_4 + (1 : Int)) < (((List.length l) : Nat) : Int))) (x := C29 [1,1,0,1,0,0,0,1,0]) (y := C29 [1,1,0,1,0,0,0,1,1]) (o := .tmp 10) (by kernel_rfl) (by kernel_rfl) (by kernel_rfl) h1 ?_
    refine at_skip (by kernel_rfl) ?_
    refine at_then_normal ?_
    refine at_seq (x := C29 [1,1,0,1,0,0,1,0]) (y := C29 [1,1,0,1,0,0,1,1]) (by kernel_rfl) ?_
    refine at_block (i := 1) (x := C29 [1,1,0,1,0,0,1,0,0]) (by kernel_rfl) ?_
    refine at_region_draw (id := 5) (by kernel_rfl) (by kernel_rfl) ?_
    refine d_pure 0 13 (.slice la (List.length l) lcap) (by kernel_rfl) (by kernel_rfl) (by kernel_rfl) (fun _ => by kernel_rfl) ?_
    refine d_pure 1 14 (.int .i64 v0_4) (by kernel_rfl) (by kernel_rfl) (by kernel_rfl) (fun _ => by kernel_rfl) ?_
    obtain ⟨hc5_2_0, H⟩ := chkE H
    refine reads_at_draw (Reads.conv (fun w hw => hw.less (.drop .here (.drop .here .refl))) hrla) (by have := hc5_2_0; omega) ?_
    intro bb1 oo1 ha1
    refine d_pure 2 15 (.pointer (some ⟨bb1, oo1 + ((v0_4).toNat * 1 + 0), none⟩)) (by kernel_rfl) (by kernel_rfl) (by kernel_rfl) (index_at (t := 30) (sz := 1) (E := 3) (a := la) (m := (List.length l)) (c := lcap) (b := bb1) (off := oo1) (i := (v0_4).toNat) (tinfo 3) (fun _ => by kernel_rfl) (by kernel_rfl) (by kernel_rfl) (by kernel_rfl) ha1 (idx_cast hc5_2_0) (idx_nat hc5_2_0) rfl) ?_
    refine d_load 3 16 (.int .i64 (nth l v0_4)) (by kernel_rfl) (by kernel_rfl) (by kernel_rfl) (load1_at (off := oo1 + ((v0_4).toNat * 1 + 0)) (v := .int .i64 (nth l v0_4)) (fun _ => by kernel_rfl) rfl (reads_cell (k := 1) (Reads.conv (fun w hw => hw.less (.drop .here (.drop .here .refl))) hrla) (ints_rows _) ha1 (nth_row hc5_2_0) (show [(.int .i64 (nth l v0_4) : Value)][0]? = some _ from rfl))) ?_
    refine d_pure 4 17 (.slice la (List.length l) lcap) (by kernel_rfl) (by kernel_rfl) (by kernel_rfl) (fun _ => by kernel_rfl) ?_
    refine d_pure 5 18 (.int .i64 v0_4) (by kernel_rfl) (by kernel_rfl) (by kernel_rfl) (fun _ => by kernel_rfl) ?_
    obtain ⟨hc5_6_0, H⟩ := chkE H
    refine d_pure 6 19 (.int .i64 (v0_4 + (1 : Int))) (by kernel_rfl) (by kernel_rfl) (by kernel_rfl) (run_eq (v := .int .i64 (IntKind.i64.wrap (v0_4 + (1 : Int)))) (fun _ => by kernel_rfl) (by rw [inR.wrap hc5_6_0])) ?_
    obtain ⟨hc5_7_0, H⟩ := chkE H
    refine d_pure 7 20 (.pointer (some ⟨bb1, oo1 + (((v0_4 + (1 : Int))).toNat * 1 + 0), none⟩)) (by kernel_rfl) (by kernel_rfl) (by kernel_rfl) (index_at (t := 30) (sz := 1) (E := 3) (a := la) (m := (List.length l)) (c := lcap) (b := bb1) (off := oo1) (i := ((v0_4 + (1 : Int))).toNat) (tinfo 3) (fun _ => by kernel_rfl) (by kernel_rfl) (by kernel_rfl) (by kernel_rfl) ha1 (idx_cast hc5_7_0) (idx_nat hc5_7_0) rfl) ?_
    refine d_load 8 21 (.int .i64 (nth l (v0_4 + (1 : Int)))) (by kernel_rfl) (by kernel_rfl) (by kernel_rfl) (load1_at (off := oo1 + (((v0_4 + (1 : Int))).toNat * 1 + 0)) (v := .int .i64 (nth l (v0_4 + (1 : Int)))) (fun _ => by kernel_rfl) rfl (reads_cell (k := 1) (Reads.conv (fun w hw => hw.less (.drop .here (.drop .here .refl))) hrla) (ints_rows _) ha1 (nth_row hc5_7_0) (show [(.int .i64 (nth l (v0_4 + (1 : Int))) : Value)][0]? = some _ from rfl))) ?_
    obtain ⟨hc5_9_0, H⟩ := chkE H
    refine d_pure 9 22 (.pointer (some ⟨b1_1, ((nth l v0_4)).toNat, none⟩)) (by kernel_rfl) (by kernel_rfl) (by kernel_rfl) (index_arr (t := 54) (E := 3) (m := 6) (tinfo 3) (fun _ => by kernel_rfl) (by kernel_rfl) (by kernel_rfl) (by kernel_rfl) hc5_9_0.1) ?_
    obtain ⟨w5_10, hw5_10, H⟩ := letE H
    refine d_do 10 [9, 8, 0, 1, 2, 3, 4, 5, 6, 7] [] [] (by kernel_rfl) (by kernel_rfl) (by kernel_rfl) (st_arr (xs := v0_b1_1) (i := nth l v0_4) (v := nth l (v0_4 + (1 : Int))) (fun _ => by kernel_rfl) .here hc5_9_0.2) ?_
    rintro _ _ ⟨rfl, rfl⟩
    rw [hw5_10]
    refine ⟨stable_nil, ?_⟩
    refine draw_end (by kernel_rfl) ?_
    refine At.env [(0, .slice la (List.length l) lcap), (2, .pointer (some ⟨b0_0, 0, none⟩)), (3, .pointer (some ⟨b1_1, 0, none⟩)), (4, .int .i64 v0_4), (13, .slice la (List.length l) lcap), (14, .int .i64 v0_4), (15, .pointer (some ⟨bb1, oo1 + ((v0_4).toNat * 1 + 0), none⟩)), (16, .int .i64 (nth l v0_4)), (17, .slice la (List.length l) lcap), (18, .int .i64 v0_4), (19, .int .i64 (v0_4 + (1 : Int))), (20, .pointer (some ⟨bb1, oo1 + (((v0_4 + (1 : Int))).toNat * 1 + 0), none⟩)), (21, .int .i64 (nth l (v0_4 + (1 : Int)))), (22, .pointer (some ⟨b1_1, ((nth l v0_4)).toNat, none⟩))] ⟨by kernel_rfl, by kernel_rfl, by kernel_rfl, by kernel_rfl, by kernel_rfl, by kernel_rfl, by kernel_rfl, by kernel_rfl, by kernel_rfl, by kernel_rfl, by kernel_rfl, by kernel_rfl, by kernel_rfl, by kernel_rfl, trivial⟩ ?_
    refine at_in_normal ?_
    refine at_then_normal ?_
    refine at_region (id := 4) 3 (by kernel_rfl) (by kernel_rfl) ?_
    refine s_pure 11 (.int .i64 v0_4) (by kernel_rfl) (by kernel_rfl) (fun _ => by kernel_rfl) ?_
    obtain ⟨hc4_1_0, H⟩ := chkE H
    refine s_pure 12 (.int .i64 (v0_4 + (1 : Int))) (by kernel_rfl) (by kernel_rfl) (run_eq (v := .int .i64 (IntKind.i64.wrap (v0_4 + (1 : Int)))) (fun _ => by kernel_rfl) (by rw [inR.wrap hc4_1_0])) ?_
    refine s_pure 4 (.int .i64 (v0_4 + (1 : Int))) (by kernel_rfl) (by kernel_rfl) (fun _ => by kernel_rfl) ?_
    refine ops_end ?_
    refine At.env [(0, .slice la (List.length l) lcap), (2, .pointer (some ⟨b0_0, 0, none⟩)), (3, .pointer (some ⟨b1_1, 0, none⟩)), (4, .int .i64 (v0_4 + (1 : Int))), (13, .slice la (List.length l) lcap), (14, .int .i64 v0_4), (15, .pointer (some ⟨bb1, oo1 + ((v0_4).toNat * 1 + 0), none⟩)), (16, .int .i64 (nth l v0_4)), (17, .slice la (List.length l) lcap), (18, .int .i64 v0_4), (19, .int .i64 (v0_4 + (1 : Int))), (20, .pointer (some ⟨bb1, oo1 + (((v0_4 + (1 : Int))).toNat * 1 + 0), none⟩)), (21, .int .i64 (nth l (v0_4 + (1 : Int)))), (22, .pointer (some ⟨b1_1, ((nth l v0_4)).toNat, none⟩))] ⟨by kernel_rfl, by kernel_rfl, by kernel_rfl, by kernel_rfl, by kernel_rfl, by kernel_rfl, by kernel_rfl, by kernel_rfl, by kernel_rfl, by kernel_rfl, by kernel_rfl, by kernel_rfl, by kernel_rfl, by kernel_rfl, trivial⟩ ?_
    refine at_round_normal ?_
    exact at_roundR fuel1 [(0, .slice la (List.length l) lcap), (2, .pointer (some ⟨b0_0, 0, none⟩)), (3, .pointer (some ⟨b1_1, 0, none⟩)), (4, .int .i64 (v0_4 + (1 : Int)))] ((Asn.own b1_1 (.cells (arrI w5_10) 54 (0, 0))) :: (Asn.own b0_0 (.cells (arrI ([0, 0, 0, 0, 0, 0] : List Int)) 54 (0, 0))) :: Γ) (Nat.lt_succ_self _) ⟨by kernel_rfl, by kernel_rfl, by kernel_rfl, by kernel_rfl, trivial⟩ (fun w hw => (Sat.less (.take .here (.take .here .refl)) hw)) ⟨fuel1, v0_4 + (1 : Int), w5_10, H, rfl, rfl, rfl⟩
  · replace H := bifF H h1
    refine at_false (t := decide ((v0_4 + (1 : Int)) < (((List.length l) : Nat) : Int))) (x := C29 [1,1,0,1,0,0,0,1,0]) (y := C29 [1,1,0,1,0,0,0,1,1]) (o := .tmp 10) (by kernel_rfl) (by kernel_rfl) (by kernel_rfl) h1 ?_
    refine at_exit (i := 0) (by kernel_rfl) ?_
    refine at_then_exit ?_
    refine at_then_exit ?_
    rw [behindS_k0] at H
    refine At.env [(0, .slice la (List.length l) lcap), (2, .pointer (some ⟨b0_0, 0, none⟩)), (3, .pointer (some ⟨b1_1, 0, none⟩)), (4, .int .i64 v0_4)] ⟨by kernel_rfl, by kernel_rfl, by kernel_rfl, by kernel_rfl, trivial⟩ ?_
    refine At.conv (Γ' := (Asn.own b1_1 (.cells (arrI v0_b1_1) 54 (0, 0))) :: (Asn.own b0_0 (.cells (arrI ([0, 0, 0, 0, 0, 0] : List Int)) 54 (0, 0))) :: Γ) (fun w hw => (Sat.less (.take .here (.take .here .refl)) hw)) ?_
    refine at_in_here ?_
    refine at_then_normal ?_
    refine at_seq (x := C29 [1,1,1,0]) (y := C29 [1,1,1,1]) (by kernel_rfl) ?_
    refine at_region (id := 6) 2 (by kernel_rfl) (by kernel_rfl) ?_
    obtain ⟨hc6_0_0, H⟩ := chkE H
    refine s_load 23 (.agg #[.int .i64 (nth v0_b1_1 0), .int .i64 (nth v0_b1_1 1), .int .i64 (nth v0_b1_1 2), .int .i64 (nth v0_b1_1 3), .int .i64 (nth v0_b1_1 4), .int .i64 (nth v0_b1_1 5)]) (by kernel_rfl) (by kernel_rfl) (loadN (off := 0) (vs := [.int .i64 (nth v0_b1_1 0), .int .i64 (nth v0_b1_1 1), .int .i64 (nth v0_b1_1 2), .int .i64 (nth v0_b1_1 3), .int .i64 (nth v0_b1_1 4), .int .i64 (nth v0_b1_1 5)]) 6 (fun _ => by kernel_rfl) (holds_own .here) rfl (arr_all6 hc6_0_0)) ?_
    refine s_do (by kernel_rfl) (by kernel_rfl) (st_store (off := 0) (vs := [.int .i64 (nth v0_b1_1 0), .int .i64 (nth v0_b1_1 1), .int .i64 (nth v0_b1_1 2), .int .i64 (nth v0_b1_1 3), .int .i64 (nth v0_b1_1 4), .int .i64 (nth v0_b1_1 5)]) (c' := arrI ([nth v0_b1_1 0, nth v0_b1_1 1, nth v0_b1_1 2, nth v0_b1_1 3, nth v0_b1_1 4, nth v0_b1_1 5] : List Int)) (fun _ => by kernel_rfl) (.there .here) (by kernel_rfl) (by kernel_rfl) (by kernel_rfl)) ?_
    rintro _ _ ⟨rfl, rfl⟩
    refine ops_end ?_
    refine At.env [(2, .pointer (some ⟨b0_0, 0, none⟩))] ⟨by kernel_rfl, trivial⟩ ?_
    refine at_then_normal ?_
    refine at_ret (by kernel_rfl) ?_
    obtain ⟨hc1, H⟩ := chkE H
    obtain rfl := someE H
    refine at_backR [.agg #[.int .i64 (nth ([nth v0_b1_1 0, nth v0_b1_1 1, nth v0_b1_1 2, nth v0_b1_1 3, nth v0_b1_1 4, nth v0_b1_1 5] : List Int) 0), .int .i64 (nth ([nth v0_b1_1 0, nth v0_b1_1 1, nth v0_b1_1 2, nth v0_b1_1 3, nth v0_b1_1 4, nth v0_b1_1 5] : List Int) 1), .int .i64 (nth ([nth v0_b1_1 0, nth v0_b1_1 1, nth v0_b1_1 2, nth v0_b1_1 3, nth v0_b1_1 4, nth v0_b1_1 5] : List Int) 2), .int .i64 (nth ([nth v0_b1_1 0, nth v0_b1_1 1, nth v0_b1_1 2, nth v0_b1_1 3, nth v0_b1_1 4, nth v0_b1_1 5] : List Int) 3), .int .i64 (nth ([nth v0_b1_1 0, nth v0_b1_1 1, nth v0_b1_1 2, nth v0_b1_1 3, nth v0_b1_1 4, nth v0_b1_1 5] : List Int) 4), .int .i64 (nth ([nth v0_b1_1 0, nth v0_b1_1 1, nth v0_b1_1 2, nth v0_b1_1 3, nth v0_b1_1 4, nth v0_b1_1 5] : List Int) 5)]] (Γ) (rs := [.cell 2 54]) (by kernel_rfl) (.cons (.cell (by kernel_rfl) (retN (off := 0) (vs := [.int .i64 (nth ([nth v0_b1_1 0, nth v0_b1_1 1, nth v0_b1_1 2, nth v0_b1_1 3, nth v0_b1_1 4, nth v0_b1_1 5] : List Int) 0), .int .i64 (nth ([nth v0_b1_1 0, nth v0_b1_1 1, nth v0_b1_1 2, nth v0_b1_1 3, nth v0_b1_1 4, nth v0_b1_1 5] : List Int) 1), .int .i64 (nth ([nth v0_b1_1 0, nth v0_b1_1 1, nth v0_b1_1 2, nth v0_b1_1 3, nth v0_b1_1 4, nth v0_b1_1 5] : List Int) 2), .int .i64 (nth ([nth v0_b1_1 0, nth v0_b1_1 1, nth v0_b1_1 2, nth v0_b1_1 3, nth v0_b1_1 4, nth v0_b1_1 5] : List Int) 3), .int .i64 (nth ([nth v0_b1_1 0, nth v0_b1_1 1, nth v0_b1_1 2, nth v0_b1_1 3, nth v0_b1_1 4, nth v0_b1_1 5] : List Int) 4), .int .i64 (nth ([nth v0_b1_1 0, nth v0_b1_1 1, nth v0_b1_1 2, nth v0_b1_1 3, nth v0_b1_1 4, nth v0_b1_1 5] : List Int) 5)]) 6 (fun _ => by kernel_rfl) (holds_own .here) rfl (arr_all6 hc1))) .nil) (fun w hw => (Sat.less (.drop .here (.drop .here .refl)) hw)) ?_
    exact ⟨rfl, rfl⟩
def purgeWalksS_j6 (e5_b34_12_0 : Int) (e5_b34_12_1 : Int) (e5_b34_12_2 : Int) (e5_b34_12_3 : Int) (e5_b34_12_4 : Int) (e5_b34_12_5 : Int) (e5_b34_12_6x : List Int) (e5_b34_12_7 : Int) (e5_b34_12_8 : Int) (e2_2 : Int) (e5_b18_0_0 : CacheS) (e6_225 : Bool) : Option (Bool) :=
  (bif e6_225 then some false else (pnextS (⟨e5_b34_12_0, e5_b34_12_1, e5_b34_12_2, e5_b34_12_3, e5_b34_12_4, e5_b34_12_5, e5_b34_12_6x, e5_b34_12_7, e5_b34_12_8⟩ : DealS) e2_2 e5_b18_0_0 (⟨8, 0, 0, 3, 1, 0, 0, false, ([] : List Int)⟩ : PktS)).bind fun y48_4 => (bif y48_4.2.1 then (bif decide (y48_4.1.step = (0 : Int)) then (wakes15S).bind fun y49_7 => some y49_7 else some false) else some false))
def purgeWalksS_j7 (v5_133 : Int) (r5 : Bool → Int → Int → Int → Int → Int → Int → Int → (List Int) → Int → Int → CacheS → Option (Bool)) (e7_25 : Bool) (e7_b34_12_0 : Int) (e7_b34_12_1 : Int) (e7_b34_12_2 : Int) (e7_b34_12_3 : Int) (e7_b34_12_4 : Int) (e7_b34_12_5 : Int) (e7_b34_12_6x : List Int) (e7_b34_12_7 : Int) (e7_b34_12_8 : Int) (e7_b18_0_0 : CacheS) : Option (Bool) :=
  chk (inR (v5_133 + (1 : Int))) (r5 e7_25 (v5_133 + (1 : Int)) e7_b34_12_0 e7_b34_12_1 e7_b34_12_2 e7_b34_12_3 e7_b34_12_4 e7_b34_12_5 e7_b34_12_6x e7_b34_12_7 e7_b34_12_8 e7_b18_0_0)
def purgeWalksS_j8 (e0_9x : List Int) (v5_133 : Int) (y24_1 : (List Int)) (data : Int) (v5_b34_12_0 : Int) (v5_b34_12_1 : Int) (v5_b34_12_2 : Int) (v5_b34_12_3 : Int) (v5_b34_12_4 : Int) (v5_b34_12_5 : Int) (v5_b34_12_6x : List Int) (v5_b34_12_7 : Int) (v5_b34_12_8 : Int) (e2_2 : Int) (v5_b18_0_0 : CacheS) (r5 : Bool → Int → Int → Int → Int → Int → Int → Int → (List Int) → Int → Int → CacheS → Option (Bool)) (e8_155 : Bool) : Option (Bool) :=
  (bif e8_155 then some false else chk ((0 ≤ (nth e0_9x v5_133) ∧ (nth e0_9x v5_133) < (6 : Int)) ∧ 0 ≤ (nth e0_9x v5_133) ∧ (nth e0_9x v5_133) < ((([nth y24_1 0, nth y24_1 1, nth y24_1 2, nth y24_1 3, nth y24_1 4, nth y24_1 5] : List Int).length : Nat) : Int)) (letP ([data] : List Int) fun l42_7 => (pnextS (⟨v5_b34_12_0, v5_b34_12_1, v5_b34_12_2, v5_b34_12_3, v5_b34_12_4, v5_b34_12_5, v5_b34_12_6x, v5_b34_12_7, v5_b34_12_8⟩ : DealS) e2_2 v5_b18_0_0 (⟨9, 0, 0, 3, 1, nth ([nth y24_1 0, nth y24_1 1, nth y24_1 2, nth y24_1 3, nth y24_1 4, nth y24_1 5] : List Int) (nth e0_9x v5_133), 0, false, l42_7⟩ : PktS)).bind fun y42_9 => purgeWalksS_j7 v5_133 r5 y42_9.2.1 y42_9.1.kind y42_9.1.line y42_9.1.id y42_9.1.step y42_9.1.state y42_9.1.head y42_9.1.data y42_9.1.next y42_9.1.told y42_9.2.2))
def purgeWalksS_k5 (e2_2 : Int) (data : Int) (e5_25 : Bool) (e5_133 : Int) (e5_b34_12_0 : Int) (e5_b34_12_1 : Int) (e5_b34_12_2 : Int) (e5_b34_12_3 : Int) (e5_b34_12_4 : Int) (e5_b34_12_5 : Int) (e5_b34_12_6x : List Int) (e5_b34_12_7 : Int) (e5_b34_12_8 : Int) (e5_b18_0_0 : CacheS) : Option (Bool) :=
  (daskS (⟨e5_b34_12_0, e5_b34_12_1, e5_b34_12_2, e5_b34_12_3, e5_b34_12_4, e5_b34_12_5, e5_b34_12_6x, e5_b34_12_7, e5_b34_12_8⟩ : DealS) e2_2 (0 : Int)).bind fun y44_2 => (findS e5_b18_0_0 (1 : Int)).bind fun y45_1 => (bif !e5_25 then purgeWalksS_j6 e5_b34_12_0 e5_b34_12_1 e5_b34_12_2 e5_b34_12_3 e5_b34_12_4 e5_b34_12_5 e5_b34_12_6x e5_b34_12_7 e5_b34_12_8 e2_2 e5_b18_0_0 true else (bif !(decide (y44_2.kind = (2 : Int))) then purgeWalksS_j6 e5_b34_12_0 e5_b34_12_1 e5_b34_12_2 e5_b34_12_3 e5_b34_12_4 e5_b34_12_5 e5_b34_12_6x e5_b34_12_7 e5_b34_12_8 e2_2 e5_b18_0_0 true else (bif !(decide (y44_2.state = (2 : Int))) then purgeWalksS_j6 e5_b34_12_0 e5_b34_12_1 e5_b34_12_2 e5_b34_12_3 e5_b34_12_4 e5_b34_12_5 e5_b34_12_6x e5_b34_12_7 e5_b34_12_8 e2_2 e5_b18_0_0 true else (bif !(decide (y44_2.ptr = e2_2)) then purgeWalksS_j6 e5_b34_12_0 e5_b34_12_1 e5_b34_12_2 e5_b34_12_3 e5_b34_12_4 e5_b34_12_5 e5_b34_12_6x e5_b34_12_7 e5_b34_12_8 e2_2 e5_b18_0_0 true else (bif y44_2.flag then purgeWalksS_j6 e5_b34_12_0 e5_b34_12_1 e5_b34_12_2 e5_b34_12_3 e5_b34_12_4 e5_b34_12_5 e5_b34_12_6x e5_b34_12_7 e5_b34_12_8 e2_2 e5_b18_0_0 true else (bif !y45_1.2 then purgeWalksS_j6 e5_b34_12_0 e5_b34_12_1 e5_b34_12_2 e5_b34_12_3 e5_b34_12_4 e5_b34_12_5 e5_b34_12_6x e5_b34_12_7 e5_b34_12_8 e2_2 e5_b18_0_0 true else (lonlyS (⟨y45_1.1.fwd, y45_1.1.back⟩ : LinkS)).bind fun y46_29 => (bif !y46_29 then purgeWalksS_j6 e5_b34_12_0 e5_b34_12_1 e5_b34_12_2 e5_b34_12_3 e5_b34_12_4 e5_b34_12_5 e5_b34_12_6x e5_b34_12_7 e5_b34_12_8 e2_2 e5_b18_0_0 true else (bif !y45_1.1.dirty then purgeWalksS_j6 e5_b34_12_0 e5_b34_12_1 e5_b34_12_2 e5_b34_12_3 e5_b34_12_4 e5_b34_12_5 e5_b34_12_6x e5_b34_12_7 e5_b34_12_8 e2_2 e5_b18_0_0 true else (ewordS y45_1.1 (0 : Int)).bind fun y46_39 => (bif !(decide (y46_39 = data)) then purgeWalksS_j6 e5_b34_12_0 e5_b34_12_1 e5_b34_12_2 e5_b34_12_3 e5_b34_12_4 e5_b34_12_5 e5_b34_12_6x e5_b34_12_7 e5_b34_12_8 e2_2 e5_b18_0_0 true else letP (lenC e5_b18_0_0) fun y46_45 => purgeWalksS_j6 e5_b34_12_0 e5_b34_12_1 e5_b34_12_2 e5_b34_12_3 e5_b34_12_4 e5_b34_12_5 e5_b34_12_6x e5_b34_12_7 e5_b34_12_8 e2_2 e5_b18_0_0 (!(decide (y46_45 = (1 : Int)))))))))))))
def purgeWalksS_l5 (e0_9x : List Int) (e2_2 : Int) (y24_1 : (List Int)) (data : Int) (k5 : Bool → Int → Int → Int → Int → Int → Int → Int → (List Int) → Int → Int → CacheS → Option (Bool)) : Nat → Bool → Int → Int → Int → Int → Int → Int → Int → (List Int) → Int → Int → CacheS → Option (Bool)
  | 0 => fun _ _ _ _ _ _ _ _ _ _ _ _ => none
  | m + 1 => fun v5_25 v5_133 v5_b34_12_0 v5_b34_12_1 v5_b34_12_2 v5_b34_12_3 v5_b34_12_4 v5_b34_12_5 v5_b34_12_6x v5_b34_12_7 v5_b34_12_8 v5_b18_0_0 => (bif decide (v5_133 < (((List.length e0_9x) : Nat) : Int)) then chk (0 ≤ v5_133 ∧ v5_133 < ((e0_9x.length : Nat) : Int)) ((bif decide ((nth e0_9x v5_133) = e2_2) then purgeWalksS_j7 v5_133 (purgeWalksS_l5 e0_9x e2_2 y24_1 data k5 m) v5_25 v5_b34_12_0 v5_b34_12_1 v5_b34_12_2 v5_b34_12_3 v5_b34_12_4 v5_b34_12_5 v5_b34_12_6x v5_b34_12_7 v5_b34_12_8 v5_b18_0_0 else (daskS (⟨v5_b34_12_0, v5_b34_12_1, v5_b34_12_2, v5_b34_12_3, v5_b34_12_4, v5_b34_12_5, v5_b34_12_6x, v5_b34_12_7, v5_b34_12_8⟩ : DealS) e2_2 (0 : Int)).bind fun y39_2 => (bif !v5_25 then purgeWalksS_j8 e0_9x v5_133 y24_1 data v5_b34_12_0 v5_b34_12_1 v5_b34_12_2 v5_b34_12_3 v5_b34_12_4 v5_b34_12_5 v5_b34_12_6x v5_b34_12_7 v5_b34_12_8 e2_2 v5_b18_0_0 (purgeWalksS_l5 e0_9x e2_2 y24_1 data k5 m) true else (bif !(decide (y39_2.kind = (6 : Int))) then purgeWalksS_j8 e0_9x v5_133 y24_1 data v5_b34_12_0 v5_b34_12_1 v5_b34_12_2 v5_b34_12_3 v5_b34_12_4 v5_b34_12_5 v5_b34_12_6x v5_b34_12_7 v5_b34_12_8 e2_2 v5_b18_0_0 (purgeWalksS_l5 e0_9x e2_2 y24_1 data k5 m) true else purgeWalksS_j8 e0_9x v5_133 y24_1 data v5_b34_12_0 v5_b34_12_1 v5_b34_12_2 v5_b34_12_3 v5_b34_12_4 v5_b34_12_5 v5_b34_12_6x v5_b34_12_7 v5_b34_12_8 e2_2 v5_b18_0_0 (purgeWalksS_l5 e0_9x e2_2 y24_1 data k5 m) (!(decide (y39_2.dst = (nth e0_9x v5_133)))))))) else k5 v5_25 v5_133 v5_b34_12_0 v5_b34_12_1 v5_b34_12_2 v5_b34_12_3 v5_b34_12_4 v5_b34_12_5 v5_b34_12_6x v5_b34_12_7 v5_b34_12_8 v5_b18_0_0)
def purgeWalksS_j9 (v4_94 : Int) (r4 : Int → CacheS → Option (Bool)) (e9_b18_0_0 : CacheS) : Option (Bool) :=
  chk (inR (v4_94 + (1 : Int))) (r4 (v4_94 + (1 : Int)) e9_b18_0_0)
def purgeWalksS_j10 (e0_9x : List Int) (v4_94 : Int) (y24_1 : (List Int)) (data : Int) (v4_b18_0_0 : CacheS) (r4 : Int → CacheS → Option (Bool)) (e10_23 : Int) : Option (Bool) :=
  chk ((0 ≤ (nth e0_9x v4_94) ∧ (nth e0_9x v4_94) < (6 : Int)) ∧ 0 ≤ (nth e0_9x v4_94) ∧ (nth e0_9x v4_94) < ((([nth y24_1 0, nth y24_1 1, nth y24_1 2, nth y24_1 3, nth y24_1 4, nth y24_1 5] : List Int).length : Nat) : Int)) (letP ([data] : List Int) fun l32_6 => (enewS (1 : Int) (nth ([nth y24_1 0, nth y24_1 1, nth y24_1 2, nth y24_1 3, nth y24_1 4, nth y24_1 5] : List Int) (nth e0_9x v4_94)) e10_23 false l32_6).bind fun y32_7 => (putS v4_b18_0_0 y32_7).bind fun y32_8 => purgeWalksS_j9 v4_94 r4 y32_8.2)
def purgeWalksS_k4 (data : Int) (e2_2 : Int) (e3_18 : Int) (e3_19 : Int) (e0_9x : List Int) (y24_1 : (List Int)) (e4_94 : Int) (e4_b18_0_0 : CacheS) : Option (Bool) :=
  (dbeginS (2 : Int) (1 : Int) (3 : Int)).bind fun y34_0 => letP ([data] : List Int) fun l34_6 => (pnextS y34_0 e2_2 e4_b18_0_0 (⟨7, 0, 0, 3, 1, e3_18, e3_19, false, l34_6⟩ : PktS)).bind fun y34_8 => purgeWalksS_l5 e0_9x e2_2 y24_1 data (purgeWalksS_k5 e2_2 data) 64 y34_8.2.1 0 y34_8.1.kind y34_8.1.line y34_8.1.id y34_8.1.step y34_8.1.state y34_8.1.head y34_8.1.data y34_8.1.next y34_8.1.told y34_8.2.2
def purgeWalksS_l4 (e0_9x : List Int) (e2_2 : Int) (y24_1 : (List Int)) (data : Int) (k4 : Int → CacheS → Option (Bool)) : Nat → Int → CacheS → Option (Bool)
  | 0 => fun _ _ => none
  | m + 1 => fun v4_94 v4_b18_0_0 => (bif decide (v4_94 < (((List.length e0_9x) : Nat) : Int)) then chk (0 ≤ v4_94 ∧ v4_94 < ((e0_9x.length : Nat) : Int)) ((bif !(decide ((nth e0_9x v4_94) = e2_2)) then purgeWalksS_j9 v4_94 (purgeWalksS_l4 e0_9x e2_2 y24_1 data k4 m) v4_b18_0_0 else (bif decide ((0 : Int) < v4_94) then chk (inR (v4_94 - (1 : Int))) (chk (0 ≤ (v4_94 - (1 : Int)) ∧ (v4_94 - (1 : Int)) < ((e0_9x.length : Nat) : Int)) (purgeWalksS_j10 e0_9x v4_94 y24_1 data v4_b18_0_0 (purgeWalksS_l4 e0_9x e2_2 y24_1 data k4 m) (nth e0_9x (v4_94 - (1 : Int))))) else purgeWalksS_j10 e0_9x v4_94 y24_1 data v4_b18_0_0 (purgeWalksS_l4 e0_9x e2_2 y24_1 data k4 m) (-1)))) else k4 v4_94 v4_b18_0_0)
def purgeWalksS_j3 (e0_9x : List Int) (e2_2 : Int) (data : Int) (y18_0 : CacheS × CacheS) (e3_18 : Int) (e3_19 : Int) : Option (Bool) :=
  (behindS e0_9x).bind fun y24_1 => purgeWalksS_l4 e0_9x e2_2 y24_1 data (purgeWalksS_k4 data e2_2 e3_18 e3_19 e0_9x y24_1) 64 0 y18_0.1
def purgeWalksS_j2 (e0_9x : List Int) (data : Int) (e2_2 : Int) : Option (Bool) :=
  (bothNilS).bind fun y18_0 => (bif decide ((0 : Int) < (((List.length e0_9x) : Nat) : Int)) then chk (0 ≤ (0 : Int) ∧ (0 : Int) < ((e0_9x.length : Nat) : Int)) (purgeWalksS_j3 e0_9x e2_2 data y18_0 (nth e0_9x (0 : Int)) 1) else purgeWalksS_j3 e0_9x e2_2 data y18_0 (-1) 0)
def purgeWalksS_j11 (v0_34 : Int) (r0 : (List Int) → Int → Option (Bool)) (e11_9x : List Int) : Option (Bool) :=
  chk (inR (v0_34 + (1 : Int))) (r0 e11_9x (v0_34 + (1 : Int)))
def purgeWalksS_j12 (v1_42 : Int) (r1 : Bool → Int → Option (Bool)) (e12_13 : Bool) : Option (Bool) :=
  chk (inR (v1_42 + (1 : Int))) (r1 e12_13 (v1_42 + (1 : Int)))
def purgeWalksS_k1 (y5_1 : Int) (v0_9x : List Int) (v0_34 : Int) (r0 : (List Int) → Int → Option (Bool)) (e1_13 : Bool) (e1_42 : Int) : Option (Bool) :=
  (bif !e1_13 then letP ([y5_1] : List Int) fun l13_2 => chk ((v0_9x ++ l13_2).length ≤ 1099511627776) (letP (v0_9x ++ l13_2) fun l13_3 => purgeWalksS_j11 v0_34 r0 l13_3) else purgeWalksS_j11 v0_34 r0 v0_9x)
def purgeWalksS_l1 (v0_9x : List Int) (y5_1 : Int) (k1 : Bool → Int → Option (Bool)) : Nat → Bool → Int → Option (Bool)
  | 0 => fun _ _ => none
  | m + 1 => fun v1_13 v1_42 => (bif decide (v1_42 < (((List.length v0_9x) : Nat) : Int)) then chk (0 ≤ v1_42 ∧ v1_42 < ((v0_9x.length : Nat) : Int)) ((bif v1_13 then purgeWalksS_j12 v1_42 (purgeWalksS_l1 v0_9x y5_1 k1 m) true else purgeWalksS_j12 v1_42 (purgeWalksS_l1 v0_9x y5_1 k1 m) (decide ((nth v0_9x v1_42) = y5_1)))) else k1 v1_13 v1_42)
def purgeWalksS_k0 (node : Int) (own : Int) (data : Int) (e0_9x : List Int) (e0_34 : Int) : Option (Bool) :=
  (withinS node (6 : Int)).bind fun y15_1 => (bif decide ((own.tmod (2 : Int)) = (0 : Int)) then (bif decide ((0 : Int) < (((List.length e0_9x) : Nat) : Int)) then (withinS (wr (own.tdiv (2 : Int))) (((List.length e0_9x) : Nat) : Int)).bind fun y17_5 => chk (0 ≤ y17_5 ∧ y17_5 < ((e0_9x.length : Nat) : Int)) (purgeWalksS_j2 e0_9x data (nth e0_9x y17_5)) else purgeWalksS_j2 e0_9x data y15_1) else purgeWalksS_j2 e0_9x data y15_1)
def purgeWalksS_l0 (order : List Int) (k0 : (List Int) → Int → Option (Bool)) : Nat → (List Int) → Int → Option (Bool)
  | 0 => fun _ _ => none
  | m + 1 => fun v0_9x v0_34 => (bif decide (v0_34 < (((List.length order) : Nat) : Int)) then chk (0 ≤ v0_34 ∧ v0_34 < ((order.length : Nat) : Int)) ((withinS (nth order v0_34) (6 : Int)).bind fun y5_1 => purgeWalksS_l1 v0_9x y5_1 (purgeWalksS_k1 y5_1 v0_9x v0_34 (purgeWalksS_l0 order k0 m)) 64 false 0) else k0 v0_9x v0_34)
def purgeWalksS (order : List Int) (own : Int) (node : Int) (data : Int) : Option (Bool) :=
  purgeWalksS_l0 order (purgeWalksS_k0 node own data) (List.length order + 1) ([] : List Int) 0
noncomputable def C7 (p : List Nat) : Code := codeAt (bodyOf Try.f7) p
set_option maxRecDepth 100000 in
set_option maxHeartbeats 8000000 in
theorem PurgeWalksF_tr {W0 : World} {Γ : List Asn} (ordera : Option Addr) (ordercap : Nat) (order : List Int) (own : Int) (node : Int) (data : Int) (hrordera : Reads W0 Γ ordera (ints order)) (y : Bool) (H : purgeWalksS order own node data = some y) : Tr Try.prog 7 #[.slice ordera (List.length order) ordercap, .int .i64 own, .int .i64 node, .int .i64 data] W0 (Γ) (fun r Δ => r = .bool y ∧ Δ = Γ) := by
  unfold purgeWalksS at H
  refine Tr.enter (fn := Try.f7) (c := C7 []) (args := [.slice ordera (List.length order) ordercap, .int .i64 own, .int .i64 node, .int .i64 data]) 243 Try.func7 (by kernel_rfl) (by kernel_rfl) ?_
  refine At.env [(0, .slice ordera (List.length order) ordercap), (1, .int .i64 own), (2, .int .i64 node), (3, .int .i64 data)] ⟨by kernel_rfl, by kernel_rfl, by kernel_rfl, by kernel_rfl, trivial⟩ ?_
  refine at_seq (x := C7 [0]) (y := C7 [1]) (by kernel_rfl) ?_
  refine at_region (id := 0) 1 (by kernel_rfl) (by kernel_rfl) ?_
  refine s_pure 8 (.bool false) (by kernel_rfl) (by kernel_rfl) (fun _ => by kernel_rfl) ?_
  refine ops_end ?_
  refine At.env [(0, .slice ordera (List.length order) ordercap), (1, .int .i64 own), (2, .int .i64 node), (3, .int .i64 data)] ⟨by kernel_rfl, by kernel_rfl, by kernel_rfl, by kernel_rfl, trivial⟩ ?_
  refine at_then_normal ?_
  refine at_seq (x := C7 [1,0]) (y := C7 [1,1]) (by kernel_rfl) ?_
  refine at_region (id := 1) 1 (by kernel_rfl) (by kernel_rfl) ?_
  refine s_pure 9 (.slice none 0 0) (by kernel_rfl) (by kernel_rfl) (fun _ => by kernel_rfl) ?_
  refine ops_end ?_
  refine At.env [(0, .slice ordera (List.length order) ordercap), (1, .int .i64 own), (2, .int .i64 node), (3, .int .i64 data), (9, .slice none 0 0)] ⟨by kernel_rfl, by kernel_rfl, by kernel_rfl, by kernel_rfl, by kernel_rfl, trivial⟩ ?_
  refine at_then_normal ?_
  refine at_seq (x := C7 [1,1,0]) (y := C7 [1,1,1]) (by kernel_rfl) ?_
  refine at_seq (x := C7 [1,1,0,0]) (y := C7 [1,1,0,1]) (by kernel_rfl) ?_
  refine at_region (id := 2) 3 (by kernel_rfl) (by kernel_rfl) ?_
  refine s_pure 32 (.slice ordera (List.length order) ordercap) (by kernel_rfl) (by kernel_rfl) (fun _ => by kernel_rfl) ?_
  refine s_pure 33 (.int .i64 (((List.length order) : Nat) : Int)) (by kernel_rfl) (by kernel_rfl) (fun _ => by kernel_rfl) ?_
  refine s_pure 34 (.int .i64 (0)) (by kernel_rfl) (by kernel_rfl) (fun _ => by kernel_rfl) ?_
  refine ops_end ?_
  refine At.env [(1, .int .i64 own), (2, .int .i64 node), (3, .int .i64 data), (9, .slice none 0 0), (32, .slice ordera (List.length order) ordercap), (33, .int .i64 (((List.length order) : Nat) : Int)), (34, .int .i64 (0))] ⟨by kernel_rfl, by kernel_rfl, by kernel_rfl, by kernel_rfl, by kernel_rfl, by kernel_rfl, by kernel_rfl, trivial⟩ ?_
  refine at_then_normal ?_
  refine at_block (i := 0) (x := C7 [1,1,0,1,0]) (by kernel_rfl) ?_
  refine At.conv (Γ' := (IntsA none 0 ([] : List Int)) :: Γ) (fun w hw => (Sat.less (.take .here .refl) (RowsA.none_mk (k := 1) (a := none) hw))) ?_
  refine at_loopR (x := C7 [1,1,0,1,0,0]) (fun mm ff ΔΔ => ∃ (fuel : Nat) (v0_9x : List Int) (v0_34 : Int) (v0_9a : Option Addr) (v0_9c : Nat), purgeWalksS_l0 order (purgeWalksS_k0 node own data) fuel v0_9x v0_34 = some y ∧ fuel = mm ∧ ff = [(1, .int .i64 own), (2, .int .i64 node), (3, .int .i64 data), (9, .slice v0_9a (List.length v0_9x) v0_9c), (32, .slice ordera (List.length order) ordercap), (33, .int .i64 (((List.length order) : Nat) : Int)), (34, .int .i64 v0_34)] ∧ (IntsA v0_9a v0_9c v0_9x) :: Γ = ΔΔ) ((List.length order + 1)) (by kernel_rfl) [(1, .int .i64 own), (2, .int .i64 node), (3, .int .i64 data), (9, .slice none (List.length ([] : List Int)) 0), (32, .slice ordera (List.length order) ordercap), (33, .int .i64 (((List.length order) : Nat) : Int)), (34, .int .i64 0)] ⟨by kernel_rfl, by kernel_rfl, by kernel_rfl, by kernel_rfl, by kernel_rfl, by kernel_rfl, by kernel_rfl, trivial⟩ ⟨(List.length order + 1), ([] : List Int), 0, none, 0, H, rfl, rfl, rfl⟩ ?_
  rintro _ _ _ ⟨fuel1, v0_9x, v0_34, v0_9a, v0_9c, H, rfl, rfl, rfl⟩
  rcases fuel1 with _ | fuel1
  · exact (noneE H).elim
  rw [purgeWalksS_l0] at H
  refine at_seq (x := C7 [1,1,0,1,0,0,0]) (y := C7 [1,1,0,1,0,0,1]) (by kernel_rfl) ?_
  refine at_region (id := 3) 1 (by kernel_rfl) (by kernel_rfl) ?_
  refine s_pure 35 (.bool (decide (v0_34 < (((List.length order) : Nat) : Int)))) (by kernel_rfl) (by kernel_rfl) (fun _ => by kernel_rfl) ?_
  refine ops_end ?_
  refine At.env [(1, .int .i64 own), (2, .int .i64 node), (3, .int .i64 data), (9, .slice v0_9a (List.length v0_9x) v0_9c), (32, .slice ordera (List.length order) ordercap), (33, .int .i64 (((List.length order) : Nat) : Int)), (34, .int .i64 v0_34), (35, .bool (decide (v0_34 < (((List.length order) : Nat) : Int))))] ⟨by kernel_rfl, by kernel_rfl, by kernel_rfl, by kernel_rfl, by kernel_rfl, by kernel_rfl, by kernel_rfl, by kernel_rfl, trivial⟩ ?_
  refine at_then_normal ?_
  refine at_seq (x := C7 [1,1,0,1,0,0,1,0]) (y := C7 [1,1,0,1,0,0,1,1]) (by kernel_rfl) ?_
  rcases Bool.eq_false_or_eq_true (decide (v0_34 < (((List.length order) : Nat) : Int))) with h1 | h1
  · replace H := bifT H h1
    refine at_true (t := decide (v0_34 < (((List.length order) : Nat) : Int))) (x := C7 [1,1,0,1,0,0,1,0,0]) (y := C7 [1,1,0,1,0,0,1,0,1]) (o := .tmp 35) (by kernel_rfl) (by kernel_rfl) (by kernel_rfl) h1 ?_
    refine at_skip (by kernel_rfl) ?_
    refine at_then_normal ?_
    refine at_seq_join (x := C7 [1,1,0,1,0,0,1,1,0]) (y := C7 [1,1,0,1,0,0,1,1,1]) (fun ff ΔΔ => ∃ (e11_9x : List Int) (e11_9a : Option Addr) (e11_9c : Nat), purgeWalksS_j11 v0_34 (purgeWalksS_l0 order (purgeWalksS_k0 node own data) fuel1) e11_9x = some y ∧ ff = [(1, .int .i64 own), (2, .int .i64 node), (3, .int .i64 data), (9, .slice e11_9a (List.length e11_9x) e11_9c), (32, .slice ordera (List.length order) ordercap), (33, .int .i64 (((List.length order) : Nat) : Int)), (34, .int .i64 v0_34)] ∧ (IntsA e11_9a e11_9c e11_9x) :: Γ = ΔΔ) (by kernel_rfl) ?_ ?_
    · rintro _ _ ⟨e11_9x, e11_9a, e11_9c, H, rfl, rfl⟩
      rw [purgeWalksS_j11] at H
      refine at_region (id := 14) 2 (by kernel_rfl) (by kernel_rfl) ?_
      obtain ⟨hc14_0_0, H⟩ := chkE H
      refine s_pure 59 (.int .i64 (v0_34 + (1 : Int))) (by kernel_rfl) (by kernel_rfl) (run_eq (v := .int .i64 (IntKind.i64.wrap (v0_34 + (1 : Int)))) (fun _ => by kernel_rfl) (by rw [inR.wrap hc14_0_0])) ?_
      refine s_pure 34 (.int .i64 (v0_34 + (1 : Int))) (by kernel_rfl) (by kernel_rfl) (fun _ => by kernel_rfl) ?_
      refine ops_end ?_
      refine At.env [(1, .int .i64 own), (2, .int .i64 node), (3, .int .i64 data), (9, .slice e11_9a (List.length e11_9x) e11_9c), (32, .slice ordera (List.length order) ordercap), (33, .int .i64 (((List.length order) : Nat) : Int)), (34, .int .i64 (v0_34 + (1 : Int)))] ⟨by kernel_rfl, by kernel_rfl, by kernel_rfl, by kernel_rfl, by kernel_rfl, by kernel_rfl, by kernel_rfl, trivial⟩ ?_
      refine at_round_normal ?_
      exact at_roundR fuel1 [(1, .int .i64 own), (2, .int .i64 node), (3, .int .i64 data), (9, .slice e11_9a (List.length e11_9x) e11_9c), (32, .slice ordera (List.length order) ordercap), (33, .int .i64 (((List.length order) : Nat) : Int)), (34, .int .i64 (v0_34 + (1 : Int)))] ((IntsA e11_9a e11_9c e11_9x) :: Γ) (Nat.lt_succ_self _) ⟨by kernel_rfl, by kernel_rfl, by kernel_rfl, by kernel_rfl, by kernel_rfl, by kernel_rfl, by kernel_rfl, trivial⟩ (fun w hw => (Sat.less (.take .here .refl) hw)) ⟨fuel1, e11_9x, v0_34 + (1 : Int), e11_9a, e11_9c, H, rfl, rfl, rfl⟩
    · refine at_block (i := 1) (x := C7 [1,1,0,1,0,0,1,1,0,0]) (by kernel_rfl) ?_
      refine at_seq (x := C7 [1,1,0,1,0,0,1,1,0,0,0]) (y := C7 [1,1,0,1,0,0,1,1,0,0,1]) (by kernel_rfl) ?_
      refine at_region (id := 4) 3 (by kernel_rfl) (by kernel_rfl) ?_
      obtain ⟨hc4_0_0, H⟩ := chkE H
      refine reads_at (Reads.conv (fun w hw => hw.less (.drop .here .refl)) hrordera) (by have := hc4_0_0; omega) ?_
      intro bb1 oo1 ha1
      refine s_pure 36 (.pointer (some ⟨bb1, oo1 + ((v0_34).toNat * 1 + 0), none⟩)) (by kernel_rfl) (by kernel_rfl) (index_at (t := 30) (sz := 1) (E := 3) (a := ordera) (m := (List.length order)) (c := ordercap) (b := bb1) (off := oo1) (i := (v0_34).toNat) (tinfo 3) (fun _ => by kernel_rfl) (by kernel_rfl) (by kernel_rfl) (by kernel_rfl) ha1 (idx_cast hc4_0_0) (idx_nat hc4_0_0) rfl) ?_
      refine s_load 37 (.int .i64 (nth order v0_34)) (by kernel_rfl) (by kernel_rfl) (load1_at (off := oo1 + ((v0_34).toNat * 1 + 0)) (v := .int .i64 (nth order v0_34)) (fun _ => by kernel_rfl) rfl (reads_cell (k := 1) (Reads.conv (fun w hw => hw.less (.drop .here .refl)) hrordera) (ints_rows _) ha1 (nth_row hc4_0_0) (show [(.int .i64 (nth order v0_34) : Value)][0]? = some _ from rfl))) ?_
      refine s_pure 11 (.int .i64 (nth order v0_34)) (by kernel_rfl) (by kernel_rfl) (fun _ => by kernel_rfl) ?_
      refine ops_end ?_
      refine At.env [(1, .int .i64 own), (2, .int .i64 node), (3, .int .i64 data), (9, .slice v0_9a (List.length v0_9x) v0_9c), (11, .int .i64 (nth order v0_34)), (32, .slice ordera (List.length order) ordercap), (33, .int .i64 (((List.length order) : Nat) : Int)), (34, .int .i64 v0_34)] ⟨by kernel_rfl, by kernel_rfl, by kernel_rfl, by kernel_rfl, by kernel_rfl, by kernel_rfl, by kernel_rfl, by kernel_rfl, trivial⟩ ?_
      refine at_then_normal ?_
      refine at_seq (x := C7 [1,1,0,1,0,0,1,1,0,0,1,0]) (y := C7 [1,1,0,1,0,0,1,1,0,0,1,1]) (by kernel_rfl) ?_
      refine at_region (id := 5) 3 (by kernel_rfl) (by kernel_rfl) ?_
      refine s_pure 38 (.int .i64 (nth order v0_34)) (by kernel_rfl) (by kernel_rfl) (fun _ => by kernel_rfl) ?_
      obtain ⟨y5_1, hy5_1, H⟩ := bindE H
      refine s_quiet 39 (.int .i64 y5_1) 22 #[.int .i64 (nth order v0_34), .int .i64 (6)] (by kernel_rfl) (by kernel_rfl) (fun _ => by kernel_rfl) (WithinF_tr (nth order v0_34) (6 : Int) y5_1 hy5_1) ?_
      refine s_pure 12 (.int .i64 y5_1) (by kernel_rfl) (by kernel_rfl) (fun _ => by kernel_rfl) ?_
      refine ops_end ?_
      refine At.env [(1, .int .i64 own), (2, .int .i64 node), (3, .int .i64 data), (9, .slice v0_9a (List.length v0_9x) v0_9c), (12, .int .i64 y5_1), (32, .slice ordera (List.length order) ordercap), (33, .int .i64 (((List.length order) : Nat) : Int)), (34, .int .i64 v0_34)] ⟨by kernel_rfl, by kernel_rfl, by kernel_rfl, by kernel_rfl, by kernel_rfl, by kernel_rfl, by kernel_rfl, by kernel_rfl, trivial⟩ ?_
      refine at_then_normal ?_
      refine at_seq (x := C7 [1,1,0,1,0,0,1,1,0,0,1,1,0]) (y := C7 [1,1,0,1,0,0,1,1,0,0,1,1,1]) (by kernel_rfl) ?_
      refine at_region (id := 6) 1 (by kernel_rfl) (by kernel_rfl) ?_
      refine s_pure 13 (.bool false) (by kernel_rfl) (by kernel_rfl) (fun _ => by kernel_rfl) ?_
      refine ops_end ?_
      refine At.env [(1, .int .i64 own), (2, .int .i64 node), (3, .int .i64 data), (9, .slice v0_9a (List.length v0_9x) v0_9c), (12, .int .i64 y5_1), (13, .bool false), (32, .slice ordera (List.length order) ordercap), (33, .int .i64 (((List.length order) : Nat) : Int)), (34, .int .i64 v0_34)] ⟨by kernel_rfl, by kernel_rfl, by kernel_rfl, by kernel_rfl, by kernel_rfl, by kernel_rfl, by kernel_rfl, by kernel_rfl, by kernel_rfl, trivial⟩ ?_
      refine at_then_normal ?_
      refine at_seq (x := C7 [1,1,0,1,0,0,1,1,0,0,1,1,1,0]) (y := C7 [1,1,0,1,0,0,1,1,0,0,1,1,1,1]) (by kernel_rfl) ?_
      refine at_seq (x := C7 [1,1,0,1,0,0,1,1,0,0,1,1,1,0,0]) (y := C7 [1,1,0,1,0,0,1,1,0,0,1,1,1,0,1]) (by kernel_rfl) ?_
      refine at_region (id := 7) 3 (by kernel_rfl) (by kernel_rfl) ?_
      refine s_pure 40 (.slice v0_9a (List.length v0_9x) v0_9c) (by kernel_rfl) (by kernel_rfl) (fun _ => by kernel_rfl) ?_
      refine s_pure 41 (.int .i64 (((List.length v0_9x) : Nat) : Int)) (by kernel_rfl) (by kernel_rfl) (fun _ => by kernel_rfl) ?_
      refine s_pure 42 (.int .i64 (0)) (by kernel_rfl) (by kernel_rfl) (fun _ => by kernel_rfl) ?_
      refine ops_end ?_
      refine At.env [(1, .int .i64 own), (2, .int .i64 node), (3, .int .i64 data), (9, .slice v0_9a (List.length v0_9x) v0_9c), (12, .int .i64 y5_1), (13, .bool false), (32, .slice ordera (List.length order) ordercap), (33, .int .i64 (((List.length order) : Nat) : Int)), (34, .int .i64 v0_34), (40, .slice v0_9a (List.length v0_9x) v0_9c), (41, .int .i64 (((List.length v0_9x) : Nat) : Int)), (42, .int .i64 (0))] ⟨by kernel_rfl, by kernel_rfl, by kernel_rfl, by kernel_rfl, by kernel_rfl, by kernel_rfl, by kernel_rfl, by kernel_rfl, by kernel_rfl, by kernel_rfl, by kernel_rfl, by kernel_rfl, trivial⟩ ?_
      refine at_then_normal ?_
      refine at_block (i := 2) (x := C7 [1,1,0,1,0,0,1,1,0,0,1,1,1,0,1,0]) (by kernel_rfl) ?_
      refine At.conv (Γ' := (IntsA v0_9a v0_9c v0_9x) :: Γ) (fun w hw => (Sat.less (.take .here .refl) hw)) ?_
      refine at_loopR (x := C7 [1,1,0,1,0,0,1,1,0,0,1,1,1,0,1,0,0]) (fun mm ff ΔΔ => ∃ (fuel : Nat) (v1_13 : Bool) (v1_42 : Int), purgeWalksS_l1 v0_9x y5_1 (purgeWalksS_k1 y5_1 v0_9x v0_34 (purgeWalksS_l0 order (purgeWalksS_k0 node own data) fuel1)) fuel v1_13 v1_42 = some y ∧ fuel = mm ∧ ff = [(1, .int .i64 own), (2, .int .i64 node), (3, .int .i64 data), (9, .slice v0_9a (List.length v0_9x) v0_9c), (12, .int .i64 y5_1), (13, .bool v1_13), (32, .slice ordera (List.length order) ordercap), (33, .int .i64 (((List.length order) : Nat) : Int)), (34, .int .i64 v0_34), (40, .slice v0_9a (List.length v0_9x) v0_9c), (41, .int .i64 (((List.length v0_9x) : Nat) : Int)), (42, .int .i64 v1_42)] ∧ (IntsA v0_9a v0_9c v0_9x) :: Γ = ΔΔ) (64) (by kernel_rfl) [(1, .int .i64 own), (2, .int .i64 node), (3, .int .i64 data), (9, .slice v0_9a (List.length v0_9x) v0_9c), (12, .int .i64 y5_1), (13, .bool false), (32, .slice ordera (List.length order) ordercap), (33, .int .i64 (((List.length order) : Nat) : Int)), (34, .int .i64 v0_34), (40, .slice v0_9a (List.length v0_9x) v0_9c), (41, .int .i64 (((List.length v0_9x) : Nat) : Int)), (42, .int .i64 0)] ⟨by kernel_rfl, by kernel_rfl, by kernel_rfl, by kernel_rfl, by kernel_rfl, by kernel_rfl, by kernel_rfl, by kernel_rfl, by kernel_rfl, by kernel_rfl, by kernel_rfl, by kernel_rfl, trivial⟩ ⟨64, false, 0, H, rfl, rfl, rfl⟩ ?_
      rintro _ _ _ ⟨fuel2, v1_13, v1_42, H, rfl, rfl, rfl⟩
      rcases fuel2 with _ | fuel2
      · exact (noneE H).elim
      rw [purgeWalksS_l1] at H
      refine at_seq (x := C7 [1,1,0,1,0,0,1,1,0,0,1,1,1,0,1,0,0,0]) (y := C7 [1,1,0,1,0,0,1,1,0,0,1,1,1,0,1,0,0,1]) (by kernel_rfl) ?_
      refine at_region (id := 8) 1 (by kernel_rfl) (by kernel_rfl) ?_
      refine s_pure 43 (.bool (decide (v1_42 < (((List.length v0_9x) : Nat) : Int)))) (by kernel_rfl) (by kernel_rfl) (fun _ => by kernel_rfl) ?_
      refine ops_end ?_
      refine At.env [(1, .int .i64 own), (2, .int .i64 node), (3, .int .i64 data), (9, .slice v0_9a (List.length v0_9x) v0_9c), (12, .int .i64 y5_1), (13, .bool v1_13), (32, .slice ordera (List.length order) ordercap), (33, .int .i64 (((List.length order) : Nat) : Int)), (34, .int .i64 v0_34), (40, .slice v0_9a (List.length v0_9x) v0_9c), (41, .int .i64 (((List.length v0_9x) : Nat) : Int)), (42, .int .i64 v1_42), (43, .bool (decide (v1_42 < (((List.length v0_9x) : Nat) : Int))))] ⟨by kernel_rfl, by kernel_rfl, by kernel_rfl, by kernel_rfl, by kernel_rfl, by kernel_rfl, by kernel_rfl, by kernel_rfl, by kernel_rfl, by kernel_rfl, by kernel_rfl, by kernel_rfl, by kernel_rfl, trivial⟩ ?_
      refine at_then_normal ?_
      refine at_seq (x := C7 [1,1,0,1,0,0,1,1,0,0,1,1,1,0,1,0,0,1,0]) (y := C7 [1,1,0,1,0,0,1,1,0,0,1,1,1,0,1,0,0,1,1]) (by kernel_rfl) ?_
      rcases Bool.eq_false_or_eq_true (decide (v1_42 < (((List.length v0_9x) : Nat) : Int))) with h2 | h2
      · replace H := bifT H h2
        refine at_true (t := decide (v1_42 < (((List.length v0_9x) : Nat) : Int))) (x := C7 [1,1,0,1,0,0,1,1,0,0,1,1,1,0,1,0,0,1,0,0]) (y := C7 [1,1,0,1,0,0,1,1,0,0,1,1,1,0,1,0,0,1,0,1]) (o := .tmp 43) (by kernel_rfl) (by kernel_rfl) (by kernel_rfl) h2 ?_
        refine at_skip (by kernel_rfl) ?_
        refine at_then_normal ?_
        refine at_seq_join (x := C7 [1,1,0,1,0,0,1,1,0,0,1,1,1,0,1,0,0,1,1,0]) (y := C7 [1,1,0,1,0,0,1,1,0,0,1,1,1,0,1,0,0,1,1,1]) (fun ff ΔΔ => ∃ (e12_13 : Bool), purgeWalksS_j12 v1_42 (purgeWalksS_l1 v0_9x y5_1 (purgeWalksS_k1 y5_1 v0_9x v0_34 (purgeWalksS_l0 order (purgeWalksS_k0 node own data) fuel1)) fuel2) e12_13 = some y ∧ ff = [(1, .int .i64 own), (2, .int .i64 node), (3, .int .i64 data), (9, .slice v0_9a (List.length v0_9x) v0_9c), (12, .int .i64 y5_1), (13, .bool e12_13), (32, .slice ordera (List.length order) ordercap), (33, .int .i64 (((List.length order) : Nat) : Int)), (34, .int .i64 v0_34), (40, .slice v0_9a (List.length v0_9x) v0_9c), (41, .int .i64 (((List.length v0_9x) : Nat) : Int)), (42, .int .i64 v1_42)] ∧ (IntsA v0_9a v0_9c v0_9x) :: Γ = ΔΔ) (by kernel_rfl) ?_ ?_
        · rintro _ _ ⟨e12_13, H, rfl, rfl⟩
          rw [purgeWalksS_j12] at H
          refine at_region (id := 11) 2 (by kernel_rfl) (by kernel_rfl) ?_
          obtain ⟨hc11_0_0, H⟩ := chkE H
          refine s_pure 52 (.int .i64 (v1_42 + (1 : Int))) (by kernel_rfl) (by kernel_rfl) (run_eq (v := .int .i64 (IntKind.i64.wrap (v1_42 + (1 : Int)))) (fun _ => by kernel_rfl) (by rw [inR.wrap hc11_0_0])) ?_
          refine s_pure 42 (.int .i64 (v1_42 + (1 : Int))) (by kernel_rfl) (by kernel_rfl) (fun _ => by kernel_rfl) ?_
          refine ops_end ?_
          refine At.env [(1, .int .i64 own), (2, .int .i64 node), (3, .int .i64 data), (9, .slice v0_9a (List.length v0_9x) v0_9c), (12, .int .i64 y5_1), (13, .bool e12_13), (32, .slice ordera (List.length order) ordercap), (33, .int .i64 (((List.length order) : Nat) : Int)), (34, .int .i64 v0_34), (40, .slice v0_9a (List.length v0_9x) v0_9c), (41, .int .i64 (((List.length v0_9x) : Nat) : Int)), (42, .int .i64 (v1_42 + (1 : Int)))] ⟨by kernel_rfl, by kernel_rfl, by kernel_rfl, by kernel_rfl, by kernel_rfl, by kernel_rfl, by kernel_rfl, by kernel_rfl, by kernel_rfl, by kernel_rfl, by kernel_rfl, by kernel_rfl, trivial⟩ ?_
          refine at_round_normal ?_
          exact at_roundR fuel2 [(1, .int .i64 own), (2, .int .i64 node), (3, .int .i64 data), (9, .slice v0_9a (List.length v0_9x) v0_9c), (12, .int .i64 y5_1), (13, .bool e12_13), (32, .slice ordera (List.length order) ordercap), (33, .int .i64 (((List.length order) : Nat) : Int)), (34, .int .i64 v0_34), (40, .slice v0_9a (List.length v0_9x) v0_9c), (41, .int .i64 (((List.length v0_9x) : Nat) : Int)), (42, .int .i64 (v1_42 + (1 : Int)))] ((IntsA v0_9a v0_9c v0_9x) :: Γ) (Nat.lt_succ_self _) ⟨by kernel_rfl, by kernel_rfl, by kernel_rfl, by kernel_rfl, by kernel_rfl, by kernel_rfl, by kernel_rfl, by kernel_rfl, by kernel_rfl, by kernel_rfl, by kernel_rfl, by kernel_rfl, trivial⟩ (fun w hw => (Sat.less (.take .here .refl) hw)) ⟨fuel2, e12_13, v1_42 + (1 : Int), H, rfl, rfl, rfl⟩
        · refine at_block (i := 3) (x := C7 [1,1,0,1,0,0,1,1,0,0,1,1,1,0,1,0,0,1,1,0,0]) (by kernel_rfl) ?_
          refine at_seq (x := C7 [1,1,0,1,0,0,1,1,0,0,1,1,1,0,1,0,0,1,1,0,0,0]) (y := C7 [1,1,0,1,0,0,1,1,0,0,1,1,1,0,1,0,0,1,1,0,0,1]) (by kernel_rfl) ?_
          refine at_region (id := 9) 3 (by kernel_rfl) (by kernel_rfl) ?_
          obtain ⟨hc9_0_0, H⟩ := chkE H
          refine rows_at .here (by have := hc9_0_0; simp only [ints_length]; omega) ?_
          intro bb2 oo2 ha2
          refine s_pure 44 (.pointer (some ⟨bb2, oo2 + ((v1_42).toNat * 1 + 0), none⟩)) (by kernel_rfl) (by kernel_rfl) (index_at (t := 30) (sz := 1) (E := 3) (a := v0_9a) (m := (List.length v0_9x)) (c := v0_9c) (b := bb2) (off := oo2) (i := (v1_42).toNat) (tinfo 3) (fun _ => by kernel_rfl) (by kernel_rfl) (by kernel_rfl) (by kernel_rfl) ha2 (idx_cast hc9_0_0) (idx_nat hc9_0_0) rfl) ?_
          refine s_load 45 (.int .i64 (nth v0_9x v1_42)) (by kernel_rfl) (by kernel_rfl) (load1_at (off := oo2 + ((v1_42).toNat * 1 + 0)) (v := .int .i64 (nth v0_9x v1_42)) (fun _ => by kernel_rfl) rfl (reads_cell (k := 1) (RowsA.reads (k := 1) .here) (ints_rows _) ha2 (nth_row hc9_0_0) (show [(.int .i64 (nth v0_9x v1_42) : Value)][0]? = some _ from rfl))) ?_
          refine s_pure 15 (.int .i64 (nth v0_9x v1_42)) (by kernel_rfl) (by kernel_rfl) (fun _ => by kernel_rfl) ?_
          refine ops_end ?_
          refine At.env [(1, .int .i64 own), (2, .int .i64 node), (3, .int .i64 data), (9, .slice v0_9a (List.length v0_9x) v0_9c), (12, .int .i64 y5_1), (13, .bool v1_13), (15, .int .i64 (nth v0_9x v1_42)), (32, .slice ordera (List.length order) ordercap), (33, .int .i64 (((List.length order) : Nat) : Int)), (34, .int .i64 v0_34), (40, .slice v0_9a (List.length v0_9x) v0_9c), (41, .int .i64 (((List.length v0_9x) : Nat) : Int)), (42, .int .i64 v1_42)] ⟨by kernel_rfl, by kernel_rfl, by kernel_rfl, by kernel_rfl, by kernel_rfl, by kernel_rfl, by kernel_rfl, by kernel_rfl, by kernel_rfl, by kernel_rfl, by kernel_rfl, by kernel_rfl, by kernel_rfl, trivial⟩ ?_
          refine at_then_normal ?_
          refine at_region (id := 10) 7 (by kernel_rfl) (by kernel_rfl) ?_
          refine s_pure 46 (.bool v1_13) (by kernel_rfl) (by kernel_rfl) (fun _ => by kernel_rfl) ?_
          rcases Bool.eq_false_or_eq_true (v1_13) with h3 | h3
          · replace H := bifT H h3
            refine s_pure 47 (.bool true) (by kernel_rfl) (by kernel_rfl) (run_eq (v := .bool (v1_13)) (fun _ => by kernel_rfl) (congrArg Value.bool h3)) ?_
            refine s_pass 48 (by kernel_rfl) (by kernel_rfl) ?_
            refine s_pass 49 (by kernel_rfl) (by kernel_rfl) ?_
            refine s_pass 50 (by kernel_rfl) (by kernel_rfl) ?_
            refine s_pure 51 (.bool true) (by kernel_rfl) (by kernel_rfl) (fun _ => by kernel_rfl) ?_
            refine s_pure 13 (.bool true) (by kernel_rfl) (by kernel_rfl) (fun _ => by kernel_rfl) ?_
            refine ops_end ?_
            refine At.env [(1, .int .i64 own), (2, .int .i64 node), (3, .int .i64 data), (9, .slice v0_9a (List.length v0_9x) v0_9c), (12, .int .i64 y5_1), (13, .bool true), (32, .slice ordera (List.length order) ordercap), (33, .int .i64 (((List.length order) : Nat) : Int)), (34, .int .i64 v0_34), (40, .slice v0_9a (List.length v0_9x) v0_9c), (41, .int .i64 (((List.length v0_9x) : Nat) : Int)), (42, .int .i64 v1_42)] ⟨by kernel_rfl, by kernel_rfl, by kernel_rfl, by kernel_rfl, by kernel_rfl, by kernel_rfl, by kernel_rfl, by kernel_rfl, by kernel_rfl, by kernel_rfl, by kernel_rfl, by kernel_rfl, trivial⟩ ?_
            refine at_in_normal ?_
            refine at_round_normal ?_
            exact at_join_mk [(1, .int .i64 own), (2, .int .i64 node), (3, .int .i64 data), (9, .slice v0_9a (List.length v0_9x) v0_9c), (12, .int .i64 y5_1), (13, .bool true), (32, .slice ordera (List.length order) ordercap), (33, .int .i64 (((List.length order) : Nat) : Int)), (34, .int .i64 v0_34), (40, .slice v0_9a (List.length v0_9x) v0_9c), (41, .int .i64 (((List.length v0_9x) : Nat) : Int)), (42, .int .i64 v1_42)] ((IntsA v0_9a v0_9c v0_9x) :: Γ) ⟨by kernel_rfl, by kernel_rfl, by kernel_rfl, by kernel_rfl, by kernel_rfl, by kernel_rfl, by kernel_rfl, by kernel_rfl, by kernel_rfl, by kernel_rfl, by kernel_rfl, by kernel_rfl, trivial⟩ (fun w hw => (Sat.less (.take .here .refl) hw)) ⟨true, H, rfl, rfl⟩
          · replace H := bifF H h3
            refine s_pure 47 (.bool false) (by kernel_rfl) (by kernel_rfl) (run_eq (v := .bool (v1_13)) (fun _ => by kernel_rfl) (congrArg Value.bool h3)) ?_
            refine s_pure 48 (.int .i64 (nth v0_9x v1_42)) (by kernel_rfl) (by kernel_rfl) (fun _ => by kernel_rfl) ?_
            refine s_pure 49 (.int .i64 y5_1) (by kernel_rfl) (by kernel_rfl) (fun _ => by kernel_rfl) ?_
            refine s_pure 50 (.bool (decide ((nth v0_9x v1_42) = y5_1))) (by kernel_rfl) (by kernel_rfl) (fun _ => by kernel_rfl) ?_
            refine s_pure 51 (.bool (decide ((nth v0_9x v1_42) = y5_1))) (by kernel_rfl) (by kernel_rfl) (fun _ => by kernel_rfl) ?_
            refine s_pure 13 (.bool (decide ((nth v0_9x v1_42) = y5_1))) (by kernel_rfl) (by kernel_rfl) (fun _ => by kernel_rfl) ?_
            refine ops_end ?_
            refine At.env [(1, .int .i64 own), (2, .int .i64 node), (3, .int .i64 data), (9, .slice v0_9a (List.length v0_9x) v0_9c), (12, .int .i64 y5_1), (13, .bool (decide ((nth v0_9x v1_42) = y5_1))), (32, .slice ordera (List.length order) ordercap), (33, .int .i64 (((List.length order) : Nat) : Int)), (34, .int .i64 v0_34), (40, .slice v0_9a (List.length v0_9x) v0_9c), (41, .int .i64 (((List.length v0_9x) : Nat) : Int)), (42, .int .i64 v1_42)] ⟨by kernel_rfl, by kernel_rfl, by kernel_rfl, by kernel_rfl, by kernel_rfl, by kernel_rfl, by kernel_rfl, by kernel_rfl, by kernel_rfl, by kernel_rfl, by kernel_rfl, by kernel_rfl, trivial⟩ ?_
            refine at_in_normal ?_
            refine at_round_normal ?_
            exact at_join_mk [(1, .int .i64 own), (2, .int .i64 node), (3, .int .i64 data), (9, .slice v0_9a (List.length v0_9x) v0_9c), (12, .int .i64 y5_1), (13, .bool (decide ((nth v0_9x v1_42) = y5_1))), (32, .slice ordera (List.length order) ordercap), (33, .int .i64 (((List.length order) : Nat) : Int)), (34, .int .i64 v0_34), (40, .slice v0_9a (List.length v0_9x) v0_9c), (41, .int .i64 (((List.length v0_9x) : Nat) : Int)), (42, .int .i64 v1_42)] ((IntsA v0_9a v0_9c v0_9x) :: Γ) ⟨by kernel_rfl, by kernel_rfl, by kernel_rfl, by kernel_rfl, by kernel_rfl, by kernel_rfl, by kernel_rfl, by kernel_rfl, by kernel_rfl, by kernel_rfl, by kernel_rfl, by kernel_rfl, trivial⟩ (fun w hw => (Sat.less (.take .here .refl) hw)) ⟨decide ((nth v0_9x v1_42) = y5_1), H, rfl, rfl⟩
      · replace H := bifF H h2
        refine at_false (t := decide (v1_42 < (((List.length v0_9x) : Nat) : Int))) (x := C7 [1,1,0,1,0,0,1,1,0,0,1,1,1,0,1,0,0,1,0,0]) (y := C7 [1,1,0,1,0,0,1,1,0,0,1,1,1,0,1,0,0,1,0,1]) (o := .tmp 43) (by kernel_rfl) (by kernel_rfl) (by kernel_rfl) h2 ?_
        refine at_exit (i := 2) (by kernel_rfl) ?_
        refine at_then_exit ?_
        refine at_then_exit ?_
        rw [purgeWalksS_k1] at H
        refine At.env [(1, .int .i64 own), (2, .int .i64 node), (3, .int .i64 data), (9, .slice v0_9a (List.length v0_9x) v0_9c), (12, .int .i64 y5_1), (13, .bool v1_13), (32, .slice ordera (List.length order) ordercap), (33, .int .i64 (((List.length order) : Nat) : Int)), (34, .int .i64 v0_34), (40, .slice v0_9a (List.length v0_9x) v0_9c), (41, .int .i64 (((List.length v0_9x) : Nat) : Int)), (42, .int .i64 v1_42)] ⟨by kernel_rfl, by kernel_rfl, by kernel_rfl, by kernel_rfl, by kernel_rfl, by kernel_rfl, by kernel_rfl, by kernel_rfl, by kernel_rfl, by kernel_rfl, by kernel_rfl, by kernel_rfl, trivial⟩ ?_
        refine At.conv (Γ' := (IntsA v0_9a v0_9c v0_9x) :: Γ) (fun w hw => (Sat.less (.take .here .refl) hw)) ?_
        refine at_in_here ?_
        refine at_then_normal ?_
        refine at_seq (x := C7 [1,1,0,1,0,0,1,1,0,0,1,1,1,1,0]) (y := C7 [1,1,0,1,0,0,1,1,0,0,1,1,1,1,1]) (by kernel_rfl) ?_
        refine at_region (id := 12) 2 (by kernel_rfl) (by kernel_rfl) ?_
        refine s_pure 53 (.bool v1_13) (by kernel_rfl) (by kernel_rfl) (fun _ => by kernel_rfl) ?_
        refine s_pure 54 (.bool !v1_13) (by kernel_rfl) (by kernel_rfl) (fun _ => by kernel_rfl) ?_
        refine ops_end ?_
        refine At.env [(1, .int .i64 own), (2, .int .i64 node), (3, .int .i64 data), (9, .slice v0_9a (List.length v0_9x) v0_9c), (12, .int .i64 y5_1), (32, .slice ordera (List.length order) ordercap), (33, .int .i64 (((List.length order) : Nat) : Int)), (34, .int .i64 v0_34), (54, .bool !v1_13)] ⟨by kernel_rfl, by kernel_rfl, by kernel_rfl, by kernel_rfl, by kernel_rfl, by kernel_rfl, by kernel_rfl, by kernel_rfl, by kernel_rfl, trivial⟩ ?_
        refine at_then_normal ?_
        rcases Bool.eq_false_or_eq_true (!v1_13) with h4 | h4
        · replace H := bifT H h4
          refine at_true (t := !v1_13) (x := C7 [1,1,0,1,0,0,1,1,0,0,1,1,1,1,1,0]) (y := C7 [1,1,0,1,0,0,1,1,0,0,1,1,1,1,1,1]) (o := .tmp 54) (by kernel_rfl) (by kernel_rfl) (by kernel_rfl) h4 ?_
          refine at_region (id := 13) 5 (by kernel_rfl) (by kernel_rfl) ?_
          refine s_pure 55 (.slice v0_9a (List.length v0_9x) v0_9c) (by kernel_rfl) (by kernel_rfl) (fun _ => by kernel_rfl) ?_
          refine s_pure 56 (.int .i64 y5_1) (by kernel_rfl) (by kernel_rfl) (fun _ => by kernel_rfl) ?_
          obtain ⟨l13_2, hl13_2, H⟩ := letE H
          refine s_step 57 (by kernel_rfl) (by kernel_rfl) (st_new_ints (T := 3) (xs := l13_2) 1 hl13_2 (fun _ => by kernel_rfl) (by kernel_rfl)) ?_
          rintro _ _ ⟨b13_2, rfl, rfl⟩
          obtain ⟨hc13_3_0, H⟩ := chkE H
          obtain ⟨l13_3, hl13_3, H⟩ := letE H
          refine s_step 58 (by kernel_rfl) (by kernel_rfl) (st_append_ints (xs := v0_9x) (ys := l13_2) (zs := l13_3) (m1 := (List.length v0_9x)) (m2 := (List.length l13_2)) (m := List.length l13_3) (cap2 := 1) 30 30 3 (tinfo 3) (fun _ => by kernel_rfl) (by kernel_rfl) (by kernel_rfl) (by kernel_rfl) (by kernel_rfl) (by kernel_rfl) (.there .here) (RowsA.reads (k := 1) .here) (by first | rfl | simp) (by first | rfl | simp) (by rw [← hl13_3]; first | done | simp) (by rw [← hl13_3]; first | done | simp) (by rw [← hl13_3]; exact hc13_3_0)) ?_
          rintro _ _ ⟨a13_3, c13_3, rfl, rfl⟩
          refine s_pure 9 (.slice a13_3 (List.length l13_3) c13_3) (by kernel_rfl) (by kernel_rfl) (fun _ => by kernel_rfl) ?_
          refine ops_end ?_
          refine At.env [(1, .int .i64 own), (2, .int .i64 node), (3, .int .i64 data), (9, .slice a13_3 (List.length l13_3) c13_3), (32, .slice ordera (List.length order) ordercap), (33, .int .i64 (((List.length order) : Nat) : Int)), (34, .int .i64 v0_34)] ⟨by kernel_rfl, by kernel_rfl, by kernel_rfl, by kernel_rfl, by kernel_rfl, by kernel_rfl, by kernel_rfl, trivial⟩ ?_
          refine at_in_normal ?_
          refine at_round_normal ?_
          exact at_join_mk [(1, .int .i64 own), (2, .int .i64 node), (3, .int .i64 data), (9, .slice a13_3 (List.length l13_3) c13_3), (32, .slice ordera (List.length order) ordercap), (33, .int .i64 (((List.length order) : Nat) : Int)), (34, .int .i64 v0_34)] ((IntsA a13_3 c13_3 l13_3) :: Γ) ⟨by kernel_rfl, by kernel_rfl, by kernel_rfl, by kernel_rfl, by kernel_rfl, by kernel_rfl, by kernel_rfl, trivial⟩ (fun w hw => (Sat.less (.take .here (.drop .here .refl)) hw)) ⟨l13_3, a13_3, c13_3, H, rfl, rfl⟩
        · replace H := bifF H h4
          refine at_false (t := !v1_13) (x := C7 [1,1,0,1,0,0,1,1,0,0,1,1,1,1,1,0]) (y := C7 [1,1,0,1,0,0,1,1,0,0,1,1,1,1,1,1]) (o := .tmp 54) (by kernel_rfl) (by kernel_rfl) (by kernel_rfl) h4 ?_
          refine at_skip (by kernel_rfl) ?_
          refine at_in_normal ?_
          refine at_round_normal ?_
          exact at_join_mk [(1, .int .i64 own), (2, .int .i64 node), (3, .int .i64 data), (9, .slice v0_9a (List.length v0_9x) v0_9c), (32, .slice ordera (List.length order) ordercap), (33, .int .i64 (((List.length order) : Nat) : Int)), (34, .int .i64 v0_34)] ((IntsA v0_9a v0_9c v0_9x) :: Γ) ⟨by kernel_rfl, by kernel_rfl, by kernel_rfl, by kernel_rfl, by kernel_rfl, by kernel_rfl, by kernel_rfl, trivial⟩ (fun w hw => (Sat.less (.take .here .refl) hw)) ⟨v0_9x, v0_9a, v0_9c, H, rfl, rfl⟩
  · replace H := bifF H h1
    refine at_false (t := decide (v0_34 < (((List.length order) : Nat) : Int))) (x := C7 [1,1,0,1,0,0,1,0,0]) (y := C7 [1,1,0,1,0,0,1,0,1]) (o := .tmp 35) (by kernel_rfl) (by kernel_rfl) (by kernel_rfl) h1 ?_
    refine at_exit (i := 0) (by kernel_rfl) ?_
    refine at_then_exit ?_
    refine at_then_exit ?_
    rw [purgeWalksS_k0] at H
    refine At.env [(1, .int .i64 own), (2, .int .i64 node), (3, .int .i64 data), (9, .slice v0_9a (List.length v0_9x) v0_9c), (32, .slice ordera (List.length order) ordercap), (33, .int .i64 (((List.length order) : Nat) : Int)), (34, .int .i64 v0_34)] ⟨by kernel_rfl, by kernel_rfl, by kernel_rfl, by kernel_rfl, by kernel_rfl, by kernel_rfl, by kernel_rfl, trivial⟩ ?_
    refine At.conv (Γ' := (IntsA v0_9a v0_9c v0_9x) :: Γ) (fun w hw => (Sat.less (.take .here .refl) hw)) ?_
    refine at_in_here ?_
    refine at_then_normal ?_
    refine at_seq (x := C7 [1,1,1,0]) (y := C7 [1,1,1,1]) (by kernel_rfl) ?_
    refine at_region (id := 15) 3 (by kernel_rfl) (by kernel_rfl) ?_
    refine s_pure 60 (.int .i64 node) (by kernel_rfl) (by kernel_rfl) (fun _ => by kernel_rfl) ?_
    obtain ⟨y15_1, hy15_1, H⟩ := bindE H
    refine s_quiet 61 (.int .i64 y15_1) 22 #[.int .i64 node, .int .i64 (6)] (by kernel_rfl) (by kernel_rfl) (fun _ => by kernel_rfl) (WithinF_tr node (6 : Int) y15_1 hy15_1) ?_
    refine s_pure 2 (.int .i64 y15_1) (by kernel_rfl) (by kernel_rfl) (fun _ => by kernel_rfl) ?_
    refine ops_end ?_
    refine At.env [(1, .int .i64 own), (2, .int .i64 y15_1), (3, .int .i64 data), (9, .slice v0_9a (List.length v0_9x) v0_9c)] ⟨by kernel_rfl, by kernel_rfl, by kernel_rfl, by kernel_rfl, trivial⟩ ?_
    refine at_then_normal ?_
    refine at_seq_join (x := C7 [1,1,1,1,0]) (y := C7 [1,1,1,1,1]) (fun ff ΔΔ => ∃ (e2_2 : Int), purgeWalksS_j2 v0_9x data e2_2 = some y ∧ ff = [(2, .int .i64 e2_2), (3, .int .i64 data), (9, .slice v0_9a (List.length v0_9x) v0_9c)] ∧ (IntsA v0_9a v0_9c v0_9x) :: Γ = ΔΔ) (by kernel_rfl) ?_ ?_
    · rintro _ _ ⟨e2_2, H, rfl, rfl⟩
      rw [purgeWalksS_j2] at H
      refine at_seq (x := C7 [1,1,1,1,1,0]) (y := C7 [1,1,1,1,1,1]) (by kernel_rfl) ?_
      refine at_region (id := 18) 6 (by kernel_rfl) (by kernel_rfl) ?_
      obtain ⟨y18_0, hy18_0, H⟩ := bindE H
      refine s_call 79 13 #[.slice none 0 0, .slice none 0 0, .slice none 0 0] (by kernel_rfl) (by kernel_rfl) (fun _ => by kernel_rfl) (BothNilF_tr  y18_0 hy18_0) ?_
      rintro _ _ ⟨b18_0_0, b18_0_1, rfl, rfl⟩
      refine s_pure 78 (.tuple #[.pointer (some ⟨b18_0_0, 0, none⟩), .pointer (some ⟨b18_0_1, 0, none⟩)]) (by kernel_rfl) (by kernel_rfl) (fun _ => by kernel_rfl) ?_
      refine s_pure 80 (.pointer (some ⟨b18_0_0, 0, none⟩)) (by kernel_rfl) (by kernel_rfl) (fun _ => by kernel_rfl) ?_
      refine s_pure 81 (.pointer (some ⟨b18_0_1, 0, none⟩)) (by kernel_rfl) (by kernel_rfl) (fun _ => by kernel_rfl) ?_
      refine s_pure 16 (.pointer (some ⟨b18_0_0, 0, none⟩)) (by kernel_rfl) (by kernel_rfl) (fun _ => by kernel_rfl) ?_
      refine s_pure 17 (.pointer (some ⟨b18_0_1, 0, none⟩)) (by kernel_rfl) (by kernel_rfl) (fun _ => by kernel_rfl) ?_
      refine ops_end ?_
      refine At.env [(2, .int .i64 e2_2), (3, .int .i64 data), (9, .slice v0_9a (List.length v0_9x) v0_9c), (16, .pointer (some ⟨b18_0_0, 0, none⟩))] ⟨by kernel_rfl, by kernel_rfl, by kernel_rfl, by kernel_rfl, trivial⟩ ?_
      refine at_then_normal ?_
      refine at_seq (x := C7 [1,1,1,1,1,1,0]) (y := C7 [1,1,1,1,1,1,1]) (by kernel_rfl) ?_
      refine at_seq (x := C7 [1,1,1,1,1,1,0,0]) (y := C7 [1,1,1,1,1,1,0,1]) (by kernel_rfl) ?_
      refine at_region (id := 19) 2 (by kernel_rfl) (by kernel_rfl) ?_
      refine s_pure 82 (.pointer (some ⟨b18_0_0, 0, none⟩)) (by kernel_rfl) (by kernel_rfl) (fun _ => by kernel_rfl) ?_
      refine s_pure 83 (.bool false) (by kernel_rfl) (by kernel_rfl) (fun _ => by kernel_rfl) ?_
      refine ops_end ?_
      refine At.env [(2, .int .i64 e2_2), (3, .int .i64 data), (9, .slice v0_9a (List.length v0_9x) v0_9c), (16, .pointer (some ⟨b18_0_0, 0, none⟩)), (83, .bool false)] ⟨by kernel_rfl, by kernel_rfl, by kernel_rfl, by kernel_rfl, by kernel_rfl, trivial⟩ ?_
      refine at_then_normal ?_
      refine at_false (t := false) (x := C7 [1,1,1,1,1,1,0,1,0]) (y := C7 [1,1,1,1,1,1,0,1,1]) (o := .tmp 83) (by kernel_rfl) (by kernel_rfl) (by kernel_rfl) rfl ?_
      refine at_skip (by kernel_rfl) ?_
      refine at_then_normal ?_
      refine at_seq (x := C7 [1,1,1,1,1,1,1,0]) (y := C7 [1,1,1,1,1,1,1,1]) (by kernel_rfl) ?_
      refine at_region (id := 21) 2 (by kernel_rfl) (by kernel_rfl) ?_
      refine s_pure 18 (.int .i64 (-1)) (by kernel_rfl) (by kernel_rfl) (fun _ => by kernel_rfl) ?_
      refine s_pure 19 (.int .i64 (0)) (by kernel_rfl) (by kernel_rfl) (fun _ => by kernel_rfl) ?_
      refine ops_end ?_
      refine At.env [(2, .int .i64 e2_2), (3, .int .i64 data), (9, .slice v0_9a (List.length v0_9x) v0_9c), (16, .pointer (some ⟨b18_0_0, 0, none⟩)), (18, .int .i64 (-1)), (19, .int .i64 (0))] ⟨by kernel_rfl, by kernel_rfl, by kernel_rfl, by kernel_rfl, by kernel_rfl, by kernel_rfl, trivial⟩ ?_
      refine at_then_normal ?_
      refine at_seq_join (x := C7 [1,1,1,1,1,1,1,1,0]) (y := C7 [1,1,1,1,1,1,1,1,1]) (fun ff ΔΔ => ∃ (e3_18 : Int) (e3_19 : Int), purgeWalksS_j3 v0_9x e2_2 data y18_0 e3_18 e3_19 = some y ∧ ff = [(2, .int .i64 e2_2), (3, .int .i64 data), (9, .slice v0_9a (List.length v0_9x) v0_9c), (16, .pointer (some ⟨b18_0_0, 0, none⟩)), (18, .int .i64 e3_18), (19, .int .i64 e3_19)] ∧ (CacheA b18_0_0 y18_0.1) :: (RCacheA b18_0_1 y18_0.2) :: (IntsA v0_9a v0_9c v0_9x) :: Γ = ΔΔ) (by kernel_rfl) ?_ ?_
      · rintro _ _ ⟨e3_18, e3_19, H, rfl, rfl⟩
        rw [purgeWalksS_j3] at H
        refine at_seq (x := C7 [1,1,1,1,1,1,1,1,1,0]) (y := C7 [1,1,1,1,1,1,1,1,1,1]) (by kernel_rfl) ?_
        refine at_region (id := 24) 4 (by kernel_rfl) (by kernel_rfl) ?_
        refine s_pure 90 (.slice v0_9a (List.length v0_9x) v0_9c) (by kernel_rfl) (by kernel_rfl) (fun _ => by kernel_rfl) ?_
        obtain ⟨y24_1, hy24_1, H⟩ := bindE H
        refine s_call 91 29 #[.slice v0_9a (List.length v0_9x) v0_9c] (by kernel_rfl) (by kernel_rfl) (fun _ => by kernel_rfl) (BehindF_tr v0_9a v0_9c v0_9x (RowsA.reads (k := 1) (.there (.there .here))) y24_1 hy24_1) ?_
        rintro _ _ ⟨rfl, rfl⟩
        refine s_step 20 (by kernel_rfl) (by kernel_rfl) (st_new (T := 54) (cells := arrI ([0, 0, 0, 0, 0, 0] : List Int)) (fun a => .pointer (some a)) (fun _ => by kernel_rfl)) ?_
        rintro _ _ ⟨b24_2, rfl, rfl⟩
        refine s_do (by kernel_rfl) (by kernel_rfl) (st_store (off := 0) (vs := [.int .i64 (nth y24_1 0), .int .i64 (nth y24_1 1), .int .i64 (nth y24_1 2), .int .i64 (nth y24_1 3), .int .i64 (nth y24_1 4), .int .i64 (nth y24_1 5)]) (c' := arrI ([nth y24_1 0, nth y24_1 1, nth y24_1 2, nth y24_1 3, nth y24_1 4, nth y24_1 5] : List Int)) (fun _ => by kernel_rfl) .here (by kernel_rfl) (by kernel_rfl) (by kernel_rfl)) ?_
        rintro _ _ ⟨rfl, rfl⟩
        refine ops_end ?_
        refine At.env [(2, .int .i64 e2_2), (3, .int .i64 data), (9, .slice v0_9a (List.length v0_9x) v0_9c), (16, .pointer (some ⟨b18_0_0, 0, none⟩)), (18, .int .i64 e3_18), (19, .int .i64 e3_19), (20, .pointer (some ⟨b24_2, 0, none⟩))] ⟨by kernel_rfl, by kernel_rfl, by kernel_rfl, by kernel_rfl, by kernel_rfl, by kernel_rfl, by kernel_rfl, trivial⟩ ?_
        refine at_then_normal ?_
        refine at_seq (x := C7 [1,1,1,1,1,1,1,1,1,1,0]) (y := C7 [1,1,1,1,1,1,1,1,1,1,1]) (by kernel_rfl) ?_
        refine at_seq (x := C7 [1,1,1,1,1,1,1,1,1,1,0,0]) (y := C7 [1,1,1,1,1,1,1,1,1,1,0,1]) (by kernel_rfl) ?_
        refine at_region (id := 25) 3 (by kernel_rfl) (by kernel_rfl) ?_
        refine s_pure 92 (.slice v0_9a (List.length v0_9x) v0_9c) (by kernel_rfl) (by kernel_rfl) (fun _ => by kernel_rfl) ?_
        refine s_pure 93 (.int .i64 (((List.length v0_9x) : Nat) : Int)) (by kernel_rfl) (by kernel_rfl) (fun _ => by kernel_rfl) ?_
        refine s_pure 94 (.int .i64 (0)) (by kernel_rfl) (by kernel_rfl) (fun _ => by kernel_rfl) ?_
        refine ops_end ?_
        refine At.env [(2, .int .i64 e2_2), (3, .int .i64 data), (9, .slice v0_9a (List.length v0_9x) v0_9c), (16, .pointer (some ⟨b18_0_0, 0, none⟩)), (18, .int .i64 e3_18), (19, .int .i64 e3_19), (20, .pointer (some ⟨b24_2, 0, none⟩)), (92, .slice v0_9a (List.length v0_9x) v0_9c), (93, .int .i64 (((List.length v0_9x) : Nat) : Int)), (94, .int .i64 (0))] ⟨by kernel_rfl, by kernel_rfl, by kernel_rfl, by kernel_rfl, by kernel_rfl, by kernel_rfl, by kernel_rfl, by kernel_rfl, by kernel_rfl, by kernel_rfl, trivial⟩ ?_
        refine at_then_normal ?_
        refine at_block (i := 4) (x := C7 [1,1,1,1,1,1,1,1,1,1,0,1,0]) (by kernel_rfl) ?_
        refine At.conv (Γ' := (Asn.own b24_2 (.cells (arrI ([nth y24_1 0, nth y24_1 1, nth y24_1 2, nth y24_1 3, nth y24_1 4, nth y24_1 5] : List Int)) 54 (0, 0))) :: (CacheA b18_0_0 y18_0.1) :: (RCacheA b18_0_1 y18_0.2) :: (IntsA v0_9a v0_9c v0_9x) :: Γ) (fun w hw => (Sat.less (.take .here (.take .here (.take .here (.take .here .refl)))) hw)) ?_
        refine at_loopR (x := C7 [1,1,1,1,1,1,1,1,1,1,0,1,0,0]) (fun mm ff ΔΔ => ∃ (fuel : Nat) (v4_94 : Int) (v4_b18_0_0 : CacheS), purgeWalksS_l4 v0_9x e2_2 y24_1 data (purgeWalksS_k4 data e2_2 e3_18 e3_19 v0_9x y24_1) fuel v4_94 v4_b18_0_0 = some y ∧ fuel = mm ∧ ff = [(2, .int .i64 e2_2), (3, .int .i64 data), (9, .slice v0_9a (List.length v0_9x) v0_9c), (16, .pointer (some ⟨b18_0_0, 0, none⟩)), (18, .int .i64 e3_18), (19, .int .i64 e3_19), (20, .pointer (some ⟨b24_2, 0, none⟩)), (92, .slice v0_9a (List.length v0_9x) v0_9c), (93, .int .i64 (((List.length v0_9x) : Nat) : Int)), (94, .int .i64 v4_94)] ∧ (Asn.own b24_2 (.cells (arrI ([nth y24_1 0, nth y24_1 1, nth y24_1 2, nth y24_1 3, nth y24_1 4, nth y24_1 5] : List Int)) 54 (0, 0))) :: (CacheA b18_0_0 v4_b18_0_0) :: (RCacheA b18_0_1 y18_0.2) :: (IntsA v0_9a v0_9c v0_9x) :: Γ = ΔΔ) (64) (by kernel_rfl) [(2, .int .i64 e2_2), (3, .int .i64 data), (9, .slice v0_9a (List.length v0_9x) v0_9c), (16, .pointer (some ⟨b18_0_0, 0, none⟩)), (18, .int .i64 e3_18), (19, .int .i64 e3_19), (20, .pointer (some ⟨b24_2, 0, none⟩)), (92, .slice v0_9a (List.length v0_9x) v0_9c), (93, .int .i64 (((List.length v0_9x) : Nat) : Int)), (94, .int .i64 0)] ⟨by kernel_rfl, by kernel_rfl, by kernel_rfl, by kernel_rfl, by kernel_rfl, by kernel_rfl, by kernel_rfl, by kernel_rfl, by kernel_rfl, by kernel_rfl, trivial⟩ ⟨64, 0, y18_0.1, H, rfl, rfl, rfl⟩ ?_
        rintro _ _ _ ⟨fuel3, v4_94, v4_b18_0_0, H, rfl, rfl, rfl⟩
        rcases fuel3 with _ | fuel3
        · exact (noneE H).elim
        rw [purgeWalksS_l4] at H
        refine at_seq (x := C7 [1,1,1,1,1,1,1,1,1,1,0,1,0,0,0]) (y := C7 [1,1,1,1,1,1,1,1,1,1,0,1,0,0,1]) (by kernel_rfl) ?_
        refine at_region (id := 26) 1 (by kernel_rfl) (by kernel_rfl) ?_
        refine s_pure 95 (.bool (decide (v4_94 < (((List.length v0_9x) : Nat) : Int)))) (by kernel_rfl) (by kernel_rfl) (fun _ => by kernel_rfl) ?_
        refine ops_end ?_
        refine At.env [(2, .int .i64 e2_2), (3, .int .i64 data), (9, .slice v0_9a (List.length v0_9x) v0_9c), (16, .pointer (some ⟨b18_0_0, 0, none⟩)), (18, .int .i64 e3_18), (19, .int .i64 e3_19), (20, .pointer (some ⟨b24_2, 0, none⟩)), (92, .slice v0_9a (List.length v0_9x) v0_9c), (93, .int .i64 (((List.length v0_9x) : Nat) : Int)), (94, .int .i64 v4_94), (95, .bool (decide (v4_94 < (((List.length v0_9x) : Nat) : Int))))] ⟨by kernel_rfl, by kernel_rfl, by kernel_rfl, by kernel_rfl, by kernel_rfl, by kernel_rfl, by kernel_rfl, by kernel_rfl, by kernel_rfl, by kernel_rfl, by kernel_rfl, trivial⟩ ?_
        refine at_then_normal ?_
        refine at_seq (x := C7 [1,1,1,1,1,1,1,1,1,1,0,1,0,0,1,0]) (y := C7 [1,1,1,1,1,1,1,1,1,1,0,1,0,0,1,1]) (by kernel_rfl) ?_
        rcases Bool.eq_false_or_eq_true (decide (v4_94 < (((List.length v0_9x) : Nat) : Int))) with h5 | h5
        · replace H := bifT H h5
          refine at_true (t := decide (v4_94 < (((List.length v0_9x) : Nat) : Int))) (x := C7 [1,1,1,1,1,1,1,1,1,1,0,1,0,0,1,0,0]) (y := C7 [1,1,1,1,1,1,1,1,1,1,0,1,0,0,1,0,1]) (o := .tmp 95) (by kernel_rfl) (by kernel_rfl) (by kernel_rfl) h5 ?_
          refine at_skip (by kernel_rfl) ?_
          refine at_then_normal ?_
          refine at_seq_join (x := C7 [1,1,1,1,1,1,1,1,1,1,0,1,0,0,1,1,0]) (y := C7 [1,1,1,1,1,1,1,1,1,1,0,1,0,0,1,1,1]) (fun ff ΔΔ => ∃ (e9_b18_0_0 : CacheS), purgeWalksS_j9 v4_94 (purgeWalksS_l4 v0_9x e2_2 y24_1 data (purgeWalksS_k4 data e2_2 e3_18 e3_19 v0_9x y24_1) fuel3) e9_b18_0_0 = some y ∧ ff = [(2, .int .i64 e2_2), (3, .int .i64 data), (9, .slice v0_9a (List.length v0_9x) v0_9c), (16, .pointer (some ⟨b18_0_0, 0, none⟩)), (18, .int .i64 e3_18), (19, .int .i64 e3_19), (20, .pointer (some ⟨b24_2, 0, none⟩)), (92, .slice v0_9a (List.length v0_9x) v0_9c), (93, .int .i64 (((List.length v0_9x) : Nat) : Int)), (94, .int .i64 v4_94)] ∧ (Asn.own b24_2 (.cells (arrI ([nth y24_1 0, nth y24_1 1, nth y24_1 2, nth y24_1 3, nth y24_1 4, nth y24_1 5] : List Int)) 54 (0, 0))) :: (CacheA b18_0_0 e9_b18_0_0) :: (RCacheA b18_0_1 y18_0.2) :: (IntsA v0_9a v0_9c v0_9x) :: Γ = ΔΔ) (by kernel_rfl) ?_ ?_
          · rintro _ _ ⟨e9_b18_0_0, H, rfl, rfl⟩
            rw [purgeWalksS_j9] at H
            refine at_region (id := 33) 2 (by kernel_rfl) (by kernel_rfl) ?_
            obtain ⟨hc33_0_0, H⟩ := chkE H
            refine s_pure 118 (.int .i64 (v4_94 + (1 : Int))) (by kernel_rfl) (by kernel_rfl) (run_eq (v := .int .i64 (IntKind.i64.wrap (v4_94 + (1 : Int)))) (fun _ => by kernel_rfl) (by rw [inR.wrap hc33_0_0])) ?_
            refine s_pure 94 (.int .i64 (v4_94 + (1 : Int))) (by kernel_rfl) (by kernel_rfl) (fun _ => by kernel_rfl) ?_
            refine ops_end ?_
            refine At.env [(2, .int .i64 e2_2), (3, .int .i64 data), (9, .slice v0_9a (List.length v0_9x) v0_9c), (16, .pointer (some ⟨b18_0_0, 0, none⟩)), (18, .int .i64 e3_18), (19, .int .i64 e3_19), (20, .pointer (some ⟨b24_2, 0, none⟩)), (92, .slice v0_9a (List.length v0_9x) v0_9c), (93, .int .i64 (((List.length v0_9x) : Nat) : Int)), (94, .int .i64 (v4_94 + (1 : Int)))] ⟨by kernel_rfl, by kernel_rfl, by kernel_rfl, by kernel_rfl, by kernel_rfl, by kernel_rfl, by kernel_rfl, by kernel_rfl, by kernel_rfl, by kernel_rfl, trivial⟩ ?_
            refine at_round_normal ?_
            exact at_roundR fuel3 [(2, .int .i64 e2_2), (3, .int .i64 data), (9, .slice v0_9a (List.length v0_9x) v0_9c), (16, .pointer (some ⟨b18_0_0, 0, none⟩)), (18, .int .i64 e3_18), (19, .int .i64 e3_19), (20, .pointer (some ⟨b24_2, 0, none⟩)), (92, .slice v0_9a (List.length v0_9x) v0_9c), (93, .int .i64 (((List.length v0_9x) : Nat) : Int)), (94, .int .i64 (v4_94 + (1 : Int)))] ((Asn.own b24_2 (.cells (arrI ([nth y24_1 0, nth y24_1 1, nth y24_1 2, nth y24_1 3, nth y24_1 4, nth y24_1 5] : List Int)) 54 (0, 0))) :: (CacheA b18_0_0 e9_b18_0_0) :: (RCacheA b18_0_1 y18_0.2) :: (IntsA v0_9a v0_9c v0_9x) :: Γ) (Nat.lt_succ_self _) ⟨by kernel_rfl, by kernel_rfl, by kernel_rfl, by kernel_rfl, by kernel_rfl, by kernel_rfl, by kernel_rfl, by kernel_rfl, by kernel_rfl, by kernel_rfl, trivial⟩ (fun w hw => (Sat.less (.take .here (.take .here (.take .here (.take .here .refl)))) hw)) ⟨fuel3, v4_94 + (1 : Int), e9_b18_0_0, H, rfl, rfl, rfl⟩
          · refine at_block (i := 5) (x := C7 [1,1,1,1,1,1,1,1,1,1,0,1,0,0,1,1,0,0]) (by kernel_rfl) ?_
            refine at_seq (x := C7 [1,1,1,1,1,1,1,1,1,1,0,1,0,0,1,1,0,0,0]) (y := C7 [1,1,1,1,1,1,1,1,1,1,0,1,0,0,1,1,0,0,1]) (by kernel_rfl) ?_
            refine at_region (id := 27) 5 (by kernel_rfl) (by kernel_rfl) ?_
            refine s_pure 96 (.int .i64 v4_94) (by kernel_rfl) (by kernel_rfl) (fun _ => by kernel_rfl) ?_
            obtain ⟨hc27_1_0, H⟩ := chkE H
            refine rows_at (.there (.there (.there .here))) (by have := hc27_1_0; simp only [ints_length]; omega) ?_
            intro bb3 oo3 ha3
            refine s_pure 97 (.pointer (some ⟨bb3, oo3 + ((v4_94).toNat * 1 + 0), none⟩)) (by kernel_rfl) (by kernel_rfl) (index_at (t := 30) (sz := 1) (E := 3) (a := v0_9a) (m := (List.length v0_9x)) (c := v0_9c) (b := bb3) (off := oo3) (i := (v4_94).toNat) (tinfo 3) (fun _ => by kernel_rfl) (by kernel_rfl) (by kernel_rfl) (by kernel_rfl) ha3 (idx_cast hc27_1_0) (idx_nat hc27_1_0) rfl) ?_
            refine s_load 98 (.int .i64 (nth v0_9x v4_94)) (by kernel_rfl) (by kernel_rfl) (load1_at (off := oo3 + ((v4_94).toNat * 1 + 0)) (v := .int .i64 (nth v0_9x v4_94)) (fun _ => by kernel_rfl) rfl (reads_cell (k := 1) (RowsA.reads (k := 1) (.there (.there (.there .here)))) (ints_rows _) ha3 (nth_row hc27_1_0) (show [(.int .i64 (nth v0_9x v4_94) : Value)][0]? = some _ from rfl))) ?_
            refine s_pure 21 (.int .i64 v4_94) (by kernel_rfl) (by kernel_rfl) (fun _ => by kernel_rfl) ?_
            refine s_pure 22 (.int .i64 (nth v0_9x v4_94)) (by kernel_rfl) (by kernel_rfl) (fun _ => by kernel_rfl) ?_
            refine ops_end ?_
            refine At.env [(2, .int .i64 e2_2), (3, .int .i64 data), (9, .slice v0_9a (List.length v0_9x) v0_9c), (16, .pointer (some ⟨b18_0_0, 0, none⟩)), (18, .int .i64 e3_18), (19, .int .i64 e3_19), (20, .pointer (some ⟨b24_2, 0, none⟩)), (21, .int .i64 v4_94), (22, .int .i64 (nth v0_9x v4_94)), (92, .slice v0_9a (List.length v0_9x) v0_9c), (93, .int .i64 (((List.length v0_9x) : Nat) : Int)), (94, .int .i64 v4_94)] ⟨by kernel_rfl, by kernel_rfl, by kernel_rfl, by kernel_rfl, by kernel_rfl, by kernel_rfl, by kernel_rfl, by kernel_rfl, by kernel_rfl, by kernel_rfl, by kernel_rfl, by kernel_rfl, trivial⟩ ?_
            refine at_then_normal ?_
            refine at_seq (x := C7 [1,1,1,1,1,1,1,1,1,1,0,1,0,0,1,1,0,0,1,0]) (y := C7 [1,1,1,1,1,1,1,1,1,1,0,1,0,0,1,1,0,0,1,1]) (by kernel_rfl) ?_
            refine at_seq (x := C7 [1,1,1,1,1,1,1,1,1,1,0,1,0,0,1,1,0,0,1,0,0]) (y := C7 [1,1,1,1,1,1,1,1,1,1,0,1,0,0,1,1,0,0,1,0,1]) (by kernel_rfl) ?_
            refine at_region (id := 28) 3 (by kernel_rfl) (by kernel_rfl) ?_
            refine s_pure 99 (.int .i64 (nth v0_9x v4_94)) (by kernel_rfl) (by kernel_rfl) (fun _ => by kernel_rfl) ?_
            refine s_pure 100 (.int .i64 e2_2) (by kernel_rfl) (by kernel_rfl) (fun _ => by kernel_rfl) ?_
            refine s_pure 101 (.bool (!(decide ((nth v0_9x v4_94) = e2_2)))) (by kernel_rfl) (by kernel_rfl) (fun _ => by kernel_rfl) ?_
            refine ops_end ?_
            refine At.env [(2, .int .i64 e2_2), (3, .int .i64 data), (9, .slice v0_9a (List.length v0_9x) v0_9c), (16, .pointer (some ⟨b18_0_0, 0, none⟩)), (18, .int .i64 e3_18), (19, .int .i64 e3_19), (20, .pointer (some ⟨b24_2, 0, none⟩)), (21, .int .i64 v4_94), (22, .int .i64 (nth v0_9x v4_94)), (92, .slice v0_9a (List.length v0_9x) v0_9c), (93, .int .i64 (((List.length v0_9x) : Nat) : Int)), (94, .int .i64 v4_94), (101, .bool (!(decide ((nth v0_9x v4_94) = e2_2))))] ⟨by kernel_rfl, by kernel_rfl, by kernel_rfl, by kernel_rfl, by kernel_rfl, by kernel_rfl, by kernel_rfl, by kernel_rfl, by kernel_rfl, by kernel_rfl, by kernel_rfl, by kernel_rfl, by kernel_rfl, trivial⟩ ?_
            refine at_then_normal ?_
            rcases Bool.eq_false_or_eq_true (!(decide ((nth v0_9x v4_94) = e2_2))) with h6 | h6
            · replace H := bifT H h6
              refine at_true (t := !(decide ((nth v0_9x v4_94) = e2_2))) (x := C7 [1,1,1,1,1,1,1,1,1,1,0,1,0,0,1,1,0,0,1,0,1,0]) (y := C7 [1,1,1,1,1,1,1,1,1,1,0,1,0,0,1,1,0,0,1,0,1,1]) (o := .tmp 101) (by kernel_rfl) (by kernel_rfl) (by kernel_rfl) h6 ?_
              refine at_exit (i := 5) (by kernel_rfl) ?_
              refine at_then_exit ?_
              refine at_in_here ?_
              refine at_round_normal ?_
              exact at_join_mk [(2, .int .i64 e2_2), (3, .int .i64 data), (9, .slice v0_9a (List.length v0_9x) v0_9c), (16, .pointer (some ⟨b18_0_0, 0, none⟩)), (18, .int .i64 e3_18), (19, .int .i64 e3_19), (20, .pointer (some ⟨b24_2, 0, none⟩)), (92, .slice v0_9a (List.length v0_9x) v0_9c), (93, .int .i64 (((List.length v0_9x) : Nat) : Int)), (94, .int .i64 v4_94)] ((Asn.own b24_2 (.cells (arrI ([nth y24_1 0, nth y24_1 1, nth y24_1 2, nth y24_1 3, nth y24_1 4, nth y24_1 5] : List Int)) 54 (0, 0))) :: (CacheA b18_0_0 v4_b18_0_0) :: (RCacheA b18_0_1 y18_0.2) :: (IntsA v0_9a v0_9c v0_9x) :: Γ) ⟨by kernel_rfl, by kernel_rfl, by kernel_rfl, by kernel_rfl, by kernel_rfl, by kernel_rfl, by kernel_rfl, by kernel_rfl, by kernel_rfl, by kernel_rfl, trivial⟩ (fun w hw => (Sat.less (.take .here (.take .here (.take .here (.take .here .refl)))) hw)) ⟨v4_b18_0_0, H, rfl, rfl⟩
            · replace H := bifF H h6
              refine at_false (t := !(decide ((nth v0_9x v4_94) = e2_2))) (x := C7 [1,1,1,1,1,1,1,1,1,1,0,1,0,0,1,1,0,0,1,0,1,0]) (y := C7 [1,1,1,1,1,1,1,1,1,1,0,1,0,0,1,1,0,0,1,0,1,1]) (o := .tmp 101) (by kernel_rfl) (by kernel_rfl) (by kernel_rfl) h6 ?_
              refine at_skip (by kernel_rfl) ?_
              refine at_then_normal ?_
              refine at_seq (x := C7 [1,1,1,1,1,1,1,1,1,1,0,1,0,0,1,1,0,0,1,1,0]) (y := C7 [1,1,1,1,1,1,1,1,1,1,0,1,0,0,1,1,0,0,1,1,1]) (by kernel_rfl) ?_
              refine at_region (id := 29) 1 (by kernel_rfl) (by kernel_rfl) ?_
              refine s_pure 23 (.int .i64 (-1)) (by kernel_rfl) (by kernel_rfl) (fun _ => by kernel_rfl) ?_
              refine ops_end ?_
              refine At.env [(2, .int .i64 e2_2), (3, .int .i64 data), (9, .slice v0_9a (List.length v0_9x) v0_9c), (16, .pointer (some ⟨b18_0_0, 0, none⟩)), (18, .int .i64 e3_18), (19, .int .i64 e3_19), (20, .pointer (some ⟨b24_2, 0, none⟩)), (21, .int .i64 v4_94), (22, .int .i64 (nth v0_9x v4_94)), (23, .int .i64 (-1)), (92, .slice v0_9a (List.length v0_9x) v0_9c), (93, .int .i64 (((List.length v0_9x) : Nat) : Int)), (94, .int .i64 v4_94)] ⟨by kernel_rfl, by kernel_rfl, by kernel_rfl, by kernel_rfl, by kernel_rfl, by kernel_rfl, by kernel_rfl, by kernel_rfl, by kernel_rfl, by kernel_rfl, by kernel_rfl, by kernel_rfl, by kernel_rfl, trivial⟩ ?_
              refine at_then_normal ?_
              refine at_seq_join (x := C7 [1,1,1,1,1,1,1,1,1,1,0,1,0,0,1,1,0,0,1,1,1,0]) (y := C7 [1,1,1,1,1,1,1,1,1,1,0,1,0,0,1,1,0,0,1,1,1,1]) (fun ff ΔΔ => ∃ (e10_23 : Int), purgeWalksS_j10 v0_9x v4_94 y24_1 data v4_b18_0_0 (purgeWalksS_l4 v0_9x e2_2 y24_1 data (purgeWalksS_k4 data e2_2 e3_18 e3_19 v0_9x y24_1) fuel3) e10_23 = some y ∧ ff = [(2, .int .i64 e2_2), (3, .int .i64 data), (9, .slice v0_9a (List.length v0_9x) v0_9c), (16, .pointer (some ⟨b18_0_0, 0, none⟩)), (18, .int .i64 e3_18), (19, .int .i64 e3_19), (20, .pointer (some ⟨b24_2, 0, none⟩)), (22, .int .i64 (nth v0_9x v4_94)), (23, .int .i64 e10_23), (92, .slice v0_9a (List.length v0_9x) v0_9c), (93, .int .i64 (((List.length v0_9x) : Nat) : Int)), (94, .int .i64 v4_94)] ∧ (Asn.own b24_2 (.cells (arrI ([nth y24_1 0, nth y24_1 1, nth y24_1 2, nth y24_1 3, nth y24_1 4, nth y24_1 5] : List Int)) 54 (0, 0))) :: (CacheA b18_0_0 v4_b18_0_0) :: (RCacheA b18_0_1 y18_0.2) :: (IntsA v0_9a v0_9c v0_9x) :: Γ = ΔΔ) (by kernel_rfl) ?_ ?_
              · rintro _ _ ⟨e10_23, H, rfl, rfl⟩
                rw [purgeWalksS_j10] at H
                refine at_region (id := 32) 9 (by kernel_rfl) (by kernel_rfl) ?_
                refine s_pure 109 (.pointer (some ⟨b18_0_0, 0, none⟩)) (by kernel_rfl) (by kernel_rfl) (fun _ => by kernel_rfl) ?_
                refine s_pure 110 (.int .i64 (nth v0_9x v4_94)) (by kernel_rfl) (by kernel_rfl) (fun _ => by kernel_rfl) ?_
                obtain ⟨hc32_2_0, H⟩ := chkE H
                refine s_pure 111 (.pointer (some ⟨b24_2, ((nth v0_9x v4_94)).toNat, none⟩)) (by kernel_rfl) (by kernel_rfl) (index_arr (t := 54) (E := 3) (m := 6) (tinfo 3) (fun _ => by kernel_rfl) (by kernel_rfl) (by kernel_rfl) (by kernel_rfl) hc32_2_0.1) ?_
                refine s_load 112 (.int .i64 (nth ([nth y24_1 0, nth y24_1 1, nth y24_1 2, nth y24_1 3, nth y24_1 4, nth y24_1 5] : List Int) (nth v0_9x v4_94))) (by kernel_rfl) (by kernel_rfl) (load1 (off := ((nth v0_9x v4_94)).toNat) (fun _ => by kernel_rfl) (holds_own .here) (arr_get hc32_2_0.2)) ?_
                refine s_pure 113 (.int .i64 e10_23) (by kernel_rfl) (by kernel_rfl) (fun _ => by kernel_rfl) ?_
                refine s_pure 114 (.int .i64 data) (by kernel_rfl) (by kernel_rfl) (fun _ => by kernel_rfl) ?_
                obtain ⟨l32_6, hl32_6, H⟩ := letE H
                refine s_step 115 (by kernel_rfl) (by kernel_rfl) (st_new_ints (T := 3) (xs := l32_6) 1 hl32_6 (fun _ => by kernel_rfl) (by kernel_rfl)) ?_
                rintro _ _ ⟨b32_6, rfl, rfl⟩
                obtain ⟨y32_7, hy32_7, H⟩ := bindE H
                refine s_call 116 15 #[.int .i64 (1), .int .i64 (nth ([nth y24_1 0, nth y24_1 1, nth y24_1 2, nth y24_1 3, nth y24_1 4, nth y24_1 5] : List Int) (nth v0_9x v4_94)), .int .i64 e10_23, .bool false, .slice (some ⟨b32_6, 0, none⟩) (List.length l32_6) 1] (by kernel_rfl) (by kernel_rfl) (fun _ => by kernel_rfl) (ENewF_tr (1 : Int) (nth ([nth y24_1 0, nth y24_1 1, nth y24_1 2, nth y24_1 3, nth y24_1 4, nth y24_1 5] : List Int) (nth v0_9x v4_94)) e10_23 false (some ⟨b32_6, 0, none⟩) 1 l32_6 (RowsA.reads (k := 1) .here) y32_7 hy32_7) ?_
                rintro _ _ ⟨a32_7_00, c32_7_00, rfl, rfl⟩
                obtain ⟨y32_8, hy32_8, H⟩ := bindE H
                refine s_call 117 14 #[.pointer (some ⟨b18_0_0, 0, none⟩), .agg #[.int .i64 y32_7.fwd, .int .i64 y32_7.back, .int .i64 y32_7.line, .int .i64 y32_7.used, .bool y32_7.dirty, .slice a32_7_00 (List.length y32_7.data) c32_7_00]] (by kernel_rfl) (by kernel_rfl) (fun _ => by kernel_rfl) (Tr.conv (Γ' := (CacheA b18_0_0 v4_b18_0_0) :: (IntsA a32_7_00 c32_7_00 y32_7.data) :: (IntsA (some ⟨b32_6, 0, none⟩) 1 l32_6) :: (Asn.own b24_2 (.cells (arrI ([nth y24_1 0, nth y24_1 1, nth y24_1 2, nth y24_1 3, nth y24_1 4, nth y24_1 5] : List Int)) 54 (0, 0))) :: (RCacheA b18_0_1 y18_0.2) :: (IntsA v0_9a v0_9c v0_9x) :: Γ) (fun w hw => (Sat.less (.take (.there (.there (.there .here))) (.take .here (.take .here (.take .here (.take .here (.take .here .refl)))))) hw)) (PutF_tr b18_0_0 v4_b18_0_0 a32_7_00 c32_7_00 y32_7 (RowsA.reads (k := 1) .here) y32_8 hy32_8)) ?_
                rintro _ _ ⟨rfl, rfl⟩
                refine ops_end ?_
                refine At.env [(2, .int .i64 e2_2), (3, .int .i64 data), (9, .slice v0_9a (List.length v0_9x) v0_9c), (16, .pointer (some ⟨b18_0_0, 0, none⟩)), (18, .int .i64 e3_18), (19, .int .i64 e3_19), (20, .pointer (some ⟨b24_2, 0, none⟩)), (92, .slice v0_9a (List.length v0_9x) v0_9c), (93, .int .i64 (((List.length v0_9x) : Nat) : Int)), (94, .int .i64 v4_94)] ⟨by kernel_rfl, by kernel_rfl, by kernel_rfl, by kernel_rfl, by kernel_rfl, by kernel_rfl, by kernel_rfl, by kernel_rfl, by kernel_rfl, by kernel_rfl, trivial⟩ ?_
                refine at_in_normal ?_
                refine at_round_normal ?_
                exact at_join_mk [(2, .int .i64 e2_2), (3, .int .i64 data), (9, .slice v0_9a (List.length v0_9x) v0_9c), (16, .pointer (some ⟨b18_0_0, 0, none⟩)), (18, .int .i64 e3_18), (19, .int .i64 e3_19), (20, .pointer (some ⟨b24_2, 0, none⟩)), (92, .slice v0_9a (List.length v0_9x) v0_9c), (93, .int .i64 (((List.length v0_9x) : Nat) : Int)), (94, .int .i64 v4_94)] ((Asn.own b24_2 (.cells (arrI ([nth y24_1 0, nth y24_1 1, nth y24_1 2, nth y24_1 3, nth y24_1 4, nth y24_1 5] : List Int)) 54 (0, 0))) :: (CacheA b18_0_0 y32_8.2) :: (RCacheA b18_0_1 y18_0.2) :: (IntsA v0_9a v0_9c v0_9x) :: Γ) ⟨by kernel_rfl, by kernel_rfl, by kernel_rfl, by kernel_rfl, by kernel_rfl, by kernel_rfl, by kernel_rfl, by kernel_rfl, by kernel_rfl, by kernel_rfl, trivial⟩ (fun w hw => (Sat.less (.take (.there (.there (.there .here))) (.take .here (.take (.there (.there .here)) (.take (.there (.there .here)) (.drop .here (.drop .here .refl)))))) hw)) ⟨y32_8.2, H, rfl, rfl⟩
              · refine at_seq (x := C7 [1,1,1,1,1,1,1,1,1,1,0,1,0,0,1,1,0,0,1,1,1,0,0]) (y := C7 [1,1,1,1,1,1,1,1,1,1,0,1,0,0,1,1,0,0,1,1,1,0,1]) (by kernel_rfl) ?_
                refine at_region (id := 30) 2 (by kernel_rfl) (by kernel_rfl) ?_
                refine s_pure 102 (.int .i64 v4_94) (by kernel_rfl) (by kernel_rfl) (fun _ => by kernel_rfl) ?_
                refine s_pure 103 (.bool (decide ((0 : Int) < v4_94))) (by kernel_rfl) (by kernel_rfl) (fun _ => by kernel_rfl) ?_
                refine ops_end ?_
                refine At.env [(2, .int .i64 e2_2), (3, .int .i64 data), (9, .slice v0_9a (List.length v0_9x) v0_9c), (16, .pointer (some ⟨b18_0_0, 0, none⟩)), (18, .int .i64 e3_18), (19, .int .i64 e3_19), (20, .pointer (some ⟨b24_2, 0, none⟩)), (21, .int .i64 v4_94), (22, .int .i64 (nth v0_9x v4_94)), (23, .int .i64 (-1)), (92, .slice v0_9a (List.length v0_9x) v0_9c), (93, .int .i64 (((List.length v0_9x) : Nat) : Int)), (94, .int .i64 v4_94), (103, .bool (decide ((0 : Int) < v4_94)))] ⟨by kernel_rfl, by kernel_rfl, by kernel_rfl, by kernel_rfl, by kernel_rfl, by kernel_rfl, by kernel_rfl, by kernel_rfl, by kernel_rfl, by kernel_rfl, by kernel_rfl, by kernel_rfl, by kernel_rfl, by kernel_rfl, trivial⟩ ?_
                refine at_then_normal ?_
                rcases Bool.eq_false_or_eq_true (decide ((0 : Int) < v4_94)) with h7 | h7
                · replace H := bifT H h7
                  refine at_true (t := decide ((0 : Int) < v4_94)) (x := C7 [1,1,1,1,1,1,1,1,1,1,0,1,0,0,1,1,0,0,1,1,1,0,1,0]) (y := C7 [1,1,1,1,1,1,1,1,1,1,0,1,0,0,1,1,0,0,1,1,1,0,1,1]) (o := .tmp 103) (by kernel_rfl) (by kernel_rfl) (by kernel_rfl) h7 ?_
                  refine at_region (id := 31) 6 (by kernel_rfl) (by kernel_rfl) ?_
                  refine s_pure 104 (.slice v0_9a (List.length v0_9x) v0_9c) (by kernel_rfl) (by kernel_rfl) (fun _ => by kernel_rfl) ?_
                  refine s_pure 105 (.int .i64 v4_94) (by kernel_rfl) (by kernel_rfl) (fun _ => by kernel_rfl) ?_
                  obtain ⟨hc31_2_0, H⟩ := chkE H
                  refine s_pure 106 (.int .i64 (v4_94 - (1 : Int))) (by kernel_rfl) (by kernel_rfl) (run_eq (v := .int .i64 (IntKind.i64.wrap (v4_94 - (1 : Int)))) (fun _ => by kernel_rfl) (by rw [inR.wrap hc31_2_0])) ?_
                  obtain ⟨hc31_3_0, H⟩ := chkE H
                  refine rows_at (.there (.there (.there .here))) (by have := hc31_3_0; simp only [ints_length]; omega) ?_
                  intro bb4 oo4 ha4
                  refine s_pure 107 (.pointer (some ⟨bb4, oo4 + (((v4_94 - (1 : Int))).toNat * 1 + 0), none⟩)) (by kernel_rfl) (by kernel_rfl) (index_at (t := 30) (sz := 1) (E := 3) (a := v0_9a) (m := (List.length v0_9x)) (c := v0_9c) (b := bb4) (off := oo4) (i := ((v4_94 - (1 : Int))).toNat) (tinfo 3) (fun _ => by kernel_rfl) (by kernel_rfl) (by kernel_rfl) (by kernel_rfl) ha4 (idx_cast hc31_3_0) (idx_nat hc31_3_0) rfl) ?_
                  refine s_load 108 (.int .i64 (nth v0_9x (v4_94 - (1 : Int)))) (by kernel_rfl) (by kernel_rfl) (load1_at (off := oo4 + (((v4_94 - (1 : Int))).toNat * 1 + 0)) (v := .int .i64 (nth v0_9x (v4_94 - (1 : Int)))) (fun _ => by kernel_rfl) rfl (reads_cell (k := 1) (RowsA.reads (k := 1) (.there (.there (.there .here)))) (ints_rows _) ha4 (nth_row hc31_3_0) (show [(.int .i64 (nth v0_9x (v4_94 - (1 : Int))) : Value)][0]? = some _ from rfl))) ?_
                  refine s_pure 23 (.int .i64 (nth v0_9x (v4_94 - (1 : Int)))) (by kernel_rfl) (by kernel_rfl) (fun _ => by kernel_rfl) ?_
                  refine ops_end ?_
                  refine At.env [(2, .int .i64 e2_2), (3, .int .i64 data), (9, .slice v0_9a (List.length v0_9x) v0_9c), (16, .pointer (some ⟨b18_0_0, 0, none⟩)), (18, .int .i64 e3_18), (19, .int .i64 e3_19), (20, .pointer (some ⟨b24_2, 0, none⟩)), (22, .int .i64 (nth v0_9x v4_94)), (23, .int .i64 (nth v0_9x (v4_94 - (1 : Int)))), (92, .slice v0_9a (List.length v0_9x) v0_9c), (93, .int .i64 (((List.length v0_9x) : Nat) : Int)), (94, .int .i64 v4_94)] ⟨by kernel_rfl, by kernel_rfl, by kernel_rfl, by kernel_rfl, by kernel_rfl, by kernel_rfl, by kernel_rfl, by kernel_rfl, by kernel_rfl, by kernel_rfl, by kernel_rfl, by kernel_rfl, trivial⟩ ?_
                  refine at_round_normal ?_
                  exact at_join_mk [(2, .int .i64 e2_2), (3, .int .i64 data), (9, .slice v0_9a (List.length v0_9x) v0_9c), (16, .pointer (some ⟨b18_0_0, 0, none⟩)), (18, .int .i64 e3_18), (19, .int .i64 e3_19), (20, .pointer (some ⟨b24_2, 0, none⟩)), (22, .int .i64 (nth v0_9x v4_94)), (23, .int .i64 (nth v0_9x (v4_94 - (1 : Int)))), (92, .slice v0_9a (List.length v0_9x) v0_9c), (93, .int .i64 (((List.length v0_9x) : Nat) : Int)), (94, .int .i64 v4_94)] ((Asn.own b24_2 (.cells (arrI ([nth y24_1 0, nth y24_1 1, nth y24_1 2, nth y24_1 3, nth y24_1 4, nth y24_1 5] : List Int)) 54 (0, 0))) :: (CacheA b18_0_0 v4_b18_0_0) :: (RCacheA b18_0_1 y18_0.2) :: (IntsA v0_9a v0_9c v0_9x) :: Γ) ⟨by kernel_rfl, by kernel_rfl, by kernel_rfl, by kernel_rfl, by kernel_rfl, by kernel_rfl, by kernel_rfl, by kernel_rfl, by kernel_rfl, by kernel_rfl, by kernel_rfl, by kernel_rfl, trivial⟩ (fun w hw => (Sat.less (.take .here (.take .here (.take .here (.take .here .refl)))) hw)) ⟨nth v0_9x (v4_94 - (1 : Int)), H, rfl, rfl⟩
                · replace H := bifF H h7
                  refine at_false (t := decide ((0 : Int) < v4_94)) (x := C7 [1,1,1,1,1,1,1,1,1,1,0,1,0,0,1,1,0,0,1,1,1,0,1,0]) (y := C7 [1,1,1,1,1,1,1,1,1,1,0,1,0,0,1,1,0,0,1,1,1,0,1,1]) (o := .tmp 103) (by kernel_rfl) (by kernel_rfl) (by kernel_rfl) h7 ?_
                  refine at_skip (by kernel_rfl) ?_
                  refine at_round_normal ?_
                  exact at_join_mk [(2, .int .i64 e2_2), (3, .int .i64 data), (9, .slice v0_9a (List.length v0_9x) v0_9c), (16, .pointer (some ⟨b18_0_0, 0, none⟩)), (18, .int .i64 e3_18), (19, .int .i64 e3_19), (20, .pointer (some ⟨b24_2, 0, none⟩)), (22, .int .i64 (nth v0_9x v4_94)), (23, .int .i64 (-1)), (92, .slice v0_9a (List.length v0_9x) v0_9c), (93, .int .i64 (((List.length v0_9x) : Nat) : Int)), (94, .int .i64 v4_94)] ((Asn.own b24_2 (.cells (arrI ([nth y24_1 0, nth y24_1 1, nth y24_1 2, nth y24_1 3, nth y24_1 4, nth y24_1 5] : List Int)) 54 (0, 0))) :: (CacheA b18_0_0 v4_b18_0_0) :: (RCacheA b18_0_1 y18_0.2) :: (IntsA v0_9a v0_9c v0_9x) :: Γ) ⟨by kernel_rfl, by kernel_rfl, by kernel_rfl, by kernel_rfl, by kernel_rfl, by kernel_rfl, by kernel_rfl, by kernel_rfl, by kernel_rfl, by kernel_rfl, by kernel_rfl, by kernel_rfl, trivial⟩ (fun w hw => (Sat.less (.take .here (.take .here (.take .here (.take .here .refl)))) hw)) ⟨(-1), H, rfl, rfl⟩
        · replace H := bifF H h5
          refine at_false (t := decide (v4_94 < (((List.length v0_9x) : Nat) : Int))) (x := C7 [1,1,1,1,1,1,1,1,1,1,0,1,0,0,1,0,0]) (y := C7 [1,1,1,1,1,1,1,1,1,1,0,1,0,0,1,0,1]) (o := .tmp 95) (by kernel_rfl) (by kernel_rfl) (by kernel_rfl) h5 ?_
          refine at_exit (i := 4) (by kernel_rfl) ?_
          refine at_then_exit ?_
          refine at_then_exit ?_
          rw [purgeWalksS_k4] at H
          refine At.env [(2, .int .i64 e2_2), (3, .int .i64 data), (9, .slice v0_9a (List.length v0_9x) v0_9c), (16, .pointer (some ⟨b18_0_0, 0, none⟩)), (18, .int .i64 e3_18), (19, .int .i64 e3_19), (20, .pointer (some ⟨b24_2, 0, none⟩)), (92, .slice v0_9a (List.length v0_9x) v0_9c), (93, .int .i64 (((List.length v0_9x) : Nat) : Int)), (94, .int .i64 v4_94)] ⟨by kernel_rfl, by kernel_rfl, by kernel_rfl, by kernel_rfl, by kernel_rfl, by kernel_rfl, by kernel_rfl, by kernel_rfl, by kernel_rfl, by kernel_rfl, trivial⟩ ?_
          refine At.conv (Γ' := (Asn.own b24_2 (.cells (arrI ([nth y24_1 0, nth y24_1 1, nth y24_1 2, nth y24_1 3, nth y24_1 4, nth y24_1 5] : List Int)) 54 (0, 0))) :: (CacheA b18_0_0 v4_b18_0_0) :: (RCacheA b18_0_1 y18_0.2) :: (IntsA v0_9a v0_9c v0_9x) :: Γ) (fun w hw => (Sat.less (.take .here (.take .here (.take .here (.take .here .refl)))) hw)) ?_
          refine at_in_here ?_
          refine at_then_normal ?_
          refine at_seq (x := C7 [1,1,1,1,1,1,1,1,1,1,1,0]) (y := C7 [1,1,1,1,1,1,1,1,1,1,1,1]) (by kernel_rfl) ?_
          refine at_region (id := 34) 15 (by kernel_rfl) (by kernel_rfl) ?_
          obtain ⟨y34_0, hy34_0, H⟩ := bindE H
          refine s_call 120 17 #[.int .i64 (2), .int .i64 (1), .int .i64 (3)] (by kernel_rfl) (by kernel_rfl) (fun _ => by kernel_rfl) (DBeginF_tr (2 : Int) (1 : Int) (3 : Int) y34_0 hy34_0) ?_
          rintro _ _ ⟨a34_0_00, c34_0_00, rfl, rfl⟩
          refine s_pure 121 (.int .i64 e2_2) (by kernel_rfl) (by kernel_rfl) (fun _ => by kernel_rfl) ?_
          refine s_pure 122 (.pointer (some ⟨b18_0_0, 0, none⟩)) (by kernel_rfl) (by kernel_rfl) (fun _ => by kernel_rfl) ?_
          refine s_pure 123 (.int .i64 e3_18) (by kernel_rfl) (by kernel_rfl) (fun _ => by kernel_rfl) ?_
          refine s_pure 124 (.int .i64 e3_19) (by kernel_rfl) (by kernel_rfl) (fun _ => by kernel_rfl) ?_
          refine s_pure 125 (.int .i64 data) (by kernel_rfl) (by kernel_rfl) (fun _ => by kernel_rfl) ?_
          obtain ⟨l34_6, hl34_6, H⟩ := letE H
          refine s_step 126 (by kernel_rfl) (by kernel_rfl) (st_new_ints (T := 3) (xs := l34_6) 1 hl34_6 (fun _ => by kernel_rfl) (by kernel_rfl)) ?_
          rintro _ _ ⟨b34_6, rfl, rfl⟩
          refine s_pure 127 (.agg #[.int .i64 (7), .int .i64 (0), .int .i64 (0), .int .i64 (3), .int .i64 (1), .int .i64 e3_18, .int .i64 e3_19, .bool false, .slice (some ⟨b34_6, 0, none⟩) (List.length l34_6) 1]) (by kernel_rfl) (by kernel_rfl) (fun _ => by kernel_rfl) ?_
          obtain ⟨y34_8, hy34_8, H⟩ := bindE H
          refine s_call 128 16 #[.agg #[.int .i64 y34_0.kind, .int .i64 y34_0.line, .int .i64 y34_0.id, .int .i64 y34_0.step, .int .i64 y34_0.state, .int .i64 y34_0.head, .slice a34_0_00 (List.length y34_0.data) c34_0_00, .int .i64 y34_0.next, .int .i64 y34_0.told], .int .i64 e2_2, .pointer (some ⟨b18_0_0, 0, none⟩), .agg #[.int .i64 (7), .int .i64 (0), .int .i64 (0), .int .i64 (3), .int .i64 (1), .int .i64 e3_18, .int .i64 e3_19, .bool false, .slice (some ⟨b34_6, 0, none⟩) (List.length l34_6) 1]] (by kernel_rfl) (by kernel_rfl) (fun _ => by kernel_rfl) (Tr.conv (Γ' := (ImmI a34_0_00 y34_0.data) :: (CacheA b18_0_0 v4_b18_0_0) :: (ImmI a34_0_00 y34_0.data) :: (IntsA (some ⟨b34_6, 0, none⟩) 1 l34_6) :: (Asn.own b24_2 (.cells (arrI ([nth y24_1 0, nth y24_1 1, nth y24_1 2, nth y24_1 3, nth y24_1 4, nth y24_1 5] : List Int)) 54 (0, 0))) :: (RCacheA b18_0_1 y18_0.2) :: (IntsA v0_9a v0_9c v0_9x) :: Γ) (fun w hw => (Sat.less (.take .here (.take (.there (.there (.there .here))) (.take .here (.take .here (.take .here (.take .here (.take .here .refl))))))) (ImmR.dup (Sat.less (.take (.there .here) (.take .here (.take .here (.take .here (.take .here (.take .here .refl)))))) hw)))) (PNextF_tr a34_0_00 c34_0_00 y34_0 e2_2 b18_0_0 v4_b18_0_0 (some ⟨b34_6, 0, none⟩) 1 (⟨7, 0, 0, 3, 1, e3_18, e3_19, false, l34_6⟩ : PktS) (RowsA.reads (k := 1) (.there .here)) y34_8 hy34_8)) ?_
          rintro _ _ ⟨a34_8_00, c34_8_00, rfl, rfl⟩
          refine s_pure 119 (.tuple #[.agg #[.int .i64 y34_8.1.kind, .int .i64 y34_8.1.line, .int .i64 y34_8.1.id, .int .i64 y34_8.1.step, .int .i64 y34_8.1.state, .int .i64 y34_8.1.head, .slice a34_8_00 (List.length y34_8.1.data) c34_8_00, .int .i64 y34_8.1.next, .int .i64 y34_8.1.told], .bool y34_8.2.1]) (by kernel_rfl) (by kernel_rfl) (fun _ => by kernel_rfl) ?_
          refine s_pure 129 (.agg #[.int .i64 y34_8.1.kind, .int .i64 y34_8.1.line, .int .i64 y34_8.1.id, .int .i64 y34_8.1.step, .int .i64 y34_8.1.state, .int .i64 y34_8.1.head, .slice a34_8_00 (List.length y34_8.1.data) c34_8_00, .int .i64 y34_8.1.next, .int .i64 y34_8.1.told]) (by kernel_rfl) (by kernel_rfl) (fun _ => by kernel_rfl) ?_
          refine s_pure 130 (.bool y34_8.2.1) (by kernel_rfl) (by kernel_rfl) (fun _ => by kernel_rfl) ?_
          refine s_step 24 (by kernel_rfl) (by kernel_rfl) (st_new (T := 35) (cells := #[.int .i64 (0), .int .i64 (0), .int .i64 (0), .int .i64 (0), .int .i64 (0), .int .i64 (0), .slice none 0 0, .int .i64 (0), .int .i64 (0)]) (fun a => .pointer (some a)) (fun _ => by kernel_rfl)) ?_
          rintro _ _ ⟨b34_12, rfl, rfl⟩
          refine s_do (by kernel_rfl) (by kernel_rfl) (st_store (off := 0) (vs := [.int .i64 y34_8.1.kind, .int .i64 y34_8.1.line, .int .i64 y34_8.1.id, .int .i64 y34_8.1.step, .int .i64 y34_8.1.state, .int .i64 y34_8.1.head, .slice a34_8_00 (List.length y34_8.1.data) c34_8_00, .int .i64 y34_8.1.next, .int .i64 y34_8.1.told]) (c' := #[.int .i64 y34_8.1.kind, .int .i64 y34_8.1.line, .int .i64 y34_8.1.id, .int .i64 y34_8.1.step, .int .i64 y34_8.1.state, .int .i64 y34_8.1.head, .slice a34_8_00 (List.length y34_8.1.data) c34_8_00, .int .i64 y34_8.1.next, .int .i64 y34_8.1.told]) (fun _ => by kernel_rfl) .here (by kernel_rfl) (by kernel_rfl) (by kernel_rfl)) ?_
          rintro _ _ ⟨rfl, rfl⟩
          refine s_pure 25 (.bool y34_8.2.1) (by kernel_rfl) (by kernel_rfl) (fun _ => by kernel_rfl) ?_
          refine ops_end ?_
          refine At.env [(2, .int .i64 e2_2), (3, .int .i64 data), (9, .slice v0_9a (List.length v0_9x) v0_9c), (16, .pointer (some ⟨b18_0_0, 0, none⟩)), (20, .pointer (some ⟨b24_2, 0, none⟩)), (24, .pointer (some ⟨b34_12, 0, none⟩)), (25, .bool y34_8.2.1)] ⟨by kernel_rfl, by kernel_rfl, by kernel_rfl, by kernel_rfl, by kernel_rfl, by kernel_rfl, by kernel_rfl, trivial⟩ ?_
          refine at_then_normal ?_
          refine at_seq (x := C7 [1,1,1,1,1,1,1,1,1,1,1,1,0]) (y := C7 [1,1,1,1,1,1,1,1,1,1,1,1,1]) (by kernel_rfl) ?_
          refine at_seq (x := C7 [1,1,1,1,1,1,1,1,1,1,1,1,0,0]) (y := C7 [1,1,1,1,1,1,1,1,1,1,1,1,0,1]) (by kernel_rfl) ?_
          refine at_region (id := 35) 3 (by kernel_rfl) (by kernel_rfl) ?_
          refine s_pure 131 (.slice v0_9a (List.length v0_9x) v0_9c) (by kernel_rfl) (by kernel_rfl) (fun _ => by kernel_rfl) ?_
          refine s_pure 132 (.int .i64 (((List.length v0_9x) : Nat) : Int)) (by kernel_rfl) (by kernel_rfl) (fun _ => by kernel_rfl) ?_
          refine s_pure 133 (.int .i64 (0)) (by kernel_rfl) (by kernel_rfl) (fun _ => by kernel_rfl) ?_
          refine ops_end ?_
          refine At.env [(2, .int .i64 e2_2), (3, .int .i64 data), (16, .pointer (some ⟨b18_0_0, 0, none⟩)), (20, .pointer (some ⟨b24_2, 0, none⟩)), (24, .pointer (some ⟨b34_12, 0, none⟩)), (25, .bool y34_8.2.1), (131, .slice v0_9a (List.length v0_9x) v0_9c), (132, .int .i64 (((List.length v0_9x) : Nat) : Int)), (133, .int .i64 (0))] ⟨by kernel_rfl, by kernel_rfl, by kernel_rfl, by kernel_rfl, by kernel_rfl, by kernel_rfl, by kernel_rfl, by kernel_rfl, by kernel_rfl, trivial⟩ ?_
          refine at_then_normal ?_
          refine at_block (i := 6) (x := C7 [1,1,1,1,1,1,1,1,1,1,1,1,0,1,0]) (by kernel_rfl) ?_
          refine At.conv (Γ' := (ImmI a34_8_00 y34_8.1.data) :: (Asn.own b34_12 (.cells #[.int .i64 y34_8.1.kind, .int .i64 y34_8.1.line, .int .i64 y34_8.1.id, .int .i64 y34_8.1.step, .int .i64 y34_8.1.state, .int .i64 y34_8.1.head, .slice a34_8_00 (List.length y34_8.1.data) c34_8_00, .int .i64 y34_8.1.next, .int .i64 y34_8.1.told] 35 (0, 0))) :: (CacheA b18_0_0 y34_8.2.2) :: (Asn.own b24_2 (.cells (arrI ([nth y24_1 0, nth y24_1 1, nth y24_1 2, nth y24_1 3, nth y24_1 4, nth y24_1 5] : List Int)) 54 (0, 0))) :: (RCacheA b18_0_1 y18_0.2) :: (IntsA v0_9a v0_9c v0_9x) :: Γ) (fun w hw => (Sat.less (.take (.there .here) (.take .here (.take .here (.take (.there (.there .here)) (.take (.there (.there .here)) (.take (.there (.there .here)) (.drop .here (.drop .here .refl)))))))) hw)) ?_
          refine at_loopR (x := C7 [1,1,1,1,1,1,1,1,1,1,1,1,0,1,0,0]) (fun mm ff ΔΔ => ∃ (fuel : Nat) (v5_25 : Bool) (v5_133 : Int) (v5_b34_12_0 : Int) (v5_b34_12_1 : Int) (v5_b34_12_2 : Int) (v5_b34_12_3 : Int) (v5_b34_12_4 : Int) (v5_b34_12_5 : Int) (v5_b34_12_6x : List Int) (v5_b34_12_7 : Int) (v5_b34_12_8 : Int) (v5_b18_0_0 : CacheS) (v5_b34_12_6a : Option Addr) (v5_b34_12_6c : Nat), purgeWalksS_l5 v0_9x e2_2 y24_1 data (purgeWalksS_k5 e2_2 data) fuel v5_25 v5_133 v5_b34_12_0 v5_b34_12_1 v5_b34_12_2 v5_b34_12_3 v5_b34_12_4 v5_b34_12_5 v5_b34_12_6x v5_b34_12_7 v5_b34_12_8 v5_b18_0_0 = some y ∧ fuel = mm ∧ ff = [(2, .int .i64 e2_2), (3, .int .i64 data), (16, .pointer (some ⟨b18_0_0, 0, none⟩)), (20, .pointer (some ⟨b24_2, 0, none⟩)), (24, .pointer (some ⟨b34_12, 0, none⟩)), (25, .bool v5_25), (131, .slice v0_9a (List.length v0_9x) v0_9c), (132, .int .i64 (((List.length v0_9x) : Nat) : Int)), (133, .int .i64 v5_133)] ∧ (ImmI v5_b34_12_6a v5_b34_12_6x) :: (Asn.own b34_12 (.cells #[.int .i64 v5_b34_12_0, .int .i64 v5_b34_12_1, .int .i64 v5_b34_12_2, .int .i64 v5_b34_12_3, .int .i64 v5_b34_12_4, .int .i64 v5_b34_12_5, .slice v5_b34_12_6a (List.length v5_b34_12_6x) v5_b34_12_6c, .int .i64 v5_b34_12_7, .int .i64 v5_b34_12_8] 35 (0, 0))) :: (CacheA b18_0_0 v5_b18_0_0) :: (Asn.own b24_2 (.cells (arrI ([nth y24_1 0, nth y24_1 1, nth y24_1 2, nth y24_1 3, nth y24_1 4, nth y24_1 5] : List Int)) 54 (0, 0))) :: (RCacheA b18_0_1 y18_0.2) :: (IntsA v0_9a v0_9c v0_9x) :: Γ = ΔΔ) (64) (by kernel_rfl) [(2, .int .i64 e2_2), (3, .int .i64 data), (16, .pointer (some ⟨b18_0_0, 0, none⟩)), (20, .pointer (some ⟨b24_2, 0, none⟩)), (24, .pointer (some ⟨b34_12, 0, none⟩)), (25, .bool y34_8.2.1), (131, .slice v0_9a (List.length v0_9x) v0_9c), (132, .int .i64 (((List.length v0_9x) : Nat) : Int)), (133, .int .i64 0)] ⟨by kernel_rfl, by kernel_rfl, by kernel_rfl, by kernel_rfl, by kernel_rfl, by kernel_rfl, by kernel_rfl, by kernel_rfl, by kernel_rfl, trivial⟩ ⟨64, y34_8.2.1, 0, y34_8.1.kind, y34_8.1.line, y34_8.1.id, y34_8.1.step, y34_8.1.state, y34_8.1.head, y34_8.1.data, y34_8.1.next, y34_8.1.told, y34_8.2.2, a34_8_00, c34_8_00, H, rfl, rfl, rfl⟩ ?_
          rintro _ _ _ ⟨fuel4, v5_25, v5_133, v5_b34_12_0, v5_b34_12_1, v5_b34_12_2, v5_b34_12_3, v5_b34_12_4, v5_b34_12_5, v5_b34_12_6x, v5_b34_12_7, v5_b34_12_8, v5_b18_0_0, v5_b34_12_6a, v5_b34_12_6c, H, rfl, rfl, rfl⟩
          rcases fuel4 with _ | fuel4
          · exact (noneE H).elim
          rw [purgeWalksS_l5] at H
          refine at_seq (x := C7 [1,1,1,1,1,1,1,1,1,1,1,1,0,1,0,0,0]) (y := C7 [1,1,1,1,1,1,1,1,1,1,1,1,0,1,0,0,1]) (by kernel_rfl) ?_
          refine at_region (id := 36) 1 (by kernel_rfl) (by kernel_rfl) ?_
          refine s_pure 134 (.bool (decide (v5_133 < (((List.length v0_9x) : Nat) : Int)))) (by kernel_rfl) (by kernel_rfl) (fun _ => by kernel_rfl) ?_
          refine ops_end ?_
          refine At.env [(2, .int .i64 e2_2), (3, .int .i64 data), (16, .pointer (some ⟨b18_0_0, 0, none⟩)), (20, .pointer (some ⟨b24_2, 0, none⟩)), (24, .pointer (some ⟨b34_12, 0, none⟩)), (25, .bool v5_25), (131, .slice v0_9a (List.length v0_9x) v0_9c), (132, .int .i64 (((List.length v0_9x) : Nat) : Int)), (133, .int .i64 v5_133), (134, .bool (decide (v5_133 < (((List.length v0_9x) : Nat) : Int))))] ⟨by kernel_rfl, by kernel_rfl, by kernel_rfl, by kernel_rfl, by kernel_rfl, by kernel_rfl, by kernel_rfl, by kernel_rfl, by kernel_rfl, by kernel_rfl, trivial⟩ ?_
          refine at_then_normal ?_
          refine at_seq (x := C7 [1,1,1,1,1,1,1,1,1,1,1,1,0,1,0,0,1,0]) (y := C7 [1,1,1,1,1,1,1,1,1,1,1,1,0,1,0,0,1,1]) (by kernel_rfl) ?_
          rcases Bool.eq_false_or_eq_true (decide (v5_133 < (((List.length v0_9x) : Nat) : Int))) with h8 | h8
          · replace H := bifT H h8
            refine at_true (t := decide (v5_133 < (((List.length v0_9x) : Nat) : Int))) (x := C7 [1,1,1,1,1,1,1,1,1,1,1,1,0,1,0,0,1,0,0]) (y := C7 [1,1,1,1,1,1,1,1,1,1,1,1,0,1,0,0,1,0,1]) (o := .tmp 134) (by kernel_rfl) (by kernel_rfl) (by kernel_rfl) h8 ?_
            refine at_skip (by kernel_rfl) ?_
            refine at_then_normal ?_
            refine at_seq_join (x := C7 [1,1,1,1,1,1,1,1,1,1,1,1,0,1,0,0,1,1,0]) (y := C7 [1,1,1,1,1,1,1,1,1,1,1,1,0,1,0,0,1,1,1]) (fun ff ΔΔ => ∃ (e7_25 : Bool) (e7_b34_12_0 : Int) (e7_b34_12_1 : Int) (e7_b34_12_2 : Int) (e7_b34_12_3 : Int) (e7_b34_12_4 : Int) (e7_b34_12_5 : Int) (e7_b34_12_6x : List Int) (e7_b34_12_7 : Int) (e7_b34_12_8 : Int) (e7_b18_0_0 : CacheS) (e7_b34_12_6a : Option Addr) (e7_b34_12_6c : Nat), purgeWalksS_j7 v5_133 (purgeWalksS_l5 v0_9x e2_2 y24_1 data (purgeWalksS_k5 e2_2 data) fuel4) e7_25 e7_b34_12_0 e7_b34_12_1 e7_b34_12_2 e7_b34_12_3 e7_b34_12_4 e7_b34_12_5 e7_b34_12_6x e7_b34_12_7 e7_b34_12_8 e7_b18_0_0 = some y ∧ ff = [(2, .int .i64 e2_2), (3, .int .i64 data), (16, .pointer (some ⟨b18_0_0, 0, none⟩)), (20, .pointer (some ⟨b24_2, 0, none⟩)), (24, .pointer (some ⟨b34_12, 0, none⟩)), (25, .bool e7_25), (131, .slice v0_9a (List.length v0_9x) v0_9c), (132, .int .i64 (((List.length v0_9x) : Nat) : Int)), (133, .int .i64 v5_133)] ∧ (ImmI e7_b34_12_6a e7_b34_12_6x) :: (Asn.own b34_12 (.cells #[.int .i64 e7_b34_12_0, .int .i64 e7_b34_12_1, .int .i64 e7_b34_12_2, .int .i64 e7_b34_12_3, .int .i64 e7_b34_12_4, .int .i64 e7_b34_12_5, .slice e7_b34_12_6a (List.length e7_b34_12_6x) e7_b34_12_6c, .int .i64 e7_b34_12_7, .int .i64 e7_b34_12_8] 35 (0, 0))) :: (CacheA b18_0_0 e7_b18_0_0) :: (Asn.own b24_2 (.cells (arrI ([nth y24_1 0, nth y24_1 1, nth y24_1 2, nth y24_1 3, nth y24_1 4, nth y24_1 5] : List Int)) 54 (0, 0))) :: (RCacheA b18_0_1 y18_0.2) :: (IntsA v0_9a v0_9c v0_9x) :: Γ = ΔΔ) (by kernel_rfl) ?_ ?_
            · rintro _ _ ⟨e7_25, e7_b34_12_0, e7_b34_12_1, e7_b34_12_2, e7_b34_12_3, e7_b34_12_4, e7_b34_12_5, e7_b34_12_6x, e7_b34_12_7, e7_b34_12_8, e7_b18_0_0, e7_b34_12_6a, e7_b34_12_6c, H, rfl, rfl⟩
              rw [purgeWalksS_j7] at H
              refine at_region (id := 43) 2 (by kernel_rfl) (by kernel_rfl) ?_
              obtain ⟨hc43_0_0, H⟩ := chkE H
              refine s_pure 169 (.int .i64 (v5_133 + (1 : Int))) (by kernel_rfl) (by kernel_rfl) (run_eq (v := .int .i64 (IntKind.i64.wrap (v5_133 + (1 : Int)))) (fun _ => by kernel_rfl) (by rw [inR.wrap hc43_0_0])) ?_
              refine s_pure 133 (.int .i64 (v5_133 + (1 : Int))) (by kernel_rfl) (by kernel_rfl) (fun _ => by kernel_rfl) ?_
              refine ops_end ?_
              refine At.env [(2, .int .i64 e2_2), (3, .int .i64 data), (16, .pointer (some ⟨b18_0_0, 0, none⟩)), (20, .pointer (some ⟨b24_2, 0, none⟩)), (24, .pointer (some ⟨b34_12, 0, none⟩)), (25, .bool e7_25), (131, .slice v0_9a (List.length v0_9x) v0_9c), (132, .int .i64 (((List.length v0_9x) : Nat) : Int)), (133, .int .i64 (v5_133 + (1 : Int)))] ⟨by kernel_rfl, by kernel_rfl, by kernel_rfl, by kernel_rfl, by kernel_rfl, by kernel_rfl, by kernel_rfl, by kernel_rfl, by kernel_rfl, trivial⟩ ?_
              refine at_round_normal ?_
              exact at_roundR fuel4 [(2, .int .i64 e2_2), (3, .int .i64 data), (16, .pointer (some ⟨b18_0_0, 0, none⟩)), (20, .pointer (some ⟨b24_2, 0, none⟩)), (24, .pointer (some ⟨b34_12, 0, none⟩)), (25, .bool e7_25), (131, .slice v0_9a (List.length v0_9x) v0_9c), (132, .int .i64 (((List.length v0_9x) : Nat) : Int)), (133, .int .i64 (v5_133 + (1 : Int)))] ((ImmI e7_b34_12_6a e7_b34_12_6x) :: (Asn.own b34_12 (.cells #[.int .i64 e7_b34_12_0, .int .i64 e7_b34_12_1, .int .i64 e7_b34_12_2, .int .i64 e7_b34_12_3, .int .i64 e7_b34_12_4, .int .i64 e7_b34_12_5, .slice e7_b34_12_6a (List.length e7_b34_12_6x) e7_b34_12_6c, .int .i64 e7_b34_12_7, .int .i64 e7_b34_12_8] 35 (0, 0))) :: (CacheA b18_0_0 e7_b18_0_0) :: (Asn.own b24_2 (.cells (arrI ([nth y24_1 0, nth y24_1 1, nth y24_1 2, nth y24_1 3, nth y24_1 4, nth y24_1 5] : List Int)) 54 (0, 0))) :: (RCacheA b18_0_1 y18_0.2) :: (IntsA v0_9a v0_9c v0_9x) :: Γ) (Nat.lt_succ_self _) ⟨by kernel_rfl, by kernel_rfl, by kernel_rfl, by kernel_rfl, by kernel_rfl, by kernel_rfl, by kernel_rfl, by kernel_rfl, by kernel_rfl, trivial⟩ (fun w hw => (Sat.less (.take .here (.take .here (.take .here (.take .here (.take .here (.take .here .refl)))))) hw)) ⟨fuel4, e7_25, v5_133 + (1 : Int), e7_b34_12_0, e7_b34_12_1, e7_b34_12_2, e7_b34_12_3, e7_b34_12_4, e7_b34_12_5, e7_b34_12_6x, e7_b34_12_7, e7_b34_12_8, e7_b18_0_0, e7_b34_12_6a, e7_b34_12_6c, H, rfl, rfl, rfl⟩
            · refine at_block (i := 7) (x := C7 [1,1,1,1,1,1,1,1,1,1,1,1,0,1,0,0,1,1,0,0]) (by kernel_rfl) ?_
              refine at_seq (x := C7 [1,1,1,1,1,1,1,1,1,1,1,1,0,1,0,0,1,1,0,0,0]) (y := C7 [1,1,1,1,1,1,1,1,1,1,1,1,0,1,0,0,1,1,0,0,1]) (by kernel_rfl) ?_
              refine at_region (id := 37) 3 (by kernel_rfl) (by kernel_rfl) ?_
              obtain ⟨hc37_0_0, H⟩ := chkE H
              refine rows_at (.there (.there (.there (.there (.there .here))))) (by have := hc37_0_0; simp only [ints_length]; omega) ?_
              intro bb5 oo5 ha5
              refine s_pure 135 (.pointer (some ⟨bb5, oo5 + ((v5_133).toNat * 1 + 0), none⟩)) (by kernel_rfl) (by kernel_rfl) (index_at (t := 30) (sz := 1) (E := 3) (a := v0_9a) (m := (List.length v0_9x)) (c := v0_9c) (b := bb5) (off := oo5) (i := (v5_133).toNat) (tinfo 3) (fun _ => by kernel_rfl) (by kernel_rfl) (by kernel_rfl) (by kernel_rfl) ha5 (idx_cast hc37_0_0) (idx_nat hc37_0_0) rfl) ?_
              refine s_load 136 (.int .i64 (nth v0_9x v5_133)) (by kernel_rfl) (by kernel_rfl) (load1_at (off := oo5 + ((v5_133).toNat * 1 + 0)) (v := .int .i64 (nth v0_9x v5_133)) (fun _ => by kernel_rfl) rfl (reads_cell (k := 1) (RowsA.reads (k := 1) (.there (.there (.there (.there (.there .here)))))) (ints_rows _) ha5 (nth_row hc37_0_0) (show [(.int .i64 (nth v0_9x v5_133) : Value)][0]? = some _ from rfl))) ?_
              refine s_pure 27 (.int .i64 (nth v0_9x v5_133)) (by kernel_rfl) (by kernel_rfl) (fun _ => by kernel_rfl) ?_
              refine ops_end ?_
              refine At.env [(2, .int .i64 e2_2), (3, .int .i64 data), (16, .pointer (some ⟨b18_0_0, 0, none⟩)), (20, .pointer (some ⟨b24_2, 0, none⟩)), (24, .pointer (some ⟨b34_12, 0, none⟩)), (25, .bool v5_25), (27, .int .i64 (nth v0_9x v5_133)), (131, .slice v0_9a (List.length v0_9x) v0_9c), (132, .int .i64 (((List.length v0_9x) : Nat) : Int)), (133, .int .i64 v5_133)] ⟨by kernel_rfl, by kernel_rfl, by kernel_rfl, by kernel_rfl, by kernel_rfl, by kernel_rfl, by kernel_rfl, by kernel_rfl, by kernel_rfl, by kernel_rfl, trivial⟩ ?_
              refine at_then_normal ?_
              refine at_seq (x := C7 [1,1,1,1,1,1,1,1,1,1,1,1,0,1,0,0,1,1,0,0,1,0]) (y := C7 [1,1,1,1,1,1,1,1,1,1,1,1,0,1,0,0,1,1,0,0,1,1]) (by kernel_rfl) ?_
              refine at_seq (x := C7 [1,1,1,1,1,1,1,1,1,1,1,1,0,1,0,0,1,1,0,0,1,0,0]) (y := C7 [1,1,1,1,1,1,1,1,1,1,1,1,0,1,0,0,1,1,0,0,1,0,1]) (by kernel_rfl) ?_
              refine at_region (id := 38) 3 (by kernel_rfl) (by kernel_rfl) ?_
              refine s_pure 137 (.int .i64 (nth v0_9x v5_133)) (by kernel_rfl) (by kernel_rfl) (fun _ => by kernel_rfl) ?_
              refine s_pure 138 (.int .i64 e2_2) (by kernel_rfl) (by kernel_rfl) (fun _ => by kernel_rfl) ?_
              refine s_pure 139 (.bool (decide ((nth v0_9x v5_133) = e2_2))) (by kernel_rfl) (by kernel_rfl) (fun _ => by kernel_rfl) ?_
              refine ops_end ?_
              refine At.env [(2, .int .i64 e2_2), (3, .int .i64 data), (16, .pointer (some ⟨b18_0_0, 0, none⟩)), (20, .pointer (some ⟨b24_2, 0, none⟩)), (24, .pointer (some ⟨b34_12, 0, none⟩)), (25, .bool v5_25), (27, .int .i64 (nth v0_9x v5_133)), (131, .slice v0_9a (List.length v0_9x) v0_9c), (132, .int .i64 (((List.length v0_9x) : Nat) : Int)), (133, .int .i64 v5_133), (139, .bool (decide ((nth v0_9x v5_133) = e2_2)))] ⟨by kernel_rfl, by kernel_rfl, by kernel_rfl, by kernel_rfl, by kernel_rfl, by kernel_rfl, by kernel_rfl, by kernel_rfl, by kernel_rfl, by kernel_rfl, by kernel_rfl, trivial⟩ ?_
              refine at_then_normal ?_
              rcases Bool.eq_false_or_eq_true (decide ((nth v0_9x v5_133) = e2_2)) with h9 | h9
              · replace H := bifT H h9
                refine at_true (t := decide ((nth v0_9x v5_133) = e2_2)) (x := C7 [1,1,1,1,1,1,1,1,1,1,1,1,0,1,0,0,1,1,0,0,1,0,1,0]) (y := C7 [1,1,1,1,1,1,1,1,1,1,1,1,0,1,0,0,1,1,0,0,1,0,1,1]) (o := .tmp 139) (by kernel_rfl) (by kernel_rfl) (by kernel_rfl) h9 ?_
                refine at_exit (i := 7) (by kernel_rfl) ?_
                refine at_then_exit ?_
                refine at_in_here ?_
                refine at_round_normal ?_
                exact at_join_mk [(2, .int .i64 e2_2), (3, .int .i64 data), (16, .pointer (some ⟨b18_0_0, 0, none⟩)), (20, .pointer (some ⟨b24_2, 0, none⟩)), (24, .pointer (some ⟨b34_12, 0, none⟩)), (25, .bool v5_25), (131, .slice v0_9a (List.length v0_9x) v0_9c), (132, .int .i64 (((List.length v0_9x) : Nat) : Int)), (133, .int .i64 v5_133)] ((ImmI v5_b34_12_6a v5_b34_12_6x) :: (Asn.own b34_12 (.cells #[.int .i64 v5_b34_12_0, .int .i64 v5_b34_12_1, .int .i64 v5_b34_12_2, .int .i64 v5_b34_12_3, .int .i64 v5_b34_12_4, .int .i64 v5_b34_12_5, .slice v5_b34_12_6a (List.length v5_b34_12_6x) v5_b34_12_6c, .int .i64 v5_b34_12_7, .int .i64 v5_b34_12_8] 35 (0, 0))) :: (CacheA b18_0_0 v5_b18_0_0) :: (Asn.own b24_2 (.cells (arrI ([nth y24_1 0, nth y24_1 1, nth y24_1 2, nth y24_1 3, nth y24_1 4, nth y24_1 5] : List Int)) 54 (0, 0))) :: (RCacheA b18_0_1 y18_0.2) :: (IntsA v0_9a v0_9c v0_9x) :: Γ) ⟨by kernel_rfl, by kernel_rfl, by kernel_rfl, by kernel_rfl, by kernel_rfl, by kernel_rfl, by kernel_rfl, by kernel_rfl, by kernel_rfl, trivial⟩ (fun w hw => (Sat.less (.take .here (.take .here (.take .here (.take .here (.take .here (.take .here .refl)))))) hw)) ⟨v5_25, v5_b34_12_0, v5_b34_12_1, v5_b34_12_2, v5_b34_12_3, v5_b34_12_4, v5_b34_12_5, v5_b34_12_6x, v5_b34_12_7, v5_b34_12_8, v5_b18_0_0, v5_b34_12_6a, v5_b34_12_6c, H, rfl, rfl⟩
              · replace H := bifF H h9
                refine at_false (t := decide ((nth v0_9x v5_133) = e2_2)) (x := C7 [1,1,1,1,1,1,1,1,1,1,1,1,0,1,0,0,1,1,0,0,1,0,1,0]) (y := C7 [1,1,1,1,1,1,1,1,1,1,1,1,0,1,0,0,1,1,0,0,1,0,1,1]) (o := .tmp 139) (by kernel_rfl) (by kernel_rfl) (by kernel_rfl) h9 ?_
                refine at_skip (by kernel_rfl) ?_
                refine at_then_normal ?_
                refine at_seq (x := C7 [1,1,1,1,1,1,1,1,1,1,1,1,0,1,0,0,1,1,0,0,1,1,0]) (y := C7 [1,1,1,1,1,1,1,1,1,1,1,1,0,1,0,0,1,1,0,0,1,1,1]) (by kernel_rfl) ?_
                refine at_region (id := 39) 5 (by kernel_rfl) (by kernel_rfl) ?_
                refine s_load 140 (.agg #[.int .i64 v5_b34_12_0, .int .i64 v5_b34_12_1, .int .i64 v5_b34_12_2, .int .i64 v5_b34_12_3, .int .i64 v5_b34_12_4, .int .i64 v5_b34_12_5, .slice v5_b34_12_6a (List.length v5_b34_12_6x) v5_b34_12_6c, .int .i64 v5_b34_12_7, .int .i64 v5_b34_12_8]) (by kernel_rfl) (by kernel_rfl) (loadN (off := 0) (vs := [.int .i64 v5_b34_12_0, .int .i64 v5_b34_12_1, .int .i64 v5_b34_12_2, .int .i64 v5_b34_12_3, .int .i64 v5_b34_12_4, .int .i64 v5_b34_12_5, .slice v5_b34_12_6a (List.length v5_b34_12_6x) v5_b34_12_6c, .int .i64 v5_b34_12_7, .int .i64 v5_b34_12_8]) 9 (fun _ => by kernel_rfl) (holds_own (.there .here)) rfl (by exact ⟨rfl, rfl, rfl, rfl, rfl, rfl, rfl, rfl, rfl, trivial⟩)) ?_
                refine s_pure 141 (.int .i64 e2_2) (by kernel_rfl) (by kernel_rfl) (fun _ => by kernel_rfl) ?_
                obtain ⟨y39_2, hy39_2, H⟩ := bindE H
                refine s_call 142 26 #[.agg #[.int .i64 v5_b34_12_0, .int .i64 v5_b34_12_1, .int .i64 v5_b34_12_2, .int .i64 v5_b34_12_3, .int .i64 v5_b34_12_4, .int .i64 v5_b34_12_5, .slice v5_b34_12_6a (List.length v5_b34_12_6x) v5_b34_12_6c, .int .i64 v5_b34_12_7, .int .i64 v5_b34_12_8], .int .i64 e2_2, .int .i64 (0)] (by kernel_rfl) (by kernel_rfl) (fun _ => by kernel_rfl) (DAskF_tr v5_b34_12_6a v5_b34_12_6c (⟨v5_b34_12_0, v5_b34_12_1, v5_b34_12_2, v5_b34_12_3, v5_b34_12_4, v5_b34_12_5, v5_b34_12_6x, v5_b34_12_7, v5_b34_12_8⟩ : DealS) e2_2 (0 : Int) (ImmR.reads (k := 1) .here) y39_2 hy39_2) ?_
                rintro _ _ ⟨a39_2_00, c39_2_00, rfl, rfl⟩
                refine s_step 28 (by kernel_rfl) (by kernel_rfl) (st_new (T := 40) (cells := #[.int .i64 (0), .int .i64 (0), .int .i64 (0), .int .i64 (0), .int .i64 (0), .int .i64 (0), .int .i64 (0), .bool false, .slice none 0 0]) (fun a => .pointer (some a)) (fun _ => by kernel_rfl)) ?_
                rintro _ _ ⟨b39_3, rfl, rfl⟩
                refine s_do (by kernel_rfl) (by kernel_rfl) (st_store (off := 0) (vs := [.int .i64 y39_2.kind, .int .i64 y39_2.src, .int .i64 y39_2.dst, .int .i64 y39_2.id, .int .i64 y39_2.line, .int .i64 y39_2.ptr, .int .i64 y39_2.state, .bool y39_2.flag, .slice a39_2_00 (List.length y39_2.data) c39_2_00]) (c' := #[.int .i64 y39_2.kind, .int .i64 y39_2.src, .int .i64 y39_2.dst, .int .i64 y39_2.id, .int .i64 y39_2.line, .int .i64 y39_2.ptr, .int .i64 y39_2.state, .bool y39_2.flag, .slice a39_2_00 (List.length y39_2.data) c39_2_00]) (fun _ => by kernel_rfl) .here (by kernel_rfl) (by kernel_rfl) (by kernel_rfl)) ?_
                rintro _ _ ⟨rfl, rfl⟩
                refine ops_end ?_
                refine At.env [(2, .int .i64 e2_2), (3, .int .i64 data), (16, .pointer (some ⟨b18_0_0, 0, none⟩)), (20, .pointer (some ⟨b24_2, 0, none⟩)), (24, .pointer (some ⟨b34_12, 0, none⟩)), (25, .bool v5_25), (27, .int .i64 (nth v0_9x v5_133)), (28, .pointer (some ⟨b39_3, 0, none⟩)), (131, .slice v0_9a (List.length v0_9x) v0_9c), (132, .int .i64 (((List.length v0_9x) : Nat) : Int)), (133, .int .i64 v5_133)] ⟨by kernel_rfl, by kernel_rfl, by kernel_rfl, by kernel_rfl, by kernel_rfl, by kernel_rfl, by kernel_rfl, by kernel_rfl, by kernel_rfl, by kernel_rfl, by kernel_rfl, trivial⟩ ?_
                refine at_then_normal ?_
                refine at_seq (x := C7 [1,1,1,1,1,1,1,1,1,1,1,1,0,1,0,0,1,1,0,0,1,1,1,0]) (y := C7 [1,1,1,1,1,1,1,1,1,1,1,1,0,1,0,0,1,1,0,0,1,1,1,1]) (by kernel_rfl) ?_
                refine at_seq_join (x := C7 [1,1,1,1,1,1,1,1,1,1,1,1,0,1,0,0,1,1,0,0,1,1,1,0,0]) (y := C7 [1,1,1,1,1,1,1,1,1,1,1,1,0,1,0,0,1,1,0,0,1,1,1,0,1]) (fun ff ΔΔ => ∃ (e8_155 : Bool), purgeWalksS_j8 v0_9x v5_133 y24_1 data v5_b34_12_0 v5_b34_12_1 v5_b34_12_2 v5_b34_12_3 v5_b34_12_4 v5_b34_12_5 v5_b34_12_6x v5_b34_12_7 v5_b34_12_8 e2_2 v5_b18_0_0 (purgeWalksS_l5 v0_9x e2_2 y24_1 data (purgeWalksS_k5 e2_2 data) fuel4) e8_155 = some y ∧ ff = [(2, .int .i64 e2_2), (3, .int .i64 data), (16, .pointer (some ⟨b18_0_0, 0, none⟩)), (20, .pointer (some ⟨b24_2, 0, none⟩)), (24, .pointer (some ⟨b34_12, 0, none⟩)), (27, .int .i64 (nth v0_9x v5_133)), (131, .slice v0_9a (List.length v0_9x) v0_9c), (132, .int .i64 (((List.length v0_9x) : Nat) : Int)), (133, .int .i64 v5_133), (155, .bool e8_155)] ∧ (ImmI v5_b34_12_6a v5_b34_12_6x) :: (Asn.own b34_12 (.cells #[.int .i64 v5_b34_12_0, .int .i64 v5_b34_12_1, .int .i64 v5_b34_12_2, .int .i64 v5_b34_12_3, .int .i64 v5_b34_12_4, .int .i64 v5_b34_12_5, .slice v5_b34_12_6a (List.length v5_b34_12_6x) v5_b34_12_6c, .int .i64 v5_b34_12_7, .int .i64 v5_b34_12_8] 35 (0, 0))) :: (CacheA b18_0_0 v5_b18_0_0) :: (Asn.own b24_2 (.cells (arrI ([nth y24_1 0, nth y24_1 1, nth y24_1 2, nth y24_1 3, nth y24_1 4, nth y24_1 5] : List Int)) 54 (0, 0))) :: (RCacheA b18_0_1 y18_0.2) :: (IntsA v0_9a v0_9c v0_9x) :: Γ = ΔΔ) (by kernel_rfl) ?_ ?_
                · rintro _ _ ⟨e8_155, H, rfl, rfl⟩
                  rw [purgeWalksS_j8] at H
                  rcases Bool.eq_false_or_eq_true (e8_155) with h10 | h10
                  · replace H := bifT H h10
                    refine at_true (t := e8_155) (x := C7 [1,1,1,1,1,1,1,1,1,1,1,1,0,1,0,0,1,1,0,0,1,1,1,0,1,0]) (y := C7 [1,1,1,1,1,1,1,1,1,1,1,1,0,1,0,0,1,1,0,0,1,1,1,0,1,1]) (o := .tmp 155) (by kernel_rfl) (by kernel_rfl) (by kernel_rfl) h10 ?_
                    refine at_seq (x := C7 [1,1,1,1,1,1,1,1,1,1,1,1,0,1,0,0,1,1,0,0,1,1,1,0,1,0,0]) (y := C7 [1,1,1,1,1,1,1,1,1,1,1,1,0,1,0,0,1,1,0,0,1,1,1,0,1,0,1]) (by kernel_rfl) ?_
                    refine at_region (id := 41) 1 (by kernel_rfl) (by kernel_rfl) ?_
                    refine s_pure 8 (.bool false) (by kernel_rfl) (by kernel_rfl) (fun _ => by kernel_rfl) ?_
                    refine ops_end ?_
                    refine At.env [(8, .bool false)] ⟨by kernel_rfl, trivial⟩ ?_
                    refine at_then_normal ?_
                    refine at_ret (by kernel_rfl) ?_
                    refine at_then_ret ?_
                    refine at_in_ret ?_
                    refine at_then_ret ?_
                    refine at_then_ret ?_
                    refine at_in_ret ?_
                    refine at_then_ret ?_
                    obtain rfl := someE H
                    refine at_backR [.bool false] (Γ) (rs := [.tmp 8]) (by kernel_rfl) (.cons (.tmp (by kernel_rfl)) .nil) (fun w hw => (Sat.less (.drop .here (.drop .here (.drop .here (.drop .here (.drop .here (.drop .here .refl)))))) hw)) ?_
                    exact ⟨rfl, rfl⟩
                  · replace H := bifF H h10
                    refine at_false (t := e8_155) (x := C7 [1,1,1,1,1,1,1,1,1,1,1,1,0,1,0,0,1,1,0,0,1,1,1,0,1,0]) (y := C7 [1,1,1,1,1,1,1,1,1,1,1,1,0,1,0,0,1,1,0,0,1,1,1,0,1,1]) (o := .tmp 155) (by kernel_rfl) (by kernel_rfl) (by kernel_rfl) h10 ?_
                    refine at_skip (by kernel_rfl) ?_
                    refine at_then_normal ?_
                    refine at_region_draw (id := 42) (by kernel_rfl) (by kernel_rfl) ?_
                    refine d_load 0 157 (.agg #[.int .i64 v5_b34_12_0, .int .i64 v5_b34_12_1, .int .i64 v5_b34_12_2, .int .i64 v5_b34_12_3, .int .i64 v5_b34_12_4, .int .i64 v5_b34_12_5, .slice v5_b34_12_6a (List.length v5_b34_12_6x) v5_b34_12_6c, .int .i64 v5_b34_12_7, .int .i64 v5_b34_12_8]) (by kernel_rfl) (by kernel_rfl) (by kernel_rfl) (loadN (off := 0) (vs := [.int .i64 v5_b34_12_0, .int .i64 v5_b34_12_1, .int .i64 v5_b34_12_2, .int .i64 v5_b34_12_3, .int .i64 v5_b34_12_4, .int .i64 v5_b34_12_5, .slice v5_b34_12_6a (List.length v5_b34_12_6x) v5_b34_12_6c, .int .i64 v5_b34_12_7, .int .i64 v5_b34_12_8]) 9 (fun _ => by kernel_rfl) (holds_own (.there .here)) rfl (by exact ⟨rfl, rfl, rfl, rfl, rfl, rfl, rfl, rfl, rfl, trivial⟩)) ?_
                    refine d_pure 1 158 (.int .i64 e2_2) (by kernel_rfl) (by kernel_rfl) (by kernel_rfl) (fun _ => by kernel_rfl) ?_
                    refine d_pure 2 159 (.pointer (some ⟨b18_0_0, 0, none⟩)) (by kernel_rfl) (by kernel_rfl) (by kernel_rfl) (fun _ => by kernel_rfl) ?_
                    refine d_pure 3 160 (.int .i64 (nth v0_9x v5_133)) (by kernel_rfl) (by kernel_rfl) (by kernel_rfl) (fun _ => by kernel_rfl) ?_
                    obtain ⟨hc42_4_0, H⟩ := chkE H
                    refine d_pure 4 161 (.pointer (some ⟨b24_2, ((nth v0_9x v5_133)).toNat, none⟩)) (by kernel_rfl) (by kernel_rfl) (by kernel_rfl) (index_arr (t := 54) (E := 3) (m := 6) (tinfo 3) (fun _ => by kernel_rfl) (by kernel_rfl) (by kernel_rfl) (by kernel_rfl) hc42_4_0.1) ?_
                    refine d_load 5 162 (.int .i64 (nth ([nth y24_1 0, nth y24_1 1, nth y24_1 2, nth y24_1 3, nth y24_1 4, nth y24_1 5] : List Int) (nth v0_9x v5_133))) (by kernel_rfl) (by kernel_rfl) (by kernel_rfl) (load1 (off := ((nth v0_9x v5_133)).toNat) (fun _ => by kernel_rfl) (holds_own (.there (.there (.there .here)))) (arr_get hc42_4_0.2)) ?_
                    refine d_pure 6 163 (.int .i64 data) (by kernel_rfl) (by kernel_rfl) (by kernel_rfl) (fun _ => by kernel_rfl) ?_
                    obtain ⟨l42_7, hl42_7, H⟩ := letE H
                    refine d_step 7 164 [6] [4, 3, 2, 1] [5, 0] (by kernel_rfl) (by kernel_rfl) (by kernel_rfl) (st_new_ints (T := 3) (xs := l42_7) 1 hl42_7 (fun _ => by kernel_rfl) (by kernel_rfl)) ?_
                    rintro _ _ ⟨b42_7, rfl, rfl⟩
                    refine ⟨(stable_cons 5 162 (.int .i64 (nth ([nth y24_1 0, nth y24_1 1, nth y24_1 2, nth y24_1 3, nth y24_1 4, nth y24_1 5] : List Int) (nth v0_9x v5_133))) (by kernel_rfl) (by kernel_rfl) (by kernel_rfl) (load1 (off := ((nth v0_9x v5_133)).toNat) (fun _ => by kernel_rfl) (holds_own (.there (.there (.there (.there .here))))) (arr_get hc42_4_0.2)) (stable_cons 0 157 (.agg #[.int .i64 v5_b34_12_0, .int .i64 v5_b34_12_1, .int .i64 v5_b34_12_2, .int .i64 v5_b34_12_3, .int .i64 v5_b34_12_4, .int .i64 v5_b34_12_5, .slice v5_b34_12_6a (List.length v5_b34_12_6x) v5_b34_12_6c, .int .i64 v5_b34_12_7, .int .i64 v5_b34_12_8]) (by kernel_rfl) (by kernel_rfl) (by kernel_rfl) (loadN (off := 0) (vs := [.int .i64 v5_b34_12_0, .int .i64 v5_b34_12_1, .int .i64 v5_b34_12_2, .int .i64 v5_b34_12_3, .int .i64 v5_b34_12_4, .int .i64 v5_b34_12_5, .slice v5_b34_12_6a (List.length v5_b34_12_6x) v5_b34_12_6c, .int .i64 v5_b34_12_7, .int .i64 v5_b34_12_8]) 9 (fun _ => by kernel_rfl) (holds_own (.there (.there .here))) rfl (by exact ⟨rfl, rfl, rfl, rfl, rfl, rfl, rfl, rfl, rfl, trivial⟩)) stable_nil)), ?_⟩
                    refine d_pure 8 165 (.agg #[.int .i64 (9), .int .i64 (0), .int .i64 (0), .int .i64 (3), .int .i64 (1), .int .i64 (nth ([nth y24_1 0, nth y24_1 1, nth y24_1 2, nth y24_1 3, nth y24_1 4, nth y24_1 5] : List Int) (nth v0_9x v5_133)), .int .i64 (0), .bool false, .slice (some ⟨b42_7, 0, none⟩) (List.length l42_7) 1]) (by kernel_rfl) (by kernel_rfl) (by kernel_rfl) (fun _ => by kernel_rfl) ?_
                    obtain ⟨y42_9, hy42_9, H⟩ := bindE H
                    refine d_call 9 166 [0, 1, 2, 8, 5, 7, 4, 6, 3] [] [] 16 #[.agg #[.int .i64 v5_b34_12_0, .int .i64 v5_b34_12_1, .int .i64 v5_b34_12_2, .int .i64 v5_b34_12_3, .int .i64 v5_b34_12_4, .int .i64 v5_b34_12_5, .slice v5_b34_12_6a (List.length v5_b34_12_6x) v5_b34_12_6c, .int .i64 v5_b34_12_7, .int .i64 v5_b34_12_8], .int .i64 e2_2, .pointer (some ⟨b18_0_0, 0, none⟩), .agg #[.int .i64 (9), .int .i64 (0), .int .i64 (0), .int .i64 (3), .int .i64 (1), .int .i64 (nth ([nth y24_1 0, nth y24_1 1, nth y24_1 2, nth y24_1 3, nth y24_1 4, nth y24_1 5] : List Int) (nth v0_9x v5_133)), .int .i64 (0), .bool false, .slice (some ⟨b42_7, 0, none⟩) (List.length l42_7) 1]] (by kernel_rfl) (by kernel_rfl) (by kernel_rfl) (fun _ => by kernel_rfl) (Tr.conv (Γ' := (ImmI v5_b34_12_6a v5_b34_12_6x) :: (CacheA b18_0_0 v5_b18_0_0) :: (ImmI v5_b34_12_6a v5_b34_12_6x) :: (IntsA (some ⟨b42_7, 0, none⟩) 1 l42_7) :: (Asn.own b34_12 (.cells #[.int .i64 v5_b34_12_0, .int .i64 v5_b34_12_1, .int .i64 v5_b34_12_2, .int .i64 v5_b34_12_3, .int .i64 v5_b34_12_4, .int .i64 v5_b34_12_5, .slice v5_b34_12_6a (List.length v5_b34_12_6x) v5_b34_12_6c, .int .i64 v5_b34_12_7, .int .i64 v5_b34_12_8] 35 (0, 0))) :: (Asn.own b24_2 (.cells (arrI ([nth y24_1 0, nth y24_1 1, nth y24_1 2, nth y24_1 3, nth y24_1 4, nth y24_1 5] : List Int)) 54 (0, 0))) :: (RCacheA b18_0_1 y18_0.2) :: (IntsA v0_9a v0_9c v0_9x) :: Γ) (fun w hw => (Sat.less (.take .here (.take (.there (.there (.there .here))) (.take .here (.take .here (.take .here (.take .here (.take .here (.take .here .refl)))))))) (ImmR.dup (Sat.less (.take (.there .here) (.take .here (.take .here (.take .here (.take .here (.take .here (.take .here .refl))))))) hw)))) (PNextF_tr v5_b34_12_6a v5_b34_12_6c (⟨v5_b34_12_0, v5_b34_12_1, v5_b34_12_2, v5_b34_12_3, v5_b34_12_4, v5_b34_12_5, v5_b34_12_6x, v5_b34_12_7, v5_b34_12_8⟩ : DealS) e2_2 b18_0_0 v5_b18_0_0 (some ⟨b42_7, 0, none⟩) 1 (⟨9, 0, 0, 3, 1, nth ([nth y24_1 0, nth y24_1 1, nth y24_1 2, nth y24_1 3, nth y24_1 4, nth y24_1 5] : List Int) (nth v0_9x v5_133), 0, false, l42_7⟩ : PktS) (RowsA.reads (k := 1) (.there .here)) y42_9 hy42_9)) ?_
                    rintro _ _ ⟨a42_9_00, c42_9_00, rfl, rfl⟩
                    refine ⟨stable_nil, ?_⟩
                    refine d_pure 10 156 (.tuple #[.agg #[.int .i64 y42_9.1.kind, .int .i64 y42_9.1.line, .int .i64 y42_9.1.id, .int .i64 y42_9.1.step, .int .i64 y42_9.1.state, .int .i64 y42_9.1.head, .slice a42_9_00 (List.length y42_9.1.data) c42_9_00, .int .i64 y42_9.1.next, .int .i64 y42_9.1.told], .bool y42_9.2.1]) (by kernel_rfl) (by kernel_rfl) (by kernel_rfl) (fun _ => by kernel_rfl) ?_
                    refine d_pure 11 167 (.agg #[.int .i64 y42_9.1.kind, .int .i64 y42_9.1.line, .int .i64 y42_9.1.id, .int .i64 y42_9.1.step, .int .i64 y42_9.1.state, .int .i64 y42_9.1.head, .slice a42_9_00 (List.length y42_9.1.data) c42_9_00, .int .i64 y42_9.1.next, .int .i64 y42_9.1.told]) (by kernel_rfl) (by kernel_rfl) (by kernel_rfl) (fun _ => by kernel_rfl) ?_
                    refine d_pure 12 168 (.bool y42_9.2.1) (by kernel_rfl) (by kernel_rfl) (by kernel_rfl) (fun _ => by kernel_rfl) ?_
                    refine d_do 13 [11, 9, 0, 1, 2, 3, 4, 5, 6, 7, 8, 10] [12] [] (by kernel_rfl) (by kernel_rfl) (by kernel_rfl) (st_store (off := 0) (vs := [.int .i64 y42_9.1.kind, .int .i64 y42_9.1.line, .int .i64 y42_9.1.id, .int .i64 y42_9.1.step, .int .i64 y42_9.1.state, .int .i64 y42_9.1.head, .slice a42_9_00 (List.length y42_9.1.data) c42_9_00, .int .i64 y42_9.1.next, .int .i64 y42_9.1.told]) (c' := #[.int .i64 y42_9.1.kind, .int .i64 y42_9.1.line, .int .i64 y42_9.1.id, .int .i64 y42_9.1.step, .int .i64 y42_9.1.state, .int .i64 y42_9.1.head, .slice a42_9_00 (List.length y42_9.1.data) c42_9_00, .int .i64 y42_9.1.next, .int .i64 y42_9.1.told]) (fun _ => by kernel_rfl) (.there (.there (.there (.there .here)))) (by kernel_rfl) (by kernel_rfl) (by kernel_rfl)) ?_
                    rintro _ _ ⟨rfl, rfl⟩
                    refine ⟨stable_nil, ?_⟩
                    refine d_pure 14 25 (.bool y42_9.2.1) (by kernel_rfl) (by kernel_rfl) (by kernel_rfl) (fun _ => by kernel_rfl) ?_
                    refine draw_end (by kernel_rfl) ?_
                    refine At.env [(2, .int .i64 e2_2), (3, .int .i64 data), (16, .pointer (some ⟨b18_0_0, 0, none⟩)), (20, .pointer (some ⟨b24_2, 0, none⟩)), (24, .pointer (some ⟨b34_12, 0, none⟩)), (25, .bool y42_9.2.1), (131, .slice v0_9a (List.length v0_9x) v0_9c), (132, .int .i64 (((List.length v0_9x) : Nat) : Int)), (133, .int .i64 v5_133), (156, .tuple #[.agg #[.int .i64 y42_9.1.kind, .int .i64 y42_9.1.line, .int .i64 y42_9.1.id, .int .i64 y42_9.1.step, .int .i64 y42_9.1.state, .int .i64 y42_9.1.head, .slice a42_9_00 (List.length y42_9.1.data) c42_9_00, .int .i64 y42_9.1.next, .int .i64 y42_9.1.told], .bool y42_9.2.1]), (157, .agg #[.int .i64 v5_b34_12_0, .int .i64 v5_b34_12_1, .int .i64 v5_b34_12_2, .int .i64 v5_b34_12_3, .int .i64 v5_b34_12_4, .int .i64 v5_b34_12_5, .slice v5_b34_12_6a (List.length v5_b34_12_6x) v5_b34_12_6c, .int .i64 v5_b34_12_7, .int .i64 v5_b34_12_8]), (158, .int .i64 e2_2), (159, .pointer (some ⟨b18_0_0, 0, none⟩)), (160, .int .i64 (nth v0_9x v5_133)), (161, .pointer (some ⟨b24_2, ((nth v0_9x v5_133)).toNat, none⟩)), (162, .int .i64 (nth ([nth y24_1 0, nth y24_1 1, nth y24_1 2, nth y24_1 3, nth y24_1 4, nth y24_1 5] : List Int) (nth v0_9x v5_133))), (163, .int .i64 data), (164, .slice (some ⟨b42_7, 0, none⟩) (List.length l42_7) 1), (165, .agg #[.int .i64 (9), .int .i64 (0), .int .i64 (0), .int .i64 (3), .int .i64 (1), .int .i64 (nth ([nth y24_1 0, nth y24_1 1, nth y24_1 2, nth y24_1 3, nth y24_1 4, nth y24_1 5] : List Int) (nth v0_9x v5_133)), .int .i64 (0), .bool false, .slice (some ⟨b42_7, 0, none⟩) (List.length l42_7) 1]), (166, .tuple #[.agg #[.int .i64 y42_9.1.kind, .int .i64 y42_9.1.line, .int .i64 y42_9.1.id, .int .i64 y42_9.1.step, .int .i64 y42_9.1.state, .int .i64 y42_9.1.head, .slice a42_9_00 (List.length y42_9.1.data) c42_9_00, .int .i64 y42_9.1.next, .int .i64 y42_9.1.told], .bool y42_9.2.1]), (167, .agg #[.int .i64 y42_9.1.kind, .int .i64 y42_9.1.line, .int .i64 y42_9.1.id, .int .i64 y42_9.1.step, .int .i64 y42_9.1.state, .int .i64 y42_9.1.head, .slice a42_9_00 (List.length y42_9.1.data) c42_9_00, .int .i64 y42_9.1.next, .int .i64 y42_9.1.told]), (168, .bool y42_9.2.1)] ⟨by kernel_rfl, by kernel_rfl, by kernel_rfl, by kernel_rfl, by kernel_rfl, by kernel_rfl, by kernel_rfl, by kernel_rfl, by kernel_rfl, by kernel_rfl, by kernel_rfl, by kernel_rfl, by kernel_rfl, by kernel_rfl, by kernel_rfl, by kernel_rfl, by kernel_rfl, by kernel_rfl, by kernel_rfl, by kernel_rfl, by kernel_rfl, by kernel_rfl, trivial⟩ ?_
                    refine at_in_normal ?_
                    refine at_round_normal ?_
                    exact at_join_mk [(2, .int .i64 e2_2), (3, .int .i64 data), (16, .pointer (some ⟨b18_0_0, 0, none⟩)), (20, .pointer (some ⟨b24_2, 0, none⟩)), (24, .pointer (some ⟨b34_12, 0, none⟩)), (25, .bool y42_9.2.1), (131, .slice v0_9a (List.length v0_9x) v0_9c), (132, .int .i64 (((List.length v0_9x) : Nat) : Int)), (133, .int .i64 v5_133)] ((ImmI a42_9_00 y42_9.1.data) :: (Asn.own b34_12 (.cells #[.int .i64 y42_9.1.kind, .int .i64 y42_9.1.line, .int .i64 y42_9.1.id, .int .i64 y42_9.1.step, .int .i64 y42_9.1.state, .int .i64 y42_9.1.head, .slice a42_9_00 (List.length y42_9.1.data) c42_9_00, .int .i64 y42_9.1.next, .int .i64 y42_9.1.told] 35 (0, 0))) :: (CacheA b18_0_0 y42_9.2.2) :: (Asn.own b24_2 (.cells (arrI ([nth y24_1 0, nth y24_1 1, nth y24_1 2, nth y24_1 3, nth y24_1 4, nth y24_1 5] : List Int)) 54 (0, 0))) :: (RCacheA b18_0_1 y18_0.2) :: (IntsA v0_9a v0_9c v0_9x) :: Γ) ⟨by kernel_rfl, by kernel_rfl, by kernel_rfl, by kernel_rfl, by kernel_rfl, by kernel_rfl, by kernel_rfl, by kernel_rfl, by kernel_rfl, trivial⟩ (fun w hw => (Sat.less (.take (.there .here) (.take .here (.take .here (.take (.there (.there .here)) (.take (.there (.there .here)) (.take (.there (.there .here)) (.drop .here (.drop .here .refl)))))))) hw)) ⟨y42_9.2.1, y42_9.1.kind, y42_9.1.line, y42_9.1.id, y42_9.1.step, y42_9.1.state, y42_9.1.head, y42_9.1.data, y42_9.1.next, y42_9.1.told, y42_9.2.2, a42_9_00, c42_9_00, H, rfl, rfl⟩
                · refine at_region (id := 40) 13 (by kernel_rfl) (by kernel_rfl) ?_
                  refine s_pure 143 (.bool v5_25) (by kernel_rfl) (by kernel_rfl) (fun _ => by kernel_rfl) ?_
                  refine s_pure 144 (.bool !v5_25) (by kernel_rfl) (by kernel_rfl) (fun _ => by kernel_rfl) ?_
                  rcases Bool.eq_false_or_eq_true (!v5_25) with h11 | h11
                  · replace H := bifT H h11
                    refine s_pure 145 (.bool true) (by kernel_rfl) (by kernel_rfl) (run_eq (v := .bool (!v5_25)) (fun _ => by kernel_rfl) (congrArg Value.bool h11)) ?_
                    refine s_pass 146 (by kernel_rfl) (by kernel_rfl) ?_
                    refine s_pass 147 (by kernel_rfl) (by kernel_rfl) ?_
                    refine s_pass 148 (by kernel_rfl) (by kernel_rfl) ?_
                    refine s_pure 149 (.bool true) (by kernel_rfl) (by kernel_rfl) (fun _ => by kernel_rfl) ?_
                    refine s_pure 150 (.bool true) (by kernel_rfl) (by kernel_rfl) (fun _ => by kernel_rfl) ?_
                    refine s_pass 151 (by kernel_rfl) (by kernel_rfl) ?_
                    refine s_pass 152 (by kernel_rfl) (by kernel_rfl) ?_
                    refine s_pass 153 (by kernel_rfl) (by kernel_rfl) ?_
                    refine s_pass 154 (by kernel_rfl) (by kernel_rfl) ?_
                    refine s_pure 155 (.bool true) (by kernel_rfl) (by kernel_rfl) (fun _ => by kernel_rfl) ?_
                    refine ops_end ?_
                    refine At.env [(2, .int .i64 e2_2), (3, .int .i64 data), (16, .pointer (some ⟨b18_0_0, 0, none⟩)), (20, .pointer (some ⟨b24_2, 0, none⟩)), (24, .pointer (some ⟨b34_12, 0, none⟩)), (27, .int .i64 (nth v0_9x v5_133)), (131, .slice v0_9a (List.length v0_9x) v0_9c), (132, .int .i64 (((List.length v0_9x) : Nat) : Int)), (133, .int .i64 v5_133), (155, .bool true)] ⟨by kernel_rfl, by kernel_rfl, by kernel_rfl, by kernel_rfl, by kernel_rfl, by kernel_rfl, by kernel_rfl, by kernel_rfl, by kernel_rfl, by kernel_rfl, trivial⟩ ?_
                    refine at_round_normal ?_
                    exact at_join_mk [(2, .int .i64 e2_2), (3, .int .i64 data), (16, .pointer (some ⟨b18_0_0, 0, none⟩)), (20, .pointer (some ⟨b24_2, 0, none⟩)), (24, .pointer (some ⟨b34_12, 0, none⟩)), (27, .int .i64 (nth v0_9x v5_133)), (131, .slice v0_9a (List.length v0_9x) v0_9c), (132, .int .i64 (((List.length v0_9x) : Nat) : Int)), (133, .int .i64 v5_133), (155, .bool true)] ((ImmI v5_b34_12_6a v5_b34_12_6x) :: (Asn.own b34_12 (.cells #[.int .i64 v5_b34_12_0, .int .i64 v5_b34_12_1, .int .i64 v5_b34_12_2, .int .i64 v5_b34_12_3, .int .i64 v5_b34_12_4, .int .i64 v5_b34_12_5, .slice v5_b34_12_6a (List.length v5_b34_12_6x) v5_b34_12_6c, .int .i64 v5_b34_12_7, .int .i64 v5_b34_12_8] 35 (0, 0))) :: (CacheA b18_0_0 v5_b18_0_0) :: (Asn.own b24_2 (.cells (arrI ([nth y24_1 0, nth y24_1 1, nth y24_1 2, nth y24_1 3, nth y24_1 4, nth y24_1 5] : List Int)) 54 (0, 0))) :: (RCacheA b18_0_1 y18_0.2) :: (IntsA v0_9a v0_9c v0_9x) :: Γ) ⟨by kernel_rfl, by kernel_rfl, by kernel_rfl, by kernel_rfl, by kernel_rfl, by kernel_rfl, by kernel_rfl, by kernel_rfl, by kernel_rfl, by kernel_rfl, trivial⟩ (fun w hw => (Sat.less (.take (.there (.there .here)) (.take (.there (.there .here)) (.take (.there (.there .here)) (.take (.there (.there .here)) (.take (.there (.there .here)) (.take (.there (.there .here)) (.drop .here (.drop .here .refl)))))))) hw)) ⟨true, H, rfl, rfl⟩
                  · replace H := bifF H h11
                    refine s_pure 145 (.bool false) (by kernel_rfl) (by kernel_rfl) (run_eq (v := .bool (!v5_25)) (fun _ => by kernel_rfl) (congrArg Value.bool h11)) ?_
                    refine s_pure 146 (.pointer (some ⟨b39_3, 0, none⟩)) (by kernel_rfl) (by kernel_rfl) (fun _ => by kernel_rfl) ?_
                    refine s_load 147 (.int .i64 y39_2.kind) (by kernel_rfl) (by kernel_rfl) (load1 (off := 0) (fun _ => by kernel_rfl) (holds_own .here) (by kernel_rfl)) ?_
                    refine s_pure 148 (.bool (!(decide (y39_2.kind = (6 : Int))))) (by kernel_rfl) (by kernel_rfl) (fun _ => by kernel_rfl) ?_
                    refine s_pure 149 (.bool (!(decide (y39_2.kind = (6 : Int))))) (by kernel_rfl) (by kernel_rfl) (fun _ => by kernel_rfl) ?_
                    rcases Bool.eq_false_or_eq_true (!(decide (y39_2.kind = (6 : Int)))) with h12 | h12
                    · replace H := bifT H h12
                      refine s_pure 150 (.bool true) (by kernel_rfl) (by kernel_rfl) (run_eq (v := .bool (!(decide (y39_2.kind = (6 : Int))))) (fun _ => by kernel_rfl) (congrArg Value.bool h12)) ?_
                      refine s_pass 151 (by kernel_rfl) (by kernel_rfl) ?_
                      refine s_pass 152 (by kernel_rfl) (by kernel_rfl) ?_
                      refine s_pass 153 (by kernel_rfl) (by kernel_rfl) ?_
                      refine s_pass 154 (by kernel_rfl) (by kernel_rfl) ?_
                      refine s_pure 155 (.bool true) (by kernel_rfl) (by kernel_rfl) (fun _ => by kernel_rfl) ?_
                      refine ops_end ?_
                      refine At.env [(2, .int .i64 e2_2), (3, .int .i64 data), (16, .pointer (some ⟨b18_0_0, 0, none⟩)), (20, .pointer (some ⟨b24_2, 0, none⟩)), (24, .pointer (some ⟨b34_12, 0, none⟩)), (27, .int .i64 (nth v0_9x v5_133)), (131, .slice v0_9a (List.length v0_9x) v0_9c), (132, .int .i64 (((List.length v0_9x) : Nat) : Int)), (133, .int .i64 v5_133), (155, .bool true)] ⟨by kernel_rfl, by kernel_rfl, by kernel_rfl, by kernel_rfl, by kernel_rfl, by kernel_rfl, by kernel_rfl, by kernel_rfl, by kernel_rfl, by kernel_rfl, trivial⟩ ?_
                      refine at_round_normal ?_
                      exact at_join_mk [(2, .int .i64 e2_2), (3, .int .i64 data), (16, .pointer (some ⟨b18_0_0, 0, none⟩)), (20, .pointer (some ⟨b24_2, 0, none⟩)), (24, .pointer (some ⟨b34_12, 0, none⟩)), (27, .int .i64 (nth v0_9x v5_133)), (131, .slice v0_9a (List.length v0_9x) v0_9c), (132, .int .i64 (((List.length v0_9x) : Nat) : Int)), (133, .int .i64 v5_133), (155, .bool true)] ((ImmI v5_b34_12_6a v5_b34_12_6x) :: (Asn.own b34_12 (.cells #[.int .i64 v5_b34_12_0, .int .i64 v5_b34_12_1, .int .i64 v5_b34_12_2, .int .i64 v5_b34_12_3, .int .i64 v5_b34_12_4, .int .i64 v5_b34_12_5, .slice v5_b34_12_6a (List.length v5_b34_12_6x) v5_b34_12_6c, .int .i64 v5_b34_12_7, .int .i64 v5_b34_12_8] 35 (0, 0))) :: (CacheA b18_0_0 v5_b18_0_0) :: (Asn.own b24_2 (.cells (arrI ([nth y24_1 0, nth y24_1 1, nth y24_1 2, nth y24_1 3, nth y24_1 4, nth y24_1 5] : List Int)) 54 (0, 0))) :: (RCacheA b18_0_1 y18_0.2) :: (IntsA v0_9a v0_9c v0_9x) :: Γ) ⟨by kernel_rfl, by kernel_rfl, by kernel_rfl, by kernel_rfl, by kernel_rfl, by kernel_rfl, by kernel_rfl, by kernel_rfl, by kernel_rfl, by kernel_rfl, trivial⟩ (fun w hw => (Sat.less (.take (.there (.there .here)) (.take (.there (.there .here)) (.take (.there (.there .here)) (.take (.there (.there .here)) (.take (.there (.there .here)) (.take (.there (.there .here)) (.drop .here (.drop .here .refl)))))))) hw)) ⟨true, H, rfl, rfl⟩
                    · replace H := bifF H h12
                      refine s_pure 150 (.bool false) (by kernel_rfl) (by kernel_rfl) (run_eq (v := .bool (!(decide (y39_2.kind = (6 : Int))))) (fun _ => by kernel_rfl) (congrArg Value.bool h12)) ?_
                      refine s_pure 151 (.pointer (some ⟨b39_3, 2, none⟩)) (by kernel_rfl) (by kernel_rfl) (fun _ => by kernel_rfl) ?_
                      refine s_load 152 (.int .i64 y39_2.dst) (by kernel_rfl) (by kernel_rfl) (load1 (off := 2) (fun _ => by kernel_rfl) (holds_own .here) (by kernel_rfl)) ?_
                      refine s_pure 153 (.int .i64 (nth v0_9x v5_133)) (by kernel_rfl) (by kernel_rfl) (fun _ => by kernel_rfl) ?_
                      refine s_pure 154 (.bool (!(decide (y39_2.dst = (nth v0_9x v5_133))))) (by kernel_rfl) (by kernel_rfl) (fun _ => by kernel_rfl) ?_
                      refine s_pure 155 (.bool (!(decide (y39_2.dst = (nth v0_9x v5_133))))) (by kernel_rfl) (by kernel_rfl) (fun _ => by kernel_rfl) ?_
                      refine ops_end ?_
                      refine At.env [(2, .int .i64 e2_2), (3, .int .i64 data), (16, .pointer (some ⟨b18_0_0, 0, none⟩)), (20, .pointer (some ⟨b24_2, 0, none⟩)), (24, .pointer (some ⟨b34_12, 0, none⟩)), (27, .int .i64 (nth v0_9x v5_133)), (131, .slice v0_9a (List.length v0_9x) v0_9c), (132, .int .i64 (((List.length v0_9x) : Nat) : Int)), (133, .int .i64 v5_133), (155, .bool (!(decide (y39_2.dst = (nth v0_9x v5_133)))))] ⟨by kernel_rfl, by kernel_rfl, by kernel_rfl, by kernel_rfl, by kernel_rfl, by kernel_rfl, by kernel_rfl, by kernel_rfl, by kernel_rfl, by kernel_rfl, trivial⟩ ?_
                      refine at_round_normal ?_
                      exact at_join_mk [(2, .int .i64 e2_2), (3, .int .i64 data), (16, .pointer (some ⟨b18_0_0, 0, none⟩)), (20, .pointer (some ⟨b24_2, 0, none⟩)), (24, .pointer (some ⟨b34_12, 0, none⟩)), (27, .int .i64 (nth v0_9x v5_133)), (131, .slice v0_9a (List.length v0_9x) v0_9c), (132, .int .i64 (((List.length v0_9x) : Nat) : Int)), (133, .int .i64 v5_133), (155, .bool (!(decide (y39_2.dst = (nth v0_9x v5_133)))))] ((ImmI v5_b34_12_6a v5_b34_12_6x) :: (Asn.own b34_12 (.cells #[.int .i64 v5_b34_12_0, .int .i64 v5_b34_12_1, .int .i64 v5_b34_12_2, .int .i64 v5_b34_12_3, .int .i64 v5_b34_12_4, .int .i64 v5_b34_12_5, .slice v5_b34_12_6a (List.length v5_b34_12_6x) v5_b34_12_6c, .int .i64 v5_b34_12_7, .int .i64 v5_b34_12_8] 35 (0, 0))) :: (CacheA b18_0_0 v5_b18_0_0) :: (Asn.own b24_2 (.cells (arrI ([nth y24_1 0, nth y24_1 1, nth y24_1 2, nth y24_1 3, nth y24_1 4, nth y24_1 5] : List Int)) 54 (0, 0))) :: (RCacheA b18_0_1 y18_0.2) :: (IntsA v0_9a v0_9c v0_9x) :: Γ) ⟨by kernel_rfl, by kernel_rfl, by kernel_rfl, by kernel_rfl, by kernel_rfl, by kernel_rfl, by kernel_rfl, by kernel_rfl, by kernel_rfl, by kernel_rfl, trivial⟩ (fun w hw => (Sat.less (.take (.there (.there .here)) (.take (.there (.there .here)) (.take (.there (.there .here)) (.take (.there (.there .here)) (.take (.there (.there .here)) (.take (.there (.there .here)) (.drop .here (.drop .here .refl)))))))) hw)) ⟨!(decide (y39_2.dst = (nth v0_9x v5_133))), H, rfl, rfl⟩
          · replace H := bifF H h8
            refine at_false (t := decide (v5_133 < (((List.length v0_9x) : Nat) : Int))) (x := C7 [1,1,1,1,1,1,1,1,1,1,1,1,0,1,0,0,1,0,0]) (y := C7 [1,1,1,1,1,1,1,1,1,1,1,1,0,1,0,0,1,0,1]) (o := .tmp 134) (by kernel_rfl) (by kernel_rfl) (by kernel_rfl) h8 ?_
            refine at_exit (i := 6) (by kernel_rfl) ?_
            refine at_then_exit ?_
            refine at_then_exit ?_
            rw [purgeWalksS_k5] at H
            refine At.env [(2, .int .i64 e2_2), (3, .int .i64 data), (16, .pointer (some ⟨b18_0_0, 0, none⟩)), (20, .pointer (some ⟨b24_2, 0, none⟩)), (24, .pointer (some ⟨b34_12, 0, none⟩)), (25, .bool v5_25), (131, .slice v0_9a (List.length v0_9x) v0_9c), (132, .int .i64 (((List.length v0_9x) : Nat) : Int)), (133, .int .i64 v5_133)] ⟨by kernel_rfl, by kernel_rfl, by kernel_rfl, by kernel_rfl, by kernel_rfl, by kernel_rfl, by kernel_rfl, by kernel_rfl, by kernel_rfl, trivial⟩ ?_
            refine At.conv (Γ' := (ImmI v5_b34_12_6a v5_b34_12_6x) :: (Asn.own b34_12 (.cells #[.int .i64 v5_b34_12_0, .int .i64 v5_b34_12_1, .int .i64 v5_b34_12_2, .int .i64 v5_b34_12_3, .int .i64 v5_b34_12_4, .int .i64 v5_b34_12_5, .slice v5_b34_12_6a (List.length v5_b34_12_6x) v5_b34_12_6c, .int .i64 v5_b34_12_7, .int .i64 v5_b34_12_8] 35 (0, 0))) :: (CacheA b18_0_0 v5_b18_0_0) :: (Asn.own b24_2 (.cells (arrI ([nth y24_1 0, nth y24_1 1, nth y24_1 2, nth y24_1 3, nth y24_1 4, nth y24_1 5] : List Int)) 54 (0, 0))) :: (RCacheA b18_0_1 y18_0.2) :: (IntsA v0_9a v0_9c v0_9x) :: Γ) (fun w hw => (Sat.less (.take .here (.take .here (.take .here (.take .here (.take .here (.take .here .refl)))))) hw)) ?_
            refine at_in_here ?_
            refine at_then_normal ?_
            refine at_seq (x := C7 [1,1,1,1,1,1,1,1,1,1,1,1,1,0]) (y := C7 [1,1,1,1,1,1,1,1,1,1,1,1,1,1]) (by kernel_rfl) ?_
            refine at_region (id := 44) 5 (by kernel_rfl) (by kernel_rfl) ?_
            refine s_load 170 (.agg #[.int .i64 v5_b34_12_0, .int .i64 v5_b34_12_1, .int .i64 v5_b34_12_2, .int .i64 v5_b34_12_3, .int .i64 v5_b34_12_4, .int .i64 v5_b34_12_5, .slice v5_b34_12_6a (List.length v5_b34_12_6x) v5_b34_12_6c, .int .i64 v5_b34_12_7, .int .i64 v5_b34_12_8]) (by kernel_rfl) (by kernel_rfl) (loadN (off := 0) (vs := [.int .i64 v5_b34_12_0, .int .i64 v5_b34_12_1, .int .i64 v5_b34_12_2, .int .i64 v5_b34_12_3, .int .i64 v5_b34_12_4, .int .i64 v5_b34_12_5, .slice v5_b34_12_6a (List.length v5_b34_12_6x) v5_b34_12_6c, .int .i64 v5_b34_12_7, .int .i64 v5_b34_12_8]) 9 (fun _ => by kernel_rfl) (holds_own (.there .here)) rfl (by exact ⟨rfl, rfl, rfl, rfl, rfl, rfl, rfl, rfl, rfl, trivial⟩)) ?_
            refine s_pure 171 (.int .i64 e2_2) (by kernel_rfl) (by kernel_rfl) (fun _ => by kernel_rfl) ?_
            obtain ⟨y44_2, hy44_2, H⟩ := bindE H
            refine s_call 172 26 #[.agg #[.int .i64 v5_b34_12_0, .int .i64 v5_b34_12_1, .int .i64 v5_b34_12_2, .int .i64 v5_b34_12_3, .int .i64 v5_b34_12_4, .int .i64 v5_b34_12_5, .slice v5_b34_12_6a (List.length v5_b34_12_6x) v5_b34_12_6c, .int .i64 v5_b34_12_7, .int .i64 v5_b34_12_8], .int .i64 e2_2, .int .i64 (0)] (by kernel_rfl) (by kernel_rfl) (fun _ => by kernel_rfl) (DAskF_tr v5_b34_12_6a v5_b34_12_6c (⟨v5_b34_12_0, v5_b34_12_1, v5_b34_12_2, v5_b34_12_3, v5_b34_12_4, v5_b34_12_5, v5_b34_12_6x, v5_b34_12_7, v5_b34_12_8⟩ : DealS) e2_2 (0 : Int) (ImmR.reads (k := 1) .here) y44_2 hy44_2) ?_
            rintro _ _ ⟨a44_2_00, c44_2_00, rfl, rfl⟩
            refine s_step 29 (by kernel_rfl) (by kernel_rfl) (st_new (T := 40) (cells := #[.int .i64 (0), .int .i64 (0), .int .i64 (0), .int .i64 (0), .int .i64 (0), .int .i64 (0), .int .i64 (0), .bool false, .slice none 0 0]) (fun a => .pointer (some a)) (fun _ => by kernel_rfl)) ?_
            rintro _ _ ⟨b44_3, rfl, rfl⟩
            refine s_do (by kernel_rfl) (by kernel_rfl) (st_store (off := 0) (vs := [.int .i64 y44_2.kind, .int .i64 y44_2.src, .int .i64 y44_2.dst, .int .i64 y44_2.id, .int .i64 y44_2.line, .int .i64 y44_2.ptr, .int .i64 y44_2.state, .bool y44_2.flag, .slice a44_2_00 (List.length y44_2.data) c44_2_00]) (c' := #[.int .i64 y44_2.kind, .int .i64 y44_2.src, .int .i64 y44_2.dst, .int .i64 y44_2.id, .int .i64 y44_2.line, .int .i64 y44_2.ptr, .int .i64 y44_2.state, .bool y44_2.flag, .slice a44_2_00 (List.length y44_2.data) c44_2_00]) (fun _ => by kernel_rfl) .here (by kernel_rfl) (by kernel_rfl) (by kernel_rfl)) ?_
            rintro _ _ ⟨rfl, rfl⟩
            refine ops_end ?_
            refine At.env [(2, .int .i64 e2_2), (3, .int .i64 data), (16, .pointer (some ⟨b18_0_0, 0, none⟩)), (24, .pointer (some ⟨b34_12, 0, none⟩)), (25, .bool v5_25), (29, .pointer (some ⟨b44_3, 0, none⟩))] ⟨by kernel_rfl, by kernel_rfl, by kernel_rfl, by kernel_rfl, by kernel_rfl, by kernel_rfl, trivial⟩ ?_
            refine at_then_normal ?_
            refine at_seq (x := C7 [1,1,1,1,1,1,1,1,1,1,1,1,1,1,0]) (y := C7 [1,1,1,1,1,1,1,1,1,1,1,1,1,1,1]) (by kernel_rfl) ?_
            refine at_region (id := 45) 8 (by kernel_rfl) (by kernel_rfl) ?_
            refine s_pure 174 (.pointer (some ⟨b18_0_0, 0, none⟩)) (by kernel_rfl) (by kernel_rfl) (fun _ => by kernel_rfl) ?_
            obtain ⟨y45_1, hy45_1, H⟩ := bindE H
            refine s_call 175 18 #[.pointer (some ⟨b18_0_0, 0, none⟩), .int .i64 (1)] (by kernel_rfl) (by kernel_rfl) (fun _ => by kernel_rfl) (Tr.conv (Γ' := (CacheA b18_0_0 v5_b18_0_0) :: (Asn.own b44_3 (.cells #[.int .i64 y44_2.kind, .int .i64 y44_2.src, .int .i64 y44_2.dst, .int .i64 y44_2.id, .int .i64 y44_2.line, .int .i64 y44_2.ptr, .int .i64 y44_2.state, .bool y44_2.flag, .slice a44_2_00 (List.length y44_2.data) c44_2_00] 40 (0, 0))) :: (IntsA a44_2_00 c44_2_00 y44_2.data) :: (ImmI v5_b34_12_6a v5_b34_12_6x) :: (Asn.own b34_12 (.cells #[.int .i64 v5_b34_12_0, .int .i64 v5_b34_12_1, .int .i64 v5_b34_12_2, .int .i64 v5_b34_12_3, .int .i64 v5_b34_12_4, .int .i64 v5_b34_12_5, .slice v5_b34_12_6a (List.length v5_b34_12_6x) v5_b34_12_6c, .int .i64 v5_b34_12_7, .int .i64 v5_b34_12_8] 35 (0, 0))) :: (Asn.own b24_2 (.cells (arrI ([nth y24_1 0, nth y24_1 1, nth y24_1 2, nth y24_1 3, nth y24_1 4, nth y24_1 5] : List Int)) 54 (0, 0))) :: (RCacheA b18_0_1 y18_0.2) :: (IntsA v0_9a v0_9c v0_9x) :: Γ) (fun w hw => (Sat.less (.take (.there (.there (.there (.there .here)))) (.take .here (.take .here (.take .here (.take .here (.take .here (.take .here (.take .here .refl)))))))) hw)) (FindF_tr b18_0_0 v5_b18_0_0 (1 : Int) y45_1 hy45_1)) ?_
            rintro _ _ ⟨a45_1_00, c45_1_00, rfl, rfl⟩
            refine s_pure 173 (.tuple #[.agg #[.int .i64 y45_1.1.fwd, .int .i64 y45_1.1.back, .int .i64 y45_1.1.line, .int .i64 y45_1.1.used, .bool y45_1.1.dirty, .slice a45_1_00 (List.length y45_1.1.data) c45_1_00], .bool y45_1.2]) (by kernel_rfl) (by kernel_rfl) (fun _ => by kernel_rfl) ?_
            refine s_pure 176 (.agg #[.int .i64 y45_1.1.fwd, .int .i64 y45_1.1.back, .int .i64 y45_1.1.line, .int .i64 y45_1.1.used, .bool y45_1.1.dirty, .slice a45_1_00 (List.length y45_1.1.data) c45_1_00]) (by kernel_rfl) (by kernel_rfl) (fun _ => by kernel_rfl) ?_
            refine s_pure 177 (.bool y45_1.2) (by kernel_rfl) (by kernel_rfl) (fun _ => by kernel_rfl) ?_
            refine s_step 30 (by kernel_rfl) (by kernel_rfl) (st_new (T := 32) (cells := #[.int .i64 (0), .int .i64 (0), .int .i64 (0), .int .i64 (0), .bool false, .slice none 0 0]) (fun a => .pointer (some a)) (fun _ => by kernel_rfl)) ?_
            rintro _ _ ⟨b45_5, rfl, rfl⟩
            refine s_do (by kernel_rfl) (by kernel_rfl) (st_store (off := 0) (vs := [.int .i64 y45_1.1.fwd, .int .i64 y45_1.1.back, .int .i64 y45_1.1.line, .int .i64 y45_1.1.used, .bool y45_1.1.dirty, .slice a45_1_00 (List.length y45_1.1.data) c45_1_00]) (c' := #[.int .i64 y45_1.1.fwd, .int .i64 y45_1.1.back, .int .i64 y45_1.1.line, .int .i64 y45_1.1.used, .bool y45_1.1.dirty, .slice a45_1_00 (List.length y45_1.1.data) c45_1_00]) (fun _ => by kernel_rfl) .here (by kernel_rfl) (by kernel_rfl) (by kernel_rfl)) ?_
            rintro _ _ ⟨rfl, rfl⟩
            refine s_pure 31 (.bool y45_1.2) (by kernel_rfl) (by kernel_rfl) (fun _ => by kernel_rfl) ?_
            refine ops_end ?_
            refine At.env [(2, .int .i64 e2_2), (3, .int .i64 data), (16, .pointer (some ⟨b18_0_0, 0, none⟩)), (24, .pointer (some ⟨b34_12, 0, none⟩)), (25, .bool v5_25), (29, .pointer (some ⟨b44_3, 0, none⟩)), (30, .pointer (some ⟨b45_5, 0, none⟩)), (31, .bool y45_1.2)] ⟨by kernel_rfl, by kernel_rfl, by kernel_rfl, by kernel_rfl, by kernel_rfl, by kernel_rfl, by kernel_rfl, by kernel_rfl, trivial⟩ ?_
            refine at_then_normal ?_
            refine at_seq (x := C7 [1,1,1,1,1,1,1,1,1,1,1,1,1,1,1,0]) (y := C7 [1,1,1,1,1,1,1,1,1,1,1,1,1,1,1,1]) (by kernel_rfl) ?_
            refine at_seq_join (x := C7 [1,1,1,1,1,1,1,1,1,1,1,1,1,1,1,0,0]) (y := C7 [1,1,1,1,1,1,1,1,1,1,1,1,1,1,1,0,1]) (fun ff ΔΔ => ∃ (e6_225 : Bool), purgeWalksS_j6 v5_b34_12_0 v5_b34_12_1 v5_b34_12_2 v5_b34_12_3 v5_b34_12_4 v5_b34_12_5 v5_b34_12_6x v5_b34_12_7 v5_b34_12_8 e2_2 v5_b18_0_0 e6_225 = some y ∧ ff = [(2, .int .i64 e2_2), (16, .pointer (some ⟨b18_0_0, 0, none⟩)), (24, .pointer (some ⟨b34_12, 0, none⟩)), (225, .bool e6_225)] ∧ (CacheA b18_0_0 v5_b18_0_0) :: (ImmI v5_b34_12_6a v5_b34_12_6x) :: (Asn.own b34_12 (.cells #[.int .i64 v5_b34_12_0, .int .i64 v5_b34_12_1, .int .i64 v5_b34_12_2, .int .i64 v5_b34_12_3, .int .i64 v5_b34_12_4, .int .i64 v5_b34_12_5, .slice v5_b34_12_6a (List.length v5_b34_12_6x) v5_b34_12_6c, .int .i64 v5_b34_12_7, .int .i64 v5_b34_12_8] 35 (0, 0))) :: (Asn.own b24_2 (.cells (arrI ([nth y24_1 0, nth y24_1 1, nth y24_1 2, nth y24_1 3, nth y24_1 4, nth y24_1 5] : List Int)) 54 (0, 0))) :: (RCacheA b18_0_1 y18_0.2) :: Γ = ΔΔ) (by kernel_rfl) ?_ ?_
            · rintro _ _ ⟨e6_225, H, rfl, rfl⟩
              rw [purgeWalksS_j6] at H
              rcases Bool.eq_false_or_eq_true (e6_225) with h13 | h13
              · replace H := bifT H h13
                refine at_true (t := e6_225) (x := C7 [1,1,1,1,1,1,1,1,1,1,1,1,1,1,1,0,1,0]) (y := C7 [1,1,1,1,1,1,1,1,1,1,1,1,1,1,1,0,1,1]) (o := .tmp 225) (by kernel_rfl) (by kernel_rfl) (by kernel_rfl) h13 ?_
                refine at_seq (x := C7 [1,1,1,1,1,1,1,1,1,1,1,1,1,1,1,0,1,0,0]) (y := C7 [1,1,1,1,1,1,1,1,1,1,1,1,1,1,1,0,1,0,1]) (by kernel_rfl) ?_
                refine at_region (id := 47) 1 (by kernel_rfl) (by kernel_rfl) ?_
                refine s_pure 8 (.bool false) (by kernel_rfl) (by kernel_rfl) (fun _ => by kernel_rfl) ?_
                refine ops_end ?_
                refine At.env [(8, .bool false)] ⟨by kernel_rfl, trivial⟩ ?_
                refine at_then_normal ?_
                refine at_ret (by kernel_rfl) ?_
                refine at_then_ret ?_
                obtain rfl := someE H
                refine at_backR [.bool false] (Γ) (rs := [.tmp 8]) (by kernel_rfl) (.cons (.tmp (by kernel_rfl)) .nil) (fun w hw => (Sat.less (.drop .here (.drop .here (.drop .here (.drop .here (.drop .here .refl))))) hw)) ?_
                exact ⟨rfl, rfl⟩
              · replace H := bifF H h13
                refine at_false (t := e6_225) (x := C7 [1,1,1,1,1,1,1,1,1,1,1,1,1,1,1,0,1,0]) (y := C7 [1,1,1,1,1,1,1,1,1,1,1,1,1,1,1,0,1,1]) (o := .tmp 225) (by kernel_rfl) (by kernel_rfl) (by kernel_rfl) h13 ?_
                refine at_skip (by kernel_rfl) ?_
                refine at_then_normal ?_
                refine at_seq (x := C7 [1,1,1,1,1,1,1,1,1,1,1,1,1,1,1,1,0]) (y := C7 [1,1,1,1,1,1,1,1,1,1,1,1,1,1,1,1,1]) (by kernel_rfl) ?_
                refine at_region (id := 48) 10 (by kernel_rfl) (by kernel_rfl) ?_
                refine s_load 227 (.agg #[.int .i64 v5_b34_12_0, .int .i64 v5_b34_12_1, .int .i64 v5_b34_12_2, .int .i64 v5_b34_12_3, .int .i64 v5_b34_12_4, .int .i64 v5_b34_12_5, .slice v5_b34_12_6a (List.length v5_b34_12_6x) v5_b34_12_6c, .int .i64 v5_b34_12_7, .int .i64 v5_b34_12_8]) (by kernel_rfl) (by kernel_rfl) (loadN (off := 0) (vs := [.int .i64 v5_b34_12_0, .int .i64 v5_b34_12_1, .int .i64 v5_b34_12_2, .int .i64 v5_b34_12_3, .int .i64 v5_b34_12_4, .int .i64 v5_b34_12_5, .slice v5_b34_12_6a (List.length v5_b34_12_6x) v5_b34_12_6c, .int .i64 v5_b34_12_7, .int .i64 v5_b34_12_8]) 9 (fun _ => by kernel_rfl) (holds_own (.there (.there .here))) rfl (by exact ⟨rfl, rfl, rfl, rfl, rfl, rfl, rfl, rfl, rfl, trivial⟩)) ?_
                refine s_pure 228 (.int .i64 e2_2) (by kernel_rfl) (by kernel_rfl) (fun _ => by kernel_rfl) ?_
                refine s_pure 229 (.pointer (some ⟨b18_0_0, 0, none⟩)) (by kernel_rfl) (by kernel_rfl) (fun _ => by kernel_rfl) ?_
                refine s_pure 230 (.agg #[.int .i64 (8), .int .i64 (0), .int .i64 (0), .int .i64 (3), .int .i64 (1), .int .i64 (0), .int .i64 (0), .bool false, .slice none 0 0]) (by kernel_rfl) (by kernel_rfl) (fun _ => by kernel_rfl) ?_
                obtain ⟨y48_4, hy48_4, H⟩ := bindE H
                refine s_call 231 16 #[.agg #[.int .i64 v5_b34_12_0, .int .i64 v5_b34_12_1, .int .i64 v5_b34_12_2, .int .i64 v5_b34_12_3, .int .i64 v5_b34_12_4, .int .i64 v5_b34_12_5, .slice v5_b34_12_6a (List.length v5_b34_12_6x) v5_b34_12_6c, .int .i64 v5_b34_12_7, .int .i64 v5_b34_12_8], .int .i64 e2_2, .pointer (some ⟨b18_0_0, 0, none⟩), .agg #[.int .i64 (8), .int .i64 (0), .int .i64 (0), .int .i64 (3), .int .i64 (1), .int .i64 (0), .int .i64 (0), .bool false, .slice none 0 0]] (by kernel_rfl) (by kernel_rfl) (fun _ => by kernel_rfl) (Tr.conv (Γ' := (ImmI v5_b34_12_6a v5_b34_12_6x) :: (CacheA b18_0_0 v5_b18_0_0) :: (ImmI v5_b34_12_6a v5_b34_12_6x) :: (Asn.own b34_12 (.cells #[.int .i64 v5_b34_12_0, .int .i64 v5_b34_12_1, .int .i64 v5_b34_12_2, .int .i64 v5_b34_12_3, .int .i64 v5_b34_12_4, .int .i64 v5_b34_12_5, .slice v5_b34_12_6a (List.length v5_b34_12_6x) v5_b34_12_6c, .int .i64 v5_b34_12_7, .int .i64 v5_b34_12_8] 35 (0, 0))) :: (Asn.own b24_2 (.cells (arrI ([nth y24_1 0, nth y24_1 1, nth y24_1 2, nth y24_1 3, nth y24_1 4, nth y24_1 5] : List Int)) 54 (0, 0))) :: (RCacheA b18_0_1 y18_0.2) :: Γ) (fun w hw => (Sat.less (.take .here (.take (.there .here) (.take .here (.take .here (.take .here (.take .here .refl)))))) (ImmR.dup (Sat.less (.take (.there .here) (.take .here (.take .here (.take .here (.take .here .refl))))) hw)))) (PNextF_tr v5_b34_12_6a v5_b34_12_6c (⟨v5_b34_12_0, v5_b34_12_1, v5_b34_12_2, v5_b34_12_3, v5_b34_12_4, v5_b34_12_5, v5_b34_12_6x, v5_b34_12_7, v5_b34_12_8⟩ : DealS) e2_2 b18_0_0 v5_b18_0_0 none 0 (⟨8, 0, 0, 3, 1, 0, 0, false, ([] : List Int)⟩ : PktS) Reads.nil y48_4 hy48_4)) ?_
                rintro _ _ ⟨a48_4_00, c48_4_00, rfl, rfl⟩
                refine s_pure 226 (.tuple #[.agg #[.int .i64 y48_4.1.kind, .int .i64 y48_4.1.line, .int .i64 y48_4.1.id, .int .i64 y48_4.1.step, .int .i64 y48_4.1.state, .int .i64 y48_4.1.head, .slice a48_4_00 (List.length y48_4.1.data) c48_4_00, .int .i64 y48_4.1.next, .int .i64 y48_4.1.told], .bool y48_4.2.1]) (by kernel_rfl) (by kernel_rfl) (fun _ => by kernel_rfl) ?_
                refine s_pure 232 (.agg #[.int .i64 y48_4.1.kind, .int .i64 y48_4.1.line, .int .i64 y48_4.1.id, .int .i64 y48_4.1.step, .int .i64 y48_4.1.state, .int .i64 y48_4.1.head, .slice a48_4_00 (List.length y48_4.1.data) c48_4_00, .int .i64 y48_4.1.next, .int .i64 y48_4.1.told]) (by kernel_rfl) (by kernel_rfl) (fun _ => by kernel_rfl) ?_
                refine s_pure 233 (.bool y48_4.2.1) (by kernel_rfl) (by kernel_rfl) (fun _ => by kernel_rfl) ?_
                refine s_do (by kernel_rfl) (by kernel_rfl) (st_store (off := 0) (vs := [.int .i64 y48_4.1.kind, .int .i64 y48_4.1.line, .int .i64 y48_4.1.id, .int .i64 y48_4.1.step, .int .i64 y48_4.1.state, .int .i64 y48_4.1.head, .slice a48_4_00 (List.length y48_4.1.data) c48_4_00, .int .i64 y48_4.1.next, .int .i64 y48_4.1.told]) (c' := #[.int .i64 y48_4.1.kind, .int .i64 y48_4.1.line, .int .i64 y48_4.1.id, .int .i64 y48_4.1.step, .int .i64 y48_4.1.state, .int .i64 y48_4.1.head, .slice a48_4_00 (List.length y48_4.1.data) c48_4_00, .int .i64 y48_4.1.next, .int .i64 y48_4.1.told]) (fun _ => by kernel_rfl) (.there (.there (.there .here))) (by kernel_rfl) (by kernel_rfl) (by kernel_rfl)) ?_
                rintro _ _ ⟨rfl, rfl⟩
                refine s_pure 25 (.bool y48_4.2.1) (by kernel_rfl) (by kernel_rfl) (fun _ => by kernel_rfl) ?_
                refine ops_end ?_
                refine At.env [(24, .pointer (some ⟨b34_12, 0, none⟩)), (25, .bool y48_4.2.1)] ⟨by kernel_rfl, by kernel_rfl, trivial⟩ ?_
                refine at_then_normal ?_
                refine at_seq (x := C7 [1,1,1,1,1,1,1,1,1,1,1,1,1,1,1,1,1,0]) (y := C7 [1,1,1,1,1,1,1,1,1,1,1,1,1,1,1,1,1,1]) (by kernel_rfl) ?_
                refine at_region (id := 49) 10 (by kernel_rfl) (by kernel_rfl) ?_
                refine s_pure 234 (.bool y48_4.2.1) (by kernel_rfl) (by kernel_rfl) (fun _ => by kernel_rfl) ?_
                rcases Bool.eq_false_or_eq_true (y48_4.2.1) with h14 | h14
                · replace H := bifT H h14
                  refine s_pure 235 (.bool true) (by kernel_rfl) (by kernel_rfl) (run_eq (v := .bool (y48_4.2.1)) (fun _ => by kernel_rfl) (congrArg Value.bool h14)) ?_
                  refine s_pure 236 (.pointer (some ⟨b34_12, 3, none⟩)) (by kernel_rfl) (by kernel_rfl) (fun _ => by kernel_rfl) ?_
                  refine s_load 237 (.int .i64 y48_4.1.step) (by kernel_rfl) (by kernel_rfl) (load1 (off := 3) (fun _ => by kernel_rfl) (holds_own .here) (by kernel_rfl)) ?_
                  refine s_pure 238 (.bool (decide (y48_4.1.step = (0 : Int)))) (by kernel_rfl) (by kernel_rfl) (fun _ => by kernel_rfl) ?_
                  refine s_pure 239 (.bool (decide (y48_4.1.step = (0 : Int)))) (by kernel_rfl) (by kernel_rfl) (fun _ => by kernel_rfl) ?_
                  rcases Bool.eq_false_or_eq_true (decide (y48_4.1.step = (0 : Int))) with h15 | h15
                  · replace H := bifT H h15
                    refine s_pure 240 (.bool true) (by kernel_rfl) (by kernel_rfl) (run_eq (v := .bool (decide (y48_4.1.step = (0 : Int)))) (fun _ => by kernel_rfl) (congrArg Value.bool h15)) ?_
                    obtain ⟨y49_7, hy49_7, H⟩ := bindE H
                    refine s_call 241 21 #[] (by kernel_rfl) (by kernel_rfl) (fun _ => by kernel_rfl) (W15F_tr  y49_7 hy49_7) ?_
                    rintro _ _ ⟨rfl, rfl⟩
                    refine s_pure 242 (.bool y49_7) (by kernel_rfl) (by kernel_rfl) (fun _ => by kernel_rfl) ?_
                    refine s_pure 8 (.bool y49_7) (by kernel_rfl) (by kernel_rfl) (fun _ => by kernel_rfl) ?_
                    refine ops_end ?_
                    refine At.env [(8, .bool y49_7)] ⟨by kernel_rfl, trivial⟩ ?_
                    refine at_then_normal ?_
                    refine at_ret (by kernel_rfl) ?_
                    obtain rfl := someE H
                    refine at_backR [.bool y49_7] (Γ) (rs := [.tmp 8]) (by kernel_rfl) (.cons (.tmp (by kernel_rfl)) .nil) (fun w hw => (Sat.less (.drop .here (.drop .here (.drop .here (.drop .here (.drop .here (.drop .here .refl)))))) hw)) ?_
                    exact ⟨rfl, rfl⟩
                  · replace H := bifF H h15
                    refine s_pure 240 (.bool false) (by kernel_rfl) (by kernel_rfl) (run_eq (v := .bool (decide (y48_4.1.step = (0 : Int)))) (fun _ => by kernel_rfl) (congrArg Value.bool h15)) ?_
                    refine s_pass 241 (by kernel_rfl) (by kernel_rfl) ?_
                    refine s_pure 242 (.bool false) (by kernel_rfl) (by kernel_rfl) (fun _ => by kernel_rfl) ?_
                    refine s_pure 8 (.bool false) (by kernel_rfl) (by kernel_rfl) (fun _ => by kernel_rfl) ?_
                    refine ops_end ?_
                    refine At.env [(8, .bool false)] ⟨by kernel_rfl, trivial⟩ ?_
                    refine at_then_normal ?_
                    refine at_ret (by kernel_rfl) ?_
                    obtain rfl := someE H
                    refine at_backR [.bool false] (Γ) (rs := [.tmp 8]) (by kernel_rfl) (.cons (.tmp (by kernel_rfl)) .nil) (fun w hw => (Sat.less (.drop .here (.drop .here (.drop .here (.drop .here (.drop .here (.drop .here .refl)))))) hw)) ?_
                    exact ⟨rfl, rfl⟩
                · replace H := bifF H h14
                  refine s_pure 235 (.bool false) (by kernel_rfl) (by kernel_rfl) (run_eq (v := .bool (y48_4.2.1)) (fun _ => by kernel_rfl) (congrArg Value.bool h14)) ?_
                  refine s_pass 236 (by kernel_rfl) (by kernel_rfl) ?_
                  refine s_pass 237 (by kernel_rfl) (by kernel_rfl) ?_
                  refine s_pass 238 (by kernel_rfl) (by kernel_rfl) ?_
                  refine s_pure 239 (.bool false) (by kernel_rfl) (by kernel_rfl) (fun _ => by kernel_rfl) ?_
                  refine s_pure 240 (.bool false) (by kernel_rfl) (by kernel_rfl) (fun _ => by kernel_rfl) ?_
                  refine s_pass 241 (by kernel_rfl) (by kernel_rfl) ?_
                  refine s_pure 242 (.bool false) (by kernel_rfl) (by kernel_rfl) (fun _ => by kernel_rfl) ?_
                  refine s_pure 8 (.bool false) (by kernel_rfl) (by kernel_rfl) (fun _ => by kernel_rfl) ?_
                  refine ops_end ?_
                  refine At.env [(8, .bool false)] ⟨by kernel_rfl, trivial⟩ ?_
                  refine at_then_normal ?_
                  refine at_ret (by kernel_rfl) ?_
                  obtain rfl := someE H
                  refine at_backR [.bool false] (Γ) (rs := [.tmp 8]) (by kernel_rfl) (.cons (.tmp (by kernel_rfl)) .nil) (fun w hw => (Sat.less (.drop .here (.drop .here (.drop .here (.drop .here (.drop .here (.drop .here .refl)))))) hw)) ?_
                  exact ⟨rfl, rfl⟩
            · refine at_region (id := 46) 48 (by kernel_rfl) (by kernel_rfl) ?_
              refine s_pure 178 (.bool v5_25) (by kernel_rfl) (by kernel_rfl) (fun _ => by kernel_rfl) ?_
              refine s_pure 179 (.bool !v5_25) (by kernel_rfl) (by kernel_rfl) (fun _ => by kernel_rfl) ?_
              rcases Bool.eq_false_or_eq_true (!v5_25) with h16 | h16
              · replace H := bifT H h16
                refine s_pure 180 (.bool true) (by kernel_rfl) (by kernel_rfl) (run_eq (v := .bool (!v5_25)) (fun _ => by kernel_rfl) (congrArg Value.bool h16)) ?_
                refine s_pass 181 (by kernel_rfl) (by kernel_rfl) ?_
                refine s_pass 182 (by kernel_rfl) (by kernel_rfl) ?_
                refine s_pass 183 (by kernel_rfl) (by kernel_rfl) ?_
                refine s_pure 184 (.bool true) (by kernel_rfl) (by kernel_rfl) (fun _ => by kernel_rfl) ?_
                refine s_pure 185 (.bool true) (by kernel_rfl) (by kernel_rfl) (fun _ => by kernel_rfl) ?_
                refine s_pass 186 (by kernel_rfl) (by kernel_rfl) ?_
                refine s_pass 187 (by kernel_rfl) (by kernel_rfl) ?_
                refine s_pass 188 (by kernel_rfl) (by kernel_rfl) ?_
                refine s_pure 189 (.bool true) (by kernel_rfl) (by kernel_rfl) (fun _ => by kernel_rfl) ?_
                refine s_pure 190 (.bool true) (by kernel_rfl) (by kernel_rfl) (fun _ => by kernel_rfl) ?_
                refine s_pass 191 (by kernel_rfl) (by kernel_rfl) ?_
                refine s_pass 192 (by kernel_rfl) (by kernel_rfl) ?_
                refine s_pass 193 (by kernel_rfl) (by kernel_rfl) ?_
                refine s_pass 194 (by kernel_rfl) (by kernel_rfl) ?_
                refine s_pure 195 (.bool true) (by kernel_rfl) (by kernel_rfl) (fun _ => by kernel_rfl) ?_
                refine s_pure 196 (.bool true) (by kernel_rfl) (by kernel_rfl) (fun _ => by kernel_rfl) ?_
                refine s_pass 197 (by kernel_rfl) (by kernel_rfl) ?_
                refine s_pass 198 (by kernel_rfl) (by kernel_rfl) ?_
                refine s_pure 199 (.bool true) (by kernel_rfl) (by kernel_rfl) (fun _ => by kernel_rfl) ?_
                refine s_pure 200 (.bool true) (by kernel_rfl) (by kernel_rfl) (fun _ => by kernel_rfl) ?_
                refine s_pass 201 (by kernel_rfl) (by kernel_rfl) ?_
                refine s_pass 202 (by kernel_rfl) (by kernel_rfl) ?_
                refine s_pure 203 (.bool true) (by kernel_rfl) (by kernel_rfl) (fun _ => by kernel_rfl) ?_
                refine s_pure 204 (.bool true) (by kernel_rfl) (by kernel_rfl) (fun _ => by kernel_rfl) ?_
                refine s_pass 205 (by kernel_rfl) (by kernel_rfl) ?_
                refine s_pass 206 (by kernel_rfl) (by kernel_rfl) ?_
                refine s_pass 207 (by kernel_rfl) (by kernel_rfl) ?_
                refine s_pass 208 (by kernel_rfl) (by kernel_rfl) ?_
                refine s_pure 209 (.bool true) (by kernel_rfl) (by kernel_rfl) (fun _ => by kernel_rfl) ?_
                refine s_pure 210 (.bool true) (by kernel_rfl) (by kernel_rfl) (fun _ => by kernel_rfl) ?_
                refine s_pass 211 (by kernel_rfl) (by kernel_rfl) ?_
                refine s_pass 212 (by kernel_rfl) (by kernel_rfl) ?_
                refine s_pass 213 (by kernel_rfl) (by kernel_rfl) ?_
                refine s_pure 214 (.bool true) (by kernel_rfl) (by kernel_rfl) (fun _ => by kernel_rfl) ?_
                refine s_pure 215 (.bool true) (by kernel_rfl) (by kernel_rfl) (fun _ => by kernel_rfl) ?_
                refine s_pass 216 (by kernel_rfl) (by kernel_rfl) ?_
                refine s_pass 217 (by kernel_rfl) (by kernel_rfl) ?_
                refine s_pass 218 (by kernel_rfl) (by kernel_rfl) ?_
                refine s_pass 219 (by kernel_rfl) (by kernel_rfl) ?_
                refine s_pure 220 (.bool true) (by kernel_rfl) (by kernel_rfl) (fun _ => by kernel_rfl) ?_
                refine s_pure 221 (.bool true) (by kernel_rfl) (by kernel_rfl) (fun _ => by kernel_rfl) ?_
                refine s_pass 222 (by kernel_rfl) (by kernel_rfl) ?_
                refine s_pass 223 (by kernel_rfl) (by kernel_rfl) ?_
                refine s_pass 224 (by kernel_rfl) (by kernel_rfl) ?_
                refine s_pure 225 (.bool true) (by kernel_rfl) (by kernel_rfl) (fun _ => by kernel_rfl) ?_
                refine ops_end ?_
                refine At.env [(2, .int .i64 e2_2), (16, .pointer (some ⟨b18_0_0, 0, none⟩)), (24, .pointer (some ⟨b34_12, 0, none⟩)), (225, .bool true)] ⟨by kernel_rfl, by kernel_rfl, by kernel_rfl, by kernel_rfl, trivial⟩ ?_
                refine at_round_normal ?_
                exact at_join_mk [(2, .int .i64 e2_2), (16, .pointer (some ⟨b18_0_0, 0, none⟩)), (24, .pointer (some ⟨b34_12, 0, none⟩)), (225, .bool true)] ((CacheA b18_0_0 v5_b18_0_0) :: (ImmI v5_b34_12_6a v5_b34_12_6x) :: (Asn.own b34_12 (.cells #[.int .i64 v5_b34_12_0, .int .i64 v5_b34_12_1, .int .i64 v5_b34_12_2, .int .i64 v5_b34_12_3, .int .i64 v5_b34_12_4, .int .i64 v5_b34_12_5, .slice v5_b34_12_6a (List.length v5_b34_12_6x) v5_b34_12_6c, .int .i64 v5_b34_12_7, .int .i64 v5_b34_12_8] 35 (0, 0))) :: (Asn.own b24_2 (.cells (arrI ([nth y24_1 0, nth y24_1 1, nth y24_1 2, nth y24_1 3, nth y24_1 4, nth y24_1 5] : List Int)) 54 (0, 0))) :: (RCacheA b18_0_1 y18_0.2) :: Γ) ⟨by kernel_rfl, by kernel_rfl, by kernel_rfl, by kernel_rfl, trivial⟩ (fun w hw => (Sat.less (.take (.there (.there .here)) (.take (.there (.there (.there (.there .here)))) (.take (.there (.there (.there (.there .here)))) (.take (.there (.there (.there (.there .here)))) (.take (.there (.there (.there (.there .here)))) (.drop .here (.drop .here (.drop .here (.drop .here (.drop .here .refl)))))))))) hw)) ⟨true, H, rfl, rfl⟩
              · replace H := bifF H h16
                refine s_pure 180 (.bool false) (by kernel_rfl) (by kernel_rfl) (run_eq (v := .bool (!v5_25)) (fun _ => by kernel_rfl) (congrArg Value.bool h16)) ?_
                refine s_pure 181 (.pointer (some ⟨b44_3, 0, none⟩)) (by kernel_rfl) (by kernel_rfl) (fun _ => by kernel_rfl) ?_
                refine s_load 182 (.int .i64 y44_2.kind) (by kernel_rfl) (by kernel_rfl) (load1 (off := 0) (fun _ => by kernel_rfl) (holds_own (.there (.there (.there .here)))) (by kernel_rfl)) ?_
                refine s_pure 183 (.bool (!(decide (y44_2.kind = (2 : Int))))) (by kernel_rfl) (by kernel_rfl) (fun _ => by kernel_rfl) ?_
                refine s_pure 184 (.bool (!(decide (y44_2.kind = (2 : Int))))) (by kernel_rfl) (by kernel_rfl) (fun _ => by kernel_rfl) ?_
                rcases Bool.eq_false_or_eq_true (!(decide (y44_2.kind = (2 : Int)))) with h17 | h17
                · replace H := bifT H h17
                  refine s_pure 185 (.bool true) (by kernel_rfl) (by kernel_rfl) (run_eq (v := .bool (!(decide (y44_2.kind = (2 : Int))))) (fun _ => by kernel_rfl) (congrArg Value.bool h17)) ?_
                  refine s_pass 186 (by kernel_rfl) (by kernel_rfl) ?_
                  refine s_pass 187 (by kernel_rfl) (by kernel_rfl) ?_
                  refine s_pass 188 (by kernel_rfl) (by kernel_rfl) ?_
                  refine s_pure 189 (.bool true) (by kernel_rfl) (by kernel_rfl) (fun _ => by kernel_rfl) ?_
                  refine s_pure 190 (.bool true) (by kernel_rfl) (by kernel_rfl) (fun _ => by kernel_rfl) ?_
                  refine s_pass 191 (by kernel_rfl) (by kernel_rfl) ?_
                  refine s_pass 192 (by kernel_rfl) (by kernel_rfl) ?_
                  refine s_pass 193 (by kernel_rfl) (by kernel_rfl) ?_
                  refine s_pass 194 (by kernel_rfl) (by kernel_rfl) ?_
                  refine s_pure 195 (.bool true) (by kernel_rfl) (by kernel_rfl) (fun _ => by kernel_rfl) ?_
                  refine s_pure 196 (.bool true) (by kernel_rfl) (by kernel_rfl) (fun _ => by kernel_rfl) ?_
                  refine s_pass 197 (by kernel_rfl) (by kernel_rfl) ?_
                  refine s_pass 198 (by kernel_rfl) (by kernel_rfl) ?_
                  refine s_pure 199 (.bool true) (by kernel_rfl) (by kernel_rfl) (fun _ => by kernel_rfl) ?_
                  refine s_pure 200 (.bool true) (by kernel_rfl) (by kernel_rfl) (fun _ => by kernel_rfl) ?_
                  refine s_pass 201 (by kernel_rfl) (by kernel_rfl) ?_
                  refine s_pass 202 (by kernel_rfl) (by kernel_rfl) ?_
                  refine s_pure 203 (.bool true) (by kernel_rfl) (by kernel_rfl) (fun _ => by kernel_rfl) ?_
                  refine s_pure 204 (.bool true) (by kernel_rfl) (by kernel_rfl) (fun _ => by kernel_rfl) ?_
                  refine s_pass 205 (by kernel_rfl) (by kernel_rfl) ?_
                  refine s_pass 206 (by kernel_rfl) (by kernel_rfl) ?_
                  refine s_pass 207 (by kernel_rfl) (by kernel_rfl) ?_
                  refine s_pass 208 (by kernel_rfl) (by kernel_rfl) ?_
                  refine s_pure 209 (.bool true) (by kernel_rfl) (by kernel_rfl) (fun _ => by kernel_rfl) ?_
                  refine s_pure 210 (.bool true) (by kernel_rfl) (by kernel_rfl) (fun _ => by kernel_rfl) ?_
                  refine s_pass 211 (by kernel_rfl) (by kernel_rfl) ?_
                  refine s_pass 212 (by kernel_rfl) (by kernel_rfl) ?_
                  refine s_pass 213 (by kernel_rfl) (by kernel_rfl) ?_
                  refine s_pure 214 (.bool true) (by kernel_rfl) (by kernel_rfl) (fun _ => by kernel_rfl) ?_
                  refine s_pure 215 (.bool true) (by kernel_rfl) (by kernel_rfl) (fun _ => by kernel_rfl) ?_
                  refine s_pass 216 (by kernel_rfl) (by kernel_rfl) ?_
                  refine s_pass 217 (by kernel_rfl) (by kernel_rfl) ?_
                  refine s_pass 218 (by kernel_rfl) (by kernel_rfl) ?_
                  refine s_pass 219 (by kernel_rfl) (by kernel_rfl) ?_
                  refine s_pure 220 (.bool true) (by kernel_rfl) (by kernel_rfl) (fun _ => by kernel_rfl) ?_
                  refine s_pure 221 (.bool true) (by kernel_rfl) (by kernel_rfl) (fun _ => by kernel_rfl) ?_
                  refine s_pass 222 (by kernel_rfl) (by kernel_rfl) ?_
                  refine s_pass 223 (by kernel_rfl) (by kernel_rfl) ?_
                  refine s_pass 224 (by kernel_rfl) (by kernel_rfl) ?_
                  refine s_pure 225 (.bool true) (by kernel_rfl) (by kernel_rfl) (fun _ => by kernel_rfl) ?_
                  refine ops_end ?_
                  refine At.env [(2, .int .i64 e2_2), (16, .pointer (some ⟨b18_0_0, 0, none⟩)), (24, .pointer (some ⟨b34_12, 0, none⟩)), (225, .bool true)] ⟨by kernel_rfl, by kernel_rfl, by kernel_rfl, by kernel_rfl, trivial⟩ ?_
                  refine at_round_normal ?_
                  exact at_join_mk [(2, .int .i64 e2_2), (16, .pointer (some ⟨b18_0_0, 0, none⟩)), (24, .pointer (some ⟨b34_12, 0, none⟩)), (225, .bool true)] ((CacheA b18_0_0 v5_b18_0_0) :: (ImmI v5_b34_12_6a v5_b34_12_6x) :: (Asn.own b34_12 (.cells #[.int .i64 v5_b34_12_0, .int .i64 v5_b34_12_1, .int .i64 v5_b34_12_2, .int .i64 v5_b34_12_3, .int .i64 v5_b34_12_4, .int .i64 v5_b34_12_5, .slice v5_b34_12_6a (List.length v5_b34_12_6x) v5_b34_12_6c, .int .i64 v5_b34_12_7, .int .i64 v5_b34_12_8] 35 (0, 0))) :: (Asn.own b24_2 (.cells (arrI ([nth y24_1 0, nth y24_1 1, nth y24_1 2, nth y24_1 3, nth y24_1 4, nth y24_1 5] : List Int)) 54 (0, 0))) :: (RCacheA b18_0_1 y18_0.2) :: Γ) ⟨by kernel_rfl, by kernel_rfl, by kernel_rfl, by kernel_rfl, trivial⟩ (fun w hw => (Sat.less (.take (.there (.there .here)) (.take (.there (.there (.there (.there .here)))) (.take (.there (.there (.there (.there .here)))) (.take (.there (.there (.there (.there .here)))) (.take (.there (.there (.there (.there .here)))) (.drop .here (.drop .here (.drop .here (.drop .here (.drop .here .refl)))))))))) hw)) ⟨true, H, rfl, rfl⟩
                · replace H := bifF H h17
                  refine s_pure 185 (.bool false) (by kernel_rfl) (by kernel_rfl) (run_eq (v := .bool (!(decide (y44_2.kind = (2 : Int))))) (fun _ => by kernel_rfl) (congrArg Value.bool h17)) ?_
                  refine s_pure 186 (.pointer (some ⟨b44_3, 6, none⟩)) (by kernel_rfl) (by kernel_rfl) (fun _ => by kernel_rfl) ?_
                  refine s_load 187 (.int .i64 y44_2.state) (by kernel_rfl) (by kernel_rfl) (load1 (off := 6) (fun _ => by kernel_rfl) (holds_own (.there (.there (.there .here)))) (by kernel_rfl)) ?_
                  refine s_pure 188 (.bool (!(decide (y44_2.state = (2 : Int))))) (by kernel_rfl) (by kernel_rfl) (fun _ => by kernel_rfl) ?_
                  refine s_pure 189 (.bool (!(decide (y44_2.state = (2 : Int))))) (by kernel_rfl) (by kernel_rfl) (fun _ => by kernel_rfl) ?_
                  rcases Bool.eq_false_or_eq_true (!(decide (y44_2.state = (2 : Int)))) with h18 | h18
                  · replace H := bifT H h18
                    refine s_pure 190 (.bool true) (by kernel_rfl) (by kernel_rfl) (run_eq (v := .bool (!(decide (y44_2.state = (2 : Int))))) (fun _ => by kernel_rfl) (congrArg Value.bool h18)) ?_
                    refine s_pass 191 (by kernel_rfl) (by kernel_rfl) ?_
                    refine s_pass 192 (by kernel_rfl) (by kernel_rfl) ?_
                    refine s_pass 193 (by kernel_rfl) (by kernel_rfl) ?_
                    refine s_pass 194 (by kernel_rfl) (by kernel_rfl) ?_
                    refine s_pure 195 (.bool true) (by kernel_rfl) (by kernel_rfl) (fun _ => by kernel_rfl) ?_
                    refine s_pure 196 (.bool true) (by kernel_rfl) (by kernel_rfl) (fun _ => by kernel_rfl) ?_
                    refine s_pass 197 (by kernel_rfl) (by kernel_rfl) ?_
                    refine s_pass 198 (by kernel_rfl) (by kernel_rfl) ?_
                    refine s_pure 199 (.bool true) (by kernel_rfl) (by kernel_rfl) (fun _ => by kernel_rfl) ?_
                    refine s_pure 200 (.bool true) (by kernel_rfl) (by kernel_rfl) (fun _ => by kernel_rfl) ?_
                    refine s_pass 201 (by kernel_rfl) (by kernel_rfl) ?_
                    refine s_pass 202 (by kernel_rfl) (by kernel_rfl) ?_
                    refine s_pure 203 (.bool true) (by kernel_rfl) (by kernel_rfl) (fun _ => by kernel_rfl) ?_
                    refine s_pure 204 (.bool true) (by kernel_rfl) (by kernel_rfl) (fun _ => by kernel_rfl) ?_
                    refine s_pass 205 (by kernel_rfl) (by kernel_rfl) ?_
                    refine s_pass 206 (by kernel_rfl) (by kernel_rfl) ?_
                    refine s_pass 207 (by kernel_rfl) (by kernel_rfl) ?_
                    refine s_pass 208 (by kernel_rfl) (by kernel_rfl) ?_
                    refine s_pure 209 (.bool true) (by kernel_rfl) (by kernel_rfl) (fun _ => by kernel_rfl) ?_
                    refine s_pure 210 (.bool true) (by kernel_rfl) (by kernel_rfl) (fun _ => by kernel_rfl) ?_
                    refine s_pass 211 (by kernel_rfl) (by kernel_rfl) ?_
                    refine s_pass 212 (by kernel_rfl) (by kernel_rfl) ?_
                    refine s_pass 213 (by kernel_rfl) (by kernel_rfl) ?_
                    refine s_pure 214 (.bool true) (by kernel_rfl) (by kernel_rfl) (fun _ => by kernel_rfl) ?_
                    refine s_pure 215 (.bool true) (by kernel_rfl) (by kernel_rfl) (fun _ => by kernel_rfl) ?_
                    refine s_pass 216 (by kernel_rfl) (by kernel_rfl) ?_
                    refine s_pass 217 (by kernel_rfl) (by kernel_rfl) ?_
                    refine s_pass 218 (by kernel_rfl) (by kernel_rfl) ?_
                    refine s_pass 219 (by kernel_rfl) (by kernel_rfl) ?_
                    refine s_pure 220 (.bool true) (by kernel_rfl) (by kernel_rfl) (fun _ => by kernel_rfl) ?_
                    refine s_pure 221 (.bool true) (by kernel_rfl) (by kernel_rfl) (fun _ => by kernel_rfl) ?_
                    refine s_pass 222 (by kernel_rfl) (by kernel_rfl) ?_
                    refine s_pass 223 (by kernel_rfl) (by kernel_rfl) ?_
                    refine s_pass 224 (by kernel_rfl) (by kernel_rfl) ?_
                    refine s_pure 225 (.bool true) (by kernel_rfl) (by kernel_rfl) (fun _ => by kernel_rfl) ?_
                    refine ops_end ?_
                    refine At.env [(2, .int .i64 e2_2), (16, .pointer (some ⟨b18_0_0, 0, none⟩)), (24, .pointer (some ⟨b34_12, 0, none⟩)), (225, .bool true)] ⟨by kernel_rfl, by kernel_rfl, by kernel_rfl, by kernel_rfl, trivial⟩ ?_
                    refine at_round_normal ?_
                    exact at_join_mk [(2, .int .i64 e2_2), (16, .pointer (some ⟨b18_0_0, 0, none⟩)), (24, .pointer (some ⟨b34_12, 0, none⟩)), (225, .bool true)] ((CacheA b18_0_0 v5_b18_0_0) :: (ImmI v5_b34_12_6a v5_b34_12_6x) :: (Asn.own b34_12 (.cells #[.int .i64 v5_b34_12_0, .int .i64 v5_b34_12_1, .int .i64 v5_b34_12_2, .int .i64 v5_b34_12_3, .int .i64 v5_b34_12_4, .int .i64 v5_b34_12_5, .slice v5_b34_12_6a (List.length v5_b34_12_6x) v5_b34_12_6c, .int .i64 v5_b34_12_7, .int .i64 v5_b34_12_8] 35 (0, 0))) :: (Asn.own b24_2 (.cells (arrI ([nth y24_1 0, nth y24_1 1, nth y24_1 2, nth y24_1 3, nth y24_1 4, nth y24_1 5] : List Int)) 54 (0, 0))) :: (RCacheA b18_0_1 y18_0.2) :: Γ) ⟨by kernel_rfl, by kernel_rfl, by kernel_rfl, by kernel_rfl, trivial⟩ (fun w hw => (Sat.less (.take (.there (.there .here)) (.take (.there (.there (.there (.there .here)))) (.take (.there (.there (.there (.there .here)))) (.take (.there (.there (.there (.there .here)))) (.take (.there (.there (.there (.there .here)))) (.drop .here (.drop .here (.drop .here (.drop .here (.drop .here .refl)))))))))) hw)) ⟨true, H, rfl, rfl⟩
                  · replace H := bifF H h18
                    refine s_pure 190 (.bool false) (by kernel_rfl) (by kernel_rfl) (run_eq (v := .bool (!(decide (y44_2.state = (2 : Int))))) (fun _ => by kernel_rfl) (congrArg Value.bool h18)) ?_
                    refine s_pure 191 (.pointer (some ⟨b44_3, 5, none⟩)) (by kernel_rfl) (by kernel_rfl) (fun _ => by kernel_rfl) ?_
                    refine s_load 192 (.int .i64 y44_2.ptr) (by kernel_rfl) (by kernel_rfl) (load1 (off := 5) (fun _ => by kernel_rfl) (holds_own (.there (.there (.there .here)))) (by kernel_rfl)) ?_
                    refine s_pure 193 (.int .i64 e2_2) (by kernel_rfl) (by kernel_rfl) (fun _ => by kernel_rfl) ?_
                    refine s_pure 194 (.bool (!(decide (y44_2.ptr = e2_2)))) (by kernel_rfl) (by kernel_rfl) (fun _ => by kernel_rfl) ?_
                    refine s_pure 195 (.bool (!(decide (y44_2.ptr = e2_2)))) (by kernel_rfl) (by kernel_rfl) (fun _ => by kernel_rfl) ?_
                    rcases Bool.eq_false_or_eq_true (!(decide (y44_2.ptr = e2_2))) with h19 | h19
                    · replace H := bifT H h19
                      refine s_pure 196 (.bool true) (by kernel_rfl) (by kernel_rfl) (run_eq (v := .bool (!(decide (y44_2.ptr = e2_2)))) (fun _ => by kernel_rfl) (congrArg Value.bool h19)) ?_
                      refine s_pass 197 (by kernel_rfl) (by kernel_rfl) ?_
                      refine s_pass 198 (by kernel_rfl) (by kernel_rfl) ?_
                      refine s_pure 199 (.bool true) (by kernel_rfl) (by kernel_rfl) (fun _ => by kernel_rfl) ?_
                      refine s_pure 200 (.bool true) (by kernel_rfl) (by kernel_rfl) (fun _ => by kernel_rfl) ?_
                      refine s_pass 201 (by kernel_rfl) (by kernel_rfl) ?_
                      refine s_pass 202 (by kernel_rfl) (by kernel_rfl) ?_
                      refine s_pure 203 (.bool true) (by kernel_rfl) (by kernel_rfl) (fun _ => by kernel_rfl) ?_
                      refine s_pure 204 (.bool true) (by kernel_rfl) (by kernel_rfl) (fun _ => by kernel_rfl) ?_
                      refine s_pass 205 (by kernel_rfl) (by kernel_rfl) ?_
                      refine s_pass 206 (by kernel_rfl) (by kernel_rfl) ?_
                      refine s_pass 207 (by kernel_rfl) (by kernel_rfl) ?_
                      refine s_pass 208 (by kernel_rfl) (by kernel_rfl) ?_
                      refine s_pure 209 (.bool true) (by kernel_rfl) (by kernel_rfl) (fun _ => by kernel_rfl) ?_
                      refine s_pure 210 (.bool true) (by kernel_rfl) (by kernel_rfl) (fun _ => by kernel_rfl) ?_
                      refine s_pass 211 (by kernel_rfl) (by kernel_rfl) ?_
                      refine s_pass 212 (by kernel_rfl) (by kernel_rfl) ?_
                      refine s_pass 213 (by kernel_rfl) (by kernel_rfl) ?_
                      refine s_pure 214 (.bool true) (by kernel_rfl) (by kernel_rfl) (fun _ => by kernel_rfl) ?_
                      refine s_pure 215 (.bool true) (by kernel_rfl) (by kernel_rfl) (fun _ => by kernel_rfl) ?_
                      refine s_pass 216 (by kernel_rfl) (by kernel_rfl) ?_
                      refine s_pass 217 (by kernel_rfl) (by kernel_rfl) ?_
                      refine s_pass 218 (by kernel_rfl) (by kernel_rfl) ?_
                      refine s_pass 219 (by kernel_rfl) (by kernel_rfl) ?_
                      refine s_pure 220 (.bool true) (by kernel_rfl) (by kernel_rfl) (fun _ => by kernel_rfl) ?_
                      refine s_pure 221 (.bool true) (by kernel_rfl) (by kernel_rfl) (fun _ => by kernel_rfl) ?_
                      refine s_pass 222 (by kernel_rfl) (by kernel_rfl) ?_
                      refine s_pass 223 (by kernel_rfl) (by kernel_rfl) ?_
                      refine s_pass 224 (by kernel_rfl) (by kernel_rfl) ?_
                      refine s_pure 225 (.bool true) (by kernel_rfl) (by kernel_rfl) (fun _ => by kernel_rfl) ?_
                      refine ops_end ?_
                      refine At.env [(2, .int .i64 e2_2), (16, .pointer (some ⟨b18_0_0, 0, none⟩)), (24, .pointer (some ⟨b34_12, 0, none⟩)), (225, .bool true)] ⟨by kernel_rfl, by kernel_rfl, by kernel_rfl, by kernel_rfl, trivial⟩ ?_
                      refine at_round_normal ?_
                      exact at_join_mk [(2, .int .i64 e2_2), (16, .pointer (some ⟨b18_0_0, 0, none⟩)), (24, .pointer (some ⟨b34_12, 0, none⟩)), (225, .bool true)] ((CacheA b18_0_0 v5_b18_0_0) :: (ImmI v5_b34_12_6a v5_b34_12_6x) :: (Asn.own b34_12 (.cells #[.int .i64 v5_b34_12_0, .int .i64 v5_b34_12_1, .int .i64 v5_b34_12_2, .int .i64 v5_b34_12_3, .int .i64 v5_b34_12_4, .int .i64 v5_b34_12_5, .slice v5_b34_12_6a (List.length v5_b34_12_6x) v5_b34_12_6c, .int .i64 v5_b34_12_7, .int .i64 v5_b34_12_8] 35 (0, 0))) :: (Asn.own b24_2 (.cells (arrI ([nth y24_1 0, nth y24_1 1, nth y24_1 2, nth y24_1 3, nth y24_1 4, nth y24_1 5] : List Int)) 54 (0, 0))) :: (RCacheA b18_0_1 y18_0.2) :: Γ) ⟨by kernel_rfl, by kernel_rfl, by kernel_rfl, by kernel_rfl, trivial⟩ (fun w hw => (Sat.less (.take (.there (.there .here)) (.take (.there (.there (.there (.there .here)))) (.take (.there (.there (.there (.there .here)))) (.take (.there (.there (.there (.there .here)))) (.take (.there (.there (.there (.there .here)))) (.drop .here (.drop .here (.drop .here (.drop .here (.drop .here .refl)))))))))) hw)) ⟨true, H, rfl, rfl⟩
                    · replace H := bifF H h19
                      refine s_pure 196 (.bool false) (by kernel_rfl) (by kernel_rfl) (run_eq (v := .bool (!(decide (y44_2.ptr = e2_2)))) (fun _ => by kernel_rfl) (congrArg Value.bool h19)) ?_
                      refine s_pure 197 (.pointer (some ⟨b44_3, 7, none⟩)) (by kernel_rfl) (by kernel_rfl) (fun _ => by kernel_rfl) ?_
                      refine s_load 198 (.bool y44_2.flag) (by kernel_rfl) (by kernel_rfl) (load1 (off := 7) (fun _ => by kernel_rfl) (holds_own (.there (.there (.there .here)))) (by kernel_rfl)) ?_
                      refine s_pure 199 (.bool y44_2.flag) (by kernel_rfl) (by kernel_rfl) (fun _ => by kernel_rfl) ?_
                      rcases Bool.eq_false_or_eq_true (y44_2.flag) with h20 | h20
                      · replace H := bifT H h20
                        refine s_pure 200 (.bool true) (by kernel_rfl) (by kernel_rfl) (run_eq (v := .bool (y44_2.flag)) (fun _ => by kernel_rfl) (congrArg Value.bool h20)) ?_
                        refine s_pass 201 (by kernel_rfl) (by kernel_rfl) ?_
                        refine s_pass 202 (by kernel_rfl) (by kernel_rfl) ?_
                        refine s_pure 203 (.bool true) (by kernel_rfl) (by kernel_rfl) (fun _ => by kernel_rfl) ?_
                        refine s_pure 204 (.bool true) (by kernel_rfl) (by kernel_rfl) (fun _ => by kernel_rfl) ?_
                        refine s_pass 205 (by kernel_rfl) (by kernel_rfl) ?_
                        refine s_pass 206 (by kernel_rfl) (by kernel_rfl) ?_
                        refine s_pass 207 (by kernel_rfl) (by kernel_rfl) ?_
                        refine s_pass 208 (by kernel_rfl) (by kernel_rfl) ?_
                        refine s_pure 209 (.bool true) (by kernel_rfl) (by kernel_rfl) (fun _ => by kernel_rfl) ?_
                        refine s_pure 210 (.bool true) (by kernel_rfl) (by kernel_rfl) (fun _ => by kernel_rfl) ?_
                        refine s_pass 211 (by kernel_rfl) (by kernel_rfl) ?_
                        refine s_pass 212 (by kernel_rfl) (by kernel_rfl) ?_
                        refine s_pass 213 (by kernel_rfl) (by kernel_rfl) ?_
                        refine s_pure 214 (.bool true) (by kernel_rfl) (by kernel_rfl) (fun _ => by kernel_rfl) ?_
                        refine s_pure 215 (.bool true) (by kernel_rfl) (by kernel_rfl) (fun _ => by kernel_rfl) ?_
                        refine s_pass 216 (by kernel_rfl) (by kernel_rfl) ?_
                        refine s_pass 217 (by kernel_rfl) (by kernel_rfl) ?_
                        refine s_pass 218 (by kernel_rfl) (by kernel_rfl) ?_
                        refine s_pass 219 (by kernel_rfl) (by kernel_rfl) ?_
                        refine s_pure 220 (.bool true) (by kernel_rfl) (by kernel_rfl) (fun _ => by kernel_rfl) ?_
                        refine s_pure 221 (.bool true) (by kernel_rfl) (by kernel_rfl) (fun _ => by kernel_rfl) ?_
                        refine s_pass 222 (by kernel_rfl) (by kernel_rfl) ?_
                        refine s_pass 223 (by kernel_rfl) (by kernel_rfl) ?_
                        refine s_pass 224 (by kernel_rfl) (by kernel_rfl) ?_
                        refine s_pure 225 (.bool true) (by kernel_rfl) (by kernel_rfl) (fun _ => by kernel_rfl) ?_
                        refine ops_end ?_
                        refine At.env [(2, .int .i64 e2_2), (16, .pointer (some ⟨b18_0_0, 0, none⟩)), (24, .pointer (some ⟨b34_12, 0, none⟩)), (225, .bool true)] ⟨by kernel_rfl, by kernel_rfl, by kernel_rfl, by kernel_rfl, trivial⟩ ?_
                        refine at_round_normal ?_
                        exact at_join_mk [(2, .int .i64 e2_2), (16, .pointer (some ⟨b18_0_0, 0, none⟩)), (24, .pointer (some ⟨b34_12, 0, none⟩)), (225, .bool true)] ((CacheA b18_0_0 v5_b18_0_0) :: (ImmI v5_b34_12_6a v5_b34_12_6x) :: (Asn.own b34_12 (.cells #[.int .i64 v5_b34_12_0, .int .i64 v5_b34_12_1, .int .i64 v5_b34_12_2, .int .i64 v5_b34_12_3, .int .i64 v5_b34_12_4, .int .i64 v5_b34_12_5, .slice v5_b34_12_6a (List.length v5_b34_12_6x) v5_b34_12_6c, .int .i64 v5_b34_12_7, .int .i64 v5_b34_12_8] 35 (0, 0))) :: (Asn.own b24_2 (.cells (arrI ([nth y24_1 0, nth y24_1 1, nth y24_1 2, nth y24_1 3, nth y24_1 4, nth y24_1 5] : List Int)) 54 (0, 0))) :: (RCacheA b18_0_1 y18_0.2) :: Γ) ⟨by kernel_rfl, by kernel_rfl, by kernel_rfl, by kernel_rfl, trivial⟩ (fun w hw => (Sat.less (.take (.there (.there .here)) (.take (.there (.there (.there (.there .here)))) (.take (.there (.there (.there (.there .here)))) (.take (.there (.there (.there (.there .here)))) (.take (.there (.there (.there (.there .here)))) (.drop .here (.drop .here (.drop .here (.drop .here (.drop .here .refl)))))))))) hw)) ⟨true, H, rfl, rfl⟩
                      · replace H := bifF H h20
                        refine s_pure 200 (.bool false) (by kernel_rfl) (by kernel_rfl) (run_eq (v := .bool (y44_2.flag)) (fun _ => by kernel_rfl) (congrArg Value.bool h20)) ?_
                        refine s_pure 201 (.bool y45_1.2) (by kernel_rfl) (by kernel_rfl) (fun _ => by kernel_rfl) ?_
                        refine s_pure 202 (.bool !y45_1.2) (by kernel_rfl) (by kernel_rfl) (fun _ => by kernel_rfl) ?_
                        refine s_pure 203 (.bool !y45_1.2) (by kernel_rfl) (by kernel_rfl) (fun _ => by kernel_rfl) ?_
                        rcases Bool.eq_false_or_eq_true (!y45_1.2) with h21 | h21
                        · replace H := bifT H h21
                          refine s_pure 204 (.bool true) (by kernel_rfl) (by kernel_rfl) (run_eq (v := .bool (!y45_1.2)) (fun _ => by kernel_rfl) (congrArg Value.bool h21)) ?_
                          refine s_pass 205 (by kernel_rfl) (by kernel_rfl) ?_
                          refine s_pass 206 (by kernel_rfl) (by kernel_rfl) ?_
                          refine s_pass 207 (by kernel_rfl) (by kernel_rfl) ?_
                          refine s_pass 208 (by kernel_rfl) (by kernel_rfl) ?_
                          refine s_pure 209 (.bool true) (by kernel_rfl) (by kernel_rfl) (fun _ => by kernel_rfl) ?_
                          refine s_pure 210 (.bool true) (by kernel_rfl) (by kernel_rfl) (fun _ => by kernel_rfl) ?_
                          refine s_pass 211 (by kernel_rfl) (by kernel_rfl) ?_
                          refine s_pass 212 (by kernel_rfl) (by kernel_rfl) ?_
                          refine s_pass 213 (by kernel_rfl) (by kernel_rfl) ?_
                          refine s_pure 214 (.bool true) (by kernel_rfl) (by kernel_rfl) (fun _ => by kernel_rfl) ?_
                          refine s_pure 215 (.bool true) (by kernel_rfl) (by kernel_rfl) (fun _ => by kernel_rfl) ?_
                          refine s_pass 216 (by kernel_rfl) (by kernel_rfl) ?_
                          refine s_pass 217 (by kernel_rfl) (by kernel_rfl) ?_
                          refine s_pass 218 (by kernel_rfl) (by kernel_rfl) ?_
                          refine s_pass 219 (by kernel_rfl) (by kernel_rfl) ?_
                          refine s_pure 220 (.bool true) (by kernel_rfl) (by kernel_rfl) (fun _ => by kernel_rfl) ?_
                          refine s_pure 221 (.bool true) (by kernel_rfl) (by kernel_rfl) (fun _ => by kernel_rfl) ?_
                          refine s_pass 222 (by kernel_rfl) (by kernel_rfl) ?_
                          refine s_pass 223 (by kernel_rfl) (by kernel_rfl) ?_
                          refine s_pass 224 (by kernel_rfl) (by kernel_rfl) ?_
                          refine s_pure 225 (.bool true) (by kernel_rfl) (by kernel_rfl) (fun _ => by kernel_rfl) ?_
                          refine ops_end ?_
                          refine At.env [(2, .int .i64 e2_2), (16, .pointer (some ⟨b18_0_0, 0, none⟩)), (24, .pointer (some ⟨b34_12, 0, none⟩)), (225, .bool true)] ⟨by kernel_rfl, by kernel_rfl, by kernel_rfl, by kernel_rfl, trivial⟩ ?_
                          refine at_round_normal ?_
                          exact at_join_mk [(2, .int .i64 e2_2), (16, .pointer (some ⟨b18_0_0, 0, none⟩)), (24, .pointer (some ⟨b34_12, 0, none⟩)), (225, .bool true)] ((CacheA b18_0_0 v5_b18_0_0) :: (ImmI v5_b34_12_6a v5_b34_12_6x) :: (Asn.own b34_12 (.cells #[.int .i64 v5_b34_12_0, .int .i64 v5_b34_12_1, .int .i64 v5_b34_12_2, .int .i64 v5_b34_12_3, .int .i64 v5_b34_12_4, .int .i64 v5_b34_12_5, .slice v5_b34_12_6a (List.length v5_b34_12_6x) v5_b34_12_6c, .int .i64 v5_b34_12_7, .int .i64 v5_b34_12_8] 35 (0, 0))) :: (Asn.own b24_2 (.cells (arrI ([nth y24_1 0, nth y24_1 1, nth y24_1 2, nth y24_1 3, nth y24_1 4, nth y24_1 5] : List Int)) 54 (0, 0))) :: (RCacheA b18_0_1 y18_0.2) :: Γ) ⟨by kernel_rfl, by kernel_rfl, by kernel_rfl, by kernel_rfl, trivial⟩ (fun w hw => (Sat.less (.take (.there (.there .here)) (.take (.there (.there (.there (.there .here)))) (.take (.there (.there (.there (.there .here)))) (.take (.there (.there (.there (.there .here)))) (.take (.there (.there (.there (.there .here)))) (.drop .here (.drop .here (.drop .here (.drop .here (.drop .here .refl)))))))))) hw)) ⟨true, H, rfl, rfl⟩
                        · replace H := bifF H h21
                          refine s_pure 204 (.bool false) (by kernel_rfl) (by kernel_rfl) (run_eq (v := .bool (!y45_1.2)) (fun _ => by kernel_rfl) (congrArg Value.bool h21)) ?_
                          refine s_pure 205 (.pointer (some ⟨b45_5, 0, none⟩)) (by kernel_rfl) (by kernel_rfl) (fun _ => by kernel_rfl) ?_
                          refine s_load 206 (.agg #[.int .i64 y45_1.1.fwd, .int .i64 y45_1.1.back]) (by kernel_rfl) (by kernel_rfl) (loadN (off := 0) (vs := [.int .i64 y45_1.1.fwd, .int .i64 y45_1.1.back]) 2 (fun _ => by kernel_rfl) (holds_own .here) rfl (by exact ⟨rfl, rfl, trivial⟩)) ?_
                          obtain ⟨y46_29, hy46_29, H⟩ := bindE H
                          refine s_quiet 207 (.bool y46_29) 19 #[.agg #[.int .i64 y45_1.1.fwd, .int .i64 y45_1.1.back]] (by kernel_rfl) (by kernel_rfl) (fun _ => by kernel_rfl) (LOnlyF_tr (⟨y45_1.1.fwd, y45_1.1.back⟩ : LinkS) y46_29 hy46_29) ?_
                          refine s_pure 208 (.bool !y46_29) (by kernel_rfl) (by kernel_rfl) (fun _ => by kernel_rfl) ?_
                          refine s_pure 209 (.bool !y46_29) (by kernel_rfl) (by kernel_rfl) (fun _ => by kernel_rfl) ?_
                          rcases Bool.eq_false_or_eq_true (!y46_29) with h22 | h22
                          · replace H := bifT H h22
                            refine s_pure 210 (.bool true) (by kernel_rfl) (by kernel_rfl) (run_eq (v := .bool (!y46_29)) (fun _ => by kernel_rfl) (congrArg Value.bool h22)) ?_
                            refine s_pass 211 (by kernel_rfl) (by kernel_rfl) ?_
                            refine s_pass 212 (by kernel_rfl) (by kernel_rfl) ?_
                            refine s_pass 213 (by kernel_rfl) (by kernel_rfl) ?_
                            refine s_pure 214 (.bool true) (by kernel_rfl) (by kernel_rfl) (fun _ => by kernel_rfl) ?_
                            refine s_pure 215 (.bool true) (by kernel_rfl) (by kernel_rfl) (fun _ => by kernel_rfl) ?_
                            refine s_pass 216 (by kernel_rfl) (by kernel_rfl) ?_
                            refine s_pass 217 (by kernel_rfl) (by kernel_rfl) ?_
                            refine s_pass 218 (by kernel_rfl) (by kernel_rfl) ?_
                            refine s_pass 219 (by kernel_rfl) (by kernel_rfl) ?_
                            refine s_pure 220 (.bool true) (by kernel_rfl) (by kernel_rfl) (fun _ => by kernel_rfl) ?_
                            refine s_pure 221 (.bool true) (by kernel_rfl) (by kernel_rfl) (fun _ => by kernel_rfl) ?_
                            refine s_pass 222 (by kernel_rfl) (by kernel_rfl) ?_
                            refine s_pass 223 (by kernel_rfl) (by kernel_rfl) ?_
                            refine s_pass 224 (by kernel_rfl) (by kernel_rfl) ?_
                            refine s_pure 225 (.bool true) (by kernel_rfl) (by kernel_rfl) (fun _ => by kernel_rfl) ?_
                            refine ops_end ?_
                            refine At.env [(2, .int .i64 e2_2), (16, .pointer (some ⟨b18_0_0, 0, none⟩)), (24, .pointer (some ⟨b34_12, 0, none⟩)), (225, .bool true)] ⟨by kernel_rfl, by kernel_rfl, by kernel_rfl, by kernel_rfl, trivial⟩ ?_
                            refine at_round_normal ?_
                            exact at_join_mk [(2, .int .i64 e2_2), (16, .pointer (some ⟨b18_0_0, 0, none⟩)), (24, .pointer (some ⟨b34_12, 0, none⟩)), (225, .bool true)] ((CacheA b18_0_0 v5_b18_0_0) :: (ImmI v5_b34_12_6a v5_b34_12_6x) :: (Asn.own b34_12 (.cells #[.int .i64 v5_b34_12_0, .int .i64 v5_b34_12_1, .int .i64 v5_b34_12_2, .int .i64 v5_b34_12_3, .int .i64 v5_b34_12_4, .int .i64 v5_b34_12_5, .slice v5_b34_12_6a (List.length v5_b34_12_6x) v5_b34_12_6c, .int .i64 v5_b34_12_7, .int .i64 v5_b34_12_8] 35 (0, 0))) :: (Asn.own b24_2 (.cells (arrI ([nth y24_1 0, nth y24_1 1, nth y24_1 2, nth y24_1 3, nth y24_1 4, nth y24_1 5] : List Int)) 54 (0, 0))) :: (RCacheA b18_0_1 y18_0.2) :: Γ) ⟨by kernel_rfl, by kernel_rfl, by kernel_rfl, by kernel_rfl, trivial⟩ (fun w hw => (Sat.less (.take (.there (.there .here)) (.take (.there (.there (.there (.there .here)))) (.take (.there (.there (.there (.there .here)))) (.take (.there (.there (.there (.there .here)))) (.take (.there (.there (.there (.there .here)))) (.drop .here (.drop .here (.drop .here (.drop .here (.drop .here .refl)))))))))) hw)) ⟨true, H, rfl, rfl⟩
                          · replace H := bifF H h22
                            refine s_pure 210 (.bool false) (by kernel_rfl) (by kernel_rfl) (run_eq (v := .bool (!y46_29)) (fun _ => by kernel_rfl) (congrArg Value.bool h22)) ?_
                            refine s_pure 211 (.pointer (some ⟨b45_5, 4, none⟩)) (by kernel_rfl) (by kernel_rfl) (fun _ => by kernel_rfl) ?_
                            refine s_load 212 (.bool y45_1.1.dirty) (by kernel_rfl) (by kernel_rfl) (load1 (off := 4) (fun _ => by kernel_rfl) (holds_own .here) (by kernel_rfl)) ?_
                            refine s_pure 213 (.bool !y45_1.1.dirty) (by kernel_rfl) (by kernel_rfl) (fun _ => by kernel_rfl) ?_
                            refine s_pure 214 (.bool !y45_1.1.dirty) (by kernel_rfl) (by kernel_rfl) (fun _ => by kernel_rfl) ?_
                            rcases Bool.eq_false_or_eq_true (!y45_1.1.dirty) with h23 | h23
                            · replace H := bifT H h23
                              refine s_pure 215 (.bool true) (by kernel_rfl) (by kernel_rfl) (run_eq (v := .bool (!y45_1.1.dirty)) (fun _ => by kernel_rfl) (congrArg Value.bool h23)) ?_
                              refine s_pass 216 (by kernel_rfl) (by kernel_rfl) ?_
                              refine s_pass 217 (by kernel_rfl) (by kernel_rfl) ?_
                              refine s_pass 218 (by kernel_rfl) (by kernel_rfl) ?_
                              refine s_pass 219 (by kernel_rfl) (by kernel_rfl) ?_
                              refine s_pure 220 (.bool true) (by kernel_rfl) (by kernel_rfl) (fun _ => by kernel_rfl) ?_
                              refine s_pure 221 (.bool true) (by kernel_rfl) (by kernel_rfl) (fun _ => by kernel_rfl) ?_
                              refine s_pass 222 (by kernel_rfl) (by kernel_rfl) ?_
                              refine s_pass 223 (by kernel_rfl) (by kernel_rfl) ?_
                              refine s_pass 224 (by kernel_rfl) (by kernel_rfl) ?_
                              refine s_pure 225 (.bool true) (by kernel_rfl) (by kernel_rfl) (fun _ => by kernel_rfl) ?_
                              refine ops_end ?_
                              refine At.env [(2, .int .i64 e2_2), (16, .pointer (some ⟨b18_0_0, 0, none⟩)), (24, .pointer (some ⟨b34_12, 0, none⟩)), (225, .bool true)] ⟨by kernel_rfl, by kernel_rfl, by kernel_rfl, by kernel_rfl, trivial⟩ ?_
                              refine at_round_normal ?_
                              exact at_join_mk [(2, .int .i64 e2_2), (16, .pointer (some ⟨b18_0_0, 0, none⟩)), (24, .pointer (some ⟨b34_12, 0, none⟩)), (225, .bool true)] ((CacheA b18_0_0 v5_b18_0_0) :: (ImmI v5_b34_12_6a v5_b34_12_6x) :: (Asn.own b34_12 (.cells #[.int .i64 v5_b34_12_0, .int .i64 v5_b34_12_1, .int .i64 v5_b34_12_2, .int .i64 v5_b34_12_3, .int .i64 v5_b34_12_4, .int .i64 v5_b34_12_5, .slice v5_b34_12_6a (List.length v5_b34_12_6x) v5_b34_12_6c, .int .i64 v5_b34_12_7, .int .i64 v5_b34_12_8] 35 (0, 0))) :: (Asn.own b24_2 (.cells (arrI ([nth y24_1 0, nth y24_1 1, nth y24_1 2, nth y24_1 3, nth y24_1 4, nth y24_1 5] : List Int)) 54 (0, 0))) :: (RCacheA b18_0_1 y18_0.2) :: Γ) ⟨by kernel_rfl, by kernel_rfl, by kernel_rfl, by kernel_rfl, trivial⟩ (fun w hw => (Sat.less (.take (.there (.there .here)) (.take (.there (.there (.there (.there .here)))) (.take (.there (.there (.there (.there .here)))) (.take (.there (.there (.there (.there .here)))) (.take (.there (.there (.there (.there .here)))) (.drop .here (.drop .here (.drop .here (.drop .here (.drop .here .refl)))))))))) hw)) ⟨true, H, rfl, rfl⟩
                            · replace H := bifF H h23
                              refine s_pure 215 (.bool false) (by kernel_rfl) (by kernel_rfl) (run_eq (v := .bool (!y45_1.1.dirty)) (fun _ => by kernel_rfl) (congrArg Value.bool h23)) ?_
                              refine s_load 216 (.agg #[.int .i64 y45_1.1.fwd, .int .i64 y45_1.1.back, .int .i64 y45_1.1.line, .int .i64 y45_1.1.used, .bool y45_1.1.dirty, .slice a45_1_00 (List.length y45_1.1.data) c45_1_00]) (by kernel_rfl) (by kernel_rfl) (loadN (off := 0) (vs := [.int .i64 y45_1.1.fwd, .int .i64 y45_1.1.back, .int .i64 y45_1.1.line, .int .i64 y45_1.1.used, .bool y45_1.1.dirty, .slice a45_1_00 (List.length y45_1.1.data) c45_1_00]) 6 (fun _ => by kernel_rfl) (holds_own .here) rfl (by exact ⟨rfl, rfl, rfl, rfl, rfl, rfl, trivial⟩)) ?_
                              obtain ⟨y46_39, hy46_39, H⟩ := bindE H
                              refine s_call 217 20 #[.agg #[.int .i64 y45_1.1.fwd, .int .i64 y45_1.1.back, .int .i64 y45_1.1.line, .int .i64 y45_1.1.used, .bool y45_1.1.dirty, .slice a45_1_00 (List.length y45_1.1.data) c45_1_00], .int .i64 (0)] (by kernel_rfl) (by kernel_rfl) (fun _ => by kernel_rfl) (EWordF_tr a45_1_00 c45_1_00 y45_1.1 (0 : Int) (RowsA.reads (k := 1) (.there .here)) y46_39 hy46_39) ?_
                              rintro _ _ ⟨rfl, rfl⟩
                              refine s_pure 218 (.int .i64 data) (by kernel_rfl) (by kernel_rfl) (fun _ => by kernel_rfl) ?_
                              refine s_pure 219 (.bool (!(decide (y46_39 = data)))) (by kernel_rfl) (by kernel_rfl) (fun _ => by kernel_rfl) ?_
                              refine s_pure 220 (.bool (!(decide (y46_39 = data)))) (by kernel_rfl) (by kernel_rfl) (fun _ => by kernel_rfl) ?_
                              rcases Bool.eq_false_or_eq_true (!(decide (y46_39 = data))) with h24 | h24
                              · replace H := bifT H h24
                                refine s_pure 221 (.bool true) (by kernel_rfl) (by kernel_rfl) (run_eq (v := .bool (!(decide (y46_39 = data)))) (fun _ => by kernel_rfl) (congrArg Value.bool h24)) ?_
                                refine s_pass 222 (by kernel_rfl) (by kernel_rfl) ?_
                                refine s_pass 223 (by kernel_rfl) (by kernel_rfl) ?_
                                refine s_pass 224 (by kernel_rfl) (by kernel_rfl) ?_
                                refine s_pure 225 (.bool true) (by kernel_rfl) (by kernel_rfl) (fun _ => by kernel_rfl) ?_
                                refine ops_end ?_
                                refine At.env [(2, .int .i64 e2_2), (16, .pointer (some ⟨b18_0_0, 0, none⟩)), (24, .pointer (some ⟨b34_12, 0, none⟩)), (225, .bool true)] ⟨by kernel_rfl, by kernel_rfl, by kernel_rfl, by kernel_rfl, trivial⟩ ?_
                                refine at_round_normal ?_
                                exact at_join_mk [(2, .int .i64 e2_2), (16, .pointer (some ⟨b18_0_0, 0, none⟩)), (24, .pointer (some ⟨b34_12, 0, none⟩)), (225, .bool true)] ((CacheA b18_0_0 v5_b18_0_0) :: (ImmI v5_b34_12_6a v5_b34_12_6x) :: (Asn.own b34_12 (.cells #[.int .i64 v5_b34_12_0, .int .i64 v5_b34_12_1, .int .i64 v5_b34_12_2, .int .i64 v5_b34_12_3, .int .i64 v5_b34_12_4, .int .i64 v5_b34_12_5, .slice v5_b34_12_6a (List.length v5_b34_12_6x) v5_b34_12_6c, .int .i64 v5_b34_12_7, .int .i64 v5_b34_12_8] 35 (0, 0))) :: (Asn.own b24_2 (.cells (arrI ([nth y24_1 0, nth y24_1 1, nth y24_1 2, nth y24_1 3, nth y24_1 4, nth y24_1 5] : List Int)) 54 (0, 0))) :: (RCacheA b18_0_1 y18_0.2) :: Γ) ⟨by kernel_rfl, by kernel_rfl, by kernel_rfl, by kernel_rfl, trivial⟩ (fun w hw => (Sat.less (.take (.there (.there .here)) (.take (.there (.there (.there (.there .here)))) (.take (.there (.there (.there (.there .here)))) (.take (.there (.there (.there (.there .here)))) (.take (.there (.there (.there (.there .here)))) (.drop .here (.drop .here (.drop .here (.drop .here (.drop .here .refl)))))))))) hw)) ⟨true, H, rfl, rfl⟩
                              · replace H := bifF H h24
                                refine s_pure 221 (.bool false) (by kernel_rfl) (by kernel_rfl) (run_eq (v := .bool (!(decide (y46_39 = data)))) (fun _ => by kernel_rfl) (congrArg Value.bool h24)) ?_
                                refine s_pure 222 (.pointer (some ⟨b18_0_0, 0, none⟩)) (by kernel_rfl) (by kernel_rfl) (fun _ => by kernel_rfl) ?_
                                obtain ⟨y46_45, hy46_45, H⟩ := letE H
                                refine s_call 223 23 #[.pointer (some ⟨b18_0_0, 0, none⟩)] (by kernel_rfl) (by kernel_rfl) (fun _ => by kernel_rfl) (Tr.conv (Γ' := (CacheA b18_0_0 v5_b18_0_0) :: (Asn.own b45_5 (.cells #[.int .i64 y45_1.1.fwd, .int .i64 y45_1.1.back, .int .i64 y45_1.1.line, .int .i64 y45_1.1.used, .bool y45_1.1.dirty, .slice a45_1_00 (List.length y45_1.1.data) c45_1_00] 32 (0, 0))) :: (IntsA a45_1_00 c45_1_00 y45_1.1.data) :: (Asn.own b44_3 (.cells #[.int .i64 y44_2.kind, .int .i64 y44_2.src, .int .i64 y44_2.dst, .int .i64 y44_2.id, .int .i64 y44_2.line, .int .i64 y44_2.ptr, .int .i64 y44_2.state, .bool y44_2.flag, .slice a44_2_00 (List.length y44_2.data) c44_2_00] 40 (0, 0))) :: (IntsA a44_2_00 c44_2_00 y44_2.data) :: (ImmI v5_b34_12_6a v5_b34_12_6x) :: (Asn.own b34_12 (.cells #[.int .i64 v5_b34_12_0, .int .i64 v5_b34_12_1, .int .i64 v5_b34_12_2, .int .i64 v5_b34_12_3, .int .i64 v5_b34_12_4, .int .i64 v5_b34_12_5, .slice v5_b34_12_6a (List.length v5_b34_12_6x) v5_b34_12_6c, .int .i64 v5_b34_12_7, .int .i64 v5_b34_12_8] 35 (0, 0))) :: (Asn.own b24_2 (.cells (arrI ([nth y24_1 0, nth y24_1 1, nth y24_1 2, nth y24_1 3, nth y24_1 4, nth y24_1 5] : List Int)) 54 (0, 0))) :: (RCacheA b18_0_1 y18_0.2) :: (IntsA v0_9a v0_9c v0_9x) :: Γ) (fun w hw => (Sat.less (.take (.there (.there .here)) (.take .here (.take .here (.take .here (.take .here (.take .here (.take .here (.take .here (.take .here (.take .here .refl)))))))))) hw)) (LenF_tr b18_0_0 v5_b18_0_0 y46_45 hy46_45)) ?_
                                rintro _ _ ⟨rfl, rfl⟩
                                refine s_pure 224 (.bool (!(decide (y46_45 = (1 : Int))))) (by kernel_rfl) (by kernel_rfl) (fun _ => by kernel_rfl) ?_
                                refine s_pure 225 (.bool (!(decide (y46_45 = (1 : Int))))) (by kernel_rfl) (by kernel_rfl) (fun _ => by kernel_rfl) ?_
                                refine ops_end ?_
                                refine At.env [(2, .int .i64 e2_2), (16, .pointer (some ⟨b18_0_0, 0, none⟩)), (24, .pointer (some ⟨b34_12, 0, none⟩)), (225, .bool (!(decide (y46_45 = (1 : Int)))))] ⟨by kernel_rfl, by kernel_rfl, by kernel_rfl, by kernel_rfl, trivial⟩ ?_
                                refine at_round_normal ?_
                                exact at_join_mk [(2, .int .i64 e2_2), (16, .pointer (some ⟨b18_0_0, 0, none⟩)), (24, .pointer (some ⟨b34_12, 0, none⟩)), (225, .bool (!(decide (y46_45 = (1 : Int)))))] ((CacheA b18_0_0 v5_b18_0_0) :: (ImmI v5_b34_12_6a v5_b34_12_6x) :: (Asn.own b34_12 (.cells #[.int .i64 v5_b34_12_0, .int .i64 v5_b34_12_1, .int .i64 v5_b34_12_2, .int .i64 v5_b34_12_3, .int .i64 v5_b34_12_4, .int .i64 v5_b34_12_5, .slice v5_b34_12_6a (List.length v5_b34_12_6x) v5_b34_12_6c, .int .i64 v5_b34_12_7, .int .i64 v5_b34_12_8] 35 (0, 0))) :: (Asn.own b24_2 (.cells (arrI ([nth y24_1 0, nth y24_1 1, nth y24_1 2, nth y24_1 3, nth y24_1 4, nth y24_1 5] : List Int)) 54 (0, 0))) :: (RCacheA b18_0_1 y18_0.2) :: Γ) ⟨by kernel_rfl, by kernel_rfl, by kernel_rfl, by kernel_rfl, trivial⟩ (fun w hw => (Sat.less (.take .here (.take (.there (.there (.there (.there .here)))) (.take (.there (.there (.there (.there .here)))) (.take (.there (.there (.there (.there .here)))) (.take (.there (.there (.there (.there .here)))) (.drop .here (.drop .here (.drop .here (.drop .here (.drop .here .refl)))))))))) hw)) ⟨!(decide (y46_45 = (1 : Int))), H, rfl, rfl⟩
      · refine at_seq (x := C7 [1,1,1,1,1,1,1,1,0,0]) (y := C7 [1,1,1,1,1,1,1,1,0,1]) (by kernel_rfl) ?_
        refine at_region (id := 22) 3 (by kernel_rfl) (by kernel_rfl) ?_
        refine s_pure 84 (.slice v0_9a (List.length v0_9x) v0_9c) (by kernel_rfl) (by kernel_rfl) (fun _ => by kernel_rfl) ?_
        refine s_pure 85 (.int .i64 (((List.length v0_9x) : Nat) : Int)) (by kernel_rfl) (by kernel_rfl) (fun _ => by kernel_rfl) ?_
        refine s_pure 86 (.bool (decide ((0 : Int) < (((List.length v0_9x) : Nat) : Int)))) (by kernel_rfl) (by kernel_rfl) (fun _ => by kernel_rfl) ?_
        refine ops_end ?_
        refine At.env [(2, .int .i64 e2_2), (3, .int .i64 data), (9, .slice v0_9a (List.length v0_9x) v0_9c), (16, .pointer (some ⟨b18_0_0, 0, none⟩)), (18, .int .i64 (-1)), (19, .int .i64 (0)), (86, .bool (decide ((0 : Int) < (((List.length v0_9x) : Nat) : Int))))] ⟨by kernel_rfl, by kernel_rfl, by kernel_rfl, by kernel_rfl, by kernel_rfl, by kernel_rfl, by kernel_rfl, trivial⟩ ?_
        refine at_then_normal ?_
        rcases Bool.eq_false_or_eq_true (decide ((0 : Int) < (((List.length v0_9x) : Nat) : Int))) with h25 | h25
        · replace H := bifT H h25
          refine at_true (t := decide ((0 : Int) < (((List.length v0_9x) : Nat) : Int))) (x := C7 [1,1,1,1,1,1,1,1,0,1,0]) (y := C7 [1,1,1,1,1,1,1,1,0,1,1]) (o := .tmp 86) (by kernel_rfl) (by kernel_rfl) (by kernel_rfl) h25 ?_
          refine at_region (id := 23) 5 (by kernel_rfl) (by kernel_rfl) ?_
          refine s_pure 87 (.slice v0_9a (List.length v0_9x) v0_9c) (by kernel_rfl) (by kernel_rfl) (fun _ => by kernel_rfl) ?_
          obtain ⟨hc23_1_0, H⟩ := chkE H
          refine rows_at (.there (.there .here)) (by have := hc23_1_0; simp only [ints_length]; omega) ?_
          intro bb6 oo6 ha6
          refine s_pure 88 (.pointer (some ⟨bb6, oo6 + (((0 : Int)).toNat * 1 + 0), none⟩)) (by kernel_rfl) (by kernel_rfl) (index_at (t := 30) (sz := 1) (E := 3) (a := v0_9a) (m := (List.length v0_9x)) (c := v0_9c) (b := bb6) (off := oo6) (i := ((0 : Int)).toNat) (tinfo 3) (fun _ => by kernel_rfl) (by kernel_rfl) (by kernel_rfl) (by kernel_rfl) ha6 (idx_cast hc23_1_0) (idx_nat hc23_1_0) rfl) ?_
          refine s_load 89 (.int .i64 (nth v0_9x (0 : Int))) (by kernel_rfl) (by kernel_rfl) (load1_at (off := oo6 + (((0 : Int)).toNat * 1 + 0)) (v := .int .i64 (nth v0_9x (0 : Int))) (fun _ => by kernel_rfl) rfl (reads_cell (k := 1) (RowsA.reads (k := 1) (.there (.there .here))) (ints_rows _) ha6 (nth_row hc23_1_0) (show [(.int .i64 (nth v0_9x (0 : Int)) : Value)][0]? = some _ from rfl))) ?_
          refine s_pure 18 (.int .i64 (nth v0_9x (0 : Int))) (by kernel_rfl) (by kernel_rfl) (fun _ => by kernel_rfl) ?_
          refine s_pure 19 (.int .i64 (1)) (by kernel_rfl) (by kernel_rfl) (fun _ => by kernel_rfl) ?_
          refine ops_end ?_
          refine At.env [(2, .int .i64 e2_2), (3, .int .i64 data), (9, .slice v0_9a (List.length v0_9x) v0_9c), (16, .pointer (some ⟨b18_0_0, 0, none⟩)), (18, .int .i64 (nth v0_9x (0 : Int))), (19, .int .i64 (1))] ⟨by kernel_rfl, by kernel_rfl, by kernel_rfl, by kernel_rfl, by kernel_rfl, by kernel_rfl, trivial⟩ ?_
          refine at_round_normal ?_
          exact at_join_mk [(2, .int .i64 e2_2), (3, .int .i64 data), (9, .slice v0_9a (List.length v0_9x) v0_9c), (16, .pointer (some ⟨b18_0_0, 0, none⟩)), (18, .int .i64 (nth v0_9x (0 : Int))), (19, .int .i64 1)] ((CacheA b18_0_0 y18_0.1) :: (RCacheA b18_0_1 y18_0.2) :: (IntsA v0_9a v0_9c v0_9x) :: Γ) ⟨by kernel_rfl, by kernel_rfl, by kernel_rfl, by kernel_rfl, by kernel_rfl, by kernel_rfl, trivial⟩ (fun w hw => (Sat.less (.take .here (.take .here (.take .here .refl))) hw)) ⟨nth v0_9x (0 : Int), 1, H, rfl, rfl⟩
        · replace H := bifF H h25
          refine at_false (t := decide ((0 : Int) < (((List.length v0_9x) : Nat) : Int))) (x := C7 [1,1,1,1,1,1,1,1,0,1,0]) (y := C7 [1,1,1,1,1,1,1,1,0,1,1]) (o := .tmp 86) (by kernel_rfl) (by kernel_rfl) (by kernel_rfl) h25 ?_
          refine at_skip (by kernel_rfl) ?_
          refine at_round_normal ?_
          exact at_join_mk [(2, .int .i64 e2_2), (3, .int .i64 data), (9, .slice v0_9a (List.length v0_9x) v0_9c), (16, .pointer (some ⟨b18_0_0, 0, none⟩)), (18, .int .i64 (-1)), (19, .int .i64 0)] ((CacheA b18_0_0 y18_0.1) :: (RCacheA b18_0_1 y18_0.2) :: (IntsA v0_9a v0_9c v0_9x) :: Γ) ⟨by kernel_rfl, by kernel_rfl, by kernel_rfl, by kernel_rfl, by kernel_rfl, by kernel_rfl, trivial⟩ (fun w hw => (Sat.less (.take .here (.take .here (.take .here .refl))) hw)) ⟨(-1), 0, H, rfl, rfl⟩
    · refine at_seq (x := C7 [1,1,1,1,0,0]) (y := C7 [1,1,1,1,0,1]) (by kernel_rfl) ?_
      refine at_region (id := 16) 8 (by kernel_rfl) (by kernel_rfl) ?_
      refine s_pure 62 (.int .i64 own) (by kernel_rfl) (by kernel_rfl) (fun _ => by kernel_rfl) ?_
      refine s_pure 63 (.int .i64 (own.tmod (2 : Int))) (by kernel_rfl) (by kernel_rfl) (run_remP (a := own) (b := 2) (fun _ => by kernel_rfl) (by decide)) ?_
      refine s_pure 64 (.bool (decide ((own.tmod (2 : Int)) = (0 : Int)))) (by kernel_rfl) (by kernel_rfl) (fun _ => by kernel_rfl) ?_
      rcases Bool.eq_false_or_eq_true (decide ((own.tmod (2 : Int)) = (0 : Int))) with h26 | h26
      · replace H := bifT H h26
        refine s_pure 65 (.bool true) (by kernel_rfl) (by kernel_rfl) (run_eq (v := .bool (decide ((own.tmod (2 : Int)) = (0 : Int)))) (fun _ => by kernel_rfl) (congrArg Value.bool h26)) ?_
        refine s_pure 66 (.slice v0_9a (List.length v0_9x) v0_9c) (by kernel_rfl) (by kernel_rfl) (fun _ => by kernel_rfl) ?_
        refine s_pure 67 (.int .i64 (((List.length v0_9x) : Nat) : Int)) (by kernel_rfl) (by kernel_rfl) (fun _ => by kernel_rfl) ?_
        refine s_pure 68 (.bool (decide ((0 : Int) < (((List.length v0_9x) : Nat) : Int)))) (by kernel_rfl) (by kernel_rfl) (fun _ => by kernel_rfl) ?_
        refine s_pure 69 (.bool (decide ((0 : Int) < (((List.length v0_9x) : Nat) : Int)))) (by kernel_rfl) (by kernel_rfl) (fun _ => by kernel_rfl) ?_
        refine ops_end ?_
        refine At.env [(1, .int .i64 own), (2, .int .i64 y15_1), (3, .int .i64 data), (9, .slice v0_9a (List.length v0_9x) v0_9c), (69, .bool (decide ((0 : Int) < (((List.length v0_9x) : Nat) : Int))))] ⟨by kernel_rfl, by kernel_rfl, by kernel_rfl, by kernel_rfl, by kernel_rfl, trivial⟩ ?_
        refine at_then_normal ?_
        rcases Bool.eq_false_or_eq_true (decide ((0 : Int) < (((List.length v0_9x) : Nat) : Int))) with h27 | h27
        · replace H := bifT H h27
          refine at_true (t := decide ((0 : Int) < (((List.length v0_9x) : Nat) : Int))) (x := C7 [1,1,1,1,0,1,0]) (y := C7 [1,1,1,1,0,1,1]) (o := .tmp 69) (by kernel_rfl) (by kernel_rfl) (by kernel_rfl) h27 ?_
          refine at_region (id := 17) 9 (by kernel_rfl) (by kernel_rfl) ?_
          refine s_pure 70 (.slice v0_9a (List.length v0_9x) v0_9c) (by kernel_rfl) (by kernel_rfl) (fun _ => by kernel_rfl) ?_
          refine s_pure 71 (.int .i64 own) (by kernel_rfl) (by kernel_rfl) (fun _ => by kernel_rfl) ?_
          refine s_pure 72 (.int .i64 (wr (own.tdiv (2 : Int)))) (by kernel_rfl) (by kernel_rfl) (run_quoP (a := own) (b := 2) (fun _ => by kernel_rfl) (by decide)) ?_
          refine s_pure 73 (.slice v0_9a (List.length v0_9x) v0_9c) (by kernel_rfl) (by kernel_rfl) (fun _ => by kernel_rfl) ?_
          refine s_pure 74 (.int .i64 (((List.length v0_9x) : Nat) : Int)) (by kernel_rfl) (by kernel_rfl) (fun _ => by kernel_rfl) ?_
          obtain ⟨y17_5, hy17_5, H⟩ := bindE H
          refine s_quiet 75 (.int .i64 y17_5) 22 #[.int .i64 (wr (own.tdiv (2 : Int))), .int .i64 (((List.length v0_9x) : Nat) : Int)] (by kernel_rfl) (by kernel_rfl) (fun _ => by kernel_rfl) (WithinF_tr (wr (own.tdiv (2 : Int))) (((List.length v0_9x) : Nat) : Int) y17_5 hy17_5) ?_
          obtain ⟨hc17_6_0, H⟩ := chkE H
          refine rows_at .here (by have := hc17_6_0; simp only [ints_length]; omega) ?_
          intro bb7 oo7 ha7
          refine s_pure 76 (.pointer (some ⟨bb7, oo7 + ((y17_5).toNat * 1 + 0), none⟩)) (by kernel_rfl) (by kernel_rfl) (index_at (t := 30) (sz := 1) (E := 3) (a := v0_9a) (m := (List.length v0_9x)) (c := v0_9c) (b := bb7) (off := oo7) (i := (y17_5).toNat) (tinfo 3) (fun _ => by kernel_rfl) (by kernel_rfl) (by kernel_rfl) (by kernel_rfl) ha7 (idx_cast hc17_6_0) (idx_nat hc17_6_0) rfl) ?_
          refine s_load 77 (.int .i64 (nth v0_9x y17_5)) (by kernel_rfl) (by kernel_rfl) (load1_at (off := oo7 + ((y17_5).toNat * 1 + 0)) (v := .int .i64 (nth v0_9x y17_5)) (fun _ => by kernel_rfl) rfl (reads_cell (k := 1) (RowsA.reads (k := 1) .here) (ints_rows _) ha7 (nth_row hc17_6_0) (show [(.int .i64 (nth v0_9x y17_5) : Value)][0]? = some _ from rfl))) ?_
          refine s_pure 2 (.int .i64 (nth v0_9x y17_5)) (by kernel_rfl) (by kernel_rfl) (fun _ => by kernel_rfl) ?_
          refine ops_end ?_
          refine At.env [(2, .int .i64 (nth v0_9x y17_5)), (3, .int .i64 data), (9, .slice v0_9a (List.length v0_9x) v0_9c)] ⟨by kernel_rfl, by kernel_rfl, by kernel_rfl, trivial⟩ ?_
          refine at_round_normal ?_
          exact at_join_mk [(2, .int .i64 (nth v0_9x y17_5)), (3, .int .i64 data), (9, .slice v0_9a (List.length v0_9x) v0_9c)] ((IntsA v0_9a v0_9c v0_9x) :: Γ) ⟨by kernel_rfl, by kernel_rfl, by kernel_rfl, trivial⟩ (fun w hw => (Sat.less (.take .here .refl) hw)) ⟨nth v0_9x y17_5, H, rfl, rfl⟩
        · replace H := bifF H h27
          refine at_false (t := decide ((0 : Int) < (((List.length v0_9x) : Nat) : Int))) (x := C7 [1,1,1,1,0,1,0]) (y := C7 [1,1,1,1,0,1,1]) (o := .tmp 69) (by kernel_rfl) (by kernel_rfl) (by kernel_rfl) h27 ?_
          refine at_skip (by kernel_rfl) ?_
          refine at_round_normal ?_
          exact at_join_mk [(2, .int .i64 y15_1), (3, .int .i64 data), (9, .slice v0_9a (List.length v0_9x) v0_9c)] ((IntsA v0_9a v0_9c v0_9x) :: Γ) ⟨by kernel_rfl, by kernel_rfl, by kernel_rfl, trivial⟩ (fun w hw => (Sat.less (.take .here .refl) hw)) ⟨y15_1, H, rfl, rfl⟩
      · replace H := bifF H h26
        refine s_pure 65 (.bool false) (by kernel_rfl) (by kernel_rfl) (run_eq (v := .bool (decide ((own.tmod (2 : Int)) = (0 : Int)))) (fun _ => by kernel_rfl) (congrArg Value.bool h26)) ?_
        refine s_pass 66 (by kernel_rfl) (by kernel_rfl) ?_
        refine s_pass 67 (by kernel_rfl) (by kernel_rfl) ?_
        refine s_pass 68 (by kernel_rfl) (by kernel_rfl) ?_
        refine s_pure 69 (.bool false) (by kernel_rfl) (by kernel_rfl) (fun _ => by kernel_rfl) ?_
        refine ops_end ?_
        refine At.env [(1, .int .i64 own), (2, .int .i64 y15_1), (3, .int .i64 data), (9, .slice v0_9a (List.length v0_9x) v0_9c), (69, .bool false)] ⟨by kernel_rfl, by kernel_rfl, by kernel_rfl, by kernel_rfl, by kernel_rfl, trivial⟩ ?_
        refine at_then_normal ?_
        refine at_false (t := false) (x := C7 [1,1,1,1,0,1,0]) (y := C7 [1,1,1,1,0,1,1]) (o := .tmp 69) (by kernel_rfl) (by kernel_rfl) (by kernel_rfl) rfl ?_
        refine at_skip (by kernel_rfl) ?_
        refine at_round_normal ?_
        exact at_join_mk [(2, .int .i64 y15_1), (3, .int .i64 data), (9, .slice v0_9a (List.length v0_9x) v0_9c)] ((IntsA v0_9a v0_9c v0_9x) :: Γ) ⟨by kernel_rfl, by kernel_rfl, by kernel_rfl, trivial⟩ (fun w hw => (Sat.less (.take .here .refl) hw)) ⟨y15_1, H, rfl, rfl⟩
end Go.Proofs.Ytlnjnkbnppnbkaa
