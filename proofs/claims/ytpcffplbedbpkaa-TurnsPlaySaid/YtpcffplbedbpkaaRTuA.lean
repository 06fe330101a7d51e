/- The second writing of turns: each function answers what its plain function says. -/
import Derived.Test.YtpcffplbedbpkaaOwnB
import Derived.Test.YtpcffplbedbpkaaSlRTurn
namespace Go.Proofs.Ytpcffplbedbpkaa
open Go Go.RowKit
set_option linter.unusedVariables false
set_option linter.unusedSimpArgs false
def rownerS_k0 (e0_12 : Int) : Option (Int) :=
  some ((-1) : Int)
def rownerS_l0 (tc : RTurnsS) (line : Int) (k0 : Int → Option (Int)) : Nat → Int → Option (Int)
  | 0 => fun _ => none
  | m + 1 => fun v0_12 => (bif decide (v0_12 < (((List.length tc.owner) : Nat) : Int)) then chk (0 ≤ v0_12 ∧ v0_12 < ((List.length (tc.owner) : Nat) : Int)) (chk ((nthR tc.owner v0_12).length = 2) ((bif decide ((nth (nthR tc.owner v0_12) 0) = line) then some (nth (nthR tc.owner v0_12) 1) else chk (inR (v0_12 + (1 : Int))) ((rownerS_l0 tc line k0 m) (v0_12 + (1 : Int)))))) else k0 v0_12)
def rownerS (tc : RTurnsS) (line : Int) : Option (Int) :=
  rownerS_l0 tc line (rownerS_k0 ) 64 0
noncomputable def C36 (p : List Nat) : Code := codeAt (bodyOf Try.f36) p
set_option maxRecDepth 100000 in
set_option maxHeartbeats 8000000 in
theorem ROwnerF_tr {W0 : World} {Γ : List Asn} (t : Nat) (tx : RTX) (tc : RTurnsS) (line : Int)  (y : Int) (H : rownerS tc line = some y) : Tr Try.prog 36 #[.pointer (some ⟨t, 0, none⟩), .int .i64 line] W0 ((RTurnsXA t tx tc) :: Γ) (fun r Δ => r = .int .i64 y ∧ Δ = (RTurnsXA t tx tc) :: Γ) := by
  unfold rownerS at H
  refine Tr.enter (fn := Try.f36) (c := C36 []) (args := [.pointer (some ⟨t, 0, none⟩), .int .i64 line]) 23 Try.func36 (by kernel_rfl) (by kernel_rfl) ?_
  refine At.env [(0, .pointer (some ⟨t, 0, none⟩)), (1, .int .i64 line)] ⟨by kernel_rfl, by kernel_rfl, trivial⟩ ?_
  refine at_seq (x := C36 [0]) (y := C36 [1]) (by kernel_rfl) ?_
  refine at_region (id := 0) 1 (by kernel_rfl) (by kernel_rfl) ?_
  refine s_pure 4 (.int .i64 (0)) (by kernel_rfl) (by kernel_rfl) (fun _ => by kernel_rfl) ?_
  refine ops_end ?_
  refine At.env [(0, .pointer (some ⟨t, 0, none⟩)), (1, .int .i64 line)] ⟨by kernel_rfl, by kernel_rfl, trivial⟩ ?_
  refine at_then_normal ?_
  refine at_seq (x := C36 [1,0]) (y := C36 [1,1]) (by kernel_rfl) ?_
  refine at_seq (x := C36 [1,0,0]) (y := C36 [1,0,1]) (by kernel_rfl) ?_
  refine at_region (id := 1) 6 (by kernel_rfl) (by kernel_rfl) ?_
  refine s_pure 7 (.pointer (some ⟨t, 0, none⟩)) (by kernel_rfl) (by kernel_rfl) (fun _ => by kernel_rfl) ?_
  refine s_pure 8 (.pointer (some ⟨t, 0, none⟩)) (by kernel_rfl) (by kernel_rfl) (fun _ => by kernel_rfl) ?_
  refine s_pure 9 (.pointer (some ⟨t, 0, none⟩)) (by kernel_rfl) (by kernel_rfl) (fun _ => by kernel_rfl) ?_
  refine RTurnsXA.open .here ?_
  refine s_load 10 (.slice tx.1.1 (List.length tc.owner) tx.1.2) (by kernel_rfl) (by kernel_rfl) (load1 (off := 0) (fun _ => by kernel_rfl) (holds_own .here) (by kernel_rfl)) ?_
  refine s_pure 11 (.int .i64 (((List.length tc.owner) : Nat) : Int)) (by kernel_rfl) (by kernel_rfl) (fun _ => by kernel_rfl) ?_
  refine s_pure 12 (.int .i64 (0)) (by kernel_rfl) (by kernel_rfl) (fun _ => by kernel_rfl) ?_
  refine ops_end ?_
  refine At.env [(1, .int .i64 line), (10, .slice tx.1.1 (List.length tc.owner) tx.1.2), (11, .int .i64 (((List.length tc.owner) : Nat) : Int)), (12, .int .i64 (0))] ⟨by kernel_rfl, by kernel_rfl, by kernel_rfl, by kernel_rfl, trivial⟩ ?_
  refine at_then_normal ?_
  refine at_block (i := 0) (x := C36 [1,0,1,0]) (by kernel_rfl) ?_
  refine At.conv (Γ' := (RTurnsXA t tx tc) :: Γ) (fun w hw => RTurnsXA.close tx tc (Sat.less (.take .here (.take .here (.take .here .refl))) hw)) ?_
  refine At.conv (Γ' := (RTurnsXA t tx tc) :: Γ) (fun w hw => (Sat.less (.take .here .refl) hw)) ?_
  refine at_loopR (x := C36 [1,0,1,0,0]) (fun mm ff ΔΔ => ∃ (fuel : Nat) (v0_12 : Int), rownerS_l0 tc line (rownerS_k0 ) fuel v0_12 = some y ∧ fuel = mm ∧ ff = [(1, .int .i64 line), (10, .slice tx.1.1 (List.length tc.owner) tx.1.2), (11, .int .i64 (((List.length tc.owner) : Nat) : Int)), (12, .int .i64 v0_12)] ∧ (RTurnsXA t tx tc) :: Γ = ΔΔ) (64) (by kernel_rfl) [(1, .int .i64 line), (10, .slice tx.1.1 (List.length tc.owner) tx.1.2), (11, .int .i64 (((List.length tc.owner) : Nat) : Int)), (12, .int .i64 0)] ⟨by kernel_rfl, by kernel_rfl, by kernel_rfl, by kernel_rfl, trivial⟩ ⟨64, 0, H, rfl, rfl, rfl⟩ ?_
  rintro _ _ _ ⟨fuel1, v0_12, H, rfl, rfl, rfl⟩
  rcases fuel1 with _ | fuel1
  · exact (noneE H).elim
  rw [rownerS_l0] at H
  refine at_seq (x := C36 [1,0,1,0,0,0]) (y := C36 [1,0,1,0,0,1]) (by kernel_rfl) ?_
  refine at_region (id := 2) 1 (by kernel_rfl) (by kernel_rfl) ?_
  refine s_pure 13 (.bool (decide (v0_12 < (((List.length tc.owner) : Nat) : Int)))) (by kernel_rfl) (by kernel_rfl) (fun _ => by kernel_rfl) ?_
  refine ops_end ?_
  refine At.env [(1, .int .i64 line), (10, .slice tx.1.1 (List.length tc.owner) tx.1.2), (11, .int .i64 (((List.length tc.owner) : Nat) : Int)), (12, .int .i64 v0_12), (13, .bool (decide (v0_12 < (((List.length tc.owner) : Nat) : Int))))] ⟨by kernel_rfl, by kernel_rfl, by kernel_rfl, by kernel_rfl, by kernel_rfl, trivial⟩ ?_
  refine at_then_normal ?_
  refine at_seq (x := C36 [1,0,1,0,0,1,0]) (y := C36 [1,0,1,0,0,1,1]) (by kernel_rfl) ?_
  rcases Bool.eq_false_or_eq_true (decide (v0_12 < (((List.length tc.owner) : Nat) : Int))) with h1 | h1
  · replace H := bifT H h1
    refine at_true (t := decide (v0_12 < (((List.length tc.owner) : Nat) : Int))) (x := C36 [1,0,1,0,0,1,0,0]) (y := C36 [1,0,1,0,0,1,0,1]) (o := .tmp 13) (by kernel_rfl) (by kernel_rfl) (by kernel_rfl) h1 ?_
    refine at_skip (by kernel_rfl) ?_
    refine at_then_normal ?_
    refine at_seq (x := C36 [1,0,1,0,0,1,1,0]) (y := C36 [1,0,1,0,0,1,1,1]) (by kernel_rfl) ?_
    refine at_block (i := 1) (x := C36 [1,0,1,0,0,1,1,0,0]) (by kernel_rfl) ?_
    refine at_seq (x := C36 [1,0,1,0,0,1,1,0,0,0]) (y := C36 [1,0,1,0,0,1,1,0,0,1]) (by kernel_rfl) ?_
    refine at_region (id := 3) 4 (by kernel_rfl) (by kernel_rfl) ?_
    refine RTurnsXA.open .here ?_
    obtain ⟨hc3_0_0, H⟩ := chkE H
    refine rows_at (.there .here) (by have := hc3_0_0; rw [rowsV_len]; omega) ?_
    intro bb1 oo1 ha1
    refine s_pure 14 (.pointer (some ⟨bb1, oo1 + ((v0_12).toNat * 2), none⟩)) (by kernel_rfl) (by kernel_rfl) (index_at (t := 64) (sz := 2) (E := 86) (a := tx.1.1) (m := (List.length tc.owner)) (c := tx.1.2) (b := bb1) (off := oo1) (i := (v0_12).toNat) (tinfo 86) (fun _ => by kernel_rfl) (by kernel_rfl) (by kernel_rfl) (by kernel_rfl) ha1 (idx_cast hc3_0_0) (idx_nat hc3_0_0) rfl) ?_
    obtain ⟨hc3_1_0, H⟩ := chkE H
    refine s_load 15 (.agg #[.int .i64 (nth (nthR tc.owner v0_12) 0), .int .i64 (nth (nthR tc.owner v0_12) 1)]) (by kernel_rfl) (by kernel_rfl) (loadN_at (k := 2) (row := [.int .i64 (nth (nthR tc.owner v0_12) 0), .int .i64 (nth (nthR tc.owner v0_12) 1)]) (off := oo1) (i := (v0_12).toNat) (fun _ => by kernel_rfl) rfl rfl (fun j v hj => rows_cell (k := 2) (.there .here) ha1 (rowsV_get hc3_0_0) (by rw [rowV_2 hc3_1_0]; exact hj))) ?_
    refine s_step 6 (by kernel_rfl) (by kernel_rfl) (st_new (T := 86) (cells := #[.int .i64 (0), .int .i64 (0)]) (fun a => .pointer (some a)) (fun _ => by kernel_rfl)) ?_
    rintro _ _ ⟨b3_2, rfl, rfl⟩
    refine s_do (by kernel_rfl) (by kernel_rfl) (st_store (off := 0) (vs := [.int .i64 (nth (nthR tc.owner v0_12) 0), .int .i64 (nth (nthR tc.owner v0_12) 1)]) (c' := #[.int .i64 (nth (nthR tc.owner v0_12) 0), .int .i64 (nth (nthR tc.owner v0_12) 1)]) (fun _ => by kernel_rfl) .here (by kernel_rfl) (by kernel_rfl) (by kernel_rfl)) ?_
    rintro _ _ ⟨rfl, rfl⟩
    refine ops_end ?_
    refine At.env [(1, .int .i64 line), (6, .pointer (some ⟨b3_2, 0, none⟩)), (10, .slice tx.1.1 (List.length tc.owner) tx.1.2), (11, .int .i64 (((List.length tc.owner) : Nat) : Int)), (12, .int .i64 v0_12)] ⟨by kernel_rfl, by kernel_rfl, by kernel_rfl, by kernel_rfl, by kernel_rfl, trivial⟩ ?_
    refine at_then_normal ?_
    refine at_seq (x := C36 [1,0,1,0,0,1,1,0,0,1,0]) (y := C36 [1,0,1,0,0,1,1,0,0,1,1]) (by kernel_rfl) ?_
    refine at_region (id := 4) 4 (by kernel_rfl) (by kernel_rfl) ?_
    refine s_pure 16 (.pointer (some ⟨b3_2, 0, none⟩)) (by kernel_rfl) (by kernel_rfl) (fun _ => by kernel_rfl) ?_
    refine s_load 17 (.int .i64 (nth (nthR tc.owner v0_12) 0)) (by kernel_rfl) (by kernel_rfl) (load1 (off := 0) (fun _ => by kernel_rfl) (holds_own .here) (by kernel_rfl)) ?_
    refine s_pure 18 (.int .i64 line) (by kernel_rfl) (by kernel_rfl) (fun _ => by kernel_rfl) ?_
    refine s_pure 19 (.bool (decide ((nth (nthR tc.owner v0_12) 0) = line))) (by kernel_rfl) (by kernel_rfl) (fun _ => by kernel_rfl) ?_
    refine ops_end ?_
    refine At.env [(1, .int .i64 line), (6, .pointer (some ⟨b3_2, 0, none⟩)), (10, .slice tx.1.1 (List.length tc.owner) tx.1.2), (11, .int .i64 (((List.length tc.owner) : Nat) : Int)), (12, .int .i64 v0_12), (19, .bool (decide ((nth (nthR tc.owner v0_12) 0) = line)))] ⟨by kernel_rfl, by kernel_rfl, by kernel_rfl, by kernel_rfl, by kernel_rfl, by kernel_rfl, trivial⟩ ?_
    refine at_then_normal ?_
    rcases Bool.eq_false_or_eq_true (decide ((nth (nthR tc.owner v0_12) 0) = line)) with h2 | h2
    · replace H := bifT H h2
      refine at_true (t := decide ((nth (nthR tc.owner v0_12) 0) = line)) (x := C36 [1,0,1,0,0,1,1,0,0,1,1,0]) (y := C36 [1,0,1,0,0,1,1,0,0,1,1,1]) (o := .tmp 19) (by kernel_rfl) (by kernel_rfl) (by kernel_rfl) h2 ?_
      refine at_seq (x := C36 [1,0,1,0,0,1,1,0,0,1,1,0,0]) (y := C36 [1,0,1,0,0,1,1,0,0,1,1,0,1]) (by kernel_rfl) ?_
      refine at_region (id := 5) 3 (by kernel_rfl) (by kernel_rfl) ?_
      refine s_pure 20 (.pointer (some ⟨b3_2, 1, none⟩)) (by kernel_rfl) (by kernel_rfl) (fun _ => by kernel_rfl) ?_
      refine s_load 21 (.int .i64 (nth (nthR tc.owner v0_12) 1)) (by kernel_rfl) (by kernel_rfl) (load1 (off := 1) (fun _ => by kernel_rfl) (holds_own .here) (by kernel_rfl)) ?_
      refine s_pure 4 (.int .i64 (nth (nthR tc.owner v0_12) 1)) (by kernel_rfl) (by kernel_rfl) (fun _ => by kernel_rfl) ?_
      refine ops_end ?_
      refine At.env [(4, .int .i64 (nth (nthR tc.owner v0_12) 1))] ⟨by kernel_rfl, trivial⟩ ?_
      refine at_then_normal ?_
      refine at_ret (by kernel_rfl) ?_
      refine at_in_ret ?_
      refine at_then_ret ?_
      refine at_then_ret ?_
      refine at_in_ret ?_
      refine at_then_ret ?_
      refine At.conv (Γ' := (RTurnsXA t tx tc) :: (Asn.own b3_2 (.cells #[.int .i64 (nth (nthR tc.owner v0_12) 0), .int .i64 (nth (nthR tc.owner v0_12) 1)] 86 (0, 0))) :: Γ) (fun w hw => RTurnsXA.close tx tc (Sat.less (.take (.there .here) (.take (.there .here) (.take (.there .here) (.take .here .refl)))) hw)) ?_
      obtain rfl := someE H
      refine at_backR [.int .i64 (nth (nthR tc.owner v0_12) 1)] ((RTurnsXA t tx tc) :: Γ) (rs := [.tmp 4]) (by kernel_rfl) (.cons (.tmp (by kernel_rfl)) .nil) (fun w hw => (Sat.less (.take .here (.drop .here .refl)) hw)) ?_
      exact ⟨rfl, rfl⟩
    · replace H := bifF H h2
      refine at_false (t := decide ((nth (nthR tc.owner v0_12) 0) = line)) (x := C36 [1,0,1,0,0,1,1,0,0,1,1,0]) (y := C36 [1,0,1,0,0,1,1,0,0,1,1,1]) (o := .tmp 19) (by kernel_rfl) (by kernel_rfl) (by kernel_rfl) h2 ?_
      refine at_skip (by kernel_rfl) ?_
      refine at_in_normal ?_
      refine at_then_normal ?_
      refine at_region (id := 6) 2 (by kernel_rfl) (by kernel_rfl) ?_
      obtain ⟨hc6_0_0, H⟩ := chkE H
      refine s_pure 22 (.int .i64 (v0_12 + (1 : Int))) (by kernel_rfl) (by kernel_rfl) (run_eq (v := .int .i64 (IntKind.i64.wrap (v0_12 + (1 : Int)))) (fun _ => by kernel_rfl) (by rw [inR.wrap hc6_0_0])) ?_
      refine s_pure 12 (.int .i64 (v0_12 + (1 : Int))) (by kernel_rfl) (by kernel_rfl) (fun _ => by kernel_rfl) ?_
      refine ops_end ?_
      refine At.env [(1, .int .i64 line), (10, .slice tx.1.1 (List.length tc.owner) tx.1.2), (11, .int .i64 (((List.length tc.owner) : Nat) : Int)), (12, .int .i64 (v0_12 + (1 : Int)))] ⟨by kernel_rfl, by kernel_rfl, by kernel_rfl, by kernel_rfl, trivial⟩ ?_
      refine at_round_normal ?_
      refine At.conv (Γ' := (RTurnsXA t tx tc) :: (Asn.own b3_2 (.cells #[.int .i64 (nth (nthR tc.owner v0_12) 0), .int .i64 (nth (nthR tc.owner v0_12) 1)] 86 (0, 0))) :: Γ) (fun w hw => RTurnsXA.close tx tc (Sat.less (.take (.there .here) (.take (.there .here) (.take (.there .here) (.take .here .refl)))) hw)) ?_
      exact at_roundR fuel1 [(1, .int .i64 line), (10, .slice tx.1.1 (List.length tc.owner) tx.1.2), (11, .int .i64 (((List.length tc.owner) : Nat) : Int)), (12, .int .i64 (v0_12 + (1 : Int)))] ((RTurnsXA t tx tc) :: Γ) (Nat.lt_succ_self _) ⟨by kernel_rfl, by kernel_rfl, by kernel_rfl, by kernel_rfl, trivial⟩ (fun w hw => (Sat.less (.take .here (.drop .here .refl)) hw)) ⟨fuel1, v0_12 + (1 : Int), H, rfl, rfl, rfl⟩
  · replace H := bifF H h1
    refine at_false (t := decide (v0_12 < (((List.length tc.owner) : Nat) : Int))) (x := C36 [1,0,1,0,0,1,0,0]) (y := C36 [1,0,1,0,0,1,0,1]) (o := .tmp 13) (by kernel_rfl) (by kernel_rfl) (by kernel_rfl) h1 ?_
    refine at_exit (i := 0) (by kernel_rfl) ?_
    refine at_then_exit ?_
    refine at_then_exit ?_
    rw [rownerS_k0] at H
    refine At.env [(1, .int .i64 line), (10, .slice tx.1.1 (List.length tc.owner) tx.1.2), (11, .int .i64 (((List.length tc.owner) : Nat) : Int)), (12, .int .i64 v0_12)] ⟨by kernel_rfl, by kernel_rfl, by kernel_rfl, by kernel_rfl, trivial⟩ ?_
    refine At.conv (Γ' := (RTurnsXA t tx tc) :: Γ) (fun w hw => (Sat.less (.take .here .refl) hw)) ?_
    refine at_in_here ?_
    refine at_then_normal ?_
    refine at_seq (x := C36 [1,1,0]) (y := C36 [1,1,1]) (by kernel_rfl) ?_
    refine at_region (id := 7) 1 (by kernel_rfl) (by kernel_rfl) ?_
    refine s_pure 4 (.int .i64 (-1)) (by kernel_rfl) (by kernel_rfl) (fun _ => by kernel_rfl) ?_
    refine ops_end ?_
    refine At.env [(4, .int .i64 (-1))] ⟨by kernel_rfl, trivial⟩ ?_
    refine at_then_normal ?_
    refine at_ret (by kernel_rfl) ?_
    obtain rfl := someE H
    refine at_backR [.int .i64 (-1)] ((RTurnsXA t tx tc) :: Γ) (rs := [.tmp 4]) (by kernel_rfl) (.cons (.tmp (by kernel_rfl)) .nil) (fun w hw => (Sat.less (.take .here .refl) hw)) ?_
    exact ⟨rfl, rfl⟩
def rwaitingS_k0 (e0_5 : Int) (e0_13 : Int) : Option (Int) :=
  some e0_5
def rwaitingS_l0 (tc : RTurnsS) (line : Int) (k0 : Int → Int → Option (Int)) : Nat → Int → Int → Option (Int)
  | 0 => fun _ _ => none
  | m + 1 => fun v0_5 v0_13 => (bif decide (v0_13 < (((List.length tc.wait) : Nat) : Int)) then chk (0 ≤ v0_13 ∧ v0_13 < ((List.length (tc.wait) : Nat) : Int)) (chk ((nthR tc.wait v0_13).length = 3) ((bif decide ((nth (nthR tc.wait v0_13) 0) = line) then chk (inR (v0_5 + (1 : Int))) (chk (inR (v0_13 + (1 : Int))) ((rwaitingS_l0 tc line k0 m) (v0_5 + (1 : Int)) (v0_13 + (1 : Int)))) else chk (inR (v0_13 + (1 : Int))) ((rwaitingS_l0 tc line k0 m) v0_5 (v0_13 + (1 : Int)))))) else k0 v0_5 v0_13)
def rwaitingS (tc : RTurnsS) (line : Int) : Option (Int) :=
  rwaitingS_l0 tc line (rwaitingS_k0 ) 64 0 0
noncomputable def C40 (p : List Nat) : Code := codeAt (bodyOf Try.f40) p
set_option maxRecDepth 100000 in
set_option maxHeartbeats 8000000 in
theorem RWaitingF_tr {W0 : World} {Γ : List Asn} (t : Nat) (tx : RTX) (tc : RTurnsS) (line : Int)  (y : Int) (H : rwaitingS tc line = some y) : Tr Try.prog 40 #[.pointer (some ⟨t, 0, none⟩), .int .i64 line] W0 ((RTurnsXA t tx tc) :: Γ) (fun r Δ => r = .int .i64 y ∧ Δ = (RTurnsXA t tx tc) :: Γ) := by
  unfold rwaitingS at H
  refine Tr.enter (fn := Try.f40) (c := C40 []) (args := [.pointer (some ⟨t, 0, none⟩), .int .i64 line]) 25 Try.func40 (by kernel_rfl) (by kernel_rfl) ?_
  refine At.env [(0, .pointer (some ⟨t, 0, none⟩)), (1, .int .i64 line)] ⟨by kernel_rfl, by kernel_rfl, trivial⟩ ?_
  refine at_seq (x := C40 [0]) (y := C40 [1]) (by kernel_rfl) ?_
  refine at_region (id := 0) 1 (by kernel_rfl) (by kernel_rfl) ?_
  refine s_pure 4 (.int .i64 (0)) (by kernel_rfl) (by kernel_rfl) (fun _ => by kernel_rfl) ?_
  refine ops_end ?_
  refine At.env [(0, .pointer (some ⟨t, 0, none⟩)), (1, .int .i64 line)] ⟨by kernel_rfl, by kernel_rfl, trivial⟩ ?_
  refine at_then_normal ?_
  refine at_seq (x := C40 [1,0]) (y := C40 [1,1]) (by kernel_rfl) ?_
  refine at_region (id := 1) 1 (by kernel_rfl) (by kernel_rfl) ?_
  refine s_pure 5 (.int .i64 (0)) (by kernel_rfl) (by kernel_rfl) (fun _ => by kernel_rfl) ?_
  refine ops_end ?_
  refine At.env [(0, .pointer (some ⟨t, 0, none⟩)), (1, .int .i64 line), (5, .int .i64 (0))] ⟨by kernel_rfl, by kernel_rfl, by kernel_rfl, trivial⟩ ?_
  refine at_then_normal ?_
  refine at_seq (x := C40 [1,1,0]) (y := C40 [1,1,1]) (by kernel_rfl) ?_
  refine at_seq (x := C40 [1,1,0,0]) (y := C40 [1,1,0,1]) (by kernel_rfl) ?_
  refine at_region (id := 2) 6 (by kernel_rfl) (by kernel_rfl) ?_
  refine s_pure 8 (.pointer (some ⟨t, 0, none⟩)) (by kernel_rfl) (by kernel_rfl) (fun _ => by kernel_rfl) ?_
  refine s_pure 9 (.pointer (some ⟨t, 0, none⟩)) (by kernel_rfl) (by kernel_rfl) (fun _ => by kernel_rfl) ?_
  refine s_pure 10 (.pointer (some ⟨t, 1, none⟩)) (by kernel_rfl) (by kernel_rfl) (fun _ => by kernel_rfl) ?_
  refine RTurnsXA.open .here ?_
  refine s_load 11 (.slice tx.2.1.1 (List.length tc.wait) tx.2.1.2) (by kernel_rfl) (by kernel_rfl) (load1 (off := 1) (fun _ => by kernel_rfl) (holds_own .here) (by kernel_rfl)) ?_
  refine s_pure 12 (.int .i64 (((List.length tc.wait) : Nat) : Int)) (by kernel_rfl) (by kernel_rfl) (fun _ => by kernel_rfl) ?_
  refine s_pure 13 (.int .i64 (0)) (by kernel_rfl) (by kernel_rfl) (fun _ => by kernel_rfl) ?_
  refine ops_end ?_
  refine At.env [(1, .int .i64 line), (5, .int .i64 (0)), (11, .slice tx.2.1.1 (List.length tc.wait) tx.2.1.2), (12, .int .i64 (((List.length tc.wait) : Nat) : Int)), (13, .int .i64 (0))] ⟨by kernel_rfl, by kernel_rfl, by kernel_rfl, by kernel_rfl, by kernel_rfl, trivial⟩ ?_
  refine at_then_normal ?_
  refine at_block (i := 0) (x := C40 [1,1,0,1,0]) (by kernel_rfl) ?_
  refine At.conv (Γ' := (RTurnsXA t tx tc) :: Γ) (fun w hw => RTurnsXA.close tx tc (Sat.less (.take .here (.take .here (.take .here .refl))) hw)) ?_
  refine At.conv (Γ' := (RTurnsXA t tx tc) :: Γ) (fun w hw => (Sat.less (.take .here .refl) hw)) ?_
  refine at_loopR (x := C40 [1,1,0,1,0,0]) (fun mm ff ΔΔ => ∃ (fuel : Nat) (v0_5 : Int) (v0_13 : Int), rwaitingS_l0 tc line (rwaitingS_k0 ) fuel v0_5 v0_13 = some y ∧ fuel = mm ∧ ff = [(1, .int .i64 line), (5, .int .i64 v0_5), (11, .slice tx.2.1.1 (List.length tc.wait) tx.2.1.2), (12, .int .i64 (((List.length tc.wait) : Nat) : Int)), (13, .int .i64 v0_13)] ∧ (RTurnsXA t tx tc) :: Γ = ΔΔ) (64) (by kernel_rfl) [(1, .int .i64 line), (5, .int .i64 0), (11, .slice tx.2.1.1 (List.length tc.wait) tx.2.1.2), (12, .int .i64 (((List.length tc.wait) : Nat) : Int)), (13, .int .i64 0)] ⟨by kernel_rfl, by kernel_rfl, by kernel_rfl, by kernel_rfl, by kernel_rfl, trivial⟩ ⟨64, 0, 0, H, rfl, rfl, rfl⟩ ?_
  rintro _ _ _ ⟨fuel1, v0_5, v0_13, H, rfl, rfl, rfl⟩
  rcases fuel1 with _ | fuel1
  · exact (noneE H).elim
  rw [rwaitingS_l0] at H
  refine at_seq (x := C40 [1,1,0,1,0,0,0]) (y := C40 [1,1,0,1,0,0,1]) (by kernel_rfl) ?_
  refine at_region (id := 3) 1 (by kernel_rfl) (by kernel_rfl) ?_
  refine s_pure 14 (.bool (decide (v0_13 < (((List.length tc.wait) : Nat) : Int)))) (by kernel_rfl) (by kernel_rfl) (fun _ => by kernel_rfl) ?_
  refine ops_end ?_
  refine At.env [(1, .int .i64 line), (5, .int .i64 v0_5), (11, .slice tx.2.1.1 (List.length tc.wait) tx.2.1.2), (12, .int .i64 (((List.length tc.wait) : Nat) : Int)), (13, .int .i64 v0_13), (14, .bool (decide (v0_13 < (((List.length tc.wait) : Nat) : Int))))] ⟨by kernel_rfl, by kernel_rfl, by kernel_rfl, by kernel_rfl, by kernel_rfl, by kernel_rfl, trivial⟩ ?_
  refine at_then_normal ?_
  refine at_seq (x := C40 [1,1,0,1,0,0,1,0]) (y := C40 [1,1,0,1,0,0,1,1]) (by kernel_rfl) ?_
  rcases Bool.eq_false_or_eq_true (decide (v0_13 < (((List.length tc.wait) : Nat) : Int))) with h1 | h1
  · replace H := bifT H h1
    refine at_true (t := decide (v0_13 < (((List.length tc.wait) : Nat) : Int))) (x := C40 [1,1,0,1,0,0,1,0,0]) (y := C40 [1,1,0,1,0,0,1,0,1]) (o := .tmp 14) (by kernel_rfl) (by kernel_rfl) (by kernel_rfl) h1 ?_
    refine at_skip (by kernel_rfl) ?_
    refine at_then_normal ?_
    refine at_seq (x := C40 [1,1,0,1,0,0,1,1,0]) (y := C40 [1,1,0,1,0,0,1,1,1]) (by kernel_rfl) ?_
    refine at_block (i := 1) (x := C40 [1,1,0,1,0,0,1,1,0,0]) (by kernel_rfl) ?_
    refine at_seq (x := C40 [1,1,0,1,0,0,1,1,0,0,0]) (y := C40 [1,1,0,1,0,0,1,1,0,0,1]) (by kernel_rfl) ?_
    refine at_region (id := 4) 4 (by kernel_rfl) (by kernel_rfl) ?_
    refine RTurnsXA.open .here ?_
    obtain ⟨hc4_0_0, H⟩ := chkE H
    refine rows_at (.there (.there .here)) (by have := hc4_0_0; rw [rowsV_len]; omega) ?_
    intro bb1 oo1 ha1
    refine s_pure 15 (.pointer (some ⟨bb1, oo1 + ((v0_13).toNat * 3), none⟩)) (by kernel_rfl) (by kernel_rfl) (index_at (t := 65) (sz := 3) (E := 88) (a := tx.2.1.1) (m := (List.length tc.wait)) (c := tx.2.1.2) (b := bb1) (off := oo1) (i := (v0_13).toNat) (tinfo 88) (fun _ => by kernel_rfl) (by kernel_rfl) (by kernel_rfl) (by kernel_rfl) ha1 (idx_cast hc4_0_0) (idx_nat hc4_0_0) rfl) ?_
    obtain ⟨hc4_1_0, H⟩ := chkE H
    refine s_load 16 (.agg #[.int .i64 (nth (nthR tc.wait v0_13) 0), .int .i64 (nth (nthR tc.wait v0_13) 1), .int .i64 (nth (nthR tc.wait v0_13) 2)]) (by kernel_rfl) (by kernel_rfl) (loadN_at (k := 3) (row := [.int .i64 (nth (nthR tc.wait v0_13) 0), .int .i64 (nth (nthR tc.wait v0_13) 1), .int .i64 (nth (nthR tc.wait v0_13) 2)]) (off := oo1) (i := (v0_13).toNat) (fun _ => by kernel_rfl) rfl rfl (fun j v hj => rows_cell (k := 3) (.there (.there .here)) ha1 (rowsV_get hc4_0_0) (by rw [rowV_3 hc4_1_0]; exact hj))) ?_
    refine s_step 7 (by kernel_rfl) (by kernel_rfl) (st_new (T := 88) (cells := #[.int .i64 (0), .int .i64 (0), .int .i64 (0)]) (fun a => .pointer (some a)) (fun _ => by kernel_rfl)) ?_
    rintro _ _ ⟨b4_2, rfl, rfl⟩
    refine s_do (by kernel_rfl) (by kernel_rfl) (st_store (off := 0) (vs := [.int .i64 (nth (nthR tc.wait v0_13) 0), .int .i64 (nth (nthR tc.wait v0_13) 1), .int .i64 (nth (nthR tc.wait v0_13) 2)]) (c' := #[.int .i64 (nth (nthR tc.wait v0_13) 0), .int .i64 (nth (nthR tc.wait v0_13) 1), .int .i64 (nth (nthR tc.wait v0_13) 2)]) (fun _ => by kernel_rfl) .here (by kernel_rfl) (by kernel_rfl) (by kernel_rfl)) ?_
    rintro _ _ ⟨rfl, rfl⟩
    refine ops_end ?_
    refine At.env [(1, .int .i64 line), (5, .int .i64 v0_5), (7, .pointer (some ⟨b4_2, 0, none⟩)), (11, .slice tx.2.1.1 (List.length tc.wait) tx.2.1.2), (12, .int .i64 (((List.length tc.wait) : Nat) : Int)), (13, .int .i64 v0_13)] ⟨by kernel_rfl, by kernel_rfl, by kernel_rfl, by kernel_rfl, by kernel_rfl, by kernel_rfl, trivial⟩ ?_
    refine at_then_normal ?_
    refine at_seq (x := C40 [1,1,0,1,0,0,1,1,0,0,1,0]) (y := C40 [1,1,0,1,0,0,1,1,0,0,1,1]) (by kernel_rfl) ?_
    refine at_region (id := 5) 4 (by kernel_rfl) (by kernel_rfl) ?_
    refine s_pure 17 (.pointer (some ⟨b4_2, 0, none⟩)) (by kernel_rfl) (by kernel_rfl) (fun _ => by kernel_rfl) ?_
    refine s_load 18 (.int .i64 (nth (nthR tc.wait v0_13) 0)) (by kernel_rfl) (by kernel_rfl) (load1 (off := 0) (fun _ => by kernel_rfl) (holds_own .here) (by kernel_rfl)) ?_
    refine s_pure 19 (.int .i64 line) (by kernel_rfl) (by kernel_rfl) (fun _ => by kernel_rfl) ?_
    refine s_pure 20 (.bool (decide ((nth (nthR tc.wait v0_13) 0) = line))) (by kernel_rfl) (by kernel_rfl) (fun _ => by kernel_rfl) ?_
    refine ops_end ?_
    refine At.env [(1, .int .i64 line), (5, .int .i64 v0_5), (11, .slice tx.2.1.1 (List.length tc.wait) tx.2.1.2), (12, .int .i64 (((List.length tc.wait) : Nat) : Int)), (13, .int .i64 v0_13), (20, .bool (decide ((nth (nthR tc.wait v0_13) 0) = line)))] ⟨by kernel_rfl, by kernel_rfl, by kernel_rfl, by kernel_rfl, by kernel_rfl, by kernel_rfl, trivial⟩ ?_
    refine at_then_normal ?_
    rcases Bool.eq_false_or_eq_true (decide ((nth (nthR tc.wait v0_13) 0) = line)) with h2 | h2
    · replace H := bifT H h2
      refine at_true (t := decide ((nth (nthR tc.wait v0_13) 0) = line)) (x := C40 [1,1,0,1,0,0,1,1,0,0,1,1,0]) (y := C40 [1,1,0,1,0,0,1,1,0,0,1,1,1]) (o := .tmp 20) (by kernel_rfl) (by kernel_rfl) (by kernel_rfl) h2 ?_
      refine at_region (id := 6) 3 (by kernel_rfl) (by kernel_rfl) ?_
      refine s_pure 21 (.int .i64 v0_5) (by kernel_rfl) (by kernel_rfl) (fun _ => by kernel_rfl) ?_
      obtain ⟨hc6_1_0, H⟩ := chkE H
      refine s_pure 22 (.int .i64 (v0_5 + (1 : Int))) (by kernel_rfl) (by kernel_rfl) (run_eq (v := .int .i64 (IntKind.i64.wrap (v0_5 + (1 : Int)))) (fun _ => by kernel_rfl) (by rw [inR.wrap hc6_1_0])) ?_
      refine s_pure 5 (.int .i64 (v0_5 + (1 : Int))) (by kernel_rfl) (by kernel_rfl) (fun _ => by kernel_rfl) ?_
      refine ops_end ?_
      refine At.env [(1, .int .i64 line), (5, .int .i64 (v0_5 + (1 : Int))), (11, .slice tx.2.1.1 (List.length tc.wait) tx.2.1.2), (12, .int .i64 (((List.length tc.wait) : Nat) : Int)), (13, .int .i64 v0_13)] ⟨by kernel_rfl, by kernel_rfl, by kernel_rfl, by kernel_rfl, by kernel_rfl, trivial⟩ ?_
      refine at_in_normal ?_
      refine at_then_normal ?_
      refine at_region (id := 7) 2 (by kernel_rfl) (by kernel_rfl) ?_
      obtain ⟨hc7_0_0, H⟩ := chkE H
      refine s_pure 23 (.int .i64 (v0_13 + (1 : Int))) (by kernel_rfl) (by kernel_rfl) (run_eq (v := .int .i64 (IntKind.i64.wrap (v0_13 + (1 : Int)))) (fun _ => by kernel_rfl) (by rw [inR.wrap hc7_0_0])) ?_
      refine s_pure 13 (.int .i64 (v0_13 + (1 : Int))) (by kernel_rfl) (by kernel_rfl) (fun _ => by kernel_rfl) ?_
      refine ops_end ?_
      refine At.env [(1, .int .i64 line), (5, .int .i64 (v0_5 + (1 : Int))), (11, .slice tx.2.1.1 (List.length tc.wait) tx.2.1.2), (12, .int .i64 (((List.length tc.wait) : Nat) : Int)), (13, .int .i64 (v0_13 + (1 : Int)))] ⟨by kernel_rfl, by kernel_rfl, by kernel_rfl, by kernel_rfl, by kernel_rfl, trivial⟩ ?_
      refine at_round_normal ?_
      refine At.conv (Γ' := (RTurnsXA t tx tc) :: (Asn.own b4_2 (.cells #[.int .i64 (nth (nthR tc.wait v0_13) 0), .int .i64 (nth (nthR tc.wait v0_13) 1), .int .i64 (nth (nthR tc.wait v0_13) 2)] 88 (0, 0))) :: Γ) (fun w hw => RTurnsXA.close tx tc (Sat.less (.take (.there .here) (.take (.there .here) (.take (.there .here) (.take .here .refl)))) hw)) ?_
      exact at_roundR fuel1 [(1, .int .i64 line), (5, .int .i64 (v0_5 + (1 : Int))), (11, .slice tx.2.1.1 (List.length tc.wait) tx.2.1.2), (12, .int .i64 (((List.length tc.wait) : Nat) : Int)), (13, .int .i64 (v0_13 + (1 : Int)))] ((RTurnsXA t tx tc) :: Γ) (Nat.lt_succ_self _) ⟨by kernel_rfl, by kernel_rfl, by kernel_rfl, by kernel_rfl, by kernel_rfl, trivial⟩ (fun w hw => (Sat.less (.take .here (.drop .here .refl)) hw)) ⟨fuel1, v0_5 + (1 : Int), v0_13 + (1 : Int), H, rfl, rfl, rfl⟩
    · replace H := bifF H h2
      refine at_false (t := decide ((nth (nthR tc.wait v0_13) 0) = line)) (x := C40 [1,1,0,1,0,0,1,1,0,0,1,1,0]) (y := C40 [1,1,0,1,0,0,1,1,0,0,1,1,1]) (o := .tmp 20) (by kernel_rfl) (by kernel_rfl) (by kernel_rfl) h2 ?_
      refine at_skip (by kernel_rfl) ?_
      refine at_in_normal ?_
      refine at_then_normal ?_
      refine at_region (id := 7) 2 (by kernel_rfl) (by kernel_rfl) ?_
      obtain ⟨hc7_0_0, H⟩ := chkE H
      refine s_pure 23 (.int .i64 (v0_13 + (1 : Int))) (by kernel_rfl) (by kernel_rfl) (run_eq (v := .int .i64 (IntKind.i64.wrap (v0_13 + (1 : Int)))) (fun _ => by kernel_rfl) (by rw [inR.wrap hc7_0_0])) ?_
      refine s_pure 13 (.int .i64 (v0_13 + (1 : Int))) (by kernel_rfl) (by kernel_rfl) (fun _ => by kernel_rfl) ?_
      refine ops_end ?_
      refine At.env [(1, .int .i64 line), (5, .int .i64 v0_5), (11, .slice tx.2.1.1 (List.length tc.wait) tx.2.1.2), (12, .int .i64 (((List.length tc.wait) : Nat) : Int)), (13, .int .i64 (v0_13 + (1 : Int)))] ⟨by kernel_rfl, by kernel_rfl, by kernel_rfl, by kernel_rfl, by kernel_rfl, trivial⟩ ?_
      refine at_round_normal ?_
      refine At.conv (Γ' := (RTurnsXA t tx tc) :: (Asn.own b4_2 (.cells #[.int .i64 (nth (nthR tc.wait v0_13) 0), .int .i64 (nth (nthR tc.wait v0_13) 1), .int .i64 (nth (nthR tc.wait v0_13) 2)] 88 (0, 0))) :: Γ) (fun w hw => RTurnsXA.close tx tc (Sat.less (.take (.there .here) (.take (.there .here) (.take (.there .here) (.take .here .refl)))) hw)) ?_
      exact at_roundR fuel1 [(1, .int .i64 line), (5, .int .i64 v0_5), (11, .slice tx.2.1.1 (List.length tc.wait) tx.2.1.2), (12, .int .i64 (((List.length tc.wait) : Nat) : Int)), (13, .int .i64 (v0_13 + (1 : Int)))] ((RTurnsXA t tx tc) :: Γ) (Nat.lt_succ_self _) ⟨by kernel_rfl, by kernel_rfl, by kernel_rfl, by kernel_rfl, by kernel_rfl, trivial⟩ (fun w hw => (Sat.less (.take .here (.drop .here .refl)) hw)) ⟨fuel1, v0_5, v0_13 + (1 : Int), H, rfl, rfl, rfl⟩
  · replace H := bifF H h1
    refine at_false (t := decide (v0_13 < (((List.length tc.wait) : Nat) : Int))) (x := C40 [1,1,0,1,0,0,1,0,0]) (y := C40 [1,1,0,1,0,0,1,0,1]) (o := .tmp 14) (by kernel_rfl) (by kernel_rfl) (by kernel_rfl) h1 ?_
    refine at_exit (i := 0) (by kernel_rfl) ?_
    refine at_then_exit ?_
    refine at_then_exit ?_
    rw [rwaitingS_k0] at H
    refine At.env [(1, .int .i64 line), (5, .int .i64 v0_5), (11, .slice tx.2.1.1 (List.length tc.wait) tx.2.1.2), (12, .int .i64 (((List.length tc.wait) : Nat) : Int)), (13, .int .i64 v0_13)] ⟨by kernel_rfl, by kernel_rfl, by kernel_rfl, by kernel_rfl, by kernel_rfl, trivial⟩ ?_
    refine At.conv (Γ' := (RTurnsXA t tx tc) :: Γ) (fun w hw => (Sat.less (.take .here .refl) hw)) ?_
    refine at_in_here ?_
    refine at_then_normal ?_
    refine at_seq (x := C40 [1,1,1,0]) (y := C40 [1,1,1,1]) (by kernel_rfl) ?_
    refine at_region (id := 8) 2 (by kernel_rfl) (by kernel_rfl) ?_
    refine s_pure 24 (.int .i64 v0_5) (by kernel_rfl) (by kernel_rfl) (fun _ => by kernel_rfl) ?_
    refine s_pure 4 (.int .i64 v0_5) (by kernel_rfl) (by kernel_rfl) (fun _ => by kernel_rfl) ?_
    refine ops_end ?_
    refine At.env [(4, .int .i64 v0_5)] ⟨by kernel_rfl, trivial⟩ ?_
    refine at_then_normal ?_
    refine at_ret (by kernel_rfl) ?_
    obtain rfl := someE H
    refine at_backR [.int .i64 v0_5] ((RTurnsXA t tx tc) :: Γ) (rs := [.tmp 4]) (by kernel_rfl) (.cons (.tmp (by kernel_rfl)) .nil) (fun w hw => (Sat.less (.take .here .refl) hw)) ?_
    exact ⟨rfl, rfl⟩
def raskS (tc : RTurnsS) (line : Int) (who : Int) (id : Int) : Option (Bool × RTurnsS) :=
  (bif decide (who < (0 : Int)) then some (false, tc) else (rownerS tc line).bind fun y3_2 => (bif decide (y3_2 = ((-1) : Int)) then (rwaitingS tc line).bind fun y3_7 => (bif decide (y3_7 = (0 : Int)) then chk ((tc.owner ++ ([[line, who]])).length ≤ 1099511627776) (letP (tc.owner ++ ([[line, who]])) fun l4_9 => some (true, (⟨l4_9, tc.wait⟩ : RTurnsS))) else chk ((tc.wait ++ ([[line, who, id]])).length ≤ 1099511627776) (letP (tc.wait ++ ([[line, who, id]])) fun l6_10 => some (false, (⟨tc.owner, l6_10⟩ : RTurnsS)))) else chk ((tc.wait ++ ([[line, who, id]])).length ≤ 1099511627776) (letP (tc.wait ++ ([[line, who, id]])) fun l6_10 => some (false, (⟨tc.owner, l6_10⟩ : RTurnsS)))))
noncomputable def C35 (p : List Nat) : Code := codeAt (bodyOf Try.f35) p
set_option maxRecDepth 100000 in
set_option maxHeartbeats 8000000 in
theorem RAskF_tr {W0 : World} {Γ : List Asn} (t : Nat) (tc : RTurnsS) (line : Int) (who : Int) (id : Int)  (y : Bool × RTurnsS) (H : raskS tc line who id = some y) : Tr Try.prog 35 #[.pointer (some ⟨t, 0, none⟩), .int .i64 line, .int .i64 who, .int .i64 id] W0 ((RTurnsA t tc) :: Γ) (fun r Δ => r = .bool y.1 ∧ Δ = (RTurnsA t y.2) :: Γ) := by
  unfold raskS at H
  refine Tr.enter (fn := Try.f35) (c := C35 []) (args := [.pointer (some ⟨t, 0, none⟩), .int .i64 line, .int .i64 who, .int .i64 id]) 46 Try.func35 (by kernel_rfl) (by kernel_rfl) ?_
  refine At.env [(0, .pointer (some ⟨t, 0, none⟩)), (1, .int .i64 line), (2, .int .i64 who), (3, .int .i64 id)] ⟨by kernel_rfl, by kernel_rfl, by kernel_rfl, by kernel_rfl, trivial⟩ ?_
  refine at_seq (x := C35 [0]) (y := C35 [1]) (by kernel_rfl) ?_
  refine at_region (id := 0) 1 (by kernel_rfl) (by kernel_rfl) ?_
  refine s_pure 8 (.bool false) (by kernel_rfl) (by kernel_rfl) (fun _ => by kernel_rfl) ?_
  refine ops_end ?_
  refine At.env [(0, .pointer (some ⟨t, 0, none⟩)), (1, .int .i64 line), (2, .int .i64 who), (3, .int .i64 id)] ⟨by kernel_rfl, by kernel_rfl, by kernel_rfl, by kernel_rfl, trivial⟩ ?_
  refine at_then_normal ?_
  refine at_seq (x := C35 [1,0]) (y := C35 [1,1]) (by kernel_rfl) ?_
  refine at_seq (x := C35 [1,0,0]) (y := C35 [1,0,1]) (by kernel_rfl) ?_
  refine at_region (id := 1) 2 (by kernel_rfl) (by kernel_rfl) ?_
  refine s_pure 9 (.int .i64 who) (by kernel_rfl) (by kernel_rfl) (fun _ => by kernel_rfl) ?_
  refine s_pure 10 (.bool (decide (who < (0 : Int)))) (by kernel_rfl) (by kernel_rfl) (fun _ => by kernel_rfl) ?_
  refine ops_end ?_
  refine At.env [(0, .pointer (some ⟨t, 0, none⟩)), (1, .int .i64 line), (2, .int .i64 who), (3, .int .i64 id), (10, .bool (decide (who < (0 : Int))))] ⟨by kernel_rfl, by kernel_rfl, by kernel_rfl, by kernel_rfl, by kernel_rfl, trivial⟩ ?_
  refine at_then_normal ?_
  rcases Bool.eq_false_or_eq_true (decide (who < (0 : Int))) with h1 | h1
  · replace H := bifT H h1
    refine at_true (t := decide (who < (0 : Int))) (x := C35 [1,0,1,0]) (y := C35 [1,0,1,1]) (o := .tmp 10) (by kernel_rfl) (by kernel_rfl) (by kernel_rfl) h1 ?_
    refine at_seq (x := C35 [1,0,1,0,0]) (y := C35 [1,0,1,0,1]) (by kernel_rfl) ?_
    refine at_region (id := 2) 1 (by kernel_rfl) (by kernel_rfl) ?_
    refine s_pure 8 (.bool false) (by kernel_rfl) (by kernel_rfl) (fun _ => by kernel_rfl) ?_
    refine ops_end ?_
    refine At.env [(8, .bool false)] ⟨by kernel_rfl, trivial⟩ ?_
    refine at_then_normal ?_
    refine at_ret (by kernel_rfl) ?_
    refine at_then_ret ?_
    obtain rfl := someE H
    refine at_backR [.bool false] ((RTurnsA t tc) :: Γ) (rs := [.tmp 8]) (by kernel_rfl) (.cons (.tmp (by kernel_rfl)) .nil) (fun w hw => (Sat.less (.take .here .refl) hw)) ?_
    exact ⟨rfl, rfl⟩
  · replace H := bifF H h1
    refine at_false (t := decide (who < (0 : Int))) (x := C35 [1,0,1,0]) (y := C35 [1,0,1,1]) (o := .tmp 10) (by kernel_rfl) (by kernel_rfl) (by kernel_rfl) h1 ?_
    refine at_skip (by kernel_rfl) ?_
    refine at_then_normal ?_
    refine at_seq (x := C35 [1,1,0]) (y := C35 [1,1,1]) (by kernel_rfl) ?_
    refine at_seq (x := C35 [1,1,0,0]) (y := C35 [1,1,0,1]) (by kernel_rfl) ?_
    refine at_region (id := 3) 10 (by kernel_rfl) (by kernel_rfl) ?_
    refine s_pure 11 (.pointer (some ⟨t, 0, none⟩)) (by kernel_rfl) (by kernel_rfl) (fun _ => by kernel_rfl) ?_
    refine s_pure 12 (.int .i64 line) (by kernel_rfl) (by kernel_rfl) (fun _ => by kernel_rfl) ?_
    refine RTurnsA.tox .here ?_
    intro x3_2
    obtain ⟨y3_2, hy3_2, H⟩ := bindE H
    refine s_call 13 36 #[.pointer (some ⟨t, 0, none⟩), .int .i64 line] (by kernel_rfl) (by kernel_rfl) (fun _ => by kernel_rfl) (ROwnerF_tr t x3_2 tc line y3_2 hy3_2) ?_
    rintro _ _ ⟨rfl, rfl⟩
    refine s_pure 14 (.bool (decide (y3_2 = ((-1) : Int)))) (by kernel_rfl) (by kernel_rfl) (fun _ => by kernel_rfl) ?_
    rcases Bool.eq_false_or_eq_true (decide (y3_2 = ((-1) : Int))) with h2 | h2
    · replace H := bifT H h2
      refine s_pure 15 (.bool true) (by kernel_rfl) (by kernel_rfl) (run_eq (v := .bool (decide (y3_2 = ((-1) : Int)))) (fun _ => by kernel_rfl) (congrArg Value.bool h2)) ?_
      refine s_pure 16 (.pointer (some ⟨t, 0, none⟩)) (by kernel_rfl) (by kernel_rfl) (fun _ => by kernel_rfl) ?_
      refine s_pure 17 (.int .i64 line) (by kernel_rfl) (by kernel_rfl) (fun _ => by kernel_rfl) ?_
      obtain ⟨y3_7, hy3_7, H⟩ := bindE H
      refine s_call 18 40 #[.pointer (some ⟨t, 0, none⟩), .int .i64 line] (by kernel_rfl) (by kernel_rfl) (fun _ => by kernel_rfl) (RWaitingF_tr t x3_2 tc line y3_7 hy3_7) ?_
      rintro _ _ ⟨rfl, rfl⟩
      refine s_pure 19 (.bool (decide (y3_7 = (0 : Int)))) (by kernel_rfl) (by kernel_rfl) (fun _ => by kernel_rfl) ?_
      refine s_pure 20 (.bool (decide (y3_7 = (0 : Int)))) (by kernel_rfl) (by kernel_rfl) (fun _ => by kernel_rfl) ?_
      refine ops_end ?_
      refine At.env [(0, .pointer (some ⟨t, 0, none⟩)), (1, .int .i64 line), (2, .int .i64 who), (3, .int .i64 id), (20, .bool (decide (y3_7 = (0 : Int))))] ⟨by kernel_rfl, by kernel_rfl, by kernel_rfl, by kernel_rfl, by kernel_rfl, trivial⟩ ?_
      refine at_then_normal ?_
      rcases Bool.eq_false_or_eq_true (decide (y3_7 = (0 : Int))) with h3 | h3
      · replace H := bifT H h3
        refine at_true (t := decide (y3_7 = (0 : Int))) (x := C35 [1,1,0,1,0]) (y := C35 [1,1,0,1,1]) (o := .tmp 20) (by kernel_rfl) (by kernel_rfl) (by kernel_rfl) h3 ?_
        refine at_seq (x := C35 [1,1,0,1,0,0]) (y := C35 [1,1,0,1,0,1]) (by kernel_rfl) ?_
        refine at_region (id := 4) 13 (by kernel_rfl) (by kernel_rfl) ?_
        refine s_pure 21 (.pointer (some ⟨t, 0, none⟩)) (by kernel_rfl) (by kernel_rfl) (fun _ => by kernel_rfl) ?_
        refine s_pure 22 (.pointer (some ⟨t, 0, none⟩)) (by kernel_rfl) (by kernel_rfl) (fun _ => by kernel_rfl) ?_
        refine s_pure 23 (.pointer (some ⟨t, 0, none⟩)) (by kernel_rfl) (by kernel_rfl) (fun _ => by kernel_rfl) ?_
        refine s_pure 24 (.pointer (some ⟨t, 0, none⟩)) (by kernel_rfl) (by kernel_rfl) (fun _ => by kernel_rfl) ?_
        refine RTurnsXA.open .here ?_
        refine s_load 25 (.slice x3_2.1.1 (List.length tc.owner) x3_2.1.2) (by kernel_rfl) (by kernel_rfl) (load1 (off := 0) (fun _ => by kernel_rfl) (holds_own .here) (by kernel_rfl)) ?_
        refine s_pure 26 (.int .i64 line) (by kernel_rfl) (by kernel_rfl) (fun _ => by kernel_rfl) ?_
        refine s_pure 27 (.int .i64 who) (by kernel_rfl) (by kernel_rfl) (fun _ => by kernel_rfl) ?_
        refine s_pure 28 (.agg #[.int .i64 line, .int .i64 who]) (by kernel_rfl) (by kernel_rfl) (fun _ => by kernel_rfl) ?_
        refine s_step 29 (by kernel_rfl) (by kernel_rfl) (st_new (T := 86) (cells := #[.int .i64 line, .int .i64 who]) (fun a => .slice (some a) 1 1) (fun _ => by kernel_rfl)) ?_
        rintro _ _ ⟨b4_8, rfl, rfl⟩
        obtain ⟨hc4_9_0, H⟩ := chkE H
        obtain ⟨l4_9, hl4_9, H⟩ := letE H
        refine s_step 30 (by kernel_rfl) (by kernel_rfl) (st_append_rows (k := 2) (m1 := (List.length tc.owner)) (m2 := 1) (cap2 := 1) (xs := tc.owner) (ys := [[line, who]]) (zs := l4_9) (info := tinfo 86) 16 (.agg #[.int .i64 0, .int .i64 0]) (m := List.length l4_9) 64 64 86 (fun _ => by kernel_rfl) (by kernel_rfl) (by kernel_rfl) (by kernel_rfl) (by kernel_rfl) (by kernel_rfl) (by kernel_rfl) (by kernel_rfl) (by decide) (.there (.there .here)) (Reads.own (rows := rowsV [[line, who]]) .here rfl) (by intro x hx; rw [List.mem_singleton] at hx; subst hx; rfl) rfl rfl rfl hl4_9 (by rw [← hl4_9]; exact hc4_9_0)) ?_
        rintro _ _ ⟨a4_9, c4_9, rfl, rfl⟩
        refine s_pure 31 (.pointer (some ⟨t, 0, none⟩)) (by kernel_rfl) (by kernel_rfl) (fun _ => by kernel_rfl) ?_
        refine s_pure 32 (.pointer (some ⟨t, 0, none⟩)) (by kernel_rfl) (by kernel_rfl) (fun _ => by kernel_rfl) ?_
        refine s_do (by kernel_rfl) (by kernel_rfl) (st_store (off := 0) (vs := [.slice a4_9 (List.length l4_9) c4_9]) (c' := #[.slice a4_9 (List.length l4_9) c4_9, .slice x3_2.2.1.1 (List.length tc.wait) x3_2.2.1.2]) (fun _ => by kernel_rfl) (.there (.there .here)) (by kernel_rfl) (by kernel_rfl) (by kernel_rfl)) ?_
        rintro _ _ ⟨rfl, rfl⟩
        refine ops_end ?_
        refine At.env [] trivial ?_
        refine at_then_normal ?_
        refine at_seq (x := C35 [1,1,0,1,0,1,0]) (y := C35 [1,1,0,1,0,1,1]) (by kernel_rfl) ?_
        refine at_region (id := 5) 1 (by kernel_rfl) (by kernel_rfl) ?_
        refine s_pure 8 (.bool true) (by kernel_rfl) (by kernel_rfl) (fun _ => by kernel_rfl) ?_
        refine ops_end ?_
        refine At.env [(8, .bool true)] ⟨by kernel_rfl, trivial⟩ ?_
        refine at_then_normal ?_
        refine at_ret (by kernel_rfl) ?_
        refine at_then_ret ?_
        refine At.conv (Γ' := (RTurnsXA t ((a4_9, c4_9), (x3_2.2.1.1, x3_2.2.1.2), x3_2.2.2) (⟨l4_9, tc.wait⟩ : RTurnsS)) :: (Asn.own b4_8 (.cells #[.int .i64 line, .int .i64 who] 86 (0, 0))) :: Γ) (fun w hw => RTurnsXA.close ((a4_9, c4_9), (x3_2.2.1.1, x3_2.2.1.2), x3_2.2.2) (⟨l4_9, tc.wait⟩ : RTurnsS) (Sat.less (.take .here (.take .here (.take (.there .here) (.take .here .refl)))) hw)) ?_
        refine At.conv (Γ' := (RTurnsA t (⟨l4_9, tc.wait⟩ : RTurnsS)) :: (Asn.own b4_8 (.cells #[.int .i64 line, .int .i64 who] 86 (0, 0))) :: Γ) (fun w hw => RTurnsXA.shut (hw.pull .here)) ?_
        obtain rfl := someE H
        refine at_backR [.bool true] ((RTurnsA t (⟨l4_9, tc.wait⟩ : RTurnsS)) :: Γ) (rs := [.tmp 8]) (by kernel_rfl) (.cons (.tmp (by kernel_rfl)) .nil) (fun w hw => (Sat.less (.take .here (.drop .here .refl)) hw)) ?_
        exact ⟨rfl, rfl⟩
      · replace H := bifF H h3
        refine at_false (t := decide (y3_7 = (0 : Int))) (x := C35 [1,1,0,1,0]) (y := C35 [1,1,0,1,1]) (o := .tmp 20) (by kernel_rfl) (by kernel_rfl) (by kernel_rfl) h3 ?_
        refine at_skip (by kernel_rfl) ?_
        refine at_then_normal ?_
        refine at_seq (x := C35 [1,1,1,0]) (y := C35 [1,1,1,1]) (by kernel_rfl) ?_
        refine at_region (id := 6) 14 (by kernel_rfl) (by kernel_rfl) ?_
        refine s_pure 33 (.pointer (some ⟨t, 0, none⟩)) (by kernel_rfl) (by kernel_rfl) (fun _ => by kernel_rfl) ?_
        refine s_pure 34 (.pointer (some ⟨t, 0, none⟩)) (by kernel_rfl) (by kernel_rfl) (fun _ => by kernel_rfl) ?_
        refine s_pure 35 (.pointer (some ⟨t, 0, none⟩)) (by kernel_rfl) (by kernel_rfl) (fun _ => by kernel_rfl) ?_
        refine s_pure 36 (.pointer (some ⟨t, 1, none⟩)) (by kernel_rfl) (by kernel_rfl) (fun _ => by kernel_rfl) ?_
        refine RTurnsXA.open .here ?_
        refine s_load 37 (.slice x3_2.2.1.1 (List.length tc.wait) x3_2.2.1.2) (by kernel_rfl) (by kernel_rfl) (load1 (off := 1) (fun _ => by kernel_rfl) (holds_own .here) (by kernel_rfl)) ?_
        refine s_pure 38 (.int .i64 line) (by kernel_rfl) (by kernel_rfl) (fun _ => by kernel_rfl) ?_
        refine s_pure 39 (.int .i64 who) (by kernel_rfl) (by kernel_rfl) (fun _ => by kernel_rfl) ?_
        refine s_pure 40 (.int .i64 id) (by kernel_rfl) (by kernel_rfl) (fun _ => by kernel_rfl) ?_
        refine s_pure 41 (.agg #[.int .i64 line, .int .i64 who, .int .i64 id]) (by kernel_rfl) (by kernel_rfl) (fun _ => by kernel_rfl) ?_
        refine s_step 42 (by kernel_rfl) (by kernel_rfl) (st_new (T := 88) (cells := #[.int .i64 line, .int .i64 who, .int .i64 id]) (fun a => .slice (some a) 1 1) (fun _ => by kernel_rfl)) ?_
        rintro _ _ ⟨b6_9, rfl, rfl⟩
        obtain ⟨hc6_10_0, H⟩ := chkE H
        obtain ⟨l6_10, hl6_10, H⟩ := letE H
        refine s_step 43 (by kernel_rfl) (by kernel_rfl) (st_append_rows (k := 3) (m1 := (List.length tc.wait)) (m2 := 1) (cap2 := 1) (xs := tc.wait) (ys := [[line, who, id]]) (zs := l6_10) (info := tinfo 88) 24 (.agg #[.int .i64 0, .int .i64 0, .int .i64 0]) (m := List.length l6_10) 65 65 88 (fun _ => by kernel_rfl) (by kernel_rfl) (by kernel_rfl) (by kernel_rfl) (by kernel_rfl) (by kernel_rfl) (by kernel_rfl) (by kernel_rfl) (by decide) (.there (.there (.there .here))) (Reads.own (rows := rowsV [[line, who, id]]) .here rfl) (by intro x hx; rw [List.mem_singleton] at hx; subst hx; rfl) rfl rfl rfl hl6_10 (by rw [← hl6_10]; exact hc6_10_0)) ?_
        rintro _ _ ⟨a6_10, c6_10, rfl, rfl⟩
        refine s_pure 44 (.pointer (some ⟨t, 0, none⟩)) (by kernel_rfl) (by kernel_rfl) (fun _ => by kernel_rfl) ?_
        refine s_pure 45 (.pointer (some ⟨t, 1, none⟩)) (by kernel_rfl) (by kernel_rfl) (fun _ => by kernel_rfl) ?_
        refine s_do (by kernel_rfl) (by kernel_rfl) (st_store (off := 1) (vs := [.slice a6_10 (List.length l6_10) c6_10]) (c' := #[.slice x3_2.1.1 (List.length tc.owner) x3_2.1.2, .slice a6_10 (List.length l6_10) c6_10]) (fun _ => by kernel_rfl) (.there (.there .here)) (by kernel_rfl) (by kernel_rfl) (by kernel_rfl)) ?_
        rintro _ _ ⟨rfl, rfl⟩
        refine ops_end ?_
        refine At.env [] trivial ?_
        refine at_then_normal ?_
        refine at_seq (x := C35 [1,1,1,1,0]) (y := C35 [1,1,1,1,1]) (by kernel_rfl) ?_
        refine at_region (id := 7) 1 (by kernel_rfl) (by kernel_rfl) ?_
        refine s_pure 8 (.bool false) (by kernel_rfl) (by kernel_rfl) (fun _ => by kernel_rfl) ?_
        refine ops_end ?_
        refine At.env [(8, .bool false)] ⟨by kernel_rfl, trivial⟩ ?_
        refine at_then_normal ?_
        refine at_ret (by kernel_rfl) ?_
        refine At.conv (Γ' := (RTurnsXA t ((x3_2.1.1, x3_2.1.2), (a6_10, c6_10), x3_2.2.2) (⟨tc.owner, l6_10⟩ : RTurnsS)) :: (Asn.own b6_9 (.cells #[.int .i64 line, .int .i64 who, .int .i64 id] 88 (0, 0))) :: Γ) (fun w hw => RTurnsXA.close ((x3_2.1.1, x3_2.1.2), (a6_10, c6_10), x3_2.2.2) (⟨tc.owner, l6_10⟩ : RTurnsS) (Sat.less (.take .here (.take (.there (.there .here)) (.take .here (.take .here .refl)))) hw)) ?_
        refine At.conv (Γ' := (RTurnsA t (⟨tc.owner, l6_10⟩ : RTurnsS)) :: (Asn.own b6_9 (.cells #[.int .i64 line, .int .i64 who, .int .i64 id] 88 (0, 0))) :: Γ) (fun w hw => RTurnsXA.shut (hw.pull .here)) ?_
        obtain rfl := someE H
        refine at_backR [.bool false] ((RTurnsA t (⟨tc.owner, l6_10⟩ : RTurnsS)) :: Γ) (rs := [.tmp 8]) (by kernel_rfl) (.cons (.tmp (by kernel_rfl)) .nil) (fun w hw => (Sat.less (.take .here (.drop .here .refl)) hw)) ?_
        exact ⟨rfl, rfl⟩
    · replace H := bifF H h2
      refine s_pure 15 (.bool false) (by kernel_rfl) (by kernel_rfl) (run_eq (v := .bool (decide (y3_2 = ((-1) : Int)))) (fun _ => by kernel_rfl) (congrArg Value.bool h2)) ?_
      refine s_pass 16 (by kernel_rfl) (by kernel_rfl) ?_
      refine s_pass 17 (by kernel_rfl) (by kernel_rfl) ?_
      refine s_pass 18 (by kernel_rfl) (by kernel_rfl) ?_
      refine s_pass 19 (by kernel_rfl) (by kernel_rfl) ?_
      refine s_pure 20 (.bool false) (by kernel_rfl) (by kernel_rfl) (fun _ => by kernel_rfl) ?_
      refine ops_end ?_
      refine At.env [(0, .pointer (some ⟨t, 0, none⟩)), (1, .int .i64 line), (2, .int .i64 who), (3, .int .i64 id), (20, .bool false)] ⟨by kernel_rfl, by kernel_rfl, by kernel_rfl, by kernel_rfl, by kernel_rfl, trivial⟩ ?_
      refine at_then_normal ?_
      refine at_false (t := false) (x := C35 [1,1,0,1,0]) (y := C35 [1,1,0,1,1]) (o := .tmp 20) (by kernel_rfl) (by kernel_rfl) (by kernel_rfl) rfl ?_
      refine at_skip (by kernel_rfl) ?_
      refine at_then_normal ?_
      refine at_seq (x := C35 [1,1,1,0]) (y := C35 [1,1,1,1]) (by kernel_rfl) ?_
      refine at_region (id := 6) 14 (by kernel_rfl) (by kernel_rfl) ?_
      refine s_pure 33 (.pointer (some ⟨t, 0, none⟩)) (by kernel_rfl) (by kernel_rfl) (fun _ => by kernel_rfl) ?_
      refine s_pure 34 (.pointer (some ⟨t, 0, none⟩)) (by kernel_rfl) (by kernel_rfl) (fun _ => by kernel_rfl) ?_
      refine s_pure 35 (.pointer (some ⟨t, 0, none⟩)) (by kernel_rfl) (by kernel_rfl) (fun _ => by kernel_rfl) ?_
      refine s_pure 36 (.pointer (some ⟨t, 1, none⟩)) (by kernel_rfl) (by kernel_rfl) (fun _ => by kernel_rfl) ?_
      refine RTurnsXA.open .here ?_
      refine s_load 37 (.slice x3_2.2.1.1 (List.length tc.wait) x3_2.2.1.2) (by kernel_rfl) (by kernel_rfl) (load1 (off := 1) (fun _ => by kernel_rfl) (holds_own .here) (by kernel_rfl)) ?_
      refine s_pure 38 (.int .i64 line) (by kernel_rfl) (by kernel_rfl) (fun _ => by kernel_rfl) ?_
      refine s_pure 39 (.int .i64 who) (by kernel_rfl) (by kernel_rfl) (fun _ => by kernel_rfl) ?_
      refine s_pure 40 (.int .i64 id) (by kernel_rfl) (by kernel_rfl) (fun _ => by kernel_rfl) ?_
      refine s_pure 41 (.agg #[.int .i64 line, .int .i64 who, .int .i64 id]) (by kernel_rfl) (by kernel_rfl) (fun _ => by kernel_rfl) ?_
      refine s_step 42 (by kernel_rfl) (by kernel_rfl) (st_new (T := 88) (cells := #[.int .i64 line, .int .i64 who, .int .i64 id]) (fun a => .slice (some a) 1 1) (fun _ => by kernel_rfl)) ?_
      rintro _ _ ⟨b6_9, rfl, rfl⟩
      obtain ⟨hc6_10_0, H⟩ := chkE H
      obtain ⟨l6_10, hl6_10, H⟩ := letE H
      refine s_step 43 (by kernel_rfl) (by kernel_rfl) (st_append_rows (k := 3) (m1 := (List.length tc.wait)) (m2 := 1) (cap2 := 1) (xs := tc.wait) (ys := [[line, who, id]]) (zs := l6_10) (info := tinfo 88) 24 (.agg #[.int .i64 0, .int .i64 0, .int .i64 0]) (m := List.length l6_10) 65 65 88 (fun _ => by kernel_rfl) (by kernel_rfl) (by kernel_rfl) (by kernel_rfl) (by kernel_rfl) (by kernel_rfl) (by kernel_rfl) (by kernel_rfl) (by decide) (.there (.there (.there .here))) (Reads.own (rows := rowsV [[line, who, id]]) .here rfl) (by intro x hx; rw [List.mem_singleton] at hx; subst hx; rfl) rfl rfl rfl hl6_10 (by rw [← hl6_10]; exact hc6_10_0)) ?_
      rintro _ _ ⟨a6_10, c6_10, rfl, rfl⟩
      refine s_pure 44 (.pointer (some ⟨t, 0, none⟩)) (by kernel_rfl) (by kernel_rfl) (fun _ => by kernel_rfl) ?_
      refine s_pure 45 (.pointer (some ⟨t, 1, none⟩)) (by kernel_rfl) (by kernel_rfl) (fun _ => by kernel_rfl) ?_
      refine s_do (by kernel_rfl) (by kernel_rfl) (st_store (off := 1) (vs := [.slice a6_10 (List.length l6_10) c6_10]) (c' := #[.slice x3_2.1.1 (List.length tc.owner) x3_2.1.2, .slice a6_10 (List.length l6_10) c6_10]) (fun _ => by kernel_rfl) (.there (.there .here)) (by kernel_rfl) (by kernel_rfl) (by kernel_rfl)) ?_
      rintro _ _ ⟨rfl, rfl⟩
      refine ops_end ?_
      refine At.env [] trivial ?_
      refine at_then_normal ?_
      refine at_seq (x := C35 [1,1,1,1,0]) (y := C35 [1,1,1,1,1]) (by kernel_rfl) ?_
      refine at_region (id := 7) 1 (by kernel_rfl) (by kernel_rfl) ?_
      refine s_pure 8 (.bool false) (by kernel_rfl) (by kernel_rfl) (fun _ => by kernel_rfl) ?_
      refine ops_end ?_
      refine At.env [(8, .bool false)] ⟨by kernel_rfl, trivial⟩ ?_
      refine at_then_normal ?_
      refine at_ret (by kernel_rfl) ?_
      refine At.conv (Γ' := (RTurnsXA t ((x3_2.1.1, x3_2.1.2), (a6_10, c6_10), x3_2.2.2) (⟨tc.owner, l6_10⟩ : RTurnsS)) :: (Asn.own b6_9 (.cells #[.int .i64 line, .int .i64 who, .int .i64 id] 88 (0, 0))) :: Γ) (fun w hw => RTurnsXA.close ((x3_2.1.1, x3_2.1.2), (a6_10, c6_10), x3_2.2.2) (⟨tc.owner, l6_10⟩ : RTurnsS) (Sat.less (.take .here (.take (.there (.there .here)) (.take .here (.take .here .refl)))) hw)) ?_
      refine At.conv (Γ' := (RTurnsA t (⟨tc.owner, l6_10⟩ : RTurnsS)) :: (Asn.own b6_9 (.cells #[.int .i64 line, .int .i64 who, .int .i64 id] 88 (0, 0))) :: Γ) (fun w hw => RTurnsXA.shut (hw.pull .here)) ?_
      obtain rfl := someE H
      refine at_backR [.bool false] ((RTurnsA t (⟨tc.owner, l6_10⟩ : RTurnsS)) :: Γ) (rs := [.tmp 8]) (by kernel_rfl) (.cons (.tmp (by kernel_rfl)) .nil) (fun w hw => (Sat.less (.take .here (.drop .here .refl)) hw)) ?_
      exact ⟨rfl, rfl⟩
def rreleaseS_k0 (tc : RTurnsS) (e0_14 : Int) : Option (Bool × RTurnsS) :=
  some (false, tc)
def rreleaseS_l0 (tc : RTurnsS) (line : Int) (who : Int) (k0 : Int → Option (Bool × RTurnsS)) : Nat → Int → Option (Bool × RTurnsS)
  | 0 => fun _ => none
  | m + 1 => fun v0_14 => (bif decide (v0_14 < (((List.length tc.owner) : Nat) : Int)) then chk (0 ≤ v0_14 ∧ v0_14 < ((List.length (tc.owner) : Nat) : Int)) (chk ((nthR tc.owner v0_14).length = 2) ((bif decide ((nth (nthR tc.owner v0_14) 0) = line) then (bif decide ((nth (nthR tc.owner v0_14) 1) = who) then chk ((0 ≤ (0 : Int) ∧ (0 : Int) ≤ v0_14 ∧ v0_14 ≤ ((List.length tc.owner : Nat) : Int)) ∧ ∀ x ∈ tc.owner, x.length = 2) (letP ((tc.owner.drop 0).take ((v0_14).toNat - 0)) fun l5_6 => chk (inR (v0_14 + (1 : Int))) (chk ((0 ≤ (v0_14 + (1 : Int)) ∧ (v0_14 + (1 : Int)) ≤ ((List.length tc.owner : Nat) : Int) ∧ ((List.length tc.owner : Nat) : Int) ≤ ((List.length tc.owner : Nat) : Int)) ∧ ∀ x ∈ tc.owner, x.length = 2) (letP ((tc.owner.drop ((v0_14 + (1 : Int))).toNat).take ((List.length tc.owner) - ((v0_14 + (1 : Int))).toNat)) fun l5_14 => chk ((l5_6).length ≤ 1099511627776) (letP (l5_6) fun l5_7 => chk ((l5_7 ++ l5_14).length ≤ 1099511627776) (letP (l5_7 ++ l5_14) fun l5_15 => some (true, (⟨l5_15, tc.wait⟩ : RTurnsS))))))) else chk (inR (v0_14 + (1 : Int))) ((rreleaseS_l0 tc line who k0 m) (v0_14 + (1 : Int)))) else chk (inR (v0_14 + (1 : Int))) ((rreleaseS_l0 tc line who k0 m) (v0_14 + (1 : Int)))))) else k0 v0_14)
def rreleaseS (tc : RTurnsS) (line : Int) (who : Int) : Option (Bool × RTurnsS) :=
  rreleaseS_l0 tc line who (rreleaseS_k0 tc) 64 0
noncomputable def C37 (p : List Nat) : Code := codeAt (bodyOf Try.f37) p
set_option maxRecDepth 100000 in
set_option maxHeartbeats 8000000 in
theorem RReleaseF_tr {W0 : World} {Γ : List Asn} (t : Nat) (tc : RTurnsS) (line : Int) (who : Int)  (y : Bool × RTurnsS) (H : rreleaseS tc line who = some y) : Tr Try.prog 37 #[.pointer (some ⟨t, 0, none⟩), .int .i64 line, .int .i64 who] W0 ((RTurnsA t tc) :: Γ) (fun r Δ => r = .bool y.1 ∧ Δ = (RTurnsA t y.2) :: Γ) := by
  unfold rreleaseS at H
  refine Tr.enter (fn := Try.f37) (c := C37 []) (args := [.pointer (some ⟨t, 0, none⟩), .int .i64 line, .int .i64 who]) 48 Try.func37 (by kernel_rfl) (by kernel_rfl) ?_
  refine At.env [(0, .pointer (some ⟨t, 0, none⟩)), (1, .int .i64 line), (2, .int .i64 who)] ⟨by kernel_rfl, by kernel_rfl, by kernel_rfl, trivial⟩ ?_
  refine at_seq (x := C37 [0]) (y := C37 [1]) (by kernel_rfl) ?_
  refine at_region (id := 0) 1 (by kernel_rfl) (by kernel_rfl) ?_
  refine s_pure 6 (.bool false) (by kernel_rfl) (by kernel_rfl) (fun _ => by kernel_rfl) ?_
  refine ops_end ?_
  refine At.env [(0, .pointer (some ⟨t, 0, none⟩)), (1, .int .i64 line), (2, .int .i64 who)] ⟨by kernel_rfl, by kernel_rfl, by kernel_rfl, trivial⟩ ?_
  refine at_then_normal ?_
  refine at_seq (x := C37 [1,0]) (y := C37 [1,1]) (by kernel_rfl) ?_
  refine at_seq (x := C37 [1,0,0]) (y := C37 [1,0,1]) (by kernel_rfl) ?_
  refine at_region (id := 1) 6 (by kernel_rfl) (by kernel_rfl) ?_
  refine s_pure 9 (.pointer (some ⟨t, 0, none⟩)) (by kernel_rfl) (by kernel_rfl) (fun _ => by kernel_rfl) ?_
  refine s_pure 10 (.pointer (some ⟨t, 0, none⟩)) (by kernel_rfl) (by kernel_rfl) (fun _ => by kernel_rfl) ?_
  refine s_pure 11 (.pointer (some ⟨t, 0, none⟩)) (by kernel_rfl) (by kernel_rfl) (fun _ => by kernel_rfl) ?_
  refine RTurnsA.open .here ?_
  intro ao1_3 co1_3 aw1_3 cw1_3 T1_3
  refine s_load 12 (.slice ao1_3 (List.length tc.owner) co1_3) (by kernel_rfl) (by kernel_rfl) (load1 (off := 0) (fun _ => by kernel_rfl) (holds_own .here) (by kernel_rfl)) ?_
  refine s_pure 13 (.int .i64 (((List.length tc.owner) : Nat) : Int)) (by kernel_rfl) (by kernel_rfl) (fun _ => by kernel_rfl) ?_
  refine s_pure 14 (.int .i64 (0)) (by kernel_rfl) (by kernel_rfl) (fun _ => by kernel_rfl) ?_
  refine ops_end ?_
  refine At.env [(0, .pointer (some ⟨t, 0, none⟩)), (1, .int .i64 line), (2, .int .i64 who), (12, .slice ao1_3 (List.length tc.owner) co1_3), (13, .int .i64 (((List.length tc.owner) : Nat) : Int)), (14, .int .i64 (0))] ⟨by kernel_rfl, by kernel_rfl, by kernel_rfl, by kernel_rfl, by kernel_rfl, by kernel_rfl, trivial⟩ ?_
  refine at_then_normal ?_
  refine at_block (i := 0) (x := C37 [1,0,1,0]) (by kernel_rfl) ?_
  refine At.conv (Γ' := (RTurnsXA t ((ao1_3, co1_3), (aw1_3, cw1_3), T1_3) tc) :: Γ) (fun w hw => RTurnsXA.close ((ao1_3, co1_3), (aw1_3, cw1_3), T1_3) tc (Sat.less (.take .here (.take .here (.take .here .refl))) hw)) ?_
  refine At.conv (Γ' := (RTurnsXA t ((ao1_3, co1_3), (aw1_3, cw1_3), T1_3) tc) :: Γ) (fun w hw => (Sat.less (.take .here .refl) hw)) ?_
  refine at_loopR (x := C37 [1,0,1,0,0]) (fun mm ff ΔΔ => ∃ (fuel : Nat) (v0_14 : Int), rreleaseS_l0 tc line who (rreleaseS_k0 tc) fuel v0_14 = some y ∧ fuel = mm ∧ ff = [(0, .pointer (some ⟨t, 0, none⟩)), (1, .int .i64 line), (2, .int .i64 who), (12, .slice ao1_3 (List.length tc.owner) co1_3), (13, .int .i64 (((List.length tc.owner) : Nat) : Int)), (14, .int .i64 v0_14)] ∧ (RTurnsXA t ((ao1_3, co1_3), (aw1_3, cw1_3), T1_3) tc) :: Γ = ΔΔ) (64) (by kernel_rfl) [(0, .pointer (some ⟨t, 0, none⟩)), (1, .int .i64 line), (2, .int .i64 who), (12, .slice ao1_3 (List.length tc.owner) co1_3), (13, .int .i64 (((List.length tc.owner) : Nat) : Int)), (14, .int .i64 0)] ⟨by kernel_rfl, by kernel_rfl, by kernel_rfl, by kernel_rfl, by kernel_rfl, by kernel_rfl, trivial⟩ ⟨64, 0, H, rfl, rfl, rfl⟩ ?_
  rintro _ _ _ ⟨fuel1, v0_14, H, rfl, rfl, rfl⟩
  rcases fuel1 with _ | fuel1
  · exact (noneE H).elim
  rw [rreleaseS_l0] at H
  refine at_seq (x := C37 [1,0,1,0,0,0]) (y := C37 [1,0,1,0,0,1]) (by kernel_rfl) ?_
  refine at_region (id := 2) 1 (by kernel_rfl) (by kernel_rfl) ?_
  refine s_pure 15 (.bool (decide (v0_14 < (((List.length tc.owner) : Nat) : Int)))) (by kernel_rfl) (by kernel_rfl) (fun _ => by kernel_rfl) ?_
  refine ops_end ?_
  refine At.env [(0, .pointer (some ⟨t, 0, none⟩)), (1, .int .i64 line), (2, .int .i64 who), (12, .slice ao1_3 (List.length tc.owner) co1_3), (13, .int .i64 (((List.length tc.owner) : Nat) : Int)), (14, .int .i64 v0_14), (15, .bool (decide (v0_14 < (((List.length tc.owner) : Nat) : Int))))] ⟨by kernel_rfl, by kernel_rfl, by kernel_rfl, by kernel_rfl, by kernel_rfl, by kernel_rfl, by kernel_rfl, trivial⟩ ?_
  refine at_then_normal ?_
  refine at_seq (x := C37 [1,0,1,0,0,1,0]) (y := C37 [1,0,1,0,0,1,1]) (by kernel_rfl) ?_
  rcases Bool.eq_false_or_eq_true (decide (v0_14 < (((List.length tc.owner) : Nat) : Int))) with h1 | h1
  · replace H := bifT H h1
    refine at_true (t := decide (v0_14 < (((List.length tc.owner) : Nat) : Int))) (x := C37 [1,0,1,0,0,1,0,0]) (y := C37 [1,0,1,0,0,1,0,1]) (o := .tmp 15) (by kernel_rfl) (by kernel_rfl) (by kernel_rfl) h1 ?_
    refine at_skip (by kernel_rfl) ?_
    refine at_then_normal ?_
    refine at_seq (x := C37 [1,0,1,0,0,1,1,0]) (y := C37 [1,0,1,0,0,1,1,1]) (by kernel_rfl) ?_
    refine at_block (i := 1) (x := C37 [1,0,1,0,0,1,1,0,0]) (by kernel_rfl) ?_
    refine at_seq (x := C37 [1,0,1,0,0,1,1,0,0,0]) (y := C37 [1,0,1,0,0,1,1,0,0,1]) (by kernel_rfl) ?_
    refine at_region (id := 3) 6 (by kernel_rfl) (by kernel_rfl) ?_
    refine s_pure 16 (.int .i64 v0_14) (by kernel_rfl) (by kernel_rfl) (fun _ => by kernel_rfl) ?_
    refine RTurnsXA.open .here ?_
    obtain ⟨hc3_1_0, H⟩ := chkE H
    refine rows_at (.there .here) (by have := hc3_1_0; rw [rowsV_len]; omega) ?_
    intro bb1 oo1 ha1
    refine s_pure 17 (.pointer (some ⟨bb1, oo1 + ((v0_14).toNat * 2), none⟩)) (by kernel_rfl) (by kernel_rfl) (index_at (t := 64) (sz := 2) (E := 86) (a := ao1_3) (m := (List.length tc.owner)) (c := co1_3) (b := bb1) (off := oo1) (i := (v0_14).toNat) (tinfo 86) (fun _ => by kernel_rfl) (by kernel_rfl) (by kernel_rfl) (by kernel_rfl) ha1 (idx_cast hc3_1_0) (idx_nat hc3_1_0) rfl) ?_
    obtain ⟨hc3_2_0, H⟩ := chkE H
    refine s_load 18 (.agg #[.int .i64 (nth (nthR tc.owner v0_14) 0), .int .i64 (nth (nthR tc.owner v0_14) 1)]) (by kernel_rfl) (by kernel_rfl) (loadN_at (k := 2) (row := [.int .i64 (nth (nthR tc.owner v0_14) 0), .int .i64 (nth (nthR tc.owner v0_14) 1)]) (off := oo1) (i := (v0_14).toNat) (fun _ => by kernel_rfl) rfl rfl (fun j v hj => rows_cell (k := 2) (.there .here) ha1 (rowsV_get hc3_1_0) (by rw [rowV_2 hc3_2_0]; exact hj))) ?_
    refine s_step 8 (by kernel_rfl) (by kernel_rfl) (st_new (T := 86) (cells := #[.int .i64 (0), .int .i64 (0)]) (fun a => .pointer (some a)) (fun _ => by kernel_rfl)) ?_
    rintro _ _ ⟨b3_3, rfl, rfl⟩
    refine s_pure 7 (.int .i64 v0_14) (by kernel_rfl) (by kernel_rfl) (fun _ => by kernel_rfl) ?_
    refine s_do (by kernel_rfl) (by kernel_rfl) (st_store (off := 0) (vs := [.int .i64 (nth (nthR tc.owner v0_14) 0), .int .i64 (nth (nthR tc.owner v0_14) 1)]) (c' := #[.int .i64 (nth (nthR tc.owner v0_14) 0), .int .i64 (nth (nthR tc.owner v0_14) 1)]) (fun _ => by kernel_rfl) .here (by kernel_rfl) (by kernel_rfl) (by kernel_rfl)) ?_
    rintro _ _ ⟨rfl, rfl⟩
    refine ops_end ?_
    refine At.env [(0, .pointer (some ⟨t, 0, none⟩)), (1, .int .i64 line), (2, .int .i64 who), (7, .int .i64 v0_14), (8, .pointer (some ⟨b3_3, 0, none⟩)), (12, .slice ao1_3 (List.length tc.owner) co1_3), (13, .int .i64 (((List.length tc.owner) : Nat) : Int)), (14, .int .i64 v0_14)] ⟨by kernel_rfl, by kernel_rfl, by kernel_rfl, by kernel_rfl, by kernel_rfl, by kernel_rfl, by kernel_rfl, by kernel_rfl, trivial⟩ ?_
    refine at_then_normal ?_
    refine at_seq (x := C37 [1,0,1,0,0,1,1,0,0,1,0]) (y := C37 [1,0,1,0,0,1,1,0,0,1,1]) (by kernel_rfl) ?_
    refine at_region (id := 4) 10 (by kernel_rfl) (by kernel_rfl) ?_
    refine s_pure 19 (.pointer (some ⟨b3_3, 0, none⟩)) (by kernel_rfl) (by kernel_rfl) (fun _ => by kernel_rfl) ?_
    refine s_load 20 (.int .i64 (nth (nthR tc.owner v0_14) 0)) (by kernel_rfl) (by kernel_rfl) (load1 (off := 0) (fun _ => by kernel_rfl) (holds_own .here) (by kernel_rfl)) ?_
    refine s_pure 21 (.int .i64 line) (by kernel_rfl) (by kernel_rfl) (fun _ => by kernel_rfl) ?_
    refine s_pure 22 (.bool (decide ((nth (nthR tc.owner v0_14) 0) = line))) (by kernel_rfl) (by kernel_rfl) (fun _ => by kernel_rfl) ?_
    rcases Bool.eq_false_or_eq_true (decide ((nth (nthR tc.owner v0_14) 0) = line)) with h2 | h2
    · replace H := bifT H h2
      refine s_pure 23 (.bool true) (by kernel_rfl) (by kernel_rfl) (run_eq (v := .bool (decide ((nth (nthR tc.owner v0_14) 0) = line))) (fun _ => by kernel_rfl) (congrArg Value.bool h2)) ?_
      refine s_pure 24 (.pointer (some ⟨b3_3, 1, none⟩)) (by kernel_rfl) (by kernel_rfl) (fun _ => by kernel_rfl) ?_
      refine s_load 25 (.int .i64 (nth (nthR tc.owner v0_14) 1)) (by kernel_rfl) (by kernel_rfl) (load1 (off := 1) (fun _ => by kernel_rfl) (holds_own .here) (by kernel_rfl)) ?_
      refine s_pure 26 (.int .i64 who) (by kernel_rfl) (by kernel_rfl) (fun _ => by kernel_rfl) ?_
      refine s_pure 27 (.bool (decide ((nth (nthR tc.owner v0_14) 1) = who))) (by kernel_rfl) (by kernel_rfl) (fun _ => by kernel_rfl) ?_
      refine s_pure 28 (.bool (decide ((nth (nthR tc.owner v0_14) 1) = who))) (by kernel_rfl) (by kernel_rfl) (fun _ => by kernel_rfl) ?_
      refine ops_end ?_
      refine At.env [(0, .pointer (some ⟨t, 0, none⟩)), (1, .int .i64 line), (2, .int .i64 who), (7, .int .i64 v0_14), (12, .slice ao1_3 (List.length tc.owner) co1_3), (13, .int .i64 (((List.length tc.owner) : Nat) : Int)), (14, .int .i64 v0_14), (28, .bool (decide ((nth (nthR tc.owner v0_14) 1) = who)))] ⟨by kernel_rfl, by kernel_rfl, by kernel_rfl, by kernel_rfl, by kernel_rfl, by kernel_rfl, by kernel_rfl, by kernel_rfl, trivial⟩ ?_
      refine at_then_normal ?_
      rcases Bool.eq_false_or_eq_true (decide ((nth (nthR tc.owner v0_14) 1) = who)) with h3 | h3
      · replace H := bifT H h3
        refine at_true (t := decide ((nth (nthR tc.owner v0_14) 1) = who)) (x := C37 [1,0,1,0,0,1,1,0,0,1,1,0]) (y := C37 [1,0,1,0,0,1,1,0,0,1,1,1]) (o := .tmp 28) (by kernel_rfl) (by kernel_rfl) (by kernel_rfl) h3 ?_
        refine at_seq (x := C37 [1,0,1,0,0,1,1,0,0,1,1,0,0]) (y := C37 [1,0,1,0,0,1,1,0,0,1,1,0,1]) (by kernel_rfl) ?_
        refine at_region_draw (id := 5) (by kernel_rfl) (by kernel_rfl) ?_
        refine d_pure 0 29 (.pointer (some ⟨t, 0, none⟩)) (by kernel_rfl) (by kernel_rfl) (by kernel_rfl) (fun _ => by kernel_rfl) ?_
        refine d_pure 1 30 (.pointer (some ⟨t, 0, none⟩)) (by kernel_rfl) (by kernel_rfl) (by kernel_rfl) (fun _ => by kernel_rfl) ?_
        refine d_pure 2 31 (.pointer (some ⟨t, 0, none⟩)) (by kernel_rfl) (by kernel_rfl) (by kernel_rfl) (fun _ => by kernel_rfl) ?_
        refine d_pure 3 32 (.pointer (some ⟨t, 0, none⟩)) (by kernel_rfl) (by kernel_rfl) (by kernel_rfl) (fun _ => by kernel_rfl) ?_
        refine d_load 4 33 (.slice ao1_3 (List.length tc.owner) co1_3) (by kernel_rfl) (by kernel_rfl) (by kernel_rfl) (load1 (off := 0) (fun _ => by kernel_rfl) (holds_own (.there .here)) (by kernel_rfl)) ?_
        refine d_pure 5 34 (.int .i64 v0_14) (by kernel_rfl) (by kernel_rfl) (by kernel_rfl) (fun _ => by kernel_rfl) ?_
        obtain ⟨hc5_6_0, H⟩ := chkE H
        obtain ⟨l5_6, hl5_6, H⟩ := letE H
        refine Draw.known (p := (List.length tc.owner) ≤ co1_3) (fun w hw => by have := (RowsA.len (hw.pull (.there (.there .here)))).2; rw [rowsV_len] at this; exact this) ?_
        intro hcap1
        have hbl5_6 := (hc5_6_0).1
        obtain ⟨a5_6, ha5_6⟩ : ∃ y : Option Addr, y = (if co1_3 = 0 then ao1_3 else Option.map (fun x => Addr.add x (0 * 2)) ao1_3) := ⟨_, rfl⟩
        have hrl5_6 : Reads W0 ((RowsN 2 ao1_3 co1_3 tc.owner) :: Γ) a5_6 (rowsV l5_6) := by rw [ha5_6]; exact Reads.partN (lo := 0) (hi := (v0_14).toNat) (hc5_6_0).2 (RowsA.reads (k := 2) .here) hl5_6 (by omega)
        refine d_pure 6 35 (.slice a5_6 (List.length l5_6) (co1_3 - 0)) (by kernel_rfl) (by kernel_rfl) (by kernel_rfl) (run_eq (slice_at (t := 64) (lo := 0) (hi := (v0_14).toNat) (mx := co1_3) (sz := 2) (E := 86) (a := ao1_3) (m := (List.length tc.owner)) (c := co1_3) none (some (.int .i64 v0_14)) none (tinfo 86) (fun _ => by kernel_rfl) (by kernel_rfl) (by kernel_rfl) (by kernel_rfl) (Or.inl ⟨rfl, rfl⟩) (Or.inr ⟨_, rfl, by omega⟩) (Or.inl ⟨rfl, rfl⟩) (by omega) (by omega) (by omega)) (by rw [← ha5_6, show (v0_14).toNat - 0 = List.length l5_6 from by rw [← hl5_6]; simp only [List.length_take, List.length_drop]; omega])) ?_
        refine d_pure 8 37 (.pointer (some ⟨t, 0, none⟩)) (by kernel_rfl) (by kernel_rfl) (by kernel_rfl) (fun _ => by kernel_rfl) ?_
        refine d_pure 9 38 (.pointer (some ⟨t, 0, none⟩)) (by kernel_rfl) (by kernel_rfl) (by kernel_rfl) (fun _ => by kernel_rfl) ?_
        refine d_pure 10 39 (.pointer (some ⟨t, 0, none⟩)) (by kernel_rfl) (by kernel_rfl) (by kernel_rfl) (fun _ => by kernel_rfl) ?_
        refine d_load 11 40 (.slice ao1_3 (List.length tc.owner) co1_3) (by kernel_rfl) (by kernel_rfl) (by kernel_rfl) (load1 (off := 0) (fun _ => by kernel_rfl) (holds_own (.there .here)) (by kernel_rfl)) ?_
        refine d_pure 12 41 (.int .i64 v0_14) (by kernel_rfl) (by kernel_rfl) (by kernel_rfl) (fun _ => by kernel_rfl) ?_
        obtain ⟨hc5_13_0, H⟩ := chkE H
        refine d_pure 13 42 (.int .i64 (v0_14 + (1 : Int))) (by kernel_rfl) (by kernel_rfl) (by kernel_rfl) (run_eq (v := .int .i64 (IntKind.i64.wrap (v0_14 + (1 : Int)))) (fun _ => by kernel_rfl) (by rw [inR.wrap hc5_13_0])) ?_
        obtain ⟨hc5_14_0, H⟩ := chkE H
        obtain ⟨l5_14, hl5_14, H⟩ := letE H
        refine Draw.known (p := (List.length tc.owner) ≤ co1_3) (fun w hw => by have := (RowsA.len (hw.pull (.there (.there .here)))).2; rw [rowsV_len] at this; exact this) ?_
        intro hcap2
        have hbl5_14 := (hc5_14_0).1
        obtain ⟨a5_14, ha5_14⟩ : ∃ y : Option Addr, y = (if co1_3 = ((v0_14 + (1 : Int))).toNat then ao1_3 else Option.map (fun x => Addr.add x (((v0_14 + (1 : Int))).toNat * 2)) ao1_3) := ⟨_, rfl⟩
        have hrl5_14 : Reads W0 ((RowsN 2 ao1_3 co1_3 tc.owner) :: Γ) a5_14 (rowsV l5_14) := by rw [ha5_14]; exact Reads.partN (lo := ((v0_14 + (1 : Int))).toNat) (hi := (List.length tc.owner)) (hc5_14_0).2 (RowsA.reads (k := 2) .here) hl5_14 (by omega)
        refine d_pure 14 43 (.slice a5_14 (List.length l5_14) (co1_3 - ((v0_14 + (1 : Int))).toNat)) (by kernel_rfl) (by kernel_rfl) (by kernel_rfl) (run_eq (slice_at (t := 64) (lo := ((v0_14 + (1 : Int))).toNat) (hi := (List.length tc.owner)) (mx := co1_3) (sz := 2) (E := 86) (a := ao1_3) (m := (List.length tc.owner)) (c := co1_3) (some (.int .i64 (v0_14 + (1 : Int)))) none none (tinfo 86) (fun _ => by kernel_rfl) (by kernel_rfl) (by kernel_rfl) (by kernel_rfl) (Or.inr ⟨_, rfl, by omega⟩) (Or.inl ⟨rfl, rfl, rfl⟩) (Or.inl ⟨rfl, rfl⟩) (by omega) (by omega) (by omega)) (by rw [← ha5_14, show (List.length tc.owner) - ((v0_14 + (1 : Int))).toNat = List.length l5_14 from by rw [← hl5_14]; simp only [List.length_take, List.length_drop]; omega])) ?_
        obtain ⟨hc5_7_0, H⟩ := chkE H
        obtain ⟨l5_7, hl5_7, H⟩ := letE H
        refine d_step 7 36 [6, 4, 5, 3, 2, 1] [14, 13, 12, 10, 9, 8, 0] [11] (by kernel_rfl) (by kernel_rfl) (by kernel_rfl) (StepTo.conv (Γ' := (RowsN 2 none 0 ([] : List (List Int))) :: (Asn.own b3_3 (.cells #[.int .i64 (nth (nthR tc.owner v0_14) 0), .int .i64 (nth (nthR tc.owner v0_14) 1)] 86 (0, 0))) :: (Asn.own t (.cells #[.slice ao1_3 (List.length tc.owner) co1_3, .slice aw1_3 (List.length tc.wait) cw1_3] T1_3 (0, 0))) :: (RowsN 2 ao1_3 co1_3 tc.owner) :: (RowsN 3 aw1_3 cw1_3 tc.wait) :: Γ) (fun w hw => RowsA.none_mk (k := 2) (a := none) hw) (st_append_rows (k := 2) (m1 := 0) (m2 := (List.length l5_6)) (cap2 := (co1_3 - 0)) (xs := ([] : List (List Int))) (ys := l5_6) (zs := l5_7) (info := tinfo 86) 16 (.agg #[.int .i64 0, .int .i64 0]) (m := List.length l5_7) 64 64 86 (fun _ => by kernel_rfl) (by kernel_rfl) (by kernel_rfl) (by kernel_rfl) (by kernel_rfl) (by kernel_rfl) (by kernel_rfl) (by kernel_rfl) (by decide) .here (Reads.conv (fun w hw => hw.less (.take (.there (.there (.there .here))) (.drop .here (.drop .here (.drop .here (.drop .here .refl)))))) hrl5_6) (fun x hx => (hc5_6_0).2 x (List.mem_of_mem_drop (List.mem_of_mem_take (by rw [hl5_6]; exact hx)))) rfl rfl rfl hl5_7 (by rw [← hl5_7]; exact hc5_7_0))) ?_
        rintro _ _ ⟨a5_7, c5_7, rfl, rfl⟩
        refine ⟨(stable_cons 11 40 (.slice ao1_3 (List.length tc.owner) co1_3) (by kernel_rfl) (by kernel_rfl) (by kernel_rfl) (load1 (off := 0) (fun _ => by kernel_rfl) (holds_own (.there (.there .here))) (by kernel_rfl)) stable_nil), ?_⟩
        obtain ⟨hc5_15_0, H⟩ := chkE H
        obtain ⟨l5_15, hl5_15, H⟩ := letE H
        refine d_step 15 44 [7, 14, 6, 11, 13, 4, 5, 10, 12, 3, 9, 2, 8, 1] [0] [] (by kernel_rfl) (by kernel_rfl) (by kernel_rfl) (st_append_rows (k := 2) (m1 := (List.length l5_7)) (m2 := (List.length l5_14)) (cap2 := (co1_3 - ((v0_14 + (1 : Int))).toNat)) (xs := l5_7) (ys := l5_14) (zs := l5_15) (info := tinfo 86) 16 (.agg #[.int .i64 0, .int .i64 0]) (m := List.length l5_15) 64 64 86 (fun _ => by kernel_rfl) (by kernel_rfl) (by kernel_rfl) (by kernel_rfl) (by kernel_rfl) (by kernel_rfl) (by kernel_rfl) (by kernel_rfl) (by decide) .here (Reads.conv (fun w hw => hw.less (.take (.there (.there (.there .here))) (.drop .here (.drop .here (.drop .here (.drop .here .refl)))))) hrl5_14) (fun x hx => (hc5_14_0).2 x (List.mem_of_mem_drop (List.mem_of_mem_take (by rw [hl5_14]; exact hx)))) rfl rfl rfl hl5_15 (by rw [← hl5_15]; exact hc5_15_0)) ?_
        rintro _ _ ⟨a5_15, c5_15, rfl, rfl⟩
        refine ⟨stable_nil, ?_⟩
        refine d_pure 16 45 (.pointer (some ⟨t, 0, none⟩)) (by kernel_rfl) (by kernel_rfl) (by kernel_rfl) (fun _ => by kernel_rfl) ?_
        refine d_pure 17 46 (.pointer (some ⟨t, 0, none⟩)) (by kernel_rfl) (by kernel_rfl) (by kernel_rfl) (fun _ => by kernel_rfl) ?_
        refine d_do 18 [17, 15, 0, 1, 2, 3, 4, 5, 6, 7, 8, 9, 10, 11, 12, 13, 14, 16] [] [] (by kernel_rfl) (by kernel_rfl) (by kernel_rfl) (st_store (off := 0) (vs := [.slice a5_15 (List.length l5_15) c5_15]) (c' := #[.slice a5_15 (List.length l5_15) c5_15, .slice aw1_3 (List.length tc.wait) cw1_3]) (fun _ => by kernel_rfl) (.there (.there .here)) (by kernel_rfl) (by kernel_rfl) (by kernel_rfl)) ?_
        rintro _ _ ⟨rfl, rfl⟩
        refine ⟨stable_nil, ?_⟩
        refine draw_end (by kernel_rfl) ?_
        refine At.env [] trivial ?_
        refine at_then_normal ?_
        refine at_seq (x := C37 [1,0,1,0,0,1,1,0,0,1,1,0,1,0]) (y := C37 [1,0,1,0,0,1,1,0,0,1,1,0,1,1]) (by kernel_rfl) ?_
        refine at_region (id := 6) 1 (by kernel_rfl) (by kernel_rfl) ?_
        refine s_pure 6 (.bool true) (by kernel_rfl) (by kernel_rfl) (fun _ => by kernel_rfl) ?_
        refine ops_end ?_
        refine At.env [(6, .bool true)] ⟨by kernel_rfl, trivial⟩ ?_
        refine at_then_normal ?_
        refine at_ret (by kernel_rfl) ?_
        refine at_in_ret ?_
        refine at_then_ret ?_
        refine at_then_ret ?_
        refine at_in_ret ?_
        refine at_then_ret ?_
        refine At.conv (Γ' := (RTurnsXA t ((a5_15, c5_15), (aw1_3, cw1_3), T1_3) (⟨l5_15, tc.wait⟩ : RTurnsS)) :: (Asn.own b3_3 (.cells #[.int .i64 (nth (nthR tc.owner v0_14) 0), .int .i64 (nth (nthR tc.owner v0_14) 1)] 86 (0, 0))) :: (RowsN 2 ao1_3 co1_3 tc.owner) :: Γ) (fun w hw => RTurnsXA.close ((a5_15, c5_15), (aw1_3, cw1_3), T1_3) (⟨l5_15, tc.wait⟩ : RTurnsS) (Sat.less (.take .here (.take .here (.take (.there (.there .here)) (.take .here (.take .here .refl))))) hw)) ?_
        refine At.conv (Γ' := (RTurnsA t (⟨l5_15, tc.wait⟩ : RTurnsS)) :: (Asn.own b3_3 (.cells #[.int .i64 (nth (nthR tc.owner v0_14) 0), .int .i64 (nth (nthR tc.owner v0_14) 1)] 86 (0, 0))) :: (RowsN 2 ao1_3 co1_3 tc.owner) :: Γ) (fun w hw => RTurnsXA.shut (hw.pull .here)) ?_
        obtain rfl := someE H
        refine at_backR [.bool true] ((RTurnsA t (⟨l5_15, tc.wait⟩ : RTurnsS)) :: Γ) (rs := [.tmp 6]) (by kernel_rfl) (.cons (.tmp (by kernel_rfl)) .nil) (fun w hw => (Sat.less (.take .here (.drop .here (.drop .here .refl))) hw)) ?_
        exact ⟨rfl, rfl⟩
      · replace H := bifF H h3
        refine at_false (t := decide ((nth (nthR tc.owner v0_14) 1) = who)) (x := C37 [1,0,1,0,0,1,1,0,0,1,1,0]) (y := C37 [1,0,1,0,0,1,1,0,0,1,1,1]) (o := .tmp 28) (by kernel_rfl) (by kernel_rfl) (by kernel_rfl) h3 ?_
        refine at_skip (by kernel_rfl) ?_
        refine at_in_normal ?_
        refine at_then_normal ?_
        refine at_region (id := 7) 2 (by kernel_rfl) (by kernel_rfl) ?_
        obtain ⟨hc7_0_0, H⟩ := chkE H
        refine s_pure 47 (.int .i64 (v0_14 + (1 : Int))) (by kernel_rfl) (by kernel_rfl) (run_eq (v := .int .i64 (IntKind.i64.wrap (v0_14 + (1 : Int)))) (fun _ => by kernel_rfl) (by rw [inR.wrap hc7_0_0])) ?_
        refine s_pure 14 (.int .i64 (v0_14 + (1 : Int))) (by kernel_rfl) (by kernel_rfl) (fun _ => by kernel_rfl) ?_
        refine ops_end ?_
        refine At.env [(0, .pointer (some ⟨t, 0, none⟩)), (1, .int .i64 line), (2, .int .i64 who), (12, .slice ao1_3 (List.length tc.owner) co1_3), (13, .int .i64 (((List.length tc.owner) : Nat) : Int)), (14, .int .i64 (v0_14 + (1 : Int)))] ⟨by kernel_rfl, by kernel_rfl, by kernel_rfl, by kernel_rfl, by kernel_rfl, by kernel_rfl, trivial⟩ ?_
        refine at_round_normal ?_
        refine At.conv (Γ' := (RTurnsXA t ((ao1_3, co1_3), (aw1_3, cw1_3), T1_3) tc) :: (Asn.own b3_3 (.cells #[.int .i64 (nth (nthR tc.owner v0_14) 0), .int .i64 (nth (nthR tc.owner v0_14) 1)] 86 (0, 0))) :: Γ) (fun w hw => RTurnsXA.close ((ao1_3, co1_3), (aw1_3, cw1_3), T1_3) tc (Sat.less (.take (.there .here) (.take (.there .here) (.take (.there .here) (.take .here .refl)))) hw)) ?_
        exact at_roundR fuel1 [(0, .pointer (some ⟨t, 0, none⟩)), (1, .int .i64 line), (2, .int .i64 who), (12, .slice ao1_3 (List.length tc.owner) co1_3), (13, .int .i64 (((List.length tc.owner) : Nat) : Int)), (14, .int .i64 (v0_14 + (1 : Int)))] ((RTurnsXA t ((ao1_3, co1_3), (aw1_3, cw1_3), T1_3) tc) :: Γ) (Nat.lt_succ_self _) ⟨by kernel_rfl, by kernel_rfl, by kernel_rfl, by kernel_rfl, by kernel_rfl, by kernel_rfl, trivial⟩ (fun w hw => (Sat.less (.take .here (.drop .here .refl)) hw)) ⟨fuel1, v0_14 + (1 : Int), H, rfl, rfl, rfl⟩
    · replace H := bifF H h2
      refine s_pure 23 (.bool false) (by kernel_rfl) (by kernel_rfl) (run_eq (v := .bool (decide ((nth (nthR tc.owner v0_14) 0) = line))) (fun _ => by kernel_rfl) (congrArg Value.bool h2)) ?_
      refine s_pass 24 (by kernel_rfl) (by kernel_rfl) ?_
      refine s_pass 25 (by kernel_rfl) (by kernel_rfl) ?_
      refine s_pass 26 (by kernel_rfl) (by kernel_rfl) ?_
      refine s_pass 27 (by kernel_rfl) (by kernel_rfl) ?_
      refine s_pure 28 (.bool false) (by kernel_rfl) (by kernel_rfl) (fun _ => by kernel_rfl) ?_
      refine ops_end ?_
      refine At.env [(0, .pointer (some ⟨t, 0, none⟩)), (1, .int .i64 line), (2, .int .i64 who), (7, .int .i64 v0_14), (12, .slice ao1_3 (List.length tc.owner) co1_3), (13, .int .i64 (((List.length tc.owner) : Nat) : Int)), (14, .int .i64 v0_14), (28, .bool false)] ⟨by kernel_rfl, by kernel_rfl, by kernel_rfl, by kernel_rfl, by kernel_rfl, by kernel_rfl, by kernel_rfl, by kernel_rfl, trivial⟩ ?_
      refine at_then_normal ?_
      refine at_false (t := false) (x := C37 [1,0,1,0,0,1,1,0,0,1,1,0]) (y := C37 [1,0,1,0,0,1,1,0,0,1,1,1]) (o := .tmp 28) (by kernel_rfl) (by kernel_rfl) (by kernel_rfl) rfl ?_
      refine at_skip (by kernel_rfl) ?_
      refine at_in_normal ?_
      refine at_then_normal ?_
      refine at_region (id := 7) 2 (by kernel_rfl) (by kernel_rfl) ?_
      obtain ⟨hc7_0_0, H⟩ := chkE H
      refine s_pure 47 (.int .i64 (v0_14 + (1 : Int))) (by kernel_rfl) (by kernel_rfl) (run_eq (v := .int .i64 (IntKind.i64.wrap (v0_14 + (1 : Int)))) (fun _ => by kernel_rfl) (by rw [inR.wrap hc7_0_0])) ?_
      refine s_pure 14 (.int .i64 (v0_14 + (1 : Int))) (by kernel_rfl) (by kernel_rfl) (fun _ => by kernel_rfl) ?_
      refine ops_end ?_
      refine At.env [(0, .pointer (some ⟨t, 0, none⟩)), (1, .int .i64 line), (2, .int .i64 who), (12, .slice ao1_3 (List.length tc.owner) co1_3), (13, .int .i64 (((List.length tc.owner) : Nat) : Int)), (14, .int .i64 (v0_14 + (1 : Int)))] ⟨by kernel_rfl, by kernel_rfl, by kernel_rfl, by kernel_rfl, by kernel_rfl, by kernel_rfl, trivial⟩ ?_
      refine at_round_normal ?_
      refine At.conv (Γ' := (RTurnsXA t ((ao1_3, co1_3), (aw1_3, cw1_3), T1_3) tc) :: (Asn.own b3_3 (.cells #[.int .i64 (nth (nthR tc.owner v0_14) 0), .int .i64 (nth (nthR tc.owner v0_14) 1)] 86 (0, 0))) :: Γ) (fun w hw => RTurnsXA.close ((ao1_3, co1_3), (aw1_3, cw1_3), T1_3) tc (Sat.less (.take (.there .here) (.take (.there .here) (.take (.there .here) (.take .here .refl)))) hw)) ?_
      exact at_roundR fuel1 [(0, .pointer (some ⟨t, 0, none⟩)), (1, .int .i64 line), (2, .int .i64 who), (12, .slice ao1_3 (List.length tc.owner) co1_3), (13, .int .i64 (((List.length tc.owner) : Nat) : Int)), (14, .int .i64 (v0_14 + (1 : Int)))] ((RTurnsXA t ((ao1_3, co1_3), (aw1_3, cw1_3), T1_3) tc) :: Γ) (Nat.lt_succ_self _) ⟨by kernel_rfl, by kernel_rfl, by kernel_rfl, by kernel_rfl, by kernel_rfl, by kernel_rfl, trivial⟩ (fun w hw => (Sat.less (.take .here (.drop .here .refl)) hw)) ⟨fuel1, v0_14 + (1 : Int), H, rfl, rfl, rfl⟩
  · replace H := bifF H h1
    refine at_false (t := decide (v0_14 < (((List.length tc.owner) : Nat) : Int))) (x := C37 [1,0,1,0,0,1,0,0]) (y := C37 [1,0,1,0,0,1,0,1]) (o := .tmp 15) (by kernel_rfl) (by kernel_rfl) (by kernel_rfl) h1 ?_
    refine at_exit (i := 0) (by kernel_rfl) ?_
    refine at_then_exit ?_
    refine at_then_exit ?_
    rw [rreleaseS_k0] at H
    refine At.env [(0, .pointer (some ⟨t, 0, none⟩)), (1, .int .i64 line), (2, .int .i64 who), (12, .slice ao1_3 (List.length tc.owner) co1_3), (13, .int .i64 (((List.length tc.owner) : Nat) : Int)), (14, .int .i64 v0_14)] ⟨by kernel_rfl, by kernel_rfl, by kernel_rfl, by kernel_rfl, by kernel_rfl, by kernel_rfl, trivial⟩ ?_
    refine At.conv (Γ' := (RTurnsXA t ((ao1_3, co1_3), (aw1_3, cw1_3), T1_3) tc) :: Γ) (fun w hw => (Sat.less (.take .here .refl) hw)) ?_
    refine at_in_here ?_
    refine at_then_normal ?_
    refine at_seq (x := C37 [1,1,0]) (y := C37 [1,1,1]) (by kernel_rfl) ?_
    refine at_region (id := 8) 1 (by kernel_rfl) (by kernel_rfl) ?_
    refine s_pure 6 (.bool false) (by kernel_rfl) (by kernel_rfl) (fun _ => by kernel_rfl) ?_
    refine ops_end ?_
    refine At.env [(6, .bool false)] ⟨by kernel_rfl, trivial⟩ ?_
    refine at_then_normal ?_
    refine at_ret (by kernel_rfl) ?_
    refine At.conv (Γ' := (RTurnsA t tc) :: Γ) (fun w hw => RTurnsXA.shut (hw.pull .here)) ?_
    obtain rfl := someE H
    refine at_backR [.bool false] ((RTurnsA t tc) :: Γ) (rs := [.tmp 6]) (by kernel_rfl) (.cons (.tmp (by kernel_rfl)) .nil) (fun w hw => (Sat.less (.take .here .refl) hw)) ?_
    exact ⟨rfl, rfl⟩
def rnextS_k0 (tc : RTurnsS) (e0_18 : Int) : Option (Int × Int × Bool × RTurnsS) :=
  some ((0 : Int), (0 : Int), false, tc)
def rnextS_l0 (tc : RTurnsS) (line : Int) (k0 : Int → Option (Int × Int × Bool × RTurnsS)) : Nat → Int → Option (Int × Int × Bool × RTurnsS)
  | 0 => fun _ => none
  | m + 1 => fun v0_18 => (bif decide (v0_18 < (((List.length tc.wait) : Nat) : Int)) then chk (0 ≤ v0_18 ∧ v0_18 < ((List.length (tc.wait) : Nat) : Int)) (chk ((nthR tc.wait v0_18).length = 3) ((bif decide ((nth (nthR tc.wait v0_18) 0) = line) then chk ((0 ≤ (0 : Int) ∧ (0 : Int) ≤ v0_18 ∧ v0_18 ≤ ((List.length tc.wait : Nat) : Int)) ∧ ∀ x ∈ tc.wait, x.length = 3) (letP ((tc.wait.drop 0).take ((v0_18).toNat - 0)) fun l7_6 => chk (inR (v0_18 + (1 : Int))) (chk ((0 ≤ (v0_18 + (1 : Int)) ∧ (v0_18 + (1 : Int)) ≤ ((List.length tc.wait : Nat) : Int) ∧ ((List.length tc.wait : Nat) : Int) ≤ ((List.length tc.wait : Nat) : Int)) ∧ ∀ x ∈ tc.wait, x.length = 3) (letP ((tc.wait.drop ((v0_18 + (1 : Int))).toNat).take ((List.length tc.wait) - ((v0_18 + (1 : Int))).toNat)) fun l7_14 => chk ((l7_6).length ≤ 1099511627776) (letP (l7_6) fun l7_7 => chk ((l7_7 ++ l7_14).length ≤ 1099511627776) (letP (l7_7 ++ l7_14) fun l7_15 => chk ((tc.owner ++ ([[line, nth (nthR tc.wait v0_18) 1]])).length ≤ 1099511627776) (letP (tc.owner ++ ([[line, nth (nthR tc.wait v0_18) 1]])) fun l8_10 => some ((nth (nthR tc.wait v0_18) 1), (nth (nthR tc.wait v0_18) 2), true, (⟨l8_10, l7_15⟩ : RTurnsS)))))))) else chk (inR (v0_18 + (1 : Int))) ((rnextS_l0 tc line k0 m) (v0_18 + (1 : Int)))))) else k0 v0_18)
def rnextS (tc : RTurnsS) (line : Int) : Option (Int × Int × Bool × RTurnsS) :=
  (rownerS tc line).bind fun y1_2 => (bif !(decide (y1_2 = ((-1) : Int))) then some ((0 : Int), (0 : Int), false, tc) else rnextS_l0 tc line (rnextS_k0 tc) 64 0)
noncomputable def C38 (p : List Nat) : Code := codeAt (bodyOf Try.f38) p
set_option maxRecDepth 100000 in
set_option maxHeartbeats 8000000 in
theorem RNextF_tr {W0 : World} {Γ : List Asn} (t : Nat) (tc : RTurnsS) (line : Int)  (y : Int × Int × Bool × RTurnsS) (H : rnextS tc line = some y) : Tr Try.prog 38 #[.pointer (some ⟨t, 0, none⟩), .int .i64 line] W0 ((RTurnsA t tc) :: Γ) (fun r Δ => r = .tuple #[.int .i64 y.1, .int .i64 y.2.1, .bool y.2.2.1] ∧ Δ = (RTurnsA t y.2.2.2) :: Γ) := by
  unfold rnextS at H
  refine Tr.enter (fn := Try.f38) (c := C38 []) (args := [.pointer (some ⟨t, 0, none⟩), .int .i64 line]) 63 Try.func38 (by kernel_rfl) (by kernel_rfl) ?_
  refine At.env [(0, .pointer (some ⟨t, 0, none⟩)), (1, .int .i64 line)] ⟨by kernel_rfl, by kernel_rfl, trivial⟩ ?_
  refine at_seq (x := C38 [0]) (y := C38 [1]) (by kernel_rfl) ?_
  refine at_region (id := 0) 3 (by kernel_rfl) (by kernel_rfl) ?_
  refine s_pure 4 (.int .i64 (0)) (by kernel_rfl) (by kernel_rfl) (fun _ => by kernel_rfl) ?_
  refine s_pure 5 (.int .i64 (0)) (by kernel_rfl) (by kernel_rfl) (fun _ => by kernel_rfl) ?_
  refine s_pure 6 (.bool false) (by kernel_rfl) (by kernel_rfl) (fun _ => by kernel_rfl) ?_
  refine ops_end ?_
  refine At.env [(0, .pointer (some ⟨t, 0, none⟩)), (1, .int .i64 line)] ⟨by kernel_rfl, by kernel_rfl, trivial⟩ ?_
  refine at_then_normal ?_
  refine at_seq (x := C38 [1,0]) (y := C38 [1,1]) (by kernel_rfl) ?_
  refine at_seq (x := C38 [1,0,0]) (y := C38 [1,0,1]) (by kernel_rfl) ?_
  refine at_region (id := 1) 4 (by kernel_rfl) (by kernel_rfl) ?_
  refine s_pure 9 (.pointer (some ⟨t, 0, none⟩)) (by kernel_rfl) (by kernel_rfl) (fun _ => by kernel_rfl) ?_
  refine s_pure 10 (.int .i64 line) (by kernel_rfl) (by kernel_rfl) (fun _ => by kernel_rfl) ?_
  refine RTurnsA.tox .here ?_
  intro x1_2
  obtain ⟨y1_2, hy1_2, H⟩ := bindE H
  refine s_call 11 36 #[.pointer (some ⟨t, 0, none⟩), .int .i64 line] (by kernel_rfl) (by kernel_rfl) (fun _ => by kernel_rfl) (ROwnerF_tr t x1_2 tc line y1_2 hy1_2) ?_
  rintro _ _ ⟨rfl, rfl⟩
  refine s_pure 12 (.bool (!(decide (y1_2 = ((-1) : Int))))) (by kernel_rfl) (by kernel_rfl) (fun _ => by kernel_rfl) ?_
  refine ops_end ?_
  refine At.env [(0, .pointer (some ⟨t, 0, none⟩)), (1, .int .i64 line), (12, .bool (!(decide (y1_2 = ((-1) : Int)))))] ⟨by kernel_rfl, by kernel_rfl, by kernel_rfl, trivial⟩ ?_
  refine at_then_normal ?_
  rcases Bool.eq_false_or_eq_true (!(decide (y1_2 = ((-1) : Int)))) with h1 | h1
  · replace H := bifT H h1
    refine at_true (t := !(decide (y1_2 = ((-1) : Int)))) (x := C38 [1,0,1,0]) (y := C38 [1,0,1,1]) (o := .tmp 12) (by kernel_rfl) (by kernel_rfl) (by kernel_rfl) h1 ?_
    refine at_seq (x := C38 [1,0,1,0,0]) (y := C38 [1,0,1,0,1]) (by kernel_rfl) ?_
    refine at_region (id := 2) 3 (by kernel_rfl) (by kernel_rfl) ?_
    refine s_pure 4 (.int .i64 (0)) (by kernel_rfl) (by kernel_rfl) (fun _ => by kernel_rfl) ?_
    refine s_pure 5 (.int .i64 (0)) (by kernel_rfl) (by kernel_rfl) (fun _ => by kernel_rfl) ?_
    refine s_pure 6 (.bool false) (by kernel_rfl) (by kernel_rfl) (fun _ => by kernel_rfl) ?_
    refine ops_end ?_
    refine At.env [(4, .int .i64 (0)), (5, .int .i64 (0)), (6, .bool false)] ⟨by kernel_rfl, by kernel_rfl, by kernel_rfl, trivial⟩ ?_
    refine at_then_normal ?_
    refine at_ret (by kernel_rfl) ?_
    refine at_then_ret ?_
    refine At.conv (Γ' := (RTurnsA t tc) :: Γ) (fun w hw => RTurnsXA.shut (hw.pull .here)) ?_
    obtain rfl := someE H
    refine at_backR [.int .i64 (0), .int .i64 (0), .bool false] ((RTurnsA t tc) :: Γ) (rs := [.tmp 4, .tmp 5, .tmp 6]) (by kernel_rfl) (.cons (.tmp (by kernel_rfl)) (.cons (.tmp (by kernel_rfl)) (.cons (.tmp (by kernel_rfl)) .nil))) (fun w hw => (Sat.less (.take .here .refl) hw)) ?_
    exact ⟨rfl, rfl⟩
  · replace H := bifF H h1
    refine at_false (t := !(decide (y1_2 = ((-1) : Int)))) (x := C38 [1,0,1,0]) (y := C38 [1,0,1,1]) (o := .tmp 12) (by kernel_rfl) (by kernel_rfl) (by kernel_rfl) h1 ?_
    refine at_skip (by kernel_rfl) ?_
    refine at_then_normal ?_
    refine at_seq (x := C38 [1,1,0]) (y := C38 [1,1,1]) (by kernel_rfl) ?_
    refine at_seq (x := C38 [1,1,0,0]) (y := C38 [1,1,0,1]) (by kernel_rfl) ?_
    refine at_region (id := 3) 6 (by kernel_rfl) (by kernel_rfl) ?_
    refine s_pure 13 (.pointer (some ⟨t, 0, none⟩)) (by kernel_rfl) (by kernel_rfl) (fun _ => by kernel_rfl) ?_
    refine s_pure 14 (.pointer (some ⟨t, 0, none⟩)) (by kernel_rfl) (by kernel_rfl) (fun _ => by kernel_rfl) ?_
    refine s_pure 15 (.pointer (some ⟨t, 1, none⟩)) (by kernel_rfl) (by kernel_rfl) (fun _ => by kernel_rfl) ?_
    refine RTurnsXA.open .here ?_
    refine s_load 16 (.slice x1_2.2.1.1 (List.length tc.wait) x1_2.2.1.2) (by kernel_rfl) (by kernel_rfl) (load1 (off := 1) (fun _ => by kernel_rfl) (holds_own .here) (by kernel_rfl)) ?_
    refine s_pure 17 (.int .i64 (((List.length tc.wait) : Nat) : Int)) (by kernel_rfl) (by kernel_rfl) (fun _ => by kernel_rfl) ?_
    refine s_pure 18 (.int .i64 (0)) (by kernel_rfl) (by kernel_rfl) (fun _ => by kernel_rfl) ?_
    refine ops_end ?_
    refine At.env [(0, .pointer (some ⟨t, 0, none⟩)), (1, .int .i64 line), (16, .slice x1_2.2.1.1 (List.length tc.wait) x1_2.2.1.2), (17, .int .i64 (((List.length tc.wait) : Nat) : Int)), (18, .int .i64 (0))] ⟨by kernel_rfl, by kernel_rfl, by kernel_rfl, by kernel_rfl, by kernel_rfl, trivial⟩ ?_
    refine at_then_normal ?_
    refine at_block (i := 0) (x := C38 [1,1,0,1,0]) (by kernel_rfl) ?_
    refine At.conv (Γ' := (RTurnsXA t x1_2 tc) :: Γ) (fun w hw => RTurnsXA.close x1_2 tc (Sat.less (.take .here (.take .here (.take .here .refl))) hw)) ?_
    refine At.conv (Γ' := (RTurnsXA t x1_2 tc) :: Γ) (fun w hw => (Sat.less (.take .here .refl) hw)) ?_
    refine at_loopR (x := C38 [1,1,0,1,0,0]) (fun mm ff ΔΔ => ∃ (fuel : Nat) (v0_18 : Int), rnextS_l0 tc line (rnextS_k0 tc) fuel v0_18 = some y ∧ fuel = mm ∧ ff = [(0, .pointer (some ⟨t, 0, none⟩)), (1, .int .i64 line), (16, .slice x1_2.2.1.1 (List.length tc.wait) x1_2.2.1.2), (17, .int .i64 (((List.length tc.wait) : Nat) : Int)), (18, .int .i64 v0_18)] ∧ (RTurnsXA t x1_2 tc) :: Γ = ΔΔ) (64) (by kernel_rfl) [(0, .pointer (some ⟨t, 0, none⟩)), (1, .int .i64 line), (16, .slice x1_2.2.1.1 (List.length tc.wait) x1_2.2.1.2), (17, .int .i64 (((List.length tc.wait) : Nat) : Int)), (18, .int .i64 0)] ⟨by kernel_rfl, by kernel_rfl, by kernel_rfl, by kernel_rfl, by kernel_rfl, trivial⟩ ⟨64, 0, H, rfl, rfl, rfl⟩ ?_
    rintro _ _ _ ⟨fuel1, v0_18, H, rfl, rfl, rfl⟩
    rcases fuel1 with _ | fuel1
    · exact (noneE H).elim
    rw [rnextS_l0] at H
    refine at_seq (x := C38 [1,1,0,1,0,0,0]) (y := C38 [1,1,0,1,0,0,1]) (by kernel_rfl) ?_
    refine at_region (id := 4) 1 (by kernel_rfl) (by kernel_rfl) ?_
    refine s_pure 19 (.bool (decide (v0_18 < (((List.length tc.wait) : Nat) : Int)))) (by kernel_rfl) (by kernel_rfl) (fun _ => by kernel_rfl) ?_
    refine ops_end ?_
    refine At.env [(0, .pointer (some ⟨t, 0, none⟩)), (1, .int .i64 line), (16, .slice x1_2.2.1.1 (List.length tc.wait) x1_2.2.1.2), (17, .int .i64 (((List.length tc.wait) : Nat) : Int)), (18, .int .i64 v0_18), (19, .bool (decide (v0_18 < (((List.length tc.wait) : Nat) : Int))))] ⟨by kernel_rfl, by kernel_rfl, by kernel_rfl, by kernel_rfl, by kernel_rfl, by kernel_rfl, trivial⟩ ?_
    refine at_then_normal ?_
    refine at_seq (x := C38 [1,1,0,1,0,0,1,0]) (y := C38 [1,1,0,1,0,0,1,1]) (by kernel_rfl) ?_
    rcases Bool.eq_false_or_eq_true (decide (v0_18 < (((List.length tc.wait) : Nat) : Int))) with h2 | h2
    · replace H := bifT H h2
      refine at_true (t := decide (v0_18 < (((List.length tc.wait) : Nat) : Int))) (x := C38 [1,1,0,1,0,0,1,0,0]) (y := C38 [1,1,0,1,0,0,1,0,1]) (o := .tmp 19) (by kernel_rfl) (by kernel_rfl) (by kernel_rfl) h2 ?_
      refine at_skip (by kernel_rfl) ?_
      refine at_then_normal ?_
      refine at_seq (x := C38 [1,1,0,1,0,0,1,1,0]) (y := C38 [1,1,0,1,0,0,1,1,1]) (by kernel_rfl) ?_
      refine at_block (i := 1) (x := C38 [1,1,0,1,0,0,1,1,0,0]) (by kernel_rfl) ?_
      refine at_seq (x := C38 [1,1,0,1,0,0,1,1,0,0,0]) (y := C38 [1,1,0,1,0,0,1,1,0,0,1]) (by kernel_rfl) ?_
      refine at_region (id := 5) 6 (by kernel_rfl) (by kernel_rfl) ?_
      refine s_pure 20 (.int .i64 v0_18) (by kernel_rfl) (by kernel_rfl) (fun _ => by kernel_rfl) ?_
      refine RTurnsXA.open .here ?_
      obtain ⟨hc5_1_0, H⟩ := chkE H
      refine rows_at (.there (.there .here)) (by have := hc5_1_0; rw [rowsV_len]; omega) ?_
      intro bb1 oo1 ha1
      refine s_pure 21 (.pointer (some ⟨bb1, oo1 + ((v0_18).toNat * 3), none⟩)) (by kernel_rfl) (by kernel_rfl) (index_at (t := 65) (sz := 3) (E := 88) (a := x1_2.2.1.1) (m := (List.length tc.wait)) (c := x1_2.2.1.2) (b := bb1) (off := oo1) (i := (v0_18).toNat) (tinfo 88) (fun _ => by kernel_rfl) (by kernel_rfl) (by kernel_rfl) (by kernel_rfl) ha1 (idx_cast hc5_1_0) (idx_nat hc5_1_0) rfl) ?_
      obtain ⟨hc5_2_0, H⟩ := chkE H
      refine s_load 22 (.agg #[.int .i64 (nth (nthR tc.wait v0_18) 0), .int .i64 (nth (nthR tc.wait v0_18) 1), .int .i64 (nth (nthR tc.wait v0_18) 2)]) (by kernel_rfl) (by kernel_rfl) (loadN_at (k := 3) (row := [.int .i64 (nth (nthR tc.wait v0_18) 0), .int .i64 (nth (nthR tc.wait v0_18) 1), .int .i64 (nth (nthR tc.wait v0_18) 2)]) (off := oo1) (i := (v0_18).toNat) (fun _ => by kernel_rfl) rfl rfl (fun j v hj => rows_cell (k := 3) (.there (.there .here)) ha1 (rowsV_get hc5_1_0) (by rw [rowV_3 hc5_2_0]; exact hj))) ?_
      refine s_step 8 (by kernel_rfl) (by kernel_rfl) (st_new (T := 88) (cells := #[.int .i64 (0), .int .i64 (0), .int .i64 (0)]) (fun a => .pointer (some a)) (fun _ => by kernel_rfl)) ?_
      rintro _ _ ⟨b5_3, rfl, rfl⟩
      refine s_pure 7 (.int .i64 v0_18) (by kernel_rfl) (by kernel_rfl) (fun _ => by kernel_rfl) ?_
      refine s_do (by kernel_rfl) (by kernel_rfl) (st_store (off := 0) (vs := [.int .i64 (nth (nthR tc.wait v0_18) 0), .int .i64 (nth (nthR tc.wait v0_18) 1), .int .i64 (nth (nthR tc.wait v0_18) 2)]) (c' := #[.int .i64 (nth (nthR tc.wait v0_18) 0), .int .i64 (nth (nthR tc.wait v0_18) 1), .int .i64 (nth (nthR tc.wait v0_18) 2)]) (fun _ => by kernel_rfl) .here (by kernel_rfl) (by kernel_rfl) (by kernel_rfl)) ?_
      rintro _ _ ⟨rfl, rfl⟩
      refine ops_end ?_
      refine At.env [(0, .pointer (some ⟨t, 0, none⟩)), (1, .int .i64 line), (7, .int .i64 v0_18), (8, .pointer (some ⟨b5_3, 0, none⟩)), (16, .slice x1_2.2.1.1 (List.length tc.wait) x1_2.2.1.2), (17, .int .i64 (((List.length tc.wait) : Nat) : Int)), (18, .int .i64 v0_18)] ⟨by kernel_rfl, by kernel_rfl, by kernel_rfl, by kernel_rfl, by kernel_rfl, by kernel_rfl, by kernel_rfl, trivial⟩ ?_
      refine at_then_normal ?_
      refine at_seq (x := C38 [1,1,0,1,0,0,1,1,0,0,1,0]) (y := C38 [1,1,0,1,0,0,1,1,0,0,1,1]) (by kernel_rfl) ?_
      refine at_region (id := 6) 4 (by kernel_rfl) (by kernel_rfl) ?_
      refine s_pure 23 (.pointer (some ⟨b5_3, 0, none⟩)) (by kernel_rfl) (by kernel_rfl) (fun _ => by kernel_rfl) ?_
      refine s_load 24 (.int .i64 (nth (nthR tc.wait v0_18) 0)) (by kernel_rfl) (by kernel_rfl) (load1 (off := 0) (fun _ => by kernel_rfl) (holds_own .here) (by kernel_rfl)) ?_
      refine s_pure 25 (.int .i64 line) (by kernel_rfl) (by kernel_rfl) (fun _ => by kernel_rfl) ?_
      refine s_pure 26 (.bool (decide ((nth (nthR tc.wait v0_18) 0) = line))) (by kernel_rfl) (by kernel_rfl) (fun _ => by kernel_rfl) ?_
      refine ops_end ?_
      refine At.env [(0, .pointer (some ⟨t, 0, none⟩)), (1, .int .i64 line), (7, .int .i64 v0_18), (8, .pointer (some ⟨b5_3, 0, none⟩)), (16, .slice x1_2.2.1.1 (List.length tc.wait) x1_2.2.1.2), (17, .int .i64 (((List.length tc.wait) : Nat) : Int)), (18, .int .i64 v0_18), (26, .bool (decide ((nth (nthR tc.wait v0_18) 0) = line)))] ⟨by kernel_rfl, by kernel_rfl, by kernel_rfl, by kernel_rfl, by kernel_rfl, by kernel_rfl, by kernel_rfl, by kernel_rfl, trivial⟩ ?_
      refine at_then_normal ?_
      rcases Bool.eq_false_or_eq_true (decide ((nth (nthR tc.wait v0_18) 0) = line)) with h3 | h3
      · replace H := bifT H h3
        refine at_true (t := decide ((nth (nthR tc.wait v0_18) 0) = line)) (x := C38 [1,1,0,1,0,0,1,1,0,0,1,1,0]) (y := C38 [1,1,0,1,0,0,1,1,0,0,1,1,1]) (o := .tmp 26) (by kernel_rfl) (by kernel_rfl) (by kernel_rfl) h3 ?_
        refine at_seq (x := C38 [1,1,0,1,0,0,1,1,0,0,1,1,0,0]) (y := C38 [1,1,0,1,0,0,1,1,0,0,1,1,0,1]) (by kernel_rfl) ?_
        refine at_region_draw (id := 7) (by kernel_rfl) (by kernel_rfl) ?_
        refine d_pure 0 27 (.pointer (some ⟨t, 0, none⟩)) (by kernel_rfl) (by kernel_rfl) (by kernel_rfl) (fun _ => by kernel_rfl) ?_
        refine d_pure 1 28 (.pointer (some ⟨t, 0, none⟩)) (by kernel_rfl) (by kernel_rfl) (by kernel_rfl) (fun _ => by kernel_rfl) ?_
        refine d_pure 2 29 (.pointer (some ⟨t, 0, none⟩)) (by kernel_rfl) (by kernel_rfl) (by kernel_rfl) (fun _ => by kernel_rfl) ?_
        refine d_pure 3 30 (.pointer (some ⟨t, 1, none⟩)) (by kernel_rfl) (by kernel_rfl) (by kernel_rfl) (fun _ => by kernel_rfl) ?_
        refine d_load 4 31 (.slice x1_2.2.1.1 (List.length tc.wait) x1_2.2.1.2) (by kernel_rfl) (by kernel_rfl) (by kernel_rfl) (load1 (off := 1) (fun _ => by kernel_rfl) (holds_own (.there .here)) (by kernel_rfl)) ?_
        refine d_pure 5 32 (.int .i64 v0_18) (by kernel_rfl) (by kernel_rfl) (by kernel_rfl) (fun _ => by kernel_rfl) ?_
        obtain ⟨hc7_6_0, H⟩ := chkE H
        obtain ⟨l7_6, hl7_6, H⟩ := letE H
        refine Draw.known (p := (List.length tc.wait) ≤ x1_2.2.1.2) (fun w hw => by have := (RowsA.len (hw.pull (.there (.there (.there .here))))).2; rw [rowsV_len] at this; exact this) ?_
        intro hcap1
        have hbl7_6 := (hc7_6_0).1
        obtain ⟨a7_6, ha7_6⟩ : ∃ y : Option Addr, y = (if x1_2.2.1.2 = 0 then x1_2.2.1.1 else Option.map (fun x => Addr.add x (0 * 3)) x1_2.2.1.1) := ⟨_, rfl⟩
        have hrl7_6 : Reads W0 ((RowsN 3 x1_2.2.1.1 x1_2.2.1.2 tc.wait) :: Γ) a7_6 (rowsV l7_6) := by rw [ha7_6]; exact Reads.partN (lo := 0) (hi := (v0_18).toNat) (hc7_6_0).2 (RowsA.reads (k := 3) .here) hl7_6 (by omega)
        refine d_pure 6 33 (.slice a7_6 (List.length l7_6) (x1_2.2.1.2 - 0)) (by kernel_rfl) (by kernel_rfl) (by kernel_rfl) (run_eq (slice_at (t := 65) (lo := 0) (hi := (v0_18).toNat) (mx := x1_2.2.1.2) (sz := 3) (E := 88) (a := x1_2.2.1.1) (m := (List.length tc.wait)) (c := x1_2.2.1.2) none (some (.int .i64 v0_18)) none (tinfo 88) (fun _ => by kernel_rfl) (by kernel_rfl) (by kernel_rfl) (by kernel_rfl) (Or.inl ⟨rfl, rfl⟩) (Or.inr ⟨_, rfl, by omega⟩) (Or.inl ⟨rfl, rfl⟩) (by omega) (by omega) (by omega)) (by rw [← ha7_6, show (v0_18).toNat - 0 = List.length l7_6 from by rw [← hl7_6]; simp only [List.length_take, List.length_drop]; omega])) ?_
        refine d_pure 8 35 (.pointer (some ⟨t, 0, none⟩)) (by kernel_rfl) (by kernel_rfl) (by kernel_rfl) (fun _ => by kernel_rfl) ?_
        refine d_pure 9 36 (.pointer (some ⟨t, 0, none⟩)) (by kernel_rfl) (by kernel_rfl) (by kernel_rfl) (fun _ => by kernel_rfl) ?_
        refine d_pure 10 37 (.pointer (some ⟨t, 1, none⟩)) (by kernel_rfl) (by kernel_rfl) (by kernel_rfl) (fun _ => by kernel_rfl) ?_
        refine d_load 11 38 (.slice x1_2.2.1.1 (List.length tc.wait) x1_2.2.1.2) (by kernel_rfl) (by kernel_rfl) (by kernel_rfl) (load1 (off := 1) (fun _ => by kernel_rfl) (holds_own (.there .here)) (by kernel_rfl)) ?_
        refine d_pure 12 39 (.int .i64 v0_18) (by kernel_rfl) (by kernel_rfl) (by kernel_rfl) (fun _ => by kernel_rfl) ?_
        obtain ⟨hc7_13_0, H⟩ := chkE H
        refine d_pure 13 40 (.int .i64 (v0_18 + (1 : Int))) (by kernel_rfl) (by kernel_rfl) (by kernel_rfl) (run_eq (v := .int .i64 (IntKind.i64.wrap (v0_18 + (1 : Int)))) (fun _ => by kernel_rfl) (by rw [inR.wrap hc7_13_0])) ?_
        obtain ⟨hc7_14_0, H⟩ := chkE H
        obtain ⟨l7_14, hl7_14, H⟩ := letE H
        refine Draw.known (p := (List.length tc.wait) ≤ x1_2.2.1.2) (fun w hw => by have := (RowsA.len (hw.pull (.there (.there (.there .here))))).2; rw [rowsV_len] at this; exact this) ?_
        intro hcap2
        have hbl7_14 := (hc7_14_0).1
        obtain ⟨a7_14, ha7_14⟩ : ∃ y : Option Addr, y = (if x1_2.2.1.2 = ((v0_18 + (1 : Int))).toNat then x1_2.2.1.1 else Option.map (fun x => Addr.add x (((v0_18 + (1 : Int))).toNat * 3)) x1_2.2.1.1) := ⟨_, rfl⟩
        have hrl7_14 : Reads W0 ((RowsN 3 x1_2.2.1.1 x1_2.2.1.2 tc.wait) :: Γ) a7_14 (rowsV l7_14) := by rw [ha7_14]; exact Reads.partN (lo := ((v0_18 + (1 : Int))).toNat) (hi := (List.length tc.wait)) (hc7_14_0).2 (RowsA.reads (k := 3) .here) hl7_14 (by omega)
        refine d_pure 14 41 (.slice a7_14 (List.length l7_14) (x1_2.2.1.2 - ((v0_18 + (1 : Int))).toNat)) (by kernel_rfl) (by kernel_rfl) (by kernel_rfl) (run_eq (slice_at (t := 65) (lo := ((v0_18 + (1 : Int))).toNat) (hi := (List.length tc.wait)) (mx := x1_2.2.1.2) (sz := 3) (E := 88) (a := x1_2.2.1.1) (m := (List.length tc.wait)) (c := x1_2.2.1.2) (some (.int .i64 (v0_18 + (1 : Int)))) none none (tinfo 88) (fun _ => by kernel_rfl) (by kernel_rfl) (by kernel_rfl) (by kernel_rfl) (Or.inr ⟨_, rfl, by omega⟩) (Or.inl ⟨rfl, rfl, rfl⟩) (Or.inl ⟨rfl, rfl⟩) (by omega) (by omega) (by omega)) (by rw [← ha7_14, show (List.length tc.wait) - ((v0_18 + (1 : Int))).toNat = List.length l7_14 from by rw [← hl7_14]; simp only [List.length_take, List.length_drop]; omega])) ?_
        obtain ⟨hc7_7_0, H⟩ := chkE H
        obtain ⟨l7_7, hl7_7, H⟩ := letE H
        refine d_step 7 34 [6, 4, 5, 3, 2, 1] [14, 13, 12, 10, 9, 8, 0] [11] (by kernel_rfl) (by kernel_rfl) (by kernel_rfl) (StepTo.conv (Γ' := (RowsN 3 none 0 ([] : List (List Int))) :: (Asn.own b5_3 (.cells #[.int .i64 (nth (nthR tc.wait v0_18) 0), .int .i64 (nth (nthR tc.wait v0_18) 1), .int .i64 (nth (nthR tc.wait v0_18) 2)] 88 (0, 0))) :: (Asn.own t (.cells #[.slice x1_2.1.1 (List.length tc.owner) x1_2.1.2, .slice x1_2.2.1.1 (List.length tc.wait) x1_2.2.1.2] x1_2.2.2 (0, 0))) :: (RowsN 2 x1_2.1.1 x1_2.1.2 tc.owner) :: (RowsN 3 x1_2.2.1.1 x1_2.2.1.2 tc.wait) :: Γ) (fun w hw => RowsA.none_mk (k := 3) (a := none) hw) (st_append_rows (k := 3) (m1 := 0) (m2 := (List.length l7_6)) (cap2 := (x1_2.2.1.2 - 0)) (xs := ([] : List (List Int))) (ys := l7_6) (zs := l7_7) (info := tinfo 88) 24 (.agg #[.int .i64 0, .int .i64 0, .int .i64 0]) (m := List.length l7_7) 65 65 88 (fun _ => by kernel_rfl) (by kernel_rfl) (by kernel_rfl) (by kernel_rfl) (by kernel_rfl) (by kernel_rfl) (by kernel_rfl) (by kernel_rfl) (by decide) .here (Reads.conv (fun w hw => hw.less (.take (.there (.there (.there (.there .here)))) (.drop .here (.drop .here (.drop .here (.drop .here .refl)))))) hrl7_6) (fun x hx => (hc7_6_0).2 x (List.mem_of_mem_drop (List.mem_of_mem_take (by rw [hl7_6]; exact hx)))) rfl rfl rfl hl7_7 (by rw [← hl7_7]; exact hc7_7_0))) ?_
        rintro _ _ ⟨a7_7, c7_7, rfl, rfl⟩
        refine ⟨(stable_cons 11 38 (.slice x1_2.2.1.1 (List.length tc.wait) x1_2.2.1.2) (by kernel_rfl) (by kernel_rfl) (by kernel_rfl) (load1 (off := 1) (fun _ => by kernel_rfl) (holds_own (.there (.there .here))) (by kernel_rfl)) stable_nil), ?_⟩
        obtain ⟨hc7_15_0, H⟩ := chkE H
        obtain ⟨l7_15, hl7_15, H⟩ := letE H
        refine d_step 15 42 [7, 14, 6, 11, 13, 4, 5, 10, 12, 3, 9, 2, 8, 1] [0] [] (by kernel_rfl) (by kernel_rfl) (by kernel_rfl) (st_append_rows (k := 3) (m1 := (List.length l7_7)) (m2 := (List.length l7_14)) (cap2 := (x1_2.2.1.2 - ((v0_18 + (1 : Int))).toNat)) (xs := l7_7) (ys := l7_14) (zs := l7_15) (info := tinfo 88) 24 (.agg #[.int .i64 0, .int .i64 0, .int .i64 0]) (m := List.length l7_15) 65 65 88 (fun _ => by kernel_rfl) (by kernel_rfl) (by kernel_rfl) (by kernel_rfl) (by kernel_rfl) (by kernel_rfl) (by kernel_rfl) (by kernel_rfl) (by decide) .here (Reads.conv (fun w hw => hw.less (.take (.there (.there (.there (.there .here)))) (.drop .here (.drop .here (.drop .here (.drop .here .refl)))))) hrl7_14) (fun x hx => (hc7_14_0).2 x (List.mem_of_mem_drop (List.mem_of_mem_take (by rw [hl7_14]; exact hx)))) rfl rfl rfl hl7_15 (by rw [← hl7_15]; exact hc7_15_0)) ?_
        rintro _ _ ⟨a7_15, c7_15, rfl, rfl⟩
        refine ⟨stable_nil, ?_⟩
        refine d_pure 16 43 (.pointer (some ⟨t, 0, none⟩)) (by kernel_rfl) (by kernel_rfl) (by kernel_rfl) (fun _ => by kernel_rfl) ?_
        refine d_pure 17 44 (.pointer (some ⟨t, 1, none⟩)) (by kernel_rfl) (by kernel_rfl) (by kernel_rfl) (fun _ => by kernel_rfl) ?_
        refine d_do 18 [17, 15, 0, 1, 2, 3, 4, 5, 6, 7, 8, 9, 10, 11, 12, 13, 14, 16] [] [] (by kernel_rfl) (by kernel_rfl) (by kernel_rfl) (st_store (off := 1) (vs := [.slice a7_15 (List.length l7_15) c7_15]) (c' := #[.slice x1_2.1.1 (List.length tc.owner) x1_2.1.2, .slice a7_15 (List.length l7_15) c7_15]) (fun _ => by kernel_rfl) (.there (.there .here)) (by kernel_rfl) (by kernel_rfl) (by kernel_rfl)) ?_
        rintro _ _ ⟨rfl, rfl⟩
        refine ⟨stable_nil, ?_⟩
        refine draw_end (by kernel_rfl) ?_
        refine At.env [(0, .pointer (some ⟨t, 0, none⟩)), (1, .int .i64 line), (8, .pointer (some ⟨b5_3, 0, none⟩))] ⟨by kernel_rfl, by kernel_rfl, by kernel_rfl, trivial⟩ ?_
        refine at_then_normal ?_
        refine at_seq (x := C38 [1,1,0,1,0,0,1,1,0,0,1,1,0,1,0]) (y := C38 [1,1,0,1,0,0,1,1,0,0,1,1,0,1,1]) (by kernel_rfl) ?_
        refine at_region_draw (id := 8) (by kernel_rfl) (by kernel_rfl) ?_
        refine d_pure 0 45 (.pointer (some ⟨t, 0, none⟩)) (by kernel_rfl) (by kernel_rfl) (by kernel_rfl) (fun _ => by kernel_rfl) ?_
        refine d_pure 1 46 (.pointer (some ⟨t, 0, none⟩)) (by kernel_rfl) (by kernel_rfl) (by kernel_rfl) (fun _ => by kernel_rfl) ?_
        refine d_pure 2 47 (.pointer (some ⟨t, 0, none⟩)) (by kernel_rfl) (by kernel_rfl) (by kernel_rfl) (fun _ => by kernel_rfl) ?_
        refine d_pure 3 48 (.pointer (some ⟨t, 0, none⟩)) (by kernel_rfl) (by kernel_rfl) (by kernel_rfl) (fun _ => by kernel_rfl) ?_
        refine d_load 4 49 (.slice x1_2.1.1 (List.length tc.owner) x1_2.1.2) (by kernel_rfl) (by kernel_rfl) (by kernel_rfl) (load1 (off := 0) (fun _ => by kernel_rfl) (holds_own .here) (by kernel_rfl)) ?_
        refine d_pure 5 50 (.int .i64 line) (by kernel_rfl) (by kernel_rfl) (by kernel_rfl) (fun _ => by kernel_rfl) ?_
        refine d_pure 6 51 (.pointer (some ⟨b5_3, 1, none⟩)) (by kernel_rfl) (by kernel_rfl) (by kernel_rfl) (fun _ => by kernel_rfl) ?_
        refine d_load 7 52 (.int .i64 (nth (nthR tc.wait v0_18) 1)) (by kernel_rfl) (by kernel_rfl) (by kernel_rfl) (load1 (off := 1) (fun _ => by kernel_rfl) (holds_own (.there (.there .here))) (by kernel_rfl)) ?_
        refine d_pure 8 53 (.agg #[.int .i64 line, .int .i64 (nth (nthR tc.wait v0_18) 1)]) (by kernel_rfl) (by kernel_rfl) (by kernel_rfl) (fun _ => by kernel_rfl) ?_
        refine d_step 9 54 [8, 5, 7, 6] [3, 2, 1, 0] [4] (by kernel_rfl) (by kernel_rfl) (by kernel_rfl) (st_new (T := 86) (cells := #[.int .i64 line, .int .i64 (nth (nthR tc.wait v0_18) 1)]) (fun a => .slice (some a) 1 1) (fun _ => by kernel_rfl)) ?_
        rintro _ _ ⟨b8_9, rfl, rfl⟩
        refine ⟨(stable_cons 4 49 (.slice x1_2.1.1 (List.length tc.owner) x1_2.1.2) (by kernel_rfl) (by kernel_rfl) (by kernel_rfl) (load1 (off := 0) (fun _ => by kernel_rfl) (holds_own (.there .here)) (by kernel_rfl)) stable_nil), ?_⟩
        obtain ⟨hc8_10_0, H⟩ := chkE H
        obtain ⟨l8_10, hl8_10, H⟩ := letE H
        refine d_step 10 55 [4, 9, 3, 8, 2, 5, 7, 1, 6] [0] [] (by kernel_rfl) (by kernel_rfl) (by kernel_rfl) (st_append_rows (k := 2) (m1 := (List.length tc.owner)) (m2 := 1) (cap2 := 1) (xs := tc.owner) (ys := [[line, nth (nthR tc.wait v0_18) 1]]) (zs := l8_10) (info := tinfo 86) 16 (.agg #[.int .i64 0, .int .i64 0]) (m := List.length l8_10) 64 64 86 (fun _ => by kernel_rfl) (by kernel_rfl) (by kernel_rfl) (by kernel_rfl) (by kernel_rfl) (by kernel_rfl) (by kernel_rfl) (by kernel_rfl) (by decide) (.there (.there (.there (.there .here)))) (Reads.own (rows := rowsV [[line, nth (nthR tc.wait v0_18) 1]]) .here rfl) (by intro x hx; rw [List.mem_singleton] at hx; subst hx; rfl) rfl rfl rfl hl8_10 (by rw [← hl8_10]; exact hc8_10_0)) ?_
        rintro _ _ ⟨a8_10, c8_10, rfl, rfl⟩
        refine ⟨stable_nil, ?_⟩
        refine d_pure 11 56 (.pointer (some ⟨t, 0, none⟩)) (by kernel_rfl) (by kernel_rfl) (by kernel_rfl) (fun _ => by kernel_rfl) ?_
        refine d_pure 12 57 (.pointer (some ⟨t, 0, none⟩)) (by kernel_rfl) (by kernel_rfl) (by kernel_rfl) (fun _ => by kernel_rfl) ?_
        refine d_do 13 [12, 10, 0, 1, 2, 3, 4, 5, 6, 7, 8, 9, 11] [] [] (by kernel_rfl) (by kernel_rfl) (by kernel_rfl) (st_store (off := 0) (vs := [.slice a8_10 (List.length l8_10) c8_10]) (c' := #[.slice a8_10 (List.length l8_10) c8_10, .slice a7_15 (List.length l7_15) c7_15]) (fun _ => by kernel_rfl) (.there (.there .here)) (by kernel_rfl) (by kernel_rfl) (by kernel_rfl)) ?_
        rintro _ _ ⟨rfl, rfl⟩
        refine ⟨stable_nil, ?_⟩
        refine draw_end (by kernel_rfl) ?_
        refine At.env [(8, .pointer (some ⟨b5_3, 0, none⟩))] ⟨by kernel_rfl, trivial⟩ ?_
        refine at_then_normal ?_
        refine at_seq (x := C38 [1,1,0,1,0,0,1,1,0,0,1,1,0,1,1,0]) (y := C38 [1,1,0,1,0,0,1,1,0,0,1,1,0,1,1,1]) (by kernel_rfl) ?_
        refine at_region_draw (id := 9) (by kernel_rfl) (by kernel_rfl) ?_
        refine d_pure 0 58 (.pointer (some ⟨b5_3, 1, none⟩)) (by kernel_rfl) (by kernel_rfl) (by kernel_rfl) (fun _ => by kernel_rfl) ?_
        refine d_load 1 59 (.int .i64 (nth (nthR tc.wait v0_18) 1)) (by kernel_rfl) (by kernel_rfl) (by kernel_rfl) (load1 (off := 1) (fun _ => by kernel_rfl) (holds_own (.there (.there (.there (.there .here))))) (by kernel_rfl)) ?_
        refine d_pure 2 60 (.pointer (some ⟨b5_3, 2, none⟩)) (by kernel_rfl) (by kernel_rfl) (by kernel_rfl) (fun _ => by kernel_rfl) ?_
        refine d_load 3 61 (.int .i64 (nth (nthR tc.wait v0_18) 2)) (by kernel_rfl) (by kernel_rfl) (by kernel_rfl) (load1 (off := 2) (fun _ => by kernel_rfl) (holds_own (.there (.there (.there (.there .here))))) (by kernel_rfl)) ?_
        refine d_pure 4 4 (.int .i64 (nth (nthR tc.wait v0_18) 1)) (by kernel_rfl) (by kernel_rfl) (by kernel_rfl) (fun _ => by kernel_rfl) ?_
        refine d_pure 5 5 (.int .i64 (nth (nthR tc.wait v0_18) 2)) (by kernel_rfl) (by kernel_rfl) (by kernel_rfl) (fun _ => by kernel_rfl) ?_
        refine d_pure 6 6 (.bool true) (by kernel_rfl) (by kernel_rfl) (by kernel_rfl) (fun _ => by kernel_rfl) ?_
        refine draw_end (by kernel_rfl) ?_
        refine At.env [(4, .int .i64 (nth (nthR tc.wait v0_18) 1)), (5, .int .i64 (nth (nthR tc.wait v0_18) 2)), (6, .bool true)] ⟨by kernel_rfl, by kernel_rfl, by kernel_rfl, trivial⟩ ?_
        refine at_then_normal ?_
        refine at_ret (by kernel_rfl) ?_
        refine at_in_ret ?_
        refine at_then_ret ?_
        refine at_then_ret ?_
        refine at_in_ret ?_
        refine at_then_ret ?_
        refine At.conv (Γ' := (RTurnsXA t ((a8_10, c8_10), (a7_15, c7_15), x1_2.2.2) (⟨l8_10, l7_15⟩ : RTurnsS)) :: (Asn.own b8_9 (.cells #[.int .i64 line, .int .i64 (nth (nthR tc.wait v0_18) 1)] 86 (0, 0))) :: (Asn.own b5_3 (.cells #[.int .i64 (nth (nthR tc.wait v0_18) 0), .int .i64 (nth (nthR tc.wait v0_18) 1), .int .i64 (nth (nthR tc.wait v0_18) 2)] 88 (0, 0))) :: (RowsN 3 x1_2.2.1.1 x1_2.2.1.2 tc.wait) :: Γ) (fun w hw => RTurnsXA.close ((a8_10, c8_10), (a7_15, c7_15), x1_2.2.2) (⟨l8_10, l7_15⟩ : RTurnsS) (Sat.less (.take .here (.take .here (.take (.there .here) (.take .here (.take .here (.take .here .refl)))))) hw)) ?_
        refine At.conv (Γ' := (RTurnsA t (⟨l8_10, l7_15⟩ : RTurnsS)) :: (Asn.own b8_9 (.cells #[.int .i64 line, .int .i64 (nth (nthR tc.wait v0_18) 1)] 86 (0, 0))) :: (Asn.own b5_3 (.cells #[.int .i64 (nth (nthR tc.wait v0_18) 0), .int .i64 (nth (nthR tc.wait v0_18) 1), .int .i64 (nth (nthR tc.wait v0_18) 2)] 88 (0, 0))) :: (RowsN 3 x1_2.2.1.1 x1_2.2.1.2 tc.wait) :: Γ) (fun w hw => RTurnsXA.shut (hw.pull .here)) ?_
        obtain rfl := someE H
        refine at_backR [.int .i64 (nth (nthR tc.wait v0_18) 1), .int .i64 (nth (nthR tc.wait v0_18) 2), .bool true] ((RTurnsA t (⟨l8_10, l7_15⟩ : RTurnsS)) :: Γ) (rs := [.tmp 4, .tmp 5, .tmp 6]) (by kernel_rfl) (.cons (.tmp (by kernel_rfl)) (.cons (.tmp (by kernel_rfl)) (.cons (.tmp (by kernel_rfl)) .nil))) (fun w hw => (Sat.less (.take .here (.drop .here (.drop .here (.drop .here .refl)))) hw)) ?_
        exact ⟨rfl, rfl⟩
      · replace H := bifF H h3
        refine at_false (t := decide ((nth (nthR tc.wait v0_18) 0) = line)) (x := C38 [1,1,0,1,0,0,1,1,0,0,1,1,0]) (y := C38 [1,1,0,1,0,0,1,1,0,0,1,1,1]) (o := .tmp 26) (by kernel_rfl) (by kernel_rfl) (by kernel_rfl) h3 ?_
        refine at_skip (by kernel_rfl) ?_
        refine at_in_normal ?_
        refine at_then_normal ?_
        refine at_region (id := 10) 2 (by kernel_rfl) (by kernel_rfl) ?_
        obtain ⟨hc10_0_0, H⟩ := chkE H
        refine s_pure 62 (.int .i64 (v0_18 + (1 : Int))) (by kernel_rfl) (by kernel_rfl) (run_eq (v := .int .i64 (IntKind.i64.wrap (v0_18 + (1 : Int)))) (fun _ => by kernel_rfl) (by rw [inR.wrap hc10_0_0])) ?_
        refine s_pure 18 (.int .i64 (v0_18 + (1 : Int))) (by kernel_rfl) (by kernel_rfl) (fun _ => by kernel_rfl) ?_
        refine ops_end ?_
        refine At.env [(0, .pointer (some ⟨t, 0, none⟩)), (1, .int .i64 line), (16, .slice x1_2.2.1.1 (List.length tc.wait) x1_2.2.1.2), (17, .int .i64 (((List.length tc.wait) : Nat) : Int)), (18, .int .i64 (v0_18 + (1 : Int)))] ⟨by kernel_rfl, by kernel_rfl, by kernel_rfl, by kernel_rfl, by kernel_rfl, trivial⟩ ?_
        refine at_round_normal ?_
        refine At.conv (Γ' := (RTurnsXA t x1_2 tc) :: (Asn.own b5_3 (.cells #[.int .i64 (nth (nthR tc.wait v0_18) 0), .int .i64 (nth (nthR tc.wait v0_18) 1), .int .i64 (nth (nthR tc.wait v0_18) 2)] 88 (0, 0))) :: Γ) (fun w hw => RTurnsXA.close x1_2 tc (Sat.less (.take (.there .here) (.take (.there .here) (.take (.there .here) (.take .here .refl)))) hw)) ?_
        exact at_roundR fuel1 [(0, .pointer (some ⟨t, 0, none⟩)), (1, .int .i64 line), (16, .slice x1_2.2.1.1 (List.length tc.wait) x1_2.2.1.2), (17, .int .i64 (((List.length tc.wait) : Nat) : Int)), (18, .int .i64 (v0_18 + (1 : Int)))] ((RTurnsXA t x1_2 tc) :: Γ) (Nat.lt_succ_self _) ⟨by kernel_rfl, by kernel_rfl, by kernel_rfl, by kernel_rfl, by kernel_rfl, trivial⟩ (fun w hw => (Sat.less (.take .here (.drop .here .refl)) hw)) ⟨fuel1, v0_18 + (1 : Int), H, rfl, rfl, rfl⟩
    · replace H := bifF H h2
      refine at_false (t := decide (v0_18 < (((List.length tc.wait) : Nat) : Int))) (x := C38 [1,1,0,1,0,0,1,0,0]) (y := C38 [1,1,0,1,0,0,1,0,1]) (o := .tmp 19) (by kernel_rfl) (by kernel_rfl) (by kernel_rfl) h2 ?_
      refine at_exit (i := 0) (by kernel_rfl) ?_
      refine at_then_exit ?_
      refine at_then_exit ?_
      rw [rnextS_k0] at H
      refine At.env [(0, .pointer (some ⟨t, 0, none⟩)), (1, .int .i64 line), (16, .slice x1_2.2.1.1 (List.length tc.wait) x1_2.2.1.2), (17, .int .i64 (((List.length tc.wait) : Nat) : Int)), (18, .int .i64 v0_18)] ⟨by kernel_rfl, by kernel_rfl, by kernel_rfl, by kernel_rfl, by kernel_rfl, trivial⟩ ?_
      refine At.conv (Γ' := (RTurnsXA t x1_2 tc) :: Γ) (fun w hw => (Sat.less (.take .here .refl) hw)) ?_
      refine at_in_here ?_
      refine at_then_normal ?_
      refine at_seq (x := C38 [1,1,1,0]) (y := C38 [1,1,1,1]) (by kernel_rfl) ?_
      refine at_region (id := 11) 3 (by kernel_rfl) (by kernel_rfl) ?_
      refine s_pure 4 (.int .i64 (0)) (by kernel_rfl) (by kernel_rfl) (fun _ => by kernel_rfl) ?_
      refine s_pure 5 (.int .i64 (0)) (by kernel_rfl) (by kernel_rfl) (fun _ => by kernel_rfl) ?_
      refine s_pure 6 (.bool false) (by kernel_rfl) (by kernel_rfl) (fun _ => by kernel_rfl) ?_
      refine ops_end ?_
      refine At.env [(4, .int .i64 (0)), (5, .int .i64 (0)), (6, .bool false)] ⟨by kernel_rfl, by kernel_rfl, by kernel_rfl, trivial⟩ ?_
      refine at_then_normal ?_
      refine at_ret (by kernel_rfl) ?_
      refine At.conv (Γ' := (RTurnsA t tc) :: Γ) (fun w hw => RTurnsXA.shut (hw.pull .here)) ?_
      obtain rfl := someE H
      refine at_backR [.int .i64 (0), .int .i64 (0), .bool false] ((RTurnsA t tc) :: Γ) (rs := [.tmp 4, .tmp 5, .tmp 6]) (by kernel_rfl) (.cons (.tmp (by kernel_rfl)) (.cons (.tmp (by kernel_rfl)) (.cons (.tmp (by kernel_rfl)) .nil))) (fun w hw => (Sat.less (.take .here .refl) hw)) ?_
      exact ⟨rfl, rfl⟩
def rreadyS_k1 (v0_3x : List Int) (tc : RTurnsS) (v0_12 : Int) (r0 : (List Int) → Int → Option ((List Int))) (e1_6 : Int) : Option ((List Int)) :=
  (bif decide (e1_6 = (((List.length v0_3x) : Nat) : Int)) then chk (0 ≤ (0 : Int) ∧ (0 : Int) ≤ e1_6 ∧ e1_6 ≤ ((v0_3x.length : Nat) : Int) ∧ e1_6 ≤ e1_6 ∧ e1_6 ≤ ((v0_3x.length : Nat) : Int)) (letP ((v0_3x.drop 0).take ((e1_6).toNat - 0)) fun l10_3 => chk (0 ≤ e1_6 ∧ e1_6 ≤ (((List.length v0_3x) : Nat) : Int) ∧ (((List.length v0_3x) : Nat) : Int) ≤ ((v0_3x.length : Nat) : Int)) (letP ((v0_3x.drop (e1_6).toNat).take ((List.length v0_3x) - (e1_6).toNat)) fun l10_9 => letP ([nth (nthR tc.wait v0_12) 0] : List Int) fun l10_6 => chk ((l10_6 ++ l10_9).length ≤ 1099511627776) (letP (l10_6 ++ l10_9) fun l10_10 => chk ((l10_3 ++ l10_10).length ≤ 1099511627776) (letP (l10_3 ++ l10_10) fun l10_11 => chk (inR (v0_12 + (1 : Int))) (r0 l10_11 (v0_12 + (1 : Int))))))) else chk (0 ≤ e1_6 ∧ e1_6 < ((v0_3x.length : Nat) : Int)) ((bif !(decide ((nth v0_3x e1_6) = (nth (nthR tc.wait v0_12) 0))) then chk (0 ≤ (0 : Int) ∧ (0 : Int) ≤ e1_6 ∧ e1_6 ≤ ((v0_3x.length : Nat) : Int) ∧ e1_6 ≤ e1_6 ∧ e1_6 ≤ ((v0_3x.length : Nat) : Int)) (letP ((v0_3x.drop 0).take ((e1_6).toNat - 0)) fun l10_3 => chk (0 ≤ e1_6 ∧ e1_6 ≤ (((List.length v0_3x) : Nat) : Int) ∧ (((List.length v0_3x) : Nat) : Int) ≤ ((v0_3x.length : Nat) : Int)) (letP ((v0_3x.drop (e1_6).toNat).take ((List.length v0_3x) - (e1_6).toNat)) fun l10_9 => letP ([nth (nthR tc.wait v0_12) 0] : List Int) fun l10_6 => chk ((l10_6 ++ l10_9).length ≤ 1099511627776) (letP (l10_6 ++ l10_9) fun l10_10 => chk ((l10_3 ++ l10_10).length ≤ 1099511627776) (letP (l10_3 ++ l10_10) fun l10_11 => chk (inR (v0_12 + (1 : Int))) (r0 l10_11 (v0_12 + (1 : Int))))))) else chk (inR (v0_12 + (1 : Int))) (r0 v0_3x (v0_12 + (1 : Int))))))
def rreadyS_l1 (v0_3x : List Int) (tc : RTurnsS) (v0_12 : Int) (k1 : Int → Option ((List Int))) : Nat → Int → Option ((List Int))
  | 0 => fun _ => none
  | m + 1 => fun v1_6 => (bif decide (v1_6 < (((List.length v0_3x) : Nat) : Int)) then chk (0 ≤ v1_6 ∧ v1_6 < ((v0_3x.length : Nat) : Int)) ((bif decide ((nth v0_3x v1_6) < (nth (nthR tc.wait v0_12) 0)) then chk (inR (v1_6 + (1 : Int))) ((rreadyS_l1 v0_3x tc v0_12 k1 m) (v1_6 + (1 : Int))) else k1 v1_6)) else k1 v1_6)
def rreadyS_k0 (e0_3x : List Int) (e0_12 : Int) : Option ((List Int)) :=
  some e0_3x
def rreadyS_l0 (tc : RTurnsS) (k0 : (List Int) → Int → Option ((List Int))) : Nat → (List Int) → Int → Option ((List Int))
  | 0 => fun _ _ => none
  | m + 1 => fun v0_3x v0_12 => (bif decide (v0_12 < (((List.length tc.wait) : Nat) : Int)) then chk (0 ≤ v0_12 ∧ v0_12 < ((List.length (tc.wait) : Nat) : Int)) (chk ((nthR tc.wait v0_12).length = 3) ((rownerS tc (nth (nthR tc.wait v0_12) 0)).bind fun y5_3 => (bif !(decide (y5_3 = ((-1) : Int))) then chk (inR (v0_12 + (1 : Int))) ((rreadyS_l0 tc k0 m) v0_3x (v0_12 + (1 : Int))) else rreadyS_l1 v0_3x tc v0_12 (rreadyS_k1 v0_3x tc v0_12 (rreadyS_l0 tc k0 m)) 64 0))) else k0 v0_3x v0_12)
def rreadyS (tc : RTurnsS) : Option ((List Int)) :=
  rreadyS_l0 tc (rreadyS_k0 ) 64 ([] : List Int) 0
noncomputable def C39 (p : List Nat) : Code := codeAt (bodyOf Try.f39) p
set_option maxRecDepth 100000 in
set_option maxHeartbeats 8000000 in
theorem RReadyF_tr {W0 : World} {Γ : List Asn} (t : Nat) (tx : RTX) (tc : RTurnsS)  (y : (List Int)) (H : rreadyS tc = some y) : Tr Try.prog 39 #[.pointer (some ⟨t, 0, none⟩)] W0 ((RTurnsXA t tx tc) :: Γ) (fun r Δ => ∃ (a0_0 : Option Addr) (c0_0 : Nat), r = .slice a0_0 (List.length y) c0_0 ∧ Δ = (IntsA a0_0 c0_0 y) :: (RTurnsXA t tx tc) :: Γ) := by
  unfold rreadyS at H
  refine Tr.enter (fn := Try.f39) (c := C39 []) (args := [.pointer (some ⟨t, 0, none⟩)]) 63 Try.func39 (by kernel_rfl) (by kernel_rfl) ?_
  refine At.env [(0, .pointer (some ⟨t, 0, none⟩))] ⟨by kernel_rfl, trivial⟩ ?_
  refine at_seq (x := C39 [0]) (y := C39 [1]) (by kernel_rfl) ?_
  refine at_region (id := 0) 1 (by kernel_rfl) (by kernel_rfl) ?_
  refine s_pure 2 (.slice none 0 0) (by kernel_rfl) (by kernel_rfl) (fun _ => by kernel_rfl) ?_
  refine ops_end ?_
  refine At.env [(0, .pointer (some ⟨t, 0, none⟩))] ⟨by kernel_rfl, trivial⟩ ?_
  refine at_then_normal ?_
  refine at_seq (x := C39 [1,0]) (y := C39 [1,1]) (by kernel_rfl) ?_
  refine at_region (id := 1) 1 (by kernel_rfl) (by kernel_rfl) ?_
  refine s_pure 3 (.slice none 0 0) (by kernel_rfl) (by kernel_rfl) (fun _ => by kernel_rfl) ?_
  refine ops_end ?_
  refine At.env [(0, .pointer (some ⟨t, 0, none⟩)), (3, .slice none 0 0)] ⟨by kernel_rfl, by kernel_rfl, trivial⟩ ?_
  refine at_then_normal ?_
  refine at_seq (x := C39 [1,1,0]) (y := C39 [1,1,1]) (by kernel_rfl) ?_
  refine at_seq (x := C39 [1,1,0,0]) (y := C39 [1,1,0,1]) (by kernel_rfl) ?_
  refine at_region (id := 2) 6 (by kernel_rfl) (by kernel_rfl) ?_
  refine s_pure 7 (.pointer (some ⟨t, 0, none⟩)) (by kernel_rfl) (by kernel_rfl) (fun _ => by kernel_rfl) ?_
  refine s_pure 8 (.pointer (some ⟨t, 0, none⟩)) (by kernel_rfl) (by kernel_rfl) (fun _ => by kernel_rfl) ?_
  refine s_pure 9 (.pointer (some ⟨t, 1, none⟩)) (by kernel_rfl) (by kernel_rfl) (fun _ => by kernel_rfl) ?_
  refine RTurnsXA.open .here ?_
  refine s_load 10 (.slice tx.2.1.1 (List.length tc.wait) tx.2.1.2) (by kernel_rfl) (by kernel_rfl) (load1 (off := 1) (fun _ => by kernel_rfl) (holds_own .here) (by kernel_rfl)) ?_
  refine s_pure 11 (.int .i64 (((List.length tc.wait) : Nat) : Int)) (by kernel_rfl) (by kernel_rfl) (fun _ => by kernel_rfl) ?_
  refine s_pure 12 (.int .i64 (0)) (by kernel_rfl) (by kernel_rfl) (fun _ => by kernel_rfl) ?_
  refine ops_end ?_
  refine At.env [(0, .pointer (some ⟨t, 0, none⟩)), (3, .slice none 0 0), (10, .slice tx.2.1.1 (List.length tc.wait) tx.2.1.2), (11, .int .i64 (((List.length tc.wait) : Nat) : Int)), (12, .int .i64 (0))] ⟨by kernel_rfl, by kernel_rfl, by kernel_rfl, by kernel_rfl, by kernel_rfl, trivial⟩ ?_
  refine at_then_normal ?_
  refine at_block (i := 0) (x := C39 [1,1,0,1,0]) (by kernel_rfl) ?_
  refine At.conv (Γ' := (RTurnsXA t tx tc) :: Γ) (fun w hw => RTurnsXA.close tx tc (Sat.less (.take .here (.take .here (.take .here .refl))) hw)) ?_
  refine At.conv (Γ' := (IntsA none 0 ([] : List Int)) :: (RTurnsXA t tx tc) :: Γ) (fun w hw => (Sat.less (.take .here (.take .here .refl)) (RowsA.none_mk (k := 1) (a := none) hw))) ?_
  refine at_loopR (x := C39 [1,1,0,1,0,0]) (fun mm ff ΔΔ => ∃ (fuel : Nat) (v0_3x : List Int) (v0_12 : Int) (v0_3a : Option Addr) (v0_3c : Nat), rreadyS_l0 tc (rreadyS_k0 ) fuel v0_3x v0_12 = some y ∧ fuel = mm ∧ ff = [(0, .pointer (some ⟨t, 0, none⟩)), (3, .slice v0_3a (List.length v0_3x) v0_3c), (10, .slice tx.2.1.1 (List.length tc.wait) tx.2.1.2), (11, .int .i64 (((List.length tc.wait) : Nat) : Int)), (12, .int .i64 v0_12)] ∧ (IntsA v0_3a v0_3c v0_3x) :: (RTurnsXA t tx tc) :: Γ = ΔΔ) (64) (by kernel_rfl) [(0, .pointer (some ⟨t, 0, none⟩)), (3, .slice none (List.length ([] : List Int)) 0), (10, .slice tx.2.1.1 (List.length tc.wait) tx.2.1.2), (11, .int .i64 (((List.length tc.wait) : Nat) : Int)), (12, .int .i64 0)] ⟨by kernel_rfl, by kernel_rfl, by kernel_rfl, by kernel_rfl, by kernel_rfl, trivial⟩ ⟨64, ([] : List Int), 0, none, 0, H, rfl, rfl, rfl⟩ ?_
  rintro _ _ _ ⟨fuel1, v0_3x, v0_12, v0_3a, v0_3c, H, rfl, rfl, rfl⟩
  rcases fuel1 with _ | fuel1
  · exact (noneE H).elim
  rw [rreadyS_l0] at H
  refine at_seq (x := C39 [1,1,0,1,0,0,0]) (y := C39 [1,1,0,1,0,0,1]) (by kernel_rfl) ?_
  refine at_region (id := 3) 1 (by kernel_rfl) (by kernel_rfl) ?_
  refine s_pure 13 (.bool (decide (v0_12 < (((List.length tc.wait) : Nat) : Int)))) (by kernel_rfl) (by kernel_rfl) (fun _ => by kernel_rfl) ?_
  refine ops_end ?_
  refine At.env [(0, .pointer (some ⟨t, 0, none⟩)), (3, .slice v0_3a (List.length v0_3x) v0_3c), (10, .slice tx.2.1.1 (List.length tc.wait) tx.2.1.2), (11, .int .i64 (((List.length tc.wait) : Nat) : Int)), (12, .int .i64 v0_12), (13, .bool (decide (v0_12 < (((List.length tc.wait) : Nat) : Int))))] ⟨by kernel_rfl, by kernel_rfl, by kernel_rfl, by kernel_rfl, by kernel_rfl, by kernel_rfl, trivial⟩ ?_
  refine at_then_normal ?_
  refine at_seq (x := C39 [1,1,0,1,0,0,1,0]) (y := C39 [1,1,0,1,0,0,1,1]) (by kernel_rfl) ?_
  rcases Bool.eq_false_or_eq_true (decide (v0_12 < (((List.length tc.wait) : Nat) : Int))) with h1 | h1
  · replace H := bifT H h1
    refine at_true (t := decide (v0_12 < (((List.length tc.wait) : Nat) : Int))) (x := C39 [1,1,0,1,0,0,1,0,0]) (y := C39 [1,1,0,1,0,0,1,0,1]) (o := .tmp 13) (by kernel_rfl) (by kernel_rfl) (by kernel_rfl) h1 ?_
    refine at_skip (by kernel_rfl) ?_
    refine at_then_normal ?_
    refine at_seq (x := C39 [1,1,0,1,0,0,1,1,0]) (y := C39 [1,1,0,1,0,0,1,1,1]) (by kernel_rfl) ?_
    refine at_block (i := 1) (x := C39 [1,1,0,1,0,0,1,1,0,0]) (by kernel_rfl) ?_
    refine at_seq (x := C39 [1,1,0,1,0,0,1,1,0,0,0]) (y := C39 [1,1,0,1,0,0,1,1,0,0,1]) (by kernel_rfl) ?_
    refine at_region (id := 4) 4 (by kernel_rfl) (by kernel_rfl) ?_
    refine RTurnsXA.open (.there .here) ?_
    obtain ⟨hc4_0_0, H⟩ := chkE H
    refine rows_at (.there (.there .here)) (by have := hc4_0_0; rw [rowsV_len]; omega) ?_
    intro bb1 oo1 ha1
    refine s_pure 14 (.pointer (some ⟨bb1, oo1 + ((v0_12).toNat * 3), none⟩)) (by kernel_rfl) (by kernel_rfl) (index_at (t := 65) (sz := 3) (E := 88) (a := tx.2.1.1) (m := (List.length tc.wait)) (c := tx.2.1.2) (b := bb1) (off := oo1) (i := (v0_12).toNat) (tinfo 88) (fun _ => by kernel_rfl) (by kernel_rfl) (by kernel_rfl) (by kernel_rfl) ha1 (idx_cast hc4_0_0) (idx_nat hc4_0_0) rfl) ?_
    obtain ⟨hc4_1_0, H⟩ := chkE H
    refine s_load 15 (.agg #[.int .i64 (nth (nthR tc.wait v0_12) 0), .int .i64 (nth (nthR tc.wait v0_12) 1), .int .i64 (nth (nthR tc.wait v0_12) 2)]) (by kernel_rfl) (by kernel_rfl) (loadN_at (k := 3) (row := [.int .i64 (nth (nthR tc.wait v0_12) 0), .int .i64 (nth (nthR tc.wait v0_12) 1), .int .i64 (nth (nthR tc.wait v0_12) 2)]) (off := oo1) (i := (v0_12).toNat) (fun _ => by kernel_rfl) rfl rfl (fun j v hj => rows_cell (k := 3) (.there (.there .here)) ha1 (rowsV_get hc4_0_0) (by rw [rowV_3 hc4_1_0]; exact hj))) ?_
    refine s_step 5 (by kernel_rfl) (by kernel_rfl) (st_new (T := 88) (cells := #[.int .i64 (0), .int .i64 (0), .int .i64 (0)]) (fun a => .pointer (some a)) (fun _ => by kernel_rfl)) ?_
    rintro _ _ ⟨b4_2, rfl, rfl⟩
    refine s_do (by kernel_rfl) (by kernel_rfl) (st_store (off := 0) (vs := [.int .i64 (nth (nthR tc.wait v0_12) 0), .int .i64 (nth (nthR tc.wait v0_12) 1), .int .i64 (nth (nthR tc.wait v0_12) 2)]) (c' := #[.int .i64 (nth (nthR tc.wait v0_12) 0), .int .i64 (nth (nthR tc.wait v0_12) 1), .int .i64 (nth (nthR tc.wait v0_12) 2)]) (fun _ => by kernel_rfl) .here (by kernel_rfl) (by kernel_rfl) (by kernel_rfl)) ?_
    rintro _ _ ⟨rfl, rfl⟩
    refine ops_end ?_
    refine At.env [(0, .pointer (some ⟨t, 0, none⟩)), (3, .slice v0_3a (List.length v0_3x) v0_3c), (5, .pointer (some ⟨b4_2, 0, none⟩)), (10, .slice tx.2.1.1 (List.length tc.wait) tx.2.1.2), (11, .int .i64 (((List.length tc.wait) : Nat) : Int)), (12, .int .i64 v0_12)] ⟨by kernel_rfl, by kernel_rfl, by kernel_rfl, by kernel_rfl, by kernel_rfl, by kernel_rfl, trivial⟩ ?_
    refine at_then_normal ?_
    refine at_seq (x := C39 [1,1,0,1,0,0,1,1,0,0,1,0]) (y := C39 [1,1,0,1,0,0,1,1,0,0,1,1]) (by kernel_rfl) ?_
    refine at_seq (x := C39 [1,1,0,1,0,0,1,1,0,0,1,0,0]) (y := C39 [1,1,0,1,0,0,1,1,0,0,1,0,1]) (by kernel_rfl) ?_
    refine at_region (id := 5) 5 (by kernel_rfl) (by kernel_rfl) ?_
    refine s_pure 16 (.pointer (some ⟨t, 0, none⟩)) (by kernel_rfl) (by kernel_rfl) (fun _ => by kernel_rfl) ?_
    refine s_pure 17 (.pointer (some ⟨b4_2, 0, none⟩)) (by kernel_rfl) (by kernel_rfl) (fun _ => by kernel_rfl) ?_
    refine s_load 18 (.int .i64 (nth (nthR tc.wait v0_12) 0)) (by kernel_rfl) (by kernel_rfl) (load1 (off := 0) (fun _ => by kernel_rfl) (holds_own .here) (by kernel_rfl)) ?_
    refine At.conv (Γ' := (RTurnsXA t tx tc) :: (Asn.own b4_2 (.cells #[.int .i64 (nth (nthR tc.wait v0_12) 0), .int .i64 (nth (nthR tc.wait v0_12) 1), .int .i64 (nth (nthR tc.wait v0_12) 2)] 88 (0, 0))) :: (IntsA v0_3a v0_3c v0_3x) :: Γ) (fun w hw => RTurnsXA.close tx tc (Sat.less (.take (.there .here) (.take (.there .here) (.take (.there .here) (.take .here (.take .here .refl))))) hw)) ?_
    obtain ⟨y5_3, hy5_3, H⟩ := bindE H
    refine s_call 19 36 #[.pointer (some ⟨t, 0, none⟩), .int .i64 (nth (nthR tc.wait v0_12) 0)] (by kernel_rfl) (by kernel_rfl) (fun _ => by kernel_rfl) (ROwnerF_tr t tx tc (nth (nthR tc.wait v0_12) 0) y5_3 hy5_3) ?_
    rintro _ _ ⟨rfl, rfl⟩
    refine s_pure 20 (.bool (!(decide (y5_3 = ((-1) : Int))))) (by kernel_rfl) (by kernel_rfl) (fun _ => by kernel_rfl) ?_
    refine ops_end ?_
    refine At.env [(0, .pointer (some ⟨t, 0, none⟩)), (3, .slice v0_3a (List.length v0_3x) v0_3c), (5, .pointer (some ⟨b4_2, 0, none⟩)), (10, .slice tx.2.1.1 (List.length tc.wait) tx.2.1.2), (11, .int .i64 (((List.length tc.wait) : Nat) : Int)), (12, .int .i64 v0_12), (20, .bool (!(decide (y5_3 = ((-1) : Int)))))] ⟨by kernel_rfl, by kernel_rfl, by kernel_rfl, by kernel_rfl, by kernel_rfl, by kernel_rfl, by kernel_rfl, trivial⟩ ?_
    refine at_then_normal ?_
    rcases Bool.eq_false_or_eq_true (!(decide (y5_3 = ((-1) : Int)))) with h2 | h2
    · replace H := bifT H h2
      refine at_true (t := !(decide (y5_3 = ((-1) : Int)))) (x := C39 [1,1,0,1,0,0,1,1,0,0,1,0,1,0]) (y := C39 [1,1,0,1,0,0,1,1,0,0,1,0,1,1]) (o := .tmp 20) (by kernel_rfl) (by kernel_rfl) (by kernel_rfl) h2 ?_
      refine at_exit (i := 1) (by kernel_rfl) ?_
      refine at_then_exit ?_
      refine at_in_here ?_
      refine at_then_normal ?_
      refine at_region (id := 11) 2 (by kernel_rfl) (by kernel_rfl) ?_
      obtain ⟨hc11_0_0, H⟩ := chkE H
      refine s_pure 61 (.int .i64 (v0_12 + (1 : Int))) (by kernel_rfl) (by kernel_rfl) (run_eq (v := .int .i64 (IntKind.i64.wrap (v0_12 + (1 : Int)))) (fun _ => by kernel_rfl) (by rw [inR.wrap hc11_0_0])) ?_
      refine s_pure 12 (.int .i64 (v0_12 + (1 : Int))) (by kernel_rfl) (by kernel_rfl) (fun _ => by kernel_rfl) ?_
      refine ops_end ?_
      refine At.env [(0, .pointer (some ⟨t, 0, none⟩)), (3, .slice v0_3a (List.length v0_3x) v0_3c), (10, .slice tx.2.1.1 (List.length tc.wait) tx.2.1.2), (11, .int .i64 (((List.length tc.wait) : Nat) : Int)), (12, .int .i64 (v0_12 + (1 : Int)))] ⟨by kernel_rfl, by kernel_rfl, by kernel_rfl, by kernel_rfl, by kernel_rfl, trivial⟩ ?_
      refine at_round_normal ?_
      exact at_roundR fuel1 [(0, .pointer (some ⟨t, 0, none⟩)), (3, .slice v0_3a (List.length v0_3x) v0_3c), (10, .slice tx.2.1.1 (List.length tc.wait) tx.2.1.2), (11, .int .i64 (((List.length tc.wait) : Nat) : Int)), (12, .int .i64 (v0_12 + (1 : Int)))] ((IntsA v0_3a v0_3c v0_3x) :: (RTurnsXA t tx tc) :: Γ) (Nat.lt_succ_self _) ⟨by kernel_rfl, by kernel_rfl, by kernel_rfl, by kernel_rfl, by kernel_rfl, trivial⟩ (fun w hw => (Sat.less (.take (.there (.there .here)) (.take .here (.drop .here .refl))) hw)) ⟨fuel1, v0_3x, v0_12 + (1 : Int), v0_3a, v0_3c, H, rfl, rfl, rfl⟩
    · replace H := bifF H h2
      refine at_false (t := !(decide (y5_3 = ((-1) : Int)))) (x := C39 [1,1,0,1,0,0,1,1,0,0,1,0,1,0]) (y := C39 [1,1,0,1,0,0,1,1,0,0,1,0,1,1]) (o := .tmp 20) (by kernel_rfl) (by kernel_rfl) (by kernel_rfl) h2 ?_
      refine at_skip (by kernel_rfl) ?_
      refine at_then_normal ?_
      refine at_seq (x := C39 [1,1,0,1,0,0,1,1,0,0,1,1,0]) (y := C39 [1,1,0,1,0,0,1,1,0,0,1,1,1]) (by kernel_rfl) ?_
      refine at_region (id := 6) 1 (by kernel_rfl) (by kernel_rfl) ?_
      refine s_pure 6 (.int .i64 (0)) (by kernel_rfl) (by kernel_rfl) (fun _ => by kernel_rfl) ?_
      refine ops_end ?_
      refine At.env [(0, .pointer (some ⟨t, 0, none⟩)), (3, .slice v0_3a (List.length v0_3x) v0_3c), (5, .pointer (some ⟨b4_2, 0, none⟩)), (6, .int .i64 (0)), (10, .slice tx.2.1.1 (List.length tc.wait) tx.2.1.2), (11, .int .i64 (((List.length tc.wait) : Nat) : Int)), (12, .int .i64 v0_12)] ⟨by kernel_rfl, by kernel_rfl, by kernel_rfl, by kernel_rfl, by kernel_rfl, by kernel_rfl, by kernel_rfl, trivial⟩ ?_
      refine at_then_normal ?_
      refine at_seq (x := C39 [1,1,0,1,0,0,1,1,0,0,1,1,1,0]) (y := C39 [1,1,0,1,0,0,1,1,0,0,1,1,1,1]) (by kernel_rfl) ?_
      refine at_block (i := 2) (x := C39 [1,1,0,1,0,0,1,1,0,0,1,1,1,0,0]) (by kernel_rfl) ?_
      refine At.conv (Γ' := (RTurnsXA t tx tc) :: (Asn.own b4_2 (.cells #[.int .i64 (nth (nthR tc.wait v0_12) 0), .int .i64 (nth (nthR tc.wait v0_12) 1), .int .i64 (nth (nthR tc.wait v0_12) 2)] 88 (0, 0))) :: (IntsA v0_3a v0_3c v0_3x) :: Γ) (fun w hw => (Sat.less (.take .here (.take .here (.take .here .refl))) hw)) ?_
      refine at_loopR (x := C39 [1,1,0,1,0,0,1,1,0,0,1,1,1,0,0,0]) (fun mm ff ΔΔ => ∃ (fuel : Nat) (v1_6 : Int), rreadyS_l1 v0_3x tc v0_12 (rreadyS_k1 v0_3x tc v0_12 (rreadyS_l0 tc (rreadyS_k0 ) fuel1)) fuel v1_6 = some y ∧ fuel = mm ∧ ff = [(0, .pointer (some ⟨t, 0, none⟩)), (3, .slice v0_3a (List.length v0_3x) v0_3c), (5, .pointer (some ⟨b4_2, 0, none⟩)), (6, .int .i64 v1_6), (10, .slice tx.2.1.1 (List.length tc.wait) tx.2.1.2), (11, .int .i64 (((List.length tc.wait) : Nat) : Int)), (12, .int .i64 v0_12)] ∧ (RTurnsXA t tx tc) :: (Asn.own b4_2 (.cells #[.int .i64 (nth (nthR tc.wait v0_12) 0), .int .i64 (nth (nthR tc.wait v0_12) 1), .int .i64 (nth (nthR tc.wait v0_12) 2)] 88 (0, 0))) :: (IntsA v0_3a v0_3c v0_3x) :: Γ = ΔΔ) (64) (by kernel_rfl) [(0, .pointer (some ⟨t, 0, none⟩)), (3, .slice v0_3a (List.length v0_3x) v0_3c), (5, .pointer (some ⟨b4_2, 0, none⟩)), (6, .int .i64 0), (10, .slice tx.2.1.1 (List.length tc.wait) tx.2.1.2), (11, .int .i64 (((List.length tc.wait) : Nat) : Int)), (12, .int .i64 v0_12)] ⟨by kernel_rfl, by kernel_rfl, by kernel_rfl, by kernel_rfl, by kernel_rfl, by kernel_rfl, by kernel_rfl, trivial⟩ ⟨64, 0, H, rfl, rfl, rfl⟩ ?_
      rintro _ _ _ ⟨fuel2, v1_6, H, rfl, rfl, rfl⟩
      rcases fuel2 with _ | fuel2
      · exact (noneE H).elim
      rw [rreadyS_l1] at H
      refine at_seq (x := C39 [1,1,0,1,0,0,1,1,0,0,1,1,1,0,0,0,0]) (y := C39 [1,1,0,1,0,0,1,1,0,0,1,1,1,0,0,0,1]) (by kernel_rfl) ?_
      refine at_seq (x := C39 [1,1,0,1,0,0,1,1,0,0,1,1,1,0,0,0,0,0]) (y := C39 [1,1,0,1,0,0,1,1,0,0,1,1,1,0,0,0,0,1]) (by kernel_rfl) ?_
      refine at_region_draw (id := 7) (by kernel_rfl) (by kernel_rfl) ?_
      refine d_pure 0 21 (.int .i64 v1_6) (by kernel_rfl) (by kernel_rfl) (by kernel_rfl) (fun _ => by kernel_rfl) ?_
      refine d_pure 1 22 (.slice v0_3a (List.length v0_3x) v0_3c) (by kernel_rfl) (by kernel_rfl) (by kernel_rfl) (fun _ => by kernel_rfl) ?_
      refine d_pure 2 23 (.int .i64 (((List.length v0_3x) : Nat) : Int)) (by kernel_rfl) (by kernel_rfl) (by kernel_rfl) (fun _ => by kernel_rfl) ?_
      refine d_pure 3 24 (.bool (decide (v1_6 < (((List.length v0_3x) : Nat) : Int)))) (by kernel_rfl) (by kernel_rfl) (by kernel_rfl) (fun _ => by kernel_rfl) ?_
      rcases Bool.eq_false_or_eq_true (decide (v1_6 < (((List.length v0_3x) : Nat) : Int))) with h3 | h3
      · replace H := bifT H h3
        refine d_pure 4 25 (.bool true) (by kernel_rfl) (by kernel_rfl) (by kernel_rfl) (run_eq (v := .bool (decide (v1_6 < (((List.length v0_3x) : Nat) : Int)))) (fun _ => by kernel_rfl) (congrArg Value.bool h3)) ?_
        refine d_pure 5 26 (.slice v0_3a (List.length v0_3x) v0_3c) (by kernel_rfl) (by kernel_rfl) (by kernel_rfl) (fun _ => by kernel_rfl) ?_
        refine d_pure 6 27 (.int .i64 v1_6) (by kernel_rfl) (by kernel_rfl) (by kernel_rfl) (fun _ => by kernel_rfl) ?_
        obtain ⟨hc7_7_0, H⟩ := chkE H
        refine rows_at_draw (.there (.there .here)) (by have := hc7_7_0; simp only [ints_length]; omega) ?_
        intro bb2 oo2 ha2
        refine d_pure 7 28 (.pointer (some ⟨bb2, oo2 + ((v1_6).toNat * 1 + 0), none⟩)) (by kernel_rfl) (by kernel_rfl) (by kernel_rfl) (index_at (t := 22) (sz := 1) (E := 3) (a := v0_3a) (m := (List.length v0_3x)) (c := v0_3c) (b := bb2) (off := oo2) (i := (v1_6).toNat) (tinfo 3) (fun _ => by kernel_rfl) (by kernel_rfl) (by kernel_rfl) (by kernel_rfl) ha2 (idx_cast hc7_7_0) (idx_nat hc7_7_0) rfl) ?_
        refine d_load 8 29 (.int .i64 (nth v0_3x v1_6)) (by kernel_rfl) (by kernel_rfl) (by kernel_rfl) (load1_at (off := oo2 + ((v1_6).toNat * 1 + 0)) (v := .int .i64 (nth v0_3x v1_6)) (fun _ => by kernel_rfl) rfl (reads_cell (k := 1) (RowsA.reads (k := 1) (.there (.there .here))) (ints_rows _) ha2 (nth_row hc7_7_0) (show [(.int .i64 (nth v0_3x v1_6) : Value)][0]? = some _ from rfl))) ?_
        refine d_pure 9 30 (.pointer (some ⟨b4_2, 0, none⟩)) (by kernel_rfl) (by kernel_rfl) (by kernel_rfl) (fun _ => by kernel_rfl) ?_
        refine d_load 10 31 (.int .i64 (nth (nthR tc.wait v0_12) 0)) (by kernel_rfl) (by kernel_rfl) (by kernel_rfl) (load1 (off := 0) (fun _ => by kernel_rfl) (holds_own (.there .here)) (by kernel_rfl)) ?_
        refine d_pure 11 32 (.bool (decide ((nth v0_3x v1_6) < (nth (nthR tc.wait v0_12) 0)))) (by kernel_rfl) (by kernel_rfl) (by kernel_rfl) (fun _ => by kernel_rfl) ?_
        refine d_pure 12 33 (.bool (decide ((nth v0_3x v1_6) < (nth (nthR tc.wait v0_12) 0)))) (by kernel_rfl) (by kernel_rfl) (by kernel_rfl) (fun _ => by kernel_rfl) ?_
        refine draw_end (by kernel_rfl) ?_
        refine At.env [(0, .pointer (some ⟨t, 0, none⟩)), (3, .slice v0_3a (List.length v0_3x) v0_3c), (5, .pointer (some ⟨b4_2, 0, none⟩)), (6, .int .i64 v1_6), (10, .slice tx.2.1.1 (List.length tc.wait) tx.2.1.2), (11, .int .i64 (((List.length tc.wait) : Nat) : Int)), (12, .int .i64 v0_12), (33, .bool (decide ((nth v0_3x v1_6) < (nth (nthR tc.wait v0_12) 0))))] ⟨by kernel_rfl, by kernel_rfl, by kernel_rfl, by kernel_rfl, by kernel_rfl, by kernel_rfl, by kernel_rfl, by kernel_rfl, trivial⟩ ?_
        refine at_then_normal ?_
        rcases Bool.eq_false_or_eq_true (decide ((nth v0_3x v1_6) < (nth (nthR tc.wait v0_12) 0))) with h4 | h4
        · replace H := bifT H h4
          refine at_true (t := decide ((nth v0_3x v1_6) < (nth (nthR tc.wait v0_12) 0))) (x := C39 [1,1,0,1,0,0,1,1,0,0,1,1,1,0,0,0,0,1,0]) (y := C39 [1,1,0,1,0,0,1,1,0,0,1,1,1,0,0,0,0,1,1]) (o := .tmp 33) (by kernel_rfl) (by kernel_rfl) (by kernel_rfl) h4 ?_
          refine at_skip (by kernel_rfl) ?_
          refine at_then_normal ?_
          refine at_block (i := 3) (x := C39 [1,1,0,1,0,0,1,1,0,0,1,1,1,0,0,0,1,0]) (by kernel_rfl) ?_
          refine at_region (id := 8) 3 (by kernel_rfl) (by kernel_rfl) ?_
          refine s_pure 34 (.int .i64 v1_6) (by kernel_rfl) (by kernel_rfl) (fun _ => by kernel_rfl) ?_
          obtain ⟨hc8_1_0, H⟩ := chkE H
          refine s_pure 35 (.int .i64 (v1_6 + (1 : Int))) (by kernel_rfl) (by kernel_rfl) (run_eq (v := .int .i64 (IntKind.i64.wrap (v1_6 + (1 : Int)))) (fun _ => by kernel_rfl) (by rw [inR.wrap hc8_1_0])) ?_
          refine s_pure 6 (.int .i64 (v1_6 + (1 : Int))) (by kernel_rfl) (by kernel_rfl) (fun _ => by kernel_rfl) ?_
          refine ops_end ?_
          refine At.env [(0, .pointer (some ⟨t, 0, none⟩)), (3, .slice v0_3a (List.length v0_3x) v0_3c), (5, .pointer (some ⟨b4_2, 0, none⟩)), (6, .int .i64 (v1_6 + (1 : Int))), (10, .slice tx.2.1.1 (List.length tc.wait) tx.2.1.2), (11, .int .i64 (((List.length tc.wait) : Nat) : Int)), (12, .int .i64 v0_12)] ⟨by kernel_rfl, by kernel_rfl, by kernel_rfl, by kernel_rfl, by kernel_rfl, by kernel_rfl, by kernel_rfl, trivial⟩ ?_
          refine at_in_normal ?_
          refine at_round_normal ?_
          exact at_roundR fuel2 [(0, .pointer (some ⟨t, 0, none⟩)), (3, .slice v0_3a (List.length v0_3x) v0_3c), (5, .pointer (some ⟨b4_2, 0, none⟩)), (6, .int .i64 (v1_6 + (1 : Int))), (10, .slice tx.2.1.1 (List.length tc.wait) tx.2.1.2), (11, .int .i64 (((List.length tc.wait) : Nat) : Int)), (12, .int .i64 v0_12)] ((RTurnsXA t tx tc) :: (Asn.own b4_2 (.cells #[.int .i64 (nth (nthR tc.wait v0_12) 0), .int .i64 (nth (nthR tc.wait v0_12) 1), .int .i64 (nth (nthR tc.wait v0_12) 2)] 88 (0, 0))) :: (IntsA v0_3a v0_3c v0_3x) :: Γ) (Nat.lt_succ_self _) ⟨by kernel_rfl, by kernel_rfl, by kernel_rfl, by kernel_rfl, by kernel_rfl, by kernel_rfl, by kernel_rfl, trivial⟩ (fun w hw => (Sat.less (.take .here (.take .here (.take .here .refl))) hw)) ⟨fuel2, v1_6 + (1 : Int), H, rfl, rfl, rfl⟩
        · replace H := bifF H h4
          refine at_false (t := decide ((nth v0_3x v1_6) < (nth (nthR tc.wait v0_12) 0))) (x := C39 [1,1,0,1,0,0,1,1,0,0,1,1,1,0,0,0,0,1,0]) (y := C39 [1,1,0,1,0,0,1,1,0,0,1,1,1,0,0,0,0,1,1]) (o := .tmp 33) (by kernel_rfl) (by kernel_rfl) (by kernel_rfl) h4 ?_
          refine at_exit (i := 2) (by kernel_rfl) ?_
          refine at_then_exit ?_
          refine at_then_exit ?_
          rw [rreadyS_k1] at H
          refine At.env [(0, .pointer (some ⟨t, 0, none⟩)), (3, .slice v0_3a (List.length v0_3x) v0_3c), (5, .pointer (some ⟨b4_2, 0, none⟩)), (6, .int .i64 v1_6), (10, .slice tx.2.1.1 (List.length tc.wait) tx.2.1.2), (11, .int .i64 (((List.length tc.wait) : Nat) : Int)), (12, .int .i64 v0_12)] ⟨by kernel_rfl, by kernel_rfl, by kernel_rfl, by kernel_rfl, by kernel_rfl, by kernel_rfl, by kernel_rfl, trivial⟩ ?_
          refine At.conv (Γ' := (RTurnsXA t tx tc) :: (Asn.own b4_2 (.cells #[.int .i64 (nth (nthR tc.wait v0_12) 0), .int .i64 (nth (nthR tc.wait v0_12) 1), .int .i64 (nth (nthR tc.wait v0_12) 2)] 88 (0, 0))) :: (IntsA v0_3a v0_3c v0_3x) :: Γ) (fun w hw => (Sat.less (.take .here (.take .here (.take .here .refl))) hw)) ?_
          refine at_in_here ?_
          refine at_then_normal ?_
          refine at_seq (x := C39 [1,1,0,1,0,0,1,1,0,0,1,1,1,1,0]) (y := C39 [1,1,0,1,0,0,1,1,0,0,1,1,1,1,1]) (by kernel_rfl) ?_
          refine at_region_draw (id := 9) (by kernel_rfl) (by kernel_rfl) ?_
          refine d_pure 0 36 (.int .i64 v1_6) (by kernel_rfl) (by kernel_rfl) (by kernel_rfl) (fun _ => by kernel_rfl) ?_
          refine d_pure 1 37 (.slice v0_3a (List.length v0_3x) v0_3c) (by kernel_rfl) (by kernel_rfl) (by kernel_rfl) (fun _ => by kernel_rfl) ?_
          refine d_pure 2 38 (.int .i64 (((List.length v0_3x) : Nat) : Int)) (by kernel_rfl) (by kernel_rfl) (by kernel_rfl) (fun _ => by kernel_rfl) ?_
          refine d_pure 3 39 (.bool (decide (v1_6 = (((List.length v0_3x) : Nat) : Int)))) (by kernel_rfl) (by kernel_rfl) (by kernel_rfl) (fun _ => by kernel_rfl) ?_
          rcases Bool.eq_false_or_eq_true (decide (v1_6 = (((List.length v0_3x) : Nat) : Int))) with h5 | h5
          · replace H := bifT H h5
            refine d_pure 4 40 (.bool true) (by kernel_rfl) (by kernel_rfl) (by kernel_rfl) (run_eq (v := .bool (decide (v1_6 = (((List.length v0_3x) : Nat) : Int)))) (fun _ => by kernel_rfl) (congrArg Value.bool h5)) ?_
            refine d_off 5 41 (by kernel_rfl) (by kernel_rfl) (by kernel_rfl) ?_
            refine d_off 6 42 (by kernel_rfl) (by kernel_rfl) (by kernel_rfl) ?_
            refine d_off 7 43 (by kernel_rfl) (by kernel_rfl) (by kernel_rfl) ?_
            refine d_off 8 44 (by kernel_rfl) (by kernel_rfl) (by kernel_rfl) ?_
            refine d_off 9 45 (by kernel_rfl) (by kernel_rfl) (by kernel_rfl) ?_
            refine d_off 10 46 (by kernel_rfl) (by kernel_rfl) (by kernel_rfl) ?_
            refine d_off 11 47 (by kernel_rfl) (by kernel_rfl) (by kernel_rfl) ?_
            refine d_pure 12 48 (.bool true) (by kernel_rfl) (by kernel_rfl) (by kernel_rfl) (fun _ => by kernel_rfl) ?_
            refine draw_end (by kernel_rfl) ?_
            refine At.env [(0, .pointer (some ⟨t, 0, none⟩)), (3, .slice v0_3a (List.length v0_3x) v0_3c), (5, .pointer (some ⟨b4_2, 0, none⟩)), (6, .int .i64 v1_6), (10, .slice tx.2.1.1 (List.length tc.wait) tx.2.1.2), (11, .int .i64 (((List.length tc.wait) : Nat) : Int)), (12, .int .i64 v0_12), (48, .bool true)] ⟨by kernel_rfl, by kernel_rfl, by kernel_rfl, by kernel_rfl, by kernel_rfl, by kernel_rfl, by kernel_rfl, by kernel_rfl, trivial⟩ ?_
            refine at_then_normal ?_
            refine at_true (t := true) (x := C39 [1,1,0,1,0,0,1,1,0,0,1,1,1,1,1,0]) (y := C39 [1,1,0,1,0,0,1,1,0,0,1,1,1,1,1,1]) (o := .tmp 48) (by kernel_rfl) (by kernel_rfl) (by kernel_rfl) rfl ?_
            refine at_region_draw (id := 10) (by kernel_rfl) (by kernel_rfl) ?_
            refine d_pure 0 49 (.slice v0_3a (List.length v0_3x) v0_3c) (by kernel_rfl) (by kernel_rfl) (by kernel_rfl) (fun _ => by kernel_rfl) ?_
            refine d_pure 1 50 (.int .i64 v1_6) (by kernel_rfl) (by kernel_rfl) (by kernel_rfl) (fun _ => by kernel_rfl) ?_
            refine d_pure 2 51 (.int .i64 v1_6) (by kernel_rfl) (by kernel_rfl) (by kernel_rfl) (fun _ => by kernel_rfl) ?_
            obtain ⟨hc10_3_0, H⟩ := chkE H
            obtain ⟨l10_3, hl10_3, H⟩ := letE H
            refine Draw.known (p := (List.length v0_3x) ≤ v0_3c) (fun w hw => by have := (RowsA.len (hw.pull (.there (.there .here)))).2; simpa using this) ?_
            intro hcap1
            have hcapl10_3 : (List.length v0_3x) ≤ v0_3c := hcap1
            have hcl10_3 := hc10_3_0
            obtain ⟨a10_3, ha10_3⟩ : ∃ y : Option Addr, y = (if (v1_6).toNat = 0 then v0_3a else Option.map (fun x => Addr.add x (0 * 1)) v0_3a) := ⟨_, rfl⟩
            have hrl10_3 : Reads W0 ((RTurnsXA t tx tc) :: (Asn.own b4_2 (.cells #[.int .i64 (nth (nthR tc.wait v0_12) 0), .int .i64 (nth (nthR tc.wait v0_12) 1), .int .i64 (nth (nthR tc.wait v0_12) 2)] 88 (0, 0))) :: (IntsA v0_3a v0_3c v0_3x) :: Γ) a10_3 (ints l10_3) := by rw [ha10_3, ← hl10_3]; exact Reads.part (lo := 0) (hi := (v1_6).toNat) (RowsA.reads (k := 1) (.there (.there .here))) rfl (by omega)
            refine d_pure 3 52 (.slice a10_3 (List.length l10_3) ((v1_6).toNat - 0)) (by kernel_rfl) (by kernel_rfl) (by kernel_rfl) (run_eq (slice_at (t := 22) (lo := 0) (hi := (v1_6).toNat) (mx := (v1_6).toNat) (sz := 1) (E := 3) (a := v0_3a) (m := (List.length v0_3x)) (c := v0_3c) none (some (.int .i64 v1_6)) (some (.int .i64 v1_6)) (tinfo 3) (fun _ => by kernel_rfl) (by kernel_rfl) (by kernel_rfl) (by kernel_rfl) (Or.inl ⟨rfl, rfl⟩) (Or.inr ⟨_, rfl, by omega⟩) (Or.inr ⟨_, rfl, by omega⟩) (by omega) (by omega) (by omega)) (by rw [← ha10_3, show (v1_6).toNat - 0 = List.length l10_3 from by rw [← hl10_3]; simp only [List.length_take, List.length_drop]; omega])) ?_
            refine d_pure 4 53 (.pointer (some ⟨b4_2, 0, none⟩)) (by kernel_rfl) (by kernel_rfl) (by kernel_rfl) (fun _ => by kernel_rfl) ?_
            refine d_load 5 54 (.int .i64 (nth (nthR tc.wait v0_12) 0)) (by kernel_rfl) (by kernel_rfl) (by kernel_rfl) (load1 (off := 0) (fun _ => by kernel_rfl) (holds_own (.there .here)) (by kernel_rfl)) ?_
            refine d_pure 7 56 (.slice v0_3a (List.length v0_3x) v0_3c) (by kernel_rfl) (by kernel_rfl) (by kernel_rfl) (fun _ => by kernel_rfl) ?_
            refine d_pure 8 57 (.int .i64 v1_6) (by kernel_rfl) (by kernel_rfl) (by kernel_rfl) (fun _ => by kernel_rfl) ?_
            obtain ⟨hc10_9_0, H⟩ := chkE H
            obtain ⟨l10_9, hl10_9, H⟩ := letE H
            refine Draw.known (p := (List.length v0_3x) ≤ v0_3c) (fun w hw => by have := (RowsA.len (hw.pull (.there (.there .here)))).2; simpa using this) ?_
            intro hcap2
            have hcapl10_9 : (List.length v0_3x) ≤ v0_3c := hcap2
            have hcl10_9 := hc10_9_0
            obtain ⟨a10_9, ha10_9⟩ : ∃ y : Option Addr, y = (if v0_3c = (v1_6).toNat then v0_3a else Option.map (fun x => Addr.add x ((v1_6).toNat * 1)) v0_3a) := ⟨_, rfl⟩
            have hrl10_9 : Reads W0 ((RTurnsXA t tx tc) :: (Asn.own b4_2 (.cells #[.int .i64 (nth (nthR tc.wait v0_12) 0), .int .i64 (nth (nthR tc.wait v0_12) 1), .int .i64 (nth (nthR tc.wait v0_12) 2)] 88 (0, 0))) :: (IntsA v0_3a v0_3c v0_3x) :: Γ) a10_9 (ints l10_9) := by rw [ha10_9, ← hl10_9]; exact Reads.part (lo := (v1_6).toNat) (hi := (List.length v0_3x)) (RowsA.reads (k := 1) (.there (.there .here))) rfl (by omega)
            refine d_pure 9 58 (.slice a10_9 (List.length l10_9) (v0_3c - (v1_6).toNat)) (by kernel_rfl) (by kernel_rfl) (by kernel_rfl) (run_eq (slice_at (t := 22) (lo := (v1_6).toNat) (hi := (List.length v0_3x)) (mx := v0_3c) (sz := 1) (E := 3) (a := v0_3a) (m := (List.length v0_3x)) (c := v0_3c) (some (.int .i64 v1_6)) none none (tinfo 3) (fun _ => by kernel_rfl) (by kernel_rfl) (by kernel_rfl) (by kernel_rfl) (Or.inr ⟨_, rfl, by omega⟩) (Or.inl ⟨rfl, rfl, rfl⟩) (Or.inl ⟨rfl, rfl⟩) (by omega) (by omega) (by omega)) (by rw [← ha10_9, show (List.length v0_3x) - (v1_6).toNat = List.length l10_9 from by rw [← hl10_9]; simp only [List.length_take, List.length_drop]; omega])) ?_
            obtain ⟨l10_6, hl10_6, H⟩ := letE H
            refine d_step 6 55 [5, 4] [9, 8, 7, 3, 2, 1, 0] [] (by kernel_rfl) (by kernel_rfl) (by kernel_rfl) (st_new_ints (T := 3) (xs := l10_6) 1 hl10_6 (fun _ => by kernel_rfl) (by kernel_rfl)) ?_
            rintro _ _ ⟨b10_6, rfl, rfl⟩
            refine ⟨stable_nil, ?_⟩
            obtain ⟨hc10_10_0, H⟩ := chkE H
            obtain ⟨l10_10, hl10_10, H⟩ := letE H
            refine d_step 10 59 [6, 9, 5, 7, 8, 4] [3, 2, 1, 0] [] (by kernel_rfl) (by kernel_rfl) (by kernel_rfl) (st_append_ints (xs := l10_6) (ys := l10_9) (zs := l10_10) (m1 := (List.length l10_6)) (m2 := (List.length l10_9)) (m := List.length l10_10) (cap2 := (v0_3c - (v1_6).toNat)) 22 22 3 (tinfo 3) (fun _ => by kernel_rfl) (by kernel_rfl) (by kernel_rfl) (by kernel_rfl) (by kernel_rfl) (by kernel_rfl) .here (Reads.conv (fun w hw => hw.less (.take (.there .here) (.take (.there .here) (.take (.there .here) (.drop .here .refl))))) hrl10_9) (by first | rfl | simp) (by first | rfl | simp) (by rw [← hl10_10]; first | done | simp) (by rw [← hl10_10]; first | done | simp) (by rw [← hl10_10]; exact hc10_10_0)) ?_
            rintro _ _ ⟨a10_10, c10_10, rfl, rfl⟩
            refine ⟨stable_nil, ?_⟩
            obtain ⟨hc10_11_0, H⟩ := chkE H
            obtain ⟨l10_11, hl10_11, H⟩ := letE H
            refine d_step 11 60 [3, 10, 0, 1, 2, 6, 9, 5, 7, 8, 4] [] [] (by kernel_rfl) (by kernel_rfl) (by kernel_rfl) (StepTo.conv (fun w hw => ints_shrink (hi := (v1_6).toNat) (mx := (v1_6).toNat) ha10_3 hl10_3 (by omega) (by omega) (Sat.less (.take (.there (.there (.there .here))) (.take .here (.take .here (.take .here .refl)))) hw)) (st_append_ints (xs := l10_3) (ys := l10_10) (zs := l10_11) (m1 := (List.length l10_3)) (m2 := (List.length l10_10)) (m := List.length l10_11) (cap2 := c10_10) 22 22 3 (tinfo 3) (fun _ => by kernel_rfl) (by kernel_rfl) (by kernel_rfl) (by kernel_rfl) (by kernel_rfl) (by kernel_rfl) .here (RowsA.reads (k := 1) (.there .here)) (by first | rfl | simp) (by first | rfl | simp) (by rw [← hl10_11]; first | done | simp) (by rw [← hl10_11]; first | done | simp) (by rw [← hl10_11]; exact hc10_11_0))) ?_
            rintro _ _ ⟨a10_11, c10_11, rfl, rfl⟩
            refine ⟨stable_nil, ?_⟩
            refine d_pure 12 3 (.slice a10_11 (List.length l10_11) c10_11) (by kernel_rfl) (by kernel_rfl) (by kernel_rfl) (fun _ => by kernel_rfl) ?_
            refine draw_end (by kernel_rfl) ?_
            refine At.env [(0, .pointer (some ⟨t, 0, none⟩)), (3, .slice a10_11 (List.length l10_11) c10_11), (10, .slice tx.2.1.1 (List.length tc.wait) tx.2.1.2), (11, .int .i64 (((List.length tc.wait) : Nat) : Int)), (12, .int .i64 v0_12)] ⟨by kernel_rfl, by kernel_rfl, by kernel_rfl, by kernel_rfl, by kernel_rfl, trivial⟩ ?_
            refine at_in_normal ?_
            refine at_then_normal ?_
            refine at_region (id := 11) 2 (by kernel_rfl) (by kernel_rfl) ?_
            obtain ⟨hc11_0_0, H⟩ := chkE H
            refine s_pure 61 (.int .i64 (v0_12 + (1 : Int))) (by kernel_rfl) (by kernel_rfl) (run_eq (v := .int .i64 (IntKind.i64.wrap (v0_12 + (1 : Int)))) (fun _ => by kernel_rfl) (by rw [inR.wrap hc11_0_0])) ?_
            refine s_pure 12 (.int .i64 (v0_12 + (1 : Int))) (by kernel_rfl) (by kernel_rfl) (fun _ => by kernel_rfl) ?_
            refine ops_end ?_
            refine At.env [(0, .pointer (some ⟨t, 0, none⟩)), (3, .slice a10_11 (List.length l10_11) c10_11), (10, .slice tx.2.1.1 (List.length tc.wait) tx.2.1.2), (11, .int .i64 (((List.length tc.wait) : Nat) : Int)), (12, .int .i64 (v0_12 + (1 : Int)))] ⟨by kernel_rfl, by kernel_rfl, by kernel_rfl, by kernel_rfl, by kernel_rfl, trivial⟩ ?_
            refine at_round_normal ?_
            exact at_roundR fuel1 [(0, .pointer (some ⟨t, 0, none⟩)), (3, .slice a10_11 (List.length l10_11) c10_11), (10, .slice tx.2.1.1 (List.length tc.wait) tx.2.1.2), (11, .int .i64 (((List.length tc.wait) : Nat) : Int)), (12, .int .i64 (v0_12 + (1 : Int)))] ((IntsA a10_11 c10_11 l10_11) :: (RTurnsXA t tx tc) :: Γ) (Nat.lt_succ_self _) ⟨by kernel_rfl, by kernel_rfl, by kernel_rfl, by kernel_rfl, by kernel_rfl, trivial⟩ (fun w hw => (Sat.less (.take .here (.take (.there .here) (.drop .here (.drop .here .refl)))) hw)) ⟨fuel1, l10_11, v0_12 + (1 : Int), a10_11, c10_11, H, rfl, rfl, rfl⟩
          · replace H := bifF H h5
            refine d_pure 4 40 (.bool false) (by kernel_rfl) (by kernel_rfl) (by kernel_rfl) (run_eq (v := .bool (decide (v1_6 = (((List.length v0_3x) : Nat) : Int)))) (fun _ => by kernel_rfl) (congrArg Value.bool h5)) ?_
            refine d_pure 5 41 (.slice v0_3a (List.length v0_3x) v0_3c) (by kernel_rfl) (by kernel_rfl) (by kernel_rfl) (fun _ => by kernel_rfl) ?_
            refine d_pure 6 42 (.int .i64 v1_6) (by kernel_rfl) (by kernel_rfl) (by kernel_rfl) (fun _ => by kernel_rfl) ?_
            obtain ⟨hc9_7_0, H⟩ := chkE H
            refine rows_at_draw (.there (.there .here)) (by have := hc9_7_0; simp only [ints_length]; omega) ?_
            intro bb3 oo3 ha3
            refine d_pure 7 43 (.pointer (some ⟨bb3, oo3 + ((v1_6).toNat * 1 + 0), none⟩)) (by kernel_rfl) (by kernel_rfl) (by kernel_rfl) (index_at (t := 22) (sz := 1) (E := 3) (a := v0_3a) (m := (List.length v0_3x)) (c := v0_3c) (b := bb3) (off := oo3) (i := (v1_6).toNat) (tinfo 3) (fun _ => by kernel_rfl) (by kernel_rfl) (by kernel_rfl) (by kernel_rfl) ha3 (idx_cast hc9_7_0) (idx_nat hc9_7_0) rfl) ?_
            refine d_load 8 44 (.int .i64 (nth v0_3x v1_6)) (by kernel_rfl) (by kernel_rfl) (by kernel_rfl) (load1_at (off := oo3 + ((v1_6).toNat * 1 + 0)) (v := .int .i64 (nth v0_3x v1_6)) (fun _ => by kernel_rfl) rfl (reads_cell (k := 1) (RowsA.reads (k := 1) (.there (.there .here))) (ints_rows _) ha3 (nth_row hc9_7_0) (show [(.int .i64 (nth v0_3x v1_6) : Value)][0]? = some _ from rfl))) ?_
            refine d_pure 9 45 (.pointer (some ⟨b4_2, 0, none⟩)) (by kernel_rfl) (by kernel_rfl) (by kernel_rfl) (fun _ => by kernel_rfl) ?_
            refine d_load 10 46 (.int .i64 (nth (nthR tc.wait v0_12) 0)) (by kernel_rfl) (by kernel_rfl) (by kernel_rfl) (load1 (off := 0) (fun _ => by kernel_rfl) (holds_own (.there .here)) (by kernel_rfl)) ?_
            refine d_pure 11 47 (.bool (!(decide ((nth v0_3x v1_6) = (nth (nthR tc.wait v0_12) 0))))) (by kernel_rfl) (by kernel_rfl) (by kernel_rfl) (fun _ => by kernel_rfl) ?_
            refine d_pure 12 48 (.bool (!(decide ((nth v0_3x v1_6) = (nth (nthR tc.wait v0_12) 0))))) (by kernel_rfl) (by kernel_rfl) (by kernel_rfl) (fun _ => by kernel_rfl) ?_
            refine draw_end (by kernel_rfl) ?_
            refine At.env [(0, .pointer (some ⟨t, 0, none⟩)), (3, .slice v0_3a (List.length v0_3x) v0_3c), (5, .pointer (some ⟨b4_2, 0, none⟩)), (6, .int .i64 v1_6), (10, .slice tx.2.1.1 (List.length tc.wait) tx.2.1.2), (11, .int .i64 (((List.length tc.wait) : Nat) : Int)), (12, .int .i64 v0_12), (48, .bool (!(decide ((nth v0_3x v1_6) = (nth (nthR tc.wait v0_12) 0)))))] ⟨by kernel_rfl, by kernel_rfl, by kernel_rfl, by kernel_rfl, by kernel_rfl, by kernel_rfl, by kernel_rfl, by kernel_rfl, trivial⟩ ?_
            refine at_then_normal ?_
            rcases Bool.eq_false_or_eq_true (!(decide ((nth v0_3x v1_6) = (nth (nthR tc.wait v0_12) 0)))) with h6 | h6
            · replace H := bifT H h6
              refine at_true (t := !(decide ((nth v0_3x v1_6) = (nth (nthR tc.wait v0_12) 0)))) (x := C39 [1,1,0,1,0,0,1,1,0,0,1,1,1,1,1,0]) (y := C39 [1,1,0,1,0,0,1,1,0,0,1,1,1,1,1,1]) (o := .tmp 48) (by kernel_rfl) (by kernel_rfl) (by kernel_rfl) h6 ?_
              refine at_region_draw (id := 10) (by kernel_rfl) (by kernel_rfl) ?_
              refine d_pure 0 49 (.slice v0_3a (List.length v0_3x) v0_3c) (by kernel_rfl) (by kernel_rfl) (by kernel_rfl) (fun _ => by kernel_rfl) ?_
              refine d_pure 1 50 (.int .i64 v1_6) (by kernel_rfl) (by kernel_rfl) (by kernel_rfl) (fun _ => by kernel_rfl) ?_
              refine d_pure 2 51 (.int .i64 v1_6) (by kernel_rfl) (by kernel_rfl) (by kernel_rfl) (fun _ => by kernel_rfl) ?_
              obtain ⟨hc10_3_0, H⟩ := chkE H
              obtain ⟨l10_3, hl10_3, H⟩ := letE H
              refine Draw.known (p := (List.length v0_3x) ≤ v0_3c) (fun w hw => by have := (RowsA.len (hw.pull (.there (.there .here)))).2; simpa using this) ?_
              intro hcap3
              have hcapl10_3 : (List.length v0_3x) ≤ v0_3c := hcap3
              have hcl10_3 := hc10_3_0
              obtain ⟨a10_3, ha10_3⟩ : ∃ y : Option Addr, y = (if (v1_6).toNat = 0 then v0_3a else Option.map (fun x => Addr.add x (0 * 1)) v0_3a) := ⟨_, rfl⟩
              have hrl10_3 : Reads W0 ((RTurnsXA t tx tc) :: (Asn.own b4_2 (.cells #[.int .i64 (nth (nthR tc.wait v0_12) 0), .int .i64 (nth (nthR tc.wait v0_12) 1), .int .i64 (nth (nthR tc.wait v0_12) 2)] 88 (0, 0))) :: (IntsA v0_3a v0_3c v0_3x) :: Γ) a10_3 (ints l10_3) := by rw [ha10_3, ← hl10_3]; exact Reads.part (lo := 0) (hi := (v1_6).toNat) (RowsA.reads (k := 1) (.there (.there .here))) rfl (by omega)
              refine d_pure 3 52 (.slice a10_3 (List.length l10_3) ((v1_6).toNat - 0)) (by kernel_rfl) (by kernel_rfl) (by kernel_rfl) (run_eq (slice_at (t := 22) (lo := 0) (hi := (v1_6).toNat) (mx := (v1_6).toNat) (sz := 1) (E := 3) (a := v0_3a) (m := (List.length v0_3x)) (c := v0_3c) none (some (.int .i64 v1_6)) (some (.int .i64 v1_6)) (tinfo 3) (fun _ => by kernel_rfl) (by kernel_rfl) (by kernel_rfl) (by kernel_rfl) (Or.inl ⟨rfl, rfl⟩) (Or.inr ⟨_, rfl, by omega⟩) (Or.inr ⟨_, rfl, by omega⟩) (by omega) (by omega) (by omega)) (by rw [← ha10_3, show (v1_6).toNat - 0 = List.length l10_3 from by rw [← hl10_3]; simp only [List.length_take, List.length_drop]; omega])) ?_
              refine d_pure 4 53 (.pointer (some ⟨b4_2, 0, none⟩)) (by kernel_rfl) (by kernel_rfl) (by kernel_rfl) (fun _ => by kernel_rfl) ?_
              refine d_load 5 54 (.int .i64 (nth (nthR tc.wait v0_12) 0)) (by kernel_rfl) (by kernel_rfl) (by kernel_rfl) (load1 (off := 0) (fun _ => by kernel_rfl) (holds_own (.there .here)) (by kernel_rfl)) ?_
              refine d_pure 7 56 (.slice v0_3a (List.length v0_3x) v0_3c) (by kernel_rfl) (by kernel_rfl) (by kernel_rfl) (fun _ => by kernel_rfl) ?_
              refine d_pure 8 57 (.int .i64 v1_6) (by kernel_rfl) (by kernel_rfl) (by kernel_rfl) (fun _ => by kernel_rfl) ?_
              obtain ⟨hc10_9_0, H⟩ := chkE H
              obtain ⟨l10_9, hl10_9, H⟩ := letE H
              refine Draw.known (p := (List.length v0_3x) ≤ v0_3c) (fun w hw => by have := (RowsA.len (hw.pull (.there (.there .here)))).2; simpa using this) ?_
              intro hcap4
              have hcapl10_9 : (List.length v0_3x) ≤ v0_3c := hcap4
              have hcl10_9 := hc10_9_0
              obtain ⟨a10_9, ha10_9⟩ : ∃ y : Option Addr, y = (if v0_3c = (v1_6).toNat then v0_3a else Option.map (fun x => Addr.add x ((v1_6).toNat * 1)) v0_3a) := ⟨_, rfl⟩
              have hrl10_9 : Reads W0 ((RTurnsXA t tx tc) :: (Asn.own b4_2 (.cells #[.int .i64 (nth (nthR tc.wait v0_12) 0), .int .i64 (nth (nthR tc.wait v0_12) 1), .int .i64 (nth (nthR tc.wait v0_12) 2)] 88 (0, 0))) :: (IntsA v0_3a v0_3c v0_3x) :: Γ) a10_9 (ints l10_9) := by rw [ha10_9, ← hl10_9]; exact Reads.part (lo := (v1_6).toNat) (hi := (List.length v0_3x)) (RowsA.reads (k := 1) (.there (.there .here))) rfl (by omega)
              refine d_pure 9 58 (.slice a10_9 (List.length l10_9) (v0_3c - (v1_6).toNat)) (by kernel_rfl) (by kernel_rfl) (by kernel_rfl) (run_eq (slice_at (t := 22) (lo := (v1_6).toNat) (hi := (List.length v0_3x)) (mx := v0_3c) (sz := 1) (E := 3) (a := v0_3a) (m := (List.length v0_3x)) (c := v0_3c) (some (.int .i64 v1_6)) none none (tinfo 3) (fun _ => by kernel_rfl) (by kernel_rfl) (by kernel_rfl) (by kernel_rfl) (Or.inr ⟨_, rfl, by omega⟩) (Or.inl ⟨rfl, rfl, rfl⟩) (Or.inl ⟨rfl, rfl⟩) (by omega) (by omega) (by omega)) (by rw [← ha10_9, show (List.length v0_3x) - (v1_6).toNat = List.length l10_9 from by rw [← hl10_9]; simp only [List.length_take, List.length_drop]; omega])) ?_
              obtain ⟨l10_6, hl10_6, H⟩ := letE H
              refine d_step 6 55 [5, 4] [9, 8, 7, 3, 2, 1, 0] [] (by kernel_rfl) (by kernel_rfl) (by kernel_rfl) (st_new_ints (T := 3) (xs := l10_6) 1 hl10_6 (fun _ => by kernel_rfl) (by kernel_rfl)) ?_
              rintro _ _ ⟨b10_6, rfl, rfl⟩
              refine ⟨stable_nil, ?_⟩
              obtain ⟨hc10_10_0, H⟩ := chkE H
              obtain ⟨l10_10, hl10_10, H⟩ := letE H
              refine d_step 10 59 [6, 9, 5, 7, 8, 4] [3, 2, 1, 0] [] (by kernel_rfl) (by kernel_rfl) (by kernel_rfl) (st_append_ints (xs := l10_6) (ys := l10_9) (zs := l10_10) (m1 := (List.length l10_6)) (m2 := (List.length l10_9)) (m := List.length l10_10) (cap2 := (v0_3c - (v1_6).toNat)) 22 22 3 (tinfo 3) (fun _ => by kernel_rfl) (by kernel_rfl) (by kernel_rfl) (by kernel_rfl) (by kernel_rfl) (by kernel_rfl) .here (Reads.conv (fun w hw => hw.less (.take (.there .here) (.take (.there .here) (.take (.there .here) (.drop .here .refl))))) hrl10_9) (by first | rfl | simp) (by first | rfl | simp) (by rw [← hl10_10]; first | done | simp) (by rw [← hl10_10]; first | done | simp) (by rw [← hl10_10]; exact hc10_10_0)) ?_
              rintro _ _ ⟨a10_10, c10_10, rfl, rfl⟩
              refine ⟨stable_nil, ?_⟩
              obtain ⟨hc10_11_0, H⟩ := chkE H
              obtain ⟨l10_11, hl10_11, H⟩ := letE H
              refine d_step 11 60 [3, 10, 0, 1, 2, 6, 9, 5, 7, 8, 4] [] [] (by kernel_rfl) (by kernel_rfl) (by kernel_rfl) (StepTo.conv (fun w hw => ints_shrink (hi := (v1_6).toNat) (mx := (v1_6).toNat) ha10_3 hl10_3 (by omega) (by omega) (Sat.less (.take (.there (.there (.there .here))) (.take .here (.take .here (.take .here .refl)))) hw)) (st_append_ints (xs := l10_3) (ys := l10_10) (zs := l10_11) (m1 := (List.length l10_3)) (m2 := (List.length l10_10)) (m := List.length l10_11) (cap2 := c10_10) 22 22 3 (tinfo 3) (fun _ => by kernel_rfl) (by kernel_rfl) (by kernel_rfl) (by kernel_rfl) (by kernel_rfl) (by kernel_rfl) .here (RowsA.reads (k := 1) (.there .here)) (by first | rfl | simp) (by first | rfl | simp) (by rw [← hl10_11]; first | done | simp) (by rw [← hl10_11]; first | done | simp) (by rw [← hl10_11]; exact hc10_11_0))) ?_
              rintro _ _ ⟨a10_11, c10_11, rfl, rfl⟩
              refine ⟨stable_nil, ?_⟩
              refine d_pure 12 3 (.slice a10_11 (List.length l10_11) c10_11) (by kernel_rfl) (by kernel_rfl) (by kernel_rfl) (fun _ => by kernel_rfl) ?_
              refine draw_end (by kernel_rfl) ?_
              refine At.env [(0, .pointer (some ⟨t, 0, none⟩)), (3, .slice a10_11 (List.length l10_11) c10_11), (10, .slice tx.2.1.1 (List.length tc.wait) tx.2.1.2), (11, .int .i64 (((List.length tc.wait) : Nat) : Int)), (12, .int .i64 v0_12)] ⟨by kernel_rfl, by kernel_rfl, by kernel_rfl, by kernel_rfl, by kernel_rfl, trivial⟩ ?_
              refine at_in_normal ?_
              refine at_then_normal ?_
              refine at_region (id := 11) 2 (by kernel_rfl) (by kernel_rfl) ?_
              obtain ⟨hc11_0_0, H⟩ := chkE H
              refine s_pure 61 (.int .i64 (v0_12 + (1 : Int))) (by kernel_rfl) (by kernel_rfl) (run_eq (v := .int .i64 (IntKind.i64.wrap (v0_12 + (1 : Int)))) (fun _ => by kernel_rfl) (by rw [inR.wrap hc11_0_0])) ?_
              refine s_pure 12 (.int .i64 (v0_12 + (1 : Int))) (by kernel_rfl) (by kernel_rfl) (fun _ => by kernel_rfl) ?_
              refine ops_end ?_
              refine At.env [(0, .pointer (some ⟨t, 0, none⟩)), (3, .slice a10_11 (List.length l10_11) c10_11), (10, .slice tx.2.1.1 (List.length tc.wait) tx.2.1.2), (11, .int .i64 (((List.length tc.wait) : Nat) : Int)), (12, .int .i64 (v0_12 + (1 : Int)))] ⟨by kernel_rfl, by kernel_rfl, by kernel_rfl, by kernel_rfl, by kernel_rfl, trivial⟩ ?_
              refine at_round_normal ?_
              exact at_roundR fuel1 [(0, .pointer (some ⟨t, 0, none⟩)), (3, .slice a10_11 (List.length l10_11) c10_11), (10, .slice tx.2.1.1 (List.length tc.wait) tx.2.1.2), (11, .int .i64 (((List.length tc.wait) : Nat) : Int)), (12, .int .i64 (v0_12 + (1 : Int)))] ((IntsA a10_11 c10_11 l10_11) :: (RTurnsXA t tx tc) :: Γ) (Nat.lt_succ_self _) ⟨by kernel_rfl, by kernel_rfl, by kernel_rfl, by kernel_rfl, by kernel_rfl, trivial⟩ (fun w hw => (Sat.less (.take .here (.take (.there .here) (.drop .here (.drop .here .refl)))) hw)) ⟨fuel1, l10_11, v0_12 + (1 : Int), a10_11, c10_11, H, rfl, rfl, rfl⟩
            · replace H := bifF H h6
              refine at_false (t := !(decide ((nth v0_3x v1_6) = (nth (nthR tc.wait v0_12) 0)))) (x := C39 [1,1,0,1,0,0,1,1,0,0,1,1,1,1,1,0]) (y := C39 [1,1,0,1,0,0,1,1,0,0,1,1,1,1,1,1]) (o := .tmp 48) (by kernel_rfl) (by kernel_rfl) (by kernel_rfl) h6 ?_
              refine at_skip (by kernel_rfl) ?_
              refine at_in_normal ?_
              refine at_then_normal ?_
              refine at_region (id := 11) 2 (by kernel_rfl) (by kernel_rfl) ?_
              obtain ⟨hc11_0_0, H⟩ := chkE H
              refine s_pure 61 (.int .i64 (v0_12 + (1 : Int))) (by kernel_rfl) (by kernel_rfl) (run_eq (v := .int .i64 (IntKind.i64.wrap (v0_12 + (1 : Int)))) (fun _ => by kernel_rfl) (by rw [inR.wrap hc11_0_0])) ?_
              refine s_pure 12 (.int .i64 (v0_12 + (1 : Int))) (by kernel_rfl) (by kernel_rfl) (fun _ => by kernel_rfl) ?_
              refine ops_end ?_
              refine At.env [(0, .pointer (some ⟨t, 0, none⟩)), (3, .slice v0_3a (List.length v0_3x) v0_3c), (10, .slice tx.2.1.1 (List.length tc.wait) tx.2.1.2), (11, .int .i64 (((List.length tc.wait) : Nat) : Int)), (12, .int .i64 (v0_12 + (1 : Int)))] ⟨by kernel_rfl, by kernel_rfl, by kernel_rfl, by kernel_rfl, by kernel_rfl, trivial⟩ ?_
              refine at_round_normal ?_
              exact at_roundR fuel1 [(0, .pointer (some ⟨t, 0, none⟩)), (3, .slice v0_3a (List.length v0_3x) v0_3c), (10, .slice tx.2.1.1 (List.length tc.wait) tx.2.1.2), (11, .int .i64 (((List.length tc.wait) : Nat) : Int)), (12, .int .i64 (v0_12 + (1 : Int)))] ((IntsA v0_3a v0_3c v0_3x) :: (RTurnsXA t tx tc) :: Γ) (Nat.lt_succ_self _) ⟨by kernel_rfl, by kernel_rfl, by kernel_rfl, by kernel_rfl, by kernel_rfl, trivial⟩ (fun w hw => (Sat.less (.take (.there (.there .here)) (.take .here (.drop .here .refl))) hw)) ⟨fuel1, v0_3x, v0_12 + (1 : Int), v0_3a, v0_3c, H, rfl, rfl, rfl⟩
      · replace H := bifF H h3
        refine d_pure 4 25 (.bool false) (by kernel_rfl) (by kernel_rfl) (by kernel_rfl) (run_eq (v := .bool (decide (v1_6 < (((List.length v0_3x) : Nat) : Int)))) (fun _ => by kernel_rfl) (congrArg Value.bool h3)) ?_
        refine d_off 5 26 (by kernel_rfl) (by kernel_rfl) (by kernel_rfl) ?_
        refine d_off 6 27 (by kernel_rfl) (by kernel_rfl) (by kernel_rfl) ?_
        refine d_off 7 28 (by kernel_rfl) (by kernel_rfl) (by kernel_rfl) ?_
        refine d_off 8 29 (by kernel_rfl) (by kernel_rfl) (by kernel_rfl) ?_
        refine d_off 9 30 (by kernel_rfl) (by kernel_rfl) (by kernel_rfl) ?_
        refine d_off 10 31 (by kernel_rfl) (by kernel_rfl) (by kernel_rfl) ?_
        refine d_off 11 32 (by kernel_rfl) (by kernel_rfl) (by kernel_rfl) ?_
        refine d_pure 12 33 (.bool false) (by kernel_rfl) (by kernel_rfl) (by kernel_rfl) (fun _ => by kernel_rfl) ?_
        refine draw_end (by kernel_rfl) ?_
        refine At.env [(0, .pointer (some ⟨t, 0, none⟩)), (3, .slice v0_3a (List.length v0_3x) v0_3c), (5, .pointer (some ⟨b4_2, 0, none⟩)), (6, .int .i64 v1_6), (10, .slice tx.2.1.1 (List.length tc.wait) tx.2.1.2), (11, .int .i64 (((List.length tc.wait) : Nat) : Int)), (12, .int .i64 v0_12), (33, .bool false)] ⟨by kernel_rfl, by kernel_rfl, by kernel_rfl, by kernel_rfl, by kernel_rfl, by kernel_rfl, by kernel_rfl, by kernel_rfl, trivial⟩ ?_
        refine at_then_normal ?_
        refine at_false (t := false) (x := C39 [1,1,0,1,0,0,1,1,0,0,1,1,1,0,0,0,0,1,0]) (y := C39 [1,1,0,1,0,0,1,1,0,0,1,1,1,0,0,0,0,1,1]) (o := .tmp 33) (by kernel_rfl) (by kernel_rfl) (by kernel_rfl) rfl ?_
        refine at_exit (i := 2) (by kernel_rfl) ?_
        refine at_then_exit ?_
        refine at_then_exit ?_
        rw [rreadyS_k1] at H
        refine At.env [(0, .pointer (some ⟨t, 0, none⟩)), (3, .slice v0_3a (List.length v0_3x) v0_3c), (5, .pointer (some ⟨b4_2, 0, none⟩)), (6, .int .i64 v1_6), (10, .slice tx.2.1.1 (List.length tc.wait) tx.2.1.2), (11, .int .i64 (((List.length tc.wait) : Nat) : Int)), (12, .int .i64 v0_12)] ⟨by kernel_rfl, by kernel_rfl, by kernel_rfl, by kernel_rfl, by kernel_rfl, by kernel_rfl, by kernel_rfl, trivial⟩ ?_
        refine At.conv (Γ' := (RTurnsXA t tx tc) :: (Asn.own b4_2 (.cells #[.int .i64 (nth (nthR tc.wait v0_12) 0), .int .i64 (nth (nthR tc.wait v0_12) 1), .int .i64 (nth (nthR tc.wait v0_12) 2)] 88 (0, 0))) :: (IntsA v0_3a v0_3c v0_3x) :: Γ) (fun w hw => (Sat.less (.take .here (.take .here (.take .here .refl))) hw)) ?_
        refine at_in_here ?_
        refine at_then_normal ?_
        refine at_seq (x := C39 [1,1,0,1,0,0,1,1,0,0,1,1,1,1,0]) (y := C39 [1,1,0,1,0,0,1,1,0,0,1,1,1,1,1]) (by kernel_rfl) ?_
        refine at_region_draw (id := 9) (by kernel_rfl) (by kernel_rfl) ?_
        refine d_pure 0 36 (.int .i64 v1_6) (by kernel_rfl) (by kernel_rfl) (by kernel_rfl) (fun _ => by kernel_rfl) ?_
        refine d_pure 1 37 (.slice v0_3a (List.length v0_3x) v0_3c) (by kernel_rfl) (by kernel_rfl) (by kernel_rfl) (fun _ => by kernel_rfl) ?_
        refine d_pure 2 38 (.int .i64 (((List.length v0_3x) : Nat) : Int)) (by kernel_rfl) (by kernel_rfl) (by kernel_rfl) (fun _ => by kernel_rfl) ?_
        refine d_pure 3 39 (.bool (decide (v1_6 = (((List.length v0_3x) : Nat) : Int)))) (by kernel_rfl) (by kernel_rfl) (by kernel_rfl) (fun _ => by kernel_rfl) ?_
        rcases Bool.eq_false_or_eq_true (decide (v1_6 = (((List.length v0_3x) : Nat) : Int))) with h7 | h7
        · replace H := bifT H h7
          refine d_pure 4 40 (.bool true) (by kernel_rfl) (by kernel_rfl) (by kernel_rfl) (run_eq (v := .bool (decide (v1_6 = (((List.length v0_3x) : Nat) : Int)))) (fun _ => by kernel_rfl) (congrArg Value.bool h7)) ?_
          refine d_off 5 41 (by kernel_rfl) (by kernel_rfl) (by kernel_rfl) ?_
          refine d_off 6 42 (by kernel_rfl) (by kernel_rfl) (by kernel_rfl) ?_
          refine d_off 7 43 (by kernel_rfl) (by kernel_rfl) (by kernel_rfl) ?_
          refine d_off 8 44 (by kernel_rfl) (by kernel_rfl) (by kernel_rfl) ?_
          refine d_off 9 45 (by kernel_rfl) (by kernel_rfl) (by kernel_rfl) ?_
          refine d_off 10 46 (by kernel_rfl) (by kernel_rfl) (by kernel_rfl) ?_
          refine d_off 11 47 (by kernel_rfl) (by kernel_rfl) (by kernel_rfl) ?_
          refine d_pure 12 48 (.bool true) (by kernel_rfl) (by kernel_rfl) (by kernel_rfl) (fun _ => by kernel_rfl) ?_
          refine draw_end (by kernel_rfl) ?_
          refine At.env [(0, .pointer (some ⟨t, 0, none⟩)), (3, .slice v0_3a (List.length v0_3x) v0_3c), (5, .pointer (some ⟨b4_2, 0, none⟩)), (6, .int .i64 v1_6), (10, .slice tx.2.1.1 (List.length tc.wait) tx.2.1.2), (11, .int .i64 (((List.length tc.wait) : Nat) : Int)), (12, .int .i64 v0_12), (48, .bool true)] ⟨by kernel_rfl, by kernel_rfl, by kernel_rfl, by kernel_rfl, by kernel_rfl, by kernel_rfl, by kernel_rfl, by kernel_rfl, trivial⟩ ?_
          refine at_then_normal ?_
          refine at_true (t := true) (x := C39 [1,1,0,1,0,0,1,1,0,0,1,1,1,1,1,0]) (y := C39 [1,1,0,1,0,0,1,1,0,0,1,1,1,1,1,1]) (o := .tmp 48) (by kernel_rfl) (by kernel_rfl) (by kernel_rfl) rfl ?_
          refine at_region_draw (id := 10) (by kernel_rfl) (by kernel_rfl) ?_
          refine d_pure 0 49 (.slice v0_3a (List.length v0_3x) v0_3c) (by kernel_rfl) (by kernel_rfl) (by kernel_rfl) (fun _ => by kernel_rfl) ?_
          refine d_pure 1 50 (.int .i64 v1_6) (by kernel_rfl) (by kernel_rfl) (by kernel_rfl) (fun _ => by kernel_rfl) ?_
          refine d_pure 2 51 (.int .i64 v1_6) (by kernel_rfl) (by kernel_rfl) (by kernel_rfl) (fun _ => by kernel_rfl) ?_
          obtain ⟨hc10_3_0, H⟩ := chkE H
          obtain ⟨l10_3, hl10_3, H⟩ := letE H
          refine Draw.known (p := (List.length v0_3x) ≤ v0_3c) (fun w hw => by have := (RowsA.len (hw.pull (.there (.there .here)))).2; simpa using this) ?_
          intro hcap5
          have hcapl10_3 : (List.length v0_3x) ≤ v0_3c := hcap5
          have hcl10_3 := hc10_3_0
          obtain ⟨a10_3, ha10_3⟩ : ∃ y : Option Addr, y = (if (v1_6).toNat = 0 then v0_3a else Option.map (fun x => Addr.add x (0 * 1)) v0_3a) := ⟨_, rfl⟩
          have hrl10_3 : Reads W0 ((RTurnsXA t tx tc) :: (Asn.own b4_2 (.cells #[.int .i64 (nth (nthR tc.wait v0_12) 0), .int .i64 (nth (nthR tc.wait v0_12) 1), .int .i64 (nth (nthR tc.wait v0_12) 2)] 88 (0, 0))) :: (IntsA v0_3a v0_3c v0_3x) :: Γ) a10_3 (ints l10_3) := by rw [ha10_3, ← hl10_3]; exact Reads.part (lo := 0) (hi := (v1_6).toNat) (RowsA.reads (k := 1) (.there (.there .here))) rfl (by omega)
          refine d_pure 3 52 (.slice a10_3 (List.length l10_3) ((v1_6).toNat - 0)) (by kernel_rfl) (by kernel_rfl) (by kernel_rfl) (run_eq (slice_at (t := 22) (lo := 0) (hi := (v1_6).toNat) (mx := (v1_6).toNat) (sz := 1) (E := 3) (a := v0_3a) (m := (List.length v0_3x)) (c := v0_3c) none (some (.int .i64 v1_6)) (some (.int .i64 v1_6)) (tinfo 3) (fun _ => by kernel_rfl) (by kernel_rfl) (by kernel_rfl) (by kernel_rfl) (Or.inl ⟨rfl, rfl⟩) (Or.inr ⟨_, rfl, by omega⟩) (Or.inr ⟨_, rfl, by omega⟩) (by omega) (by omega) (by omega)) (by rw [← ha10_3, show (v1_6).toNat - 0 = List.length l10_3 from by rw [← hl10_3]; simp only [List.length_take, List.length_drop]; omega])) ?_
          refine d_pure 4 53 (.pointer (some ⟨b4_2, 0, none⟩)) (by kernel_rfl) (by kernel_rfl) (by kernel_rfl) (fun _ => by kernel_rfl) ?_
          refine d_load 5 54 (.int .i64 (nth (nthR tc.wait v0_12) 0)) (by kernel_rfl) (by kernel_rfl) (by kernel_rfl) (load1 (off := 0) (fun _ => by kernel_rfl) (holds_own (.there .here)) (by kernel_rfl)) ?_
          refine d_pure 7 56 (.slice v0_3a (List.length v0_3x) v0_3c) (by kernel_rfl) (by kernel_rfl) (by kernel_rfl) (fun _ => by kernel_rfl) ?_
          refine d_pure 8 57 (.int .i64 v1_6) (by kernel_rfl) (by kernel_rfl) (by kernel_rfl) (fun _ => by kernel_rfl) ?_
          obtain ⟨hc10_9_0, H⟩ := chkE H
          obtain ⟨l10_9, hl10_9, H⟩ := letE H
          refine Draw.known (p := (List.length v0_3x) ≤ v0_3c) (fun w hw => by have := (RowsA.len (hw.pull (.there (.there .here)))).2; simpa using this) ?_
          intro hcap6
          have hcapl10_9 : (List.length v0_3x) ≤ v0_3c := hcap6
          have hcl10_9 := hc10_9_0
          obtain ⟨a10_9, ha10_9⟩ : ∃ y : Option Addr, y = (if v0_3c = (v1_6).toNat then v0_3a else Option.map (fun x => Addr.add x ((v1_6).toNat * 1)) v0_3a) := ⟨_, rfl⟩
          have hrl10_9 : Reads W0 ((RTurnsXA t tx tc) :: (Asn.own b4_2 (.cells #[.int .i64 (nth (nthR tc.wait v0_12) 0), .int .i64 (nth (nthR tc.wait v0_12) 1), .int .i64 (nth (nthR tc.wait v0_12) 2)] 88 (0, 0))) :: (IntsA v0_3a v0_3c v0_3x) :: Γ) a10_9 (ints l10_9) := by rw [ha10_9, ← hl10_9]; exact Reads.part (lo := (v1_6).toNat) (hi := (List.length v0_3x)) (RowsA.reads (k := 1) (.there (.there .here))) rfl (by omega)
          refine d_pure 9 58 (.slice a10_9 (List.length l10_9) (v0_3c - (v1_6).toNat)) (by kernel_rfl) (by kernel_rfl) (by kernel_rfl) (run_eq (slice_at (t := 22) (lo := (v1_6).toNat) (hi := (List.length v0_3x)) (mx := v0_3c) (sz := 1) (E := 3) (a := v0_3a) (m := (List.length v0_3x)) (c := v0_3c) (some (.int .i64 v1_6)) none none (tinfo 3) (fun _ => by kernel_rfl) (by kernel_rfl) (by kernel_rfl) (by kernel_rfl) (Or.inr ⟨_, rfl, by omega⟩) (Or.inl ⟨rfl, rfl, rfl⟩) (Or.inl ⟨rfl, rfl⟩) (by omega) (by omega) (by omega)) (by rw [← ha10_9, show (List.length v0_3x) - (v1_6).toNat = List.length l10_9 from by rw [← hl10_9]; simp only [List.length_take, List.length_drop]; omega])) ?_
          obtain ⟨l10_6, hl10_6, H⟩ := letE H
          refine d_step 6 55 [5, 4] [9, 8, 7, 3, 2, 1, 0] [] (by kernel_rfl) (by kernel_rfl) (by kernel_rfl) (st_new_ints (T := 3) (xs := l10_6) 1 hl10_6 (fun _ => by kernel_rfl) (by kernel_rfl)) ?_
          rintro _ _ ⟨b10_6, rfl, rfl⟩
          refine ⟨stable_nil, ?_⟩
          obtain ⟨hc10_10_0, H⟩ := chkE H
          obtain ⟨l10_10, hl10_10, H⟩ := letE H
          refine d_step 10 59 [6, 9, 5, 7, 8, 4] [3, 2, 1, 0] [] (by kernel_rfl) (by kernel_rfl) (by kernel_rfl) (st_append_ints (xs := l10_6) (ys := l10_9) (zs := l10_10) (m1 := (List.length l10_6)) (m2 := (List.length l10_9)) (m := List.length l10_10) (cap2 := (v0_3c - (v1_6).toNat)) 22 22 3 (tinfo 3) (fun _ => by kernel_rfl) (by kernel_rfl) (by kernel_rfl) (by kernel_rfl) (by kernel_rfl) (by kernel_rfl) .here (Reads.conv (fun w hw => hw.less (.take (.there .here) (.take (.there .here) (.take (.there .here) (.drop .here .refl))))) hrl10_9) (by first | rfl | simp) (by first | rfl | simp) (by rw [← hl10_10]; first | done | simp) (by rw [← hl10_10]; first | done | simp) (by rw [← hl10_10]; exact hc10_10_0)) ?_
          rintro _ _ ⟨a10_10, c10_10, rfl, rfl⟩
          refine ⟨stable_nil, ?_⟩
          obtain ⟨hc10_11_0, H⟩ := chkE H
          obtain ⟨l10_11, hl10_11, H⟩ := letE H
          refine d_step 11 60 [3, 10, 0, 1, 2, 6, 9, 5, 7, 8, 4] [] [] (by kernel_rfl) (by kernel_rfl) (by kernel_rfl) (StepTo.conv (fun w hw => ints_shrink (hi := (v1_6).toNat) (mx := (v1_6).toNat) ha10_3 hl10_3 (by omega) (by omega) (Sat.less (.take (.there (.there (.there .here))) (.take .here (.take .here (.take .here .refl)))) hw)) (st_append_ints (xs := l10_3) (ys := l10_10) (zs := l10_11) (m1 := (List.length l10_3)) (m2 := (List.length l10_10)) (m := List.length l10_11) (cap2 := c10_10) 22 22 3 (tinfo 3) (fun _ => by kernel_rfl) (by kernel_rfl) (by kernel_rfl) (by kernel_rfl) (by kernel_rfl) (by kernel_rfl) .here (RowsA.reads (k := 1) (.there .here)) (by first | rfl | simp) (by first | rfl | simp) (by rw [← hl10_11]; first | done | simp) (by rw [← hl10_11]; first | done | simp) (by rw [← hl10_11]; exact hc10_11_0))) ?_
          rintro _ _ ⟨a10_11, c10_11, rfl, rfl⟩
          refine ⟨stable_nil, ?_⟩
          refine d_pure 12 3 (.slice a10_11 (List.length l10_11) c10_11) (by kernel_rfl) (by kernel_rfl) (by kernel_rfl) (fun _ => by kernel_rfl) ?_
          refine draw_end (by kernel_rfl) ?_
          refine At.env [(0, .pointer (some ⟨t, 0, none⟩)), (3, .slice a10_11 (List.length l10_11) c10_11), (10, .slice tx.2.1.1 (List.length tc.wait) tx.2.1.2), (11, .int .i64 (((List.length tc.wait) : Nat) : Int)), (12, .int .i64 v0_12)] ⟨by kernel_rfl, by kernel_rfl, by kernel_rfl, by kernel_rfl, by kernel_rfl, trivial⟩ ?_
          refine at_in_normal ?_
          refine at_then_normal ?_
          refine at_region (id := 11) 2 (by kernel_rfl) (by kernel_rfl) ?_
          obtain ⟨hc11_0_0, H⟩ := chkE H
          refine s_pure 61 (.int .i64 (v0_12 + (1 : Int))) (by kernel_rfl) (by kernel_rfl) (run_eq (v := .int .i64 (IntKind.i64.wrap (v0_12 + (1 : Int)))) (fun _ => by kernel_rfl) (by rw [inR.wrap hc11_0_0])) ?_
          refine s_pure 12 (.int .i64 (v0_12 + (1 : Int))) (by kernel_rfl) (by kernel_rfl) (fun _ => by kernel_rfl) ?_
          refine ops_end ?_
          refine At.env [(0, .pointer (some ⟨t, 0, none⟩)), (3, .slice a10_11 (List.length l10_11) c10_11), (10, .slice tx.2.1.1 (List.length tc.wait) tx.2.1.2), (11, .int .i64 (((List.length tc.wait) : Nat) : Int)), (12, .int .i64 (v0_12 + (1 : Int)))] ⟨by kernel_rfl, by kernel_rfl, by kernel_rfl, by kernel_rfl, by kernel_rfl, trivial⟩ ?_
          refine at_round_normal ?_
          exact at_roundR fuel1 [(0, .pointer (some ⟨t, 0, none⟩)), (3, .slice a10_11 (List.length l10_11) c10_11), (10, .slice tx.2.1.1 (List.length tc.wait) tx.2.1.2), (11, .int .i64 (((List.length tc.wait) : Nat) : Int)), (12, .int .i64 (v0_12 + (1 : Int)))] ((IntsA a10_11 c10_11 l10_11) :: (RTurnsXA t tx tc) :: Γ) (Nat.lt_succ_self _) ⟨by kernel_rfl, by kernel_rfl, by kernel_rfl, by kernel_rfl, by kernel_rfl, trivial⟩ (fun w hw => (Sat.less (.take .here (.take (.there .here) (.drop .here (.drop .here .refl)))) hw)) ⟨fuel1, l10_11, v0_12 + (1 : Int), a10_11, c10_11, H, rfl, rfl, rfl⟩
        · replace H := bifF H h7
          refine d_pure 4 40 (.bool false) (by kernel_rfl) (by kernel_rfl) (by kernel_rfl) (run_eq (v := .bool (decide (v1_6 = (((List.length v0_3x) : Nat) : Int)))) (fun _ => by kernel_rfl) (congrArg Value.bool h7)) ?_
          refine d_pure 5 41 (.slice v0_3a (List.length v0_3x) v0_3c) (by kernel_rfl) (by kernel_rfl) (by kernel_rfl) (fun _ => by kernel_rfl) ?_
          refine d_pure 6 42 (.int .i64 v1_6) (by kernel_rfl) (by kernel_rfl) (by kernel_rfl) (fun _ => by kernel_rfl) ?_
          obtain ⟨hc9_7_0, H⟩ := chkE H
          refine rows_at_draw (.there (.there .here)) (by have := hc9_7_0; simp only [ints_length]; omega) ?_
          intro bb4 oo4 ha4
          refine d_pure 7 43 (.pointer (some ⟨bb4, oo4 + ((v1_6).toNat * 1 + 0), none⟩)) (by kernel_rfl) (by kernel_rfl) (by kernel_rfl) (index_at (t := 22) (sz := 1) (E := 3) (a := v0_3a) (m := (List.length v0_3x)) (c := v0_3c) (b := bb4) (off := oo4) (i := (v1_6).toNat) (tinfo 3) (fun _ => by kernel_rfl) (by kernel_rfl) (by kernel_rfl) (by kernel_rfl) ha4 (idx_cast hc9_7_0) (idx_nat hc9_7_0) rfl) ?_
          refine d_load 8 44 (.int .i64 (nth v0_3x v1_6)) (by kernel_rfl) (by kernel_rfl) (by kernel_rfl) (load1_at (off := oo4 + ((v1_6).toNat * 1 + 0)) (v := .int .i64 (nth v0_3x v1_6)) (fun _ => by kernel_rfl) rfl (reads_cell (k := 1) (RowsA.reads (k := 1) (.there (.there .here))) (ints_rows _) ha4 (nth_row hc9_7_0) (show [(.int .i64 (nth v0_3x v1_6) : Value)][0]? = some _ from rfl))) ?_
          refine d_pure 9 45 (.pointer (some ⟨b4_2, 0, none⟩)) (by kernel_rfl) (by kernel_rfl) (by kernel_rfl) (fun _ => by kernel_rfl) ?_
          refine d_load 10 46 (.int .i64 (nth (nthR tc.wait v0_12) 0)) (by kernel_rfl) (by kernel_rfl) (by kernel_rfl) (load1 (off := 0) (fun _ => by kernel_rfl) (holds_own (.there .here)) (by kernel_rfl)) ?_
          refine d_pure 11 47 (.bool (!(decide ((nth v0_3x v1_6) = (nth (nthR tc.wait v0_12) 0))))) (by kernel_rfl) (by kernel_rfl) (by kernel_rfl) (fun _ => by kernel_rfl) ?_
          refine d_pure 12 48 (.bool (!(decide ((nth v0_3x v1_6) = (nth (nthR tc.wait v0_12) 0))))) (by kernel_rfl) (by kernel_rfl) (by kernel_rfl) (fun _ => by kernel_rfl) ?_
          refine draw_end (by kernel_rfl) ?_
          refine At.env [(0, .pointer (some ⟨t, 0, none⟩)), (3, .slice v0_3a (List.length v0_3x) v0_3c), (5, .pointer (some ⟨b4_2, 0, none⟩)), (6, .int .i64 v1_6), (10, .slice tx.2.1.1 (List.length tc.wait) tx.2.1.2), (11, .int .i64 (((List.length tc.wait) : Nat) : Int)), (12, .int .i64 v0_12), (48, .bool (!(decide ((nth v0_3x v1_6) = (nth (nthR tc.wait v0_12) 0)))))] ⟨by kernel_rfl, by kernel_rfl, by kernel_rfl, by kernel_rfl, by kernel_rfl, by kernel_rfl, by kernel_rfl, by kernel_rfl, trivial⟩ ?_
          refine at_then_normal ?_
          rcases Bool.eq_false_or_eq_true (!(decide ((nth v0_3x v1_6) = (nth (nthR tc.wait v0_12) 0)))) with h8 | h8
          · replace H := bifT H h8
            refine at_true (t := !(decide ((nth v0_3x v1_6) = (nth (nthR tc.wait v0_12) 0)))) (x := C39 [1,1,0,1,0,0,1,1,0,0,1,1,1,1,1,0]) (y := C39 [1,1,0,1,0,0,1,1,0,0,1,1,1,1,1,1]) (o := .tmp 48) (by kernel_rfl) (by kernel_rfl) (by kernel_rfl) h8 ?_
            refine at_region_draw (id := 10) (by kernel_rfl) (by kernel_rfl) ?_
            refine d_pure 0 49 (.slice v0_3a (List.length v0_3x) v0_3c) (by kernel_rfl) (by kernel_rfl) (by kernel_rfl) (fun _ => by kernel_rfl) ?_
            refine d_pure 1 50 (.int .i64 v1_6) (by kernel_rfl) (by kernel_rfl) (by kernel_rfl) (fun _ => by kernel_rfl) ?_
            refine d_pure 2 51 (.int .i64 v1_6) (by kernel_rfl) (by kernel_rfl) (by kernel_rfl) (fun _ => by kernel_rfl) ?_
            obtain ⟨hc10_3_0, H⟩ := chkE H
            obtain ⟨l10_3, hl10_3, H⟩ := letE H
            refine Draw.known (p := (List.length v0_3x) ≤ v0_3c) (fun w hw => by have := (RowsA.len (hw.pull (.there (.there .here)))).2; simpa using this) ?_
            intro hcap7
            have hcapl10_3 : (List.length v0_3x) ≤ v0_3c := hcap7
            have hcl10_3 := hc10_3_0
            obtain ⟨a10_3, ha10_3⟩ : ∃ y : Option Addr, y = (if (v1_6).toNat = 0 then v0_3a else Option.map (fun x => Addr.add x (0 * 1)) v0_3a) := ⟨_, rfl⟩
            have hrl10_3 : Reads W0 ((RTurnsXA t tx tc) :: (Asn.own b4_2 (.cells #[.int .i64 (nth (nthR tc.wait v0_12) 0), .int .i64 (nth (nthR tc.wait v0_12) 1), .int .i64 (nth (nthR tc.wait v0_12) 2)] 88 (0, 0))) :: (IntsA v0_3a v0_3c v0_3x) :: Γ) a10_3 (ints l10_3) := by rw [ha10_3, ← hl10_3]; exact Reads.part (lo := 0) (hi := (v1_6).toNat) (RowsA.reads (k := 1) (.there (.there .here))) rfl (by omega)
            refine d_pure 3 52 (.slice a10_3 (List.length l10_3) ((v1_6).toNat - 0)) (by kernel_rfl) (by kernel_rfl) (by kernel_rfl) (run_eq (slice_at (t := 22) (lo := 0) (hi := (v1_6).toNat) (mx := (v1_6).toNat) (sz := 1) (E := 3) (a := v0_3a) (m := (List.length v0_3x)) (c := v0_3c) none (some (.int .i64 v1_6)) (some (.int .i64 v1_6)) (tinfo 3) (fun _ => by kernel_rfl) (by kernel_rfl) (by kernel_rfl) (by kernel_rfl) (Or.inl ⟨rfl, rfl⟩) (Or.inr ⟨_, rfl, by omega⟩) (Or.inr ⟨_, rfl, by omega⟩) (by omega) (by omega) (by omega)) (by rw [← ha10_3, show (v1_6).toNat - 0 = List.length l10_3 from by rw [← hl10_3]; simp only [List.length_take, List.length_drop]; omega])) ?_
            refine d_pure 4 53 (.pointer (some ⟨b4_2, 0, none⟩)) (by kernel_rfl) (by kernel_rfl) (by kernel_rfl) (fun _ => by kernel_rfl) ?_
            refine d_load 5 54 (.int .i64 (nth (nthR tc.wait v0_12) 0)) (by kernel_rfl) (by kernel_rfl) (by kernel_rfl) (load1 (off := 0) (fun _ => by kernel_rfl) (holds_own (.there .here)) (by kernel_rfl)) ?_
            refine d_pure 7 56 (.slice v0_3a (List.length v0_3x) v0_3c) (by kernel_rfl) (by kernel_rfl) (by kernel_rfl) (fun _ => by kernel_rfl) ?_
            refine d_pure 8 57 (.int .i64 v1_6) (by kernel_rfl) (by kernel_rfl) (by kernel_rfl) (fun _ => by kernel_rfl) ?_
            obtain ⟨hc10_9_0, H⟩ := chkE H
            obtain ⟨l10_9, hl10_9, H⟩ := letE H
            refine Draw.known (p := (List.length v0_3x) ≤ v0_3c) (fun w hw => by have := (RowsA.len (hw.pull (.there (.there .here)))).2; simpa using this) ?_
            intro hcap8
            have hcapl10_9 : (List.length v0_3x) ≤ v0_3c := hcap8
            have hcl10_9 := hc10_9_0
            obtain ⟨a10_9, ha10_9⟩ : ∃ y : Option Addr, y = (if v0_3c = (v1_6).toNat then v0_3a else Option.map (fun x => Addr.add x ((v1_6).toNat * 1)) v0_3a) := ⟨_, rfl⟩
            have hrl10_9 : Reads W0 ((RTurnsXA t tx tc) :: (Asn.own b4_2 (.cells #[.int .i64 (nth (nthR tc.wait v0_12) 0), .int .i64 (nth (nthR tc.wait v0_12) 1), .int .i64 (nth (nthR tc.wait v0_12) 2)] 88 (0, 0))) :: (IntsA v0_3a v0_3c v0_3x) :: Γ) a10_9 (ints l10_9) := by rw [ha10_9, ← hl10_9]; exact Reads.part (lo := (v1_6).toNat) (hi := (List.length v0_3x)) (RowsA.reads (k := 1) (.there (.there .here))) rfl (by omega)
            refine d_pure 9 58 (.slice a10_9 (List.length l10_9) (v0_3c - (v1_6).toNat)) (by kernel_rfl) (by kernel_rfl) (by kernel_rfl) (run_eq (slice_at (t := 22) (lo := (v1_6).toNat) (hi := (List.length v0_3x)) (mx := v0_3c) (sz := 1) (E := 3) (a := v0_3a) (m := (List.length v0_3x)) (c := v0_3c) (some (.int .i64 v1_6)) none none (tinfo 3) (fun _ => by kernel_rfl) (by kernel_rfl) (by kernel_rfl) (by kernel_rfl) (Or.inr ⟨_, rfl, by omega⟩) (Or.inl ⟨rfl, rfl, rfl⟩) (Or.inl ⟨rfl, rfl⟩) (by omega) (by omega) (by omega)) (by rw [← ha10_9, show (List.length v0_3x) - (v1_6).toNat = List.length l10_9 from by rw [← hl10_9]; simp only [List.length_take, List.length_drop]; omega])) ?_
            obtain ⟨l10_6, hl10_6, H⟩ := letE H
            refine d_step 6 55 [5, 4] [9, 8, 7, 3, 2, 1, 0] [] (by kernel_rfl) (by kernel_rfl) (by kernel_rfl) (st_new_ints (T := 3) (xs := l10_6) 1 hl10_6 (fun _ => by kernel_rfl) (by kernel_rfl)) ?_
            rintro _ _ ⟨b10_6, rfl, rfl⟩
            refine ⟨stable_nil, ?_⟩
            obtain ⟨hc10_10_0, H⟩ := chkE H
            obtain ⟨l10_10, hl10_10, H⟩ := letE H
            refine d_step 10 59 [6, 9, 5, 7, 8, 4] [3, 2, 1, 0] [] (by kernel_rfl) (by kernel_rfl) (by kernel_rfl) (st_append_ints (xs := l10_6) (ys := l10_9) (zs := l10_10) (m1 := (List.length l10_6)) (m2 := (List.length l10_9)) (m := List.length l10_10) (cap2 := (v0_3c - (v1_6).toNat)) 22 22 3 (tinfo 3) (fun _ => by kernel_rfl) (by kernel_rfl) (by kernel_rfl) (by kernel_rfl) (by kernel_rfl) (by kernel_rfl) .here (Reads.conv (fun w hw => hw.less (.take (.there .here) (.take (.there .here) (.take (.there .here) (.drop .here .refl))))) hrl10_9) (by first | rfl | simp) (by first | rfl | simp) (by rw [← hl10_10]; first | done | simp) (by rw [← hl10_10]; first | done | simp) (by rw [← hl10_10]; exact hc10_10_0)) ?_
            rintro _ _ ⟨a10_10, c10_10, rfl, rfl⟩
            refine ⟨stable_nil, ?_⟩
            obtain ⟨hc10_11_0, H⟩ := chkE H
            obtain ⟨l10_11, hl10_11, H⟩ := letE H
            refine d_step 11 60 [3, 10, 0, 1, 2, 6, 9, 5, 7, 8, 4] [] [] (by kernel_rfl) (by kernel_rfl) (by kernel_rfl) (StepTo.conv (fun w hw => ints_shrink (hi := (v1_6).toNat) (mx := (v1_6).toNat) ha10_3 hl10_3 (by omega) (by omega) (Sat.less (.take (.there (.there (.there .here))) (.take .here (.take .here (.take .here .refl)))) hw)) (st_append_ints (xs := l10_3) (ys := l10_10) (zs := l10_11) (m1 := (List.length l10_3)) (m2 := (List.length l10_10)) (m := List.length l10_11) (cap2 := c10_10) 22 22 3 (tinfo 3) (fun _ => by kernel_rfl) (by kernel_rfl) (by kernel_rfl) (by kernel_rfl) (by kernel_rfl) (by kernel_rfl) .here (RowsA.reads (k := 1) (.there .here)) (by first | rfl | simp) (by first | rfl | simp) (by rw [← hl10_11]; first | done | simp) (by rw [← hl10_11]; first | done | simp) (by rw [← hl10_11]; exact hc10_11_0))) ?_
            rintro _ _ ⟨a10_11, c10_11, rfl, rfl⟩
            refine ⟨stable_nil, ?_⟩
            refine d_pure 12 3 (.slice a10_11 (List.length l10_11) c10_11) (by kernel_rfl) (by kernel_rfl) (by kernel_rfl) (fun _ => by kernel_rfl) ?_
            refine draw_end (by kernel_rfl) ?_
            refine At.env [(0, .pointer (some ⟨t, 0, none⟩)), (3, .slice a10_11 (List.length l10_11) c10_11), (10, .slice tx.2.1.1 (List.length tc.wait) tx.2.1.2), (11, .int .i64 (((List.length tc.wait) : Nat) : Int)), (12, .int .i64 v0_12)] ⟨by kernel_rfl, by kernel_rfl, by kernel_rfl, by kernel_rfl, by kernel_rfl, trivial⟩ ?_
            refine at_in_normal ?_
            refine at_then_normal ?_
            refine at_region (id := 11) 2 (by kernel_rfl) (by kernel_rfl) ?_
            obtain ⟨hc11_0_0, H⟩ := chkE H
            refine s_pure 61 (.int .i64 (v0_12 + (1 : Int))) (by kernel_rfl) (by kernel_rfl) (run_eq (v := .int .i64 (IntKind.i64.wrap (v0_12 + (1 : Int)))) (fun _ => by kernel_rfl) (by rw [inR.wrap hc11_0_0])) ?_
            refine s_pure 12 (.int .i64 (v0_12 + (1 : Int))) (by kernel_rfl) (by kernel_rfl) (fun _ => by kernel_rfl) ?_
            refine ops_end ?_
            refine At.env [(0, .pointer (some ⟨t, 0, none⟩)), (3, .slice a10_11 (List.length l10_11) c10_11), (10, .slice tx.2.1.1 (List.length tc.wait) tx.2.1.2), (11, .int .i64 (((List.length tc.wait) : Nat) : Int)), (12, .int .i64 (v0_12 + (1 : Int)))] ⟨by kernel_rfl, by kernel_rfl, by kernel_rfl, by kernel_rfl, by kernel_rfl, trivial⟩ ?_
            refine at_round_normal ?_
            exact at_roundR fuel1 [(0, .pointer (some ⟨t, 0, none⟩)), (3, .slice a10_11 (List.length l10_11) c10_11), (10, .slice tx.2.1.1 (List.length tc.wait) tx.2.1.2), (11, .int .i64 (((List.length tc.wait) : Nat) : Int)), (12, .int .i64 (v0_12 + (1 : Int)))] ((IntsA a10_11 c10_11 l10_11) :: (RTurnsXA t tx tc) :: Γ) (Nat.lt_succ_self _) ⟨by kernel_rfl, by kernel_rfl, by kernel_rfl, by kernel_rfl, by kernel_rfl, trivial⟩ (fun w hw => (Sat.less (.take .here (.take (.there .here) (.drop .here (.drop .here .refl)))) hw)) ⟨fuel1, l10_11, v0_12 + (1 : Int), a10_11, c10_11, H, rfl, rfl, rfl⟩
          · replace H := bifF H h8
            refine at_false (t := !(decide ((nth v0_3x v1_6) = (nth (nthR tc.wait v0_12) 0)))) (x := C39 [1,1,0,1,0,0,1,1,0,0,1,1,1,1,1,0]) (y := C39 [1,1,0,1,0,0,1,1,0,0,1,1,1,1,1,1]) (o := .tmp 48) (by kernel_rfl) (by kernel_rfl) (by kernel_rfl) h8 ?_
            refine at_skip (by kernel_rfl) ?_
            refine at_in_normal ?_
            refine at_then_normal ?_
            refine at_region (id := 11) 2 (by kernel_rfl) (by kernel_rfl) ?_
            obtain ⟨hc11_0_0, H⟩ := chkE H
            refine s_pure 61 (.int .i64 (v0_12 + (1 : Int))) (by kernel_rfl) (by kernel_rfl) (run_eq (v := .int .i64 (IntKind.i64.wrap (v0_12 + (1 : Int)))) (fun _ => by kernel_rfl) (by rw [inR.wrap hc11_0_0])) ?_
            refine s_pure 12 (.int .i64 (v0_12 + (1 : Int))) (by kernel_rfl) (by kernel_rfl) (fun _ => by kernel_rfl) ?_
            refine ops_end ?_
            refine At.env [(0, .pointer (some ⟨t, 0, none⟩)), (3, .slice v0_3a (List.length v0_3x) v0_3c), (10, .slice tx.2.1.1 (List.length tc.wait) tx.2.1.2), (11, .int .i64 (((List.length tc.wait) : Nat) : Int)), (12, .int .i64 (v0_12 + (1 : Int)))] ⟨by kernel_rfl, by kernel_rfl, by kernel_rfl, by kernel_rfl, by kernel_rfl, trivial⟩ ?_
            refine at_round_normal ?_
            exact at_roundR fuel1 [(0, .pointer (some ⟨t, 0, none⟩)), (3, .slice v0_3a (List.length v0_3x) v0_3c), (10, .slice tx.2.1.1 (List.length tc.wait) tx.2.1.2), (11, .int .i64 (((List.length tc.wait) : Nat) : Int)), (12, .int .i64 (v0_12 + (1 : Int)))] ((IntsA v0_3a v0_3c v0_3x) :: (RTurnsXA t tx tc) :: Γ) (Nat.lt_succ_self _) ⟨by kernel_rfl, by kernel_rfl, by kernel_rfl, by kernel_rfl, by kernel_rfl, trivial⟩ (fun w hw => (Sat.less (.take (.there (.there .here)) (.take .here (.drop .here .refl))) hw)) ⟨fuel1, v0_3x, v0_12 + (1 : Int), v0_3a, v0_3c, H, rfl, rfl, rfl⟩
  · replace H := bifF H h1
    refine at_false (t := decide (v0_12 < (((List.length tc.wait) : Nat) : Int))) (x := C39 [1,1,0,1,0,0,1,0,0]) (y := C39 [1,1,0,1,0,0,1,0,1]) (o := .tmp 13) (by kernel_rfl) (by kernel_rfl) (by kernel_rfl) h1 ?_
    refine at_exit (i := 0) (by kernel_rfl) ?_
    refine at_then_exit ?_
    refine at_then_exit ?_
    rw [rreadyS_k0] at H
    refine At.env [(0, .pointer (some ⟨t, 0, none⟩)), (3, .slice v0_3a (List.length v0_3x) v0_3c), (10, .slice tx.2.1.1 (List.length tc.wait) tx.2.1.2), (11, .int .i64 (((List.length tc.wait) : Nat) : Int)), (12, .int .i64 v0_12)] ⟨by kernel_rfl, by kernel_rfl, by kernel_rfl, by kernel_rfl, by kernel_rfl, trivial⟩ ?_
    refine At.conv (Γ' := (IntsA v0_3a v0_3c v0_3x) :: (RTurnsXA t tx tc) :: Γ) (fun w hw => (Sat.less (.take .here (.take .here .refl)) hw)) ?_
    refine at_in_here ?_
    refine at_then_normal ?_
    refine at_seq (x := C39 [1,1,1,0]) (y := C39 [1,1,1,1]) (by kernel_rfl) ?_
    refine at_region (id := 12) 2 (by kernel_rfl) (by kernel_rfl) ?_
    refine s_pure 62 (.slice v0_3a (List.length v0_3x) v0_3c) (by kernel_rfl) (by kernel_rfl) (fun _ => by kernel_rfl) ?_
    refine s_pure 2 (.slice v0_3a (List.length v0_3x) v0_3c) (by kernel_rfl) (by kernel_rfl) (fun _ => by kernel_rfl) ?_
    refine ops_end ?_
    refine At.env [(2, .slice v0_3a (List.length v0_3x) v0_3c)] ⟨by kernel_rfl, trivial⟩ ?_
    refine at_then_normal ?_
    refine at_ret (by kernel_rfl) ?_
    obtain rfl := someE H
    refine at_backR [.slice v0_3a (List.length v0_3x) v0_3c] ((IntsA v0_3a v0_3c v0_3x) :: (RTurnsXA t tx tc) :: Γ) (rs := [.tmp 2]) (by kernel_rfl) (.cons (.tmp (by kernel_rfl)) .nil) (fun w hw => (Sat.less (.take .here (.take .here .refl)) hw)) ?_
    exact ⟨v0_3a, v0_3c, rfl, rfl⟩
end Go.Proofs.Ytpcffplbedbpkaa
