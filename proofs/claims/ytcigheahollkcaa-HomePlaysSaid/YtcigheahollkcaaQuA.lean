/- Turns inside the document's homes: each function answers what its plain function says. -/
import Derived.Test.YtcigheahollkcaaSlObjS
import Derived.Test.YtcigheahollkcaaOwnB
namespace Go.Proofs.Ytcigheahollkcaa
open Go Go.RowKit
set_option linter.unusedVariables false
set_option linter.unusedSimpArgs false
def qownerS_k0 (e0_12 : Int) : Option (Int) :=
 some ((-1) : Int)
def qownerS_l0 (tc : HomesS) (line : Int) (k0 : Int → Option (Int)) : Nat → Int → Option (Int)
 | 0 => fun _ => none
 | m + 1 => fun v0_12 => (bif decide (v0_12 < (((List.length tc.owner) : Nat) : Int)) then chk (0 ≤ v0_12 ∧ v0_12 < ((List.length (tc.owner) : Nat) : Int)) (chk ((nthR tc.owner v0_12).length = 2) ((bif decide ((nth (nthR tc.owner v0_12) 0) = line) then some (nth (nthR tc.owner v0_12) 1) else chk (inR (v0_12 + (1 : Int))) ((qownerS_l0 tc line k0 m) (v0_12 + (1 : Int)))))) else k0 v0_12)
def qownerS (tc : HomesS) (line : Int) : Option (Int) :=
 qownerS_l0 tc line (qownerS_k0 ) 64 0
noncomputable def C20 (p : List Nat) : Code := codeAt (bodyOf Try.f20) p
set_option maxRecDepth 100000 in
set_option maxHeartbeats 8000000 in
theorem QOwnerF_tr {W0 : World} {Γ : List Asn} (t : Nat) (tx : HomesXP) (tc : HomesS) (line : Int)  (y : Int) (H : qownerS tc line = some y) : Tr Try.prog 20 #[.pointer (some ⟨t, 10, none⟩), iv line] W0 ((HomesXA t tx tc) :: Γ) (fun r Δ => r = iv y ∧ Δ = (HomesXA t tx tc) :: Γ) := by
 unfold qownerS at H
 refine Tr.enter (fn := Try.f20) (c := C20 []) (args := [.pointer (some ⟨t, 10, none⟩), iv line]) 23 Try.func20 kf kf ?_
 refine ae [(0, .pointer (some ⟨t, 10, none⟩)), (1, iv line)] ?_
 refine aq (x := C20 [0]) (y := C20 [1]) ?_
 refine ar (id := 0) 1 ?_
 refine sp 4 (iv (0)) ?_
 refine ops_end ?_
 refine ae [(0, .pointer (some ⟨t, 10, none⟩)), (1, iv line)] ?_
 refine at_then_normal ?_
 refine aq (x := C20 [1,0]) (y := C20 [1,1]) ?_
 refine aq (x := C20 [1,0,0]) (y := C20 [1,0,1]) ?_
 refine ar (id := 1) 6 ?_
 refine sp 7 (.pointer (some ⟨t, 10, none⟩)) ?_
 refine sp 8 (.pointer (some ⟨t, 10, none⟩)) ?_
 refine sp 9 (.pointer (some ⟨t, 10, none⟩)) ?_
 refine HomesXA.open .here ?_
 refine sl 10 (.slice tx.a10 (List.length tc.owner) tx.c10) (load1 (off := 10) (fun _ => kf) (holds_own .here) kf) ?_
 refine sp 11 (iv (((List.length tc.owner) : Nat) : Int)) ?_
 refine sp 12 (iv (0)) ?_
 refine ops_end ?_
 refine ae [(1, iv line), (10, .slice tx.a10 (List.length tc.owner) tx.c10), (11, iv (((List.length tc.owner) : Nat) : Int)), (12, iv (0))] ?_
 refine at_then_normal ?_
 refine at_block (i := 0) (x := C20 [1,0,1,0]) kf ?_
 refine At.conv (Γ' := (HomesXA t tx tc) :: (ImmI tx.a7 tc.c.init) :: Γ) (fun w hw => HomesXA.close (x := tx) (t := tc) (Sat.less (.take (.there (.there .here)) (.take .here (.take (.there .here) (.take (.there .here) (.take (.there .here) (.take .here .refl)))))) (ImmR.dup (Sat.less (.take (.there .here) (.take .here (.take .here (.take .here (.take .here .refl))))) hw)))) ?_
 refine At.conv (Γ' := (HomesXA t tx tc) :: (ImmI tx.a7 tc.c.init) :: Γ) (fun w hw => (Sat.less (.take .here (.take .here .refl)) hw)) ?_
 refine at_loopR (x := C20 [1,0,1,0,0]) (fun mm ff ΔΔ => ∃ (fuel : Nat) (v0_12 : Int), qownerS_l0 tc line (qownerS_k0 ) fuel v0_12 = some y ∧ fuel = mm ∧ ff = [(1, iv line), (10, .slice tx.a10 (List.length tc.owner) tx.c10), (11, iv (((List.length tc.owner) : Nat) : Int)), (12, iv v0_12)] ∧ (HomesXA t tx tc) :: (ImmI tx.a7 tc.c.init) :: Γ = ΔΔ) (64) kf [(1, iv line), (10, .slice tx.a10 (List.length tc.owner) tx.c10), (11, iv (((List.length tc.owner) : Nat) : Int)), (12, iv 0)] ⟨kf, kf, kf, kf, trivial⟩ ⟨64, 0, H, rfl, rfl, rfl⟩ ?_
 rintro _ _ _ ⟨fuel1, v0_12, H, rfl, rfl, rfl⟩
 rcases fuel1 with _ | fuel1
 ·exact (noneE H).elim
 rw [qownerS_l0] at H
 refine aq (x := C20 [1,0,1,0,0,0]) (y := C20 [1,0,1,0,0,1]) ?_
 refine ar (id := 2) 1 ?_
 refine sp 13 (.bool (decide (v0_12 < (((List.length tc.owner) : Nat) : Int)))) ?_
 refine ops_end ?_
 refine ae [(1, iv line), (10, .slice tx.a10 (List.length tc.owner) tx.c10), (11, iv (((List.length tc.owner) : Nat) : Int)), (12, iv v0_12), (13, .bool (decide (v0_12 < (((List.length tc.owner) : Nat) : Int))))] ?_
 refine at_then_normal ?_
 refine aq (x := C20 [1,0,1,0,0,1,0]) (y := C20 [1,0,1,0,0,1,1]) ?_
 rcases Bool.eq_false_or_eq_true (decide (v0_12 < (((List.length tc.owner) : Nat) : Int))) with h1 | h1
 ·replace H := bifT H h1
  refine at_true (t := decide (v0_12 < (((List.length tc.owner) : Nat) : Int))) (x := C20 [1,0,1,0,0,1,0,0]) (y := C20 [1,0,1,0,0,1,0,1]) (o := .tmp 13) kf kf kf h1 ?_
  refine at_skip kf ?_
  refine at_then_normal ?_
  refine aq (x := C20 [1,0,1,0,0,1,1,0]) (y := C20 [1,0,1,0,0,1,1,1]) ?_
  refine at_block (i := 1) (x := C20 [1,0,1,0,0,1,1,0,0]) kf ?_
  refine aq (x := C20 [1,0,1,0,0,1,1,0,0,0]) (y := C20 [1,0,1,0,0,1,1,0,0,1]) ?_
  refine ar (id := 3) 4 ?_
  refine HomesXA.open .here ?_
  obtain ⟨hc3_0_0, H⟩ := chkE H
  refine rows_at (.there (.there (.there .here))) (by have := hc3_0_0; rw [rowsV_len]; omega) ?_
  intro bb1 oo1 ha1
  refine sr 14 (.pointer (some ⟨bb1, oo1 + ((v0_12).toNat * 2), none⟩)) (index_at (t := 55) (sz := 2) (E := 86) (a := tx.a10) (m := (List.length tc.owner)) (c := tx.c10) (b := bb1) (off := oo1) (i := (v0_12).toNat) (tinfo 86) (fun _ => kf) kf kf kf ha1 (idx_cast hc3_0_0) (idx_nat hc3_0_0) rfl) ?_
  obtain ⟨hc3_1_0, H⟩ := chkE H
  refine sl 15 (.agg #[iv (nth (nthR tc.owner v0_12) 0), iv (nth (nthR tc.owner v0_12) 1)]) (loadN_at (k := 2) (row := [iv (nth (nthR tc.owner v0_12) 0), iv (nth (nthR tc.owner v0_12) 1)]) (off := oo1) (i := (v0_12).toNat) (fun _ => kf) rfl rfl (fun j v hj => rows_cell (k := 2) (.there (.there (.there .here))) ha1 (rowsV_get hc3_0_0) (by rw [rowV_2 hc3_1_0]; exact hj))) ?_
  refine s_step 6 kf kf (st_new (T := 86) (cells := #[iv (0), iv (0)]) (fun a => .pointer (some a)) (fun _ => kf)) ?_
  rintro _ _ ⟨b3_2, rfl, rfl⟩
  refine s_do kf kf (st_store (off := 0) (vs := [iv (nth (nthR tc.owner v0_12) 0), iv (nth (nthR tc.owner v0_12) 1)]) (c' := #[iv (nth (nthR tc.owner v0_12) 0), iv (nth (nthR tc.owner v0_12) 1)]) (fun _ => kf) .here kf kf kf) ?_
  rintro _ _ ⟨rfl, rfl⟩
  refine ops_end ?_
  refine ae [(1, iv line), (6, .pointer (some ⟨b3_2, 0, none⟩)), (10, .slice tx.a10 (List.length tc.owner) tx.c10), (11, iv (((List.length tc.owner) : Nat) : Int)), (12, iv v0_12)] ?_
  refine at_then_normal ?_
  refine aq (x := C20 [1,0,1,0,0,1,1,0,0,1,0]) (y := C20 [1,0,1,0,0,1,1,0,0,1,1]) ?_
  refine ar (id := 4) 4 ?_
  refine sp 16 (.pointer (some ⟨b3_2, 0, none⟩)) ?_
  refine sl 17 (iv (nth (nthR tc.owner v0_12) 0)) (load1 (off := 0) (fun _ => kf) (holds_own .here) kf) ?_
  refine sp 18 (iv line) ?_
  refine sp 19 (.bool (decide ((nth (nthR tc.owner v0_12) 0) = line))) ?_
  refine ops_end ?_
  refine ae [(1, iv line), (6, .pointer (some ⟨b3_2, 0, none⟩)), (10, .slice tx.a10 (List.length tc.owner) tx.c10), (11, iv (((List.length tc.owner) : Nat) : Int)), (12, iv v0_12), (19, .bool (decide ((nth (nthR tc.owner v0_12) 0) = line)))] ?_
  refine at_then_normal ?_
  rcases Bool.eq_false_or_eq_true (decide ((nth (nthR tc.owner v0_12) 0) = line)) with h2 | h2
  ·replace H := bifT H h2
   refine at_true (t := decide ((nth (nthR tc.owner v0_12) 0) = line)) (x := C20 [1,0,1,0,0,1,1,0,0,1,1,0]) (y := C20 [1,0,1,0,0,1,1,0,0,1,1,1]) (o := .tmp 19) kf kf kf h2 ?_
   refine aq (x := C20 [1,0,1,0,0,1,1,0,0,1,1,0,0]) (y := C20 [1,0,1,0,0,1,1,0,0,1,1,0,1]) ?_
   refine ar (id := 5) 3 ?_
   refine sp 20 (.pointer (some ⟨b3_2, 1, none⟩)) ?_
   refine sl 21 (iv (nth (nthR tc.owner v0_12) 1)) (load1 (off := 1) (fun _ => kf) (holds_own .here) kf) ?_
   refine sp 4 (iv (nth (nthR tc.owner v0_12) 1)) ?_
   refine ops_end ?_
   refine ae [(4, iv (nth (nthR tc.owner v0_12) 1))] ?_
   refine at_then_normal ?_
   refine at_ret kf ?_
   refine at_in_ret ?_
   refine at_then_ret ?_
   refine at_then_ret ?_
   refine at_in_ret ?_
   refine at_then_ret ?_
   refine At.conv (Γ' := (HomesXA t tx tc) :: (ImmI tx.a7 tc.c.init) :: (Asn.own b3_2 (.cells #[iv (nth (nthR tc.owner v0_12) 0), iv (nth (nthR tc.owner v0_12) 1)] 86 (0, 0))) :: (ImmI tx.a7 tc.c.init) :: Γ) (fun w hw => HomesXA.close (x := tx) (t := tc) (Sat.less (.take (.there (.there (.there .here))) (.take .here (.take (.there (.there .here)) (.take (.there (.there .here)) (.take (.there (.there .here)) (.take .here (.take .here (.take .here .refl)))))))) (ImmR.dup (Sat.less (.take (.there (.there .here)) (.take .here (.take .here (.take .here (.take .here (.take .here (.take .here .refl))))))) hw)))) ?_
   obtain rfl := someE H
   refine at_backR [iv (nth (nthR tc.owner v0_12) 1)] ((HomesXA t tx tc) :: Γ) (rs := [.tmp 4]) kf (.cons (.tmp kf) .nil) (fun w hw => (Sat.less (.take .here (.drop .here (.drop .here (.drop .here .refl)))) hw)) ?_
   exact ⟨rfl, rfl⟩
  ·replace H := bifF H h2
   refine at_false (t := decide ((nth (nthR tc.owner v0_12) 0) = line)) (x := C20 [1,0,1,0,0,1,1,0,0,1,1,0]) (y := C20 [1,0,1,0,0,1,1,0,0,1,1,1]) (o := .tmp 19) kf kf kf h2 ?_
   refine at_skip kf ?_
   refine at_in_normal ?_
   refine at_then_normal ?_
   refine ar (id := 6) 2 ?_
   obtain ⟨hc6_0_0, H⟩ := chkE H
   refine sr 22 (iv (v0_12 + (1 : Int))) (run_eq (v := iv (IntKind.i64.wrap (v0_12 + (1 : Int)))) (fun _ => kf) (by rw [inR.wrap hc6_0_0])) ?_
   refine sp 12 (iv (v0_12 + (1 : Int))) ?_
   refine ops_end ?_
   refine ae [(1, iv line), (10, .slice tx.a10 (List.length tc.owner) tx.c10), (11, iv (((List.length tc.owner) : Nat) : Int)), (12, iv (v0_12 + (1 : Int)))] ?_
   refine at_round_normal ?_
   refine At.conv (Γ' := (HomesXA t tx tc) :: (ImmI tx.a7 tc.c.init) :: (Asn.own b3_2 (.cells #[iv (nth (nthR tc.owner v0_12) 0), iv (nth (nthR tc.owner v0_12) 1)] 86 (0, 0))) :: (ImmI tx.a7 tc.c.init) :: Γ) (fun w hw => HomesXA.close (x := tx) (t := tc) (Sat.less (.take (.there (.there (.there .here))) (.take .here (.take (.there (.there .here)) (.take (.there (.there .here)) (.take (.there (.there .here)) (.take .here (.take .here (.take .here .refl)))))))) (ImmR.dup (Sat.less (.take (.there (.there .here)) (.take .here (.take .here (.take .here (.take .here (.take .here (.take .here .refl))))))) hw)))) ?_
   exact at_roundR fuel1 [(1, iv line), (10, .slice tx.a10 (List.length tc.owner) tx.c10), (11, iv (((List.length tc.owner) : Nat) : Int)), (12, iv (v0_12 + (1 : Int)))] ((HomesXA t tx tc) :: (ImmI tx.a7 tc.c.init) :: Γ) (Nat.lt_succ_self _) ⟨kf, kf, kf, kf, trivial⟩ (fun w hw => (Sat.less (.take .here (.take .here (.drop .here (.drop .here .refl)))) hw)) ⟨fuel1, v0_12 + (1 : Int), H, rfl, rfl, rfl⟩
 ·replace H := bifF H h1
  refine at_false (t := decide (v0_12 < (((List.length tc.owner) : Nat) : Int))) (x := C20 [1,0,1,0,0,1,0,0]) (y := C20 [1,0,1,0,0,1,0,1]) (o := .tmp 13) kf kf kf h1 ?_
  refine at_exit (i := 0) kf ?_
  refine at_then_exit ?_
  refine at_then_exit ?_
  rw [qownerS_k0] at H
  refine ae [(1, iv line), (10, .slice tx.a10 (List.length tc.owner) tx.c10), (11, iv (((List.length tc.owner) : Nat) : Int)), (12, iv v0_12)] ?_
  refine At.conv (Γ' := (HomesXA t tx tc) :: (ImmI tx.a7 tc.c.init) :: Γ) (fun w hw => (Sat.less (.take .here (.take .here .refl)) hw)) ?_
  refine at_in_here ?_
  refine at_then_normal ?_
  refine aq (x := C20 [1,1,0]) (y := C20 [1,1,1]) ?_
  refine ar (id := 7) 1 ?_
  refine sp 4 (iv (-1)) ?_
  refine ops_end ?_
  refine ae [(4, iv (-1))] ?_
  refine at_then_normal ?_
  refine at_ret kf ?_
  obtain rfl := someE H
  refine at_backR [iv (-1)] ((HomesXA t tx tc) :: Γ) (rs := [.tmp 4]) kf (.cons (.tmp kf) .nil) (fun w hw => (Sat.less (.take .here (.drop .here .refl)) hw)) ?_
  exact ⟨rfl, rfl⟩
def qwaitingS_k0 (e0_5 : Int) (e0_13 : Int) : Option (Int) :=
 some e0_5
def qwaitingS_l0 (tc : HomesS) (line : Int) (k0 : Int → Int → Option (Int)) : Nat → Int → Int → Option (Int)
 | 0 => fun _ _ => none
 | m + 1 => fun v0_5 v0_13 => (bif decide (v0_13 < (((List.length tc.wait) : Nat) : Int)) then chk (0 ≤ v0_13 ∧ v0_13 < ((List.length (tc.wait) : Nat) : Int)) (chk ((nthR tc.wait v0_13).length = 3) ((bif decide ((nth (nthR tc.wait v0_13) 0) = line) then chk (inR (v0_5 + (1 : Int))) (chk (inR (v0_13 + (1 : Int))) ((qwaitingS_l0 tc line k0 m) (v0_5 + (1 : Int)) (v0_13 + (1 : Int)))) else chk (inR (v0_13 + (1 : Int))) ((qwaitingS_l0 tc line k0 m) v0_5 (v0_13 + (1 : Int)))))) else k0 v0_5 v0_13)
def qwaitingS (tc : HomesS) (line : Int) : Option (Int) :=
 qwaitingS_l0 tc line (qwaitingS_k0 ) 64 0 0
noncomputable def C46 (p : List Nat) : Code := codeAt (bodyOf Try.f46) p
set_option maxRecDepth 100000 in
set_option maxHeartbeats 8000000 in
theorem QWaitingF_tr {W0 : World} {Γ : List Asn} (t : Nat) (tx : HomesXP) (tc : HomesS) (line : Int)  (y : Int) (H : qwaitingS tc line = some y) : Tr Try.prog 46 #[.pointer (some ⟨t, 10, none⟩), iv line] W0 ((HomesXA t tx tc) :: Γ) (fun r Δ => r = iv y ∧ Δ = (HomesXA t tx tc) :: Γ) := by
 unfold qwaitingS at H
 refine Tr.enter (fn := Try.f46) (c := C46 []) (args := [.pointer (some ⟨t, 10, none⟩), iv line]) 25 Try.func46 kf kf ?_
 refine ae [(0, .pointer (some ⟨t, 10, none⟩)), (1, iv line)] ?_
 refine aq (x := C46 [0]) (y := C46 [1]) ?_
 refine ar (id := 0) 1 ?_
 refine sp 4 (iv (0)) ?_
 refine ops_end ?_
 refine ae [(0, .pointer (some ⟨t, 10, none⟩)), (1, iv line)] ?_
 refine at_then_normal ?_
 refine aq (x := C46 [1,0]) (y := C46 [1,1]) ?_
 refine ar (id := 1) 1 ?_
 refine sp 5 (iv (0)) ?_
 refine ops_end ?_
 refine ae [(0, .pointer (some ⟨t, 10, none⟩)), (1, iv line), (5, iv (0))] ?_
 refine at_then_normal ?_
 refine aq (x := C46 [1,1,0]) (y := C46 [1,1,1]) ?_
 refine aq (x := C46 [1,1,0,0]) (y := C46 [1,1,0,1]) ?_
 refine ar (id := 2) 6 ?_
 refine sp 8 (.pointer (some ⟨t, 10, none⟩)) ?_
 refine sp 9 (.pointer (some ⟨t, 10, none⟩)) ?_
 refine sp 10 (.pointer (some ⟨t, 11, none⟩)) ?_
 refine HomesXA.open .here ?_
 refine sl 11 (.slice tx.a11 (List.length tc.wait) tx.c11) (load1 (off := 11) (fun _ => kf) (holds_own .here) kf) ?_
 refine sp 12 (iv (((List.length tc.wait) : Nat) : Int)) ?_
 refine sp 13 (iv (0)) ?_
 refine ops_end ?_
 refine ae [(1, iv line), (5, iv (0)), (11, .slice tx.a11 (List.length tc.wait) tx.c11), (12, iv (((List.length tc.wait) : Nat) : Int)), (13, iv (0))] ?_
 refine at_then_normal ?_
 refine at_block (i := 0) (x := C46 [1,1,0,1,0]) kf ?_
 refine At.conv (Γ' := (HomesXA t tx tc) :: (ImmI tx.a7 tc.c.init) :: Γ) (fun w hw => HomesXA.close (x := tx) (t := tc) (Sat.less (.take (.there (.there .here)) (.take .here (.take (.there .here) (.take (.there .here) (.take (.there .here) (.take .here .refl)))))) (ImmR.dup (Sat.less (.take (.there .here) (.take .here (.take .here (.take .here (.take .here .refl))))) hw)))) ?_
 refine At.conv (Γ' := (HomesXA t tx tc) :: (ImmI tx.a7 tc.c.init) :: Γ) (fun w hw => (Sat.less (.take .here (.take .here .refl)) hw)) ?_
 refine at_loopR (x := C46 [1,1,0,1,0,0]) (fun mm ff ΔΔ => ∃ (fuel : Nat) (v0_5 : Int) (v0_13 : Int), qwaitingS_l0 tc line (qwaitingS_k0 ) fuel v0_5 v0_13 = some y ∧ fuel = mm ∧ ff = [(1, iv line), (5, iv v0_5), (11, .slice tx.a11 (List.length tc.wait) tx.c11), (12, iv (((List.length tc.wait) : Nat) : Int)), (13, iv v0_13)] ∧ (HomesXA t tx tc) :: (ImmI tx.a7 tc.c.init) :: Γ = ΔΔ) (64) kf [(1, iv line), (5, iv 0), (11, .slice tx.a11 (List.length tc.wait) tx.c11), (12, iv (((List.length tc.wait) : Nat) : Int)), (13, iv 0)] ⟨kf, kf, kf, kf, kf, trivial⟩ ⟨64, 0, 0, H, rfl, rfl, rfl⟩ ?_
 rintro _ _ _ ⟨fuel1, v0_5, v0_13, H, rfl, rfl, rfl⟩
 rcases fuel1 with _ | fuel1
 ·exact (noneE H).elim
 rw [qwaitingS_l0] at H
 refine aq (x := C46 [1,1,0,1,0,0,0]) (y := C46 [1,1,0,1,0,0,1]) ?_
 refine ar (id := 3) 1 ?_
 refine sp 14 (.bool (decide (v0_13 < (((List.length tc.wait) : Nat) : Int)))) ?_
 refine ops_end ?_
 refine ae [(1, iv line), (5, iv v0_5), (11, .slice tx.a11 (List.length tc.wait) tx.c11), (12, iv (((List.length tc.wait) : Nat) : Int)), (13, iv v0_13), (14, .bool (decide (v0_13 < (((List.length tc.wait) : Nat) : Int))))] ?_
 refine at_then_normal ?_
 refine aq (x := C46 [1,1,0,1,0,0,1,0]) (y := C46 [1,1,0,1,0,0,1,1]) ?_
 rcases Bool.eq_false_or_eq_true (decide (v0_13 < (((List.length tc.wait) : Nat) : Int))) with h1 | h1
 ·replace H := bifT H h1
  refine at_true (t := decide (v0_13 < (((List.length tc.wait) : Nat) : Int))) (x := C46 [1,1,0,1,0,0,1,0,0]) (y := C46 [1,1,0,1,0,0,1,0,1]) (o := .tmp 14) kf kf kf h1 ?_
  refine at_skip kf ?_
  refine at_then_normal ?_
  refine aq (x := C46 [1,1,0,1,0,0,1,1,0]) (y := C46 [1,1,0,1,0,0,1,1,1]) ?_
  refine at_block (i := 1) (x := C46 [1,1,0,1,0,0,1,1,0,0]) kf ?_
  refine aq (x := C46 [1,1,0,1,0,0,1,1,0,0,0]) (y := C46 [1,1,0,1,0,0,1,1,0,0,1]) ?_
  refine ar (id := 4) 4 ?_
  refine HomesXA.open .here ?_
  obtain ⟨hc4_0_0, H⟩ := chkE H
  refine rows_at (.there (.there (.there (.there .here)))) (by have := hc4_0_0; rw [rowsV_len]; omega) ?_
  intro bb1 oo1 ha1
  refine sr 15 (.pointer (some ⟨bb1, oo1 + ((v0_13).toNat * 3), none⟩)) (index_at (t := 56) (sz := 3) (E := 108) (a := tx.a11) (m := (List.length tc.wait)) (c := tx.c11) (b := bb1) (off := oo1) (i := (v0_13).toNat) (tinfo 108) (fun _ => kf) kf kf kf ha1 (idx_cast hc4_0_0) (idx_nat hc4_0_0) rfl) ?_
  obtain ⟨hc4_1_0, H⟩ := chkE H
  refine sl 16 (.agg #[iv (nth (nthR tc.wait v0_13) 0), iv (nth (nthR tc.wait v0_13) 1), iv (nth (nthR tc.wait v0_13) 2)]) (loadN_at (k := 3) (row := [iv (nth (nthR tc.wait v0_13) 0), iv (nth (nthR tc.wait v0_13) 1), iv (nth (nthR tc.wait v0_13) 2)]) (off := oo1) (i := (v0_13).toNat) (fun _ => kf) rfl rfl (fun j v hj => rows_cell (k := 3) (.there (.there (.there (.there .here)))) ha1 (rowsV_get hc4_0_0) (by rw [rowV_3 hc4_1_0]; exact hj))) ?_
  refine s_step 7 kf kf (st_new (T := 108) (cells := #[iv (0), iv (0), iv (0)]) (fun a => .pointer (some a)) (fun _ => kf)) ?_
  rintro _ _ ⟨b4_2, rfl, rfl⟩
  refine s_do kf kf (st_store (off := 0) (vs := [iv (nth (nthR tc.wait v0_13) 0), iv (nth (nthR tc.wait v0_13) 1), iv (nth (nthR tc.wait v0_13) 2)]) (c' := #[iv (nth (nthR tc.wait v0_13) 0), iv (nth (nthR tc.wait v0_13) 1), iv (nth (nthR tc.wait v0_13) 2)]) (fun _ => kf) .here kf kf kf) ?_
  rintro _ _ ⟨rfl, rfl⟩
  refine ops_end ?_
  refine ae [(1, iv line), (5, iv v0_5), (7, .pointer (some ⟨b4_2, 0, none⟩)), (11, .slice tx.a11 (List.length tc.wait) tx.c11), (12, iv (((List.length tc.wait) : Nat) : Int)), (13, iv v0_13)] ?_
  refine at_then_normal ?_
  refine aq (x := C46 [1,1,0,1,0,0,1,1,0,0,1,0]) (y := C46 [1,1,0,1,0,0,1,1,0,0,1,1]) ?_
  refine ar (id := 5) 4 ?_
  refine sp 17 (.pointer (some ⟨b4_2, 0, none⟩)) ?_
  refine sl 18 (iv (nth (nthR tc.wait v0_13) 0)) (load1 (off := 0) (fun _ => kf) (holds_own .here) kf) ?_
  refine sp 19 (iv line) ?_
  refine sp 20 (.bool (decide ((nth (nthR tc.wait v0_13) 0) = line))) ?_
  refine ops_end ?_
  refine ae [(1, iv line), (5, iv v0_5), (11, .slice tx.a11 (List.length tc.wait) tx.c11), (12, iv (((List.length tc.wait) : Nat) : Int)), (13, iv v0_13), (20, .bool (decide ((nth (nthR tc.wait v0_13) 0) = line)))] ?_
  refine at_then_normal ?_
  rcases Bool.eq_false_or_eq_true (decide ((nth (nthR tc.wait v0_13) 0) = line)) with h2 | h2
  ·replace H := bifT H h2
   refine at_true (t := decide ((nth (nthR tc.wait v0_13) 0) = line)) (x := C46 [1,1,0,1,0,0,1,1,0,0,1,1,0]) (y := C46 [1,1,0,1,0,0,1,1,0,0,1,1,1]) (o := .tmp 20) kf kf kf h2 ?_
   refine ar (id := 6) 3 ?_
   refine sp 21 (iv v0_5) ?_
   obtain ⟨hc6_1_0, H⟩ := chkE H
   refine sr 22 (iv (v0_5 + (1 : Int))) (run_eq (v := iv (IntKind.i64.wrap (v0_5 + (1 : Int)))) (fun _ => kf) (by rw [inR.wrap hc6_1_0])) ?_
   refine sp 5 (iv (v0_5 + (1 : Int))) ?_
   refine ops_end ?_
   refine ae [(1, iv line), (5, iv (v0_5 + (1 : Int))), (11, .slice tx.a11 (List.length tc.wait) tx.c11), (12, iv (((List.length tc.wait) : Nat) : Int)), (13, iv v0_13)] ?_
   refine at_in_normal ?_
   refine at_then_normal ?_
   refine ar (id := 7) 2 ?_
   obtain ⟨hc7_0_0, H⟩ := chkE H
   refine sr 23 (iv (v0_13 + (1 : Int))) (run_eq (v := iv (IntKind.i64.wrap (v0_13 + (1 : Int)))) (fun _ => kf) (by rw [inR.wrap hc7_0_0])) ?_
   refine sp 13 (iv (v0_13 + (1 : Int))) ?_
   refine ops_end ?_
   refine ae [(1, iv line), (5, iv (v0_5 + (1 : Int))), (11, .slice tx.a11 (List.length tc.wait) tx.c11), (12, iv (((List.length tc.wait) : Nat) : Int)), (13, iv (v0_13 + (1 : Int)))] ?_
   refine at_round_normal ?_
   refine At.conv (Γ' := (HomesXA t tx tc) :: (ImmI tx.a7 tc.c.init) :: (Asn.own b4_2 (.cells #[iv (nth (nthR tc.wait v0_13) 0), iv (nth (nthR tc.wait v0_13) 1), iv (nth (nthR tc.wait v0_13) 2)] 108 (0, 0))) :: (ImmI tx.a7 tc.c.init) :: Γ) (fun w hw => HomesXA.close (x := tx) (t := tc) (Sat.less (.take (.there (.there (.there .here))) (.take .here (.take (.there (.there .here)) (.take (.there (.there .here)) (.take (.there (.there .here)) (.take .here (.take .here (.take .here .refl)))))))) (ImmR.dup (Sat.less (.take (.there (.there .here)) (.take .here (.take .here (.take .here (.take .here (.take .here (.take .here .refl))))))) hw)))) ?_
   exact at_roundR fuel1 [(1, iv line), (5, iv (v0_5 + (1 : Int))), (11, .slice tx.a11 (List.length tc.wait) tx.c11), (12, iv (((List.length tc.wait) : Nat) : Int)), (13, iv (v0_13 + (1 : Int)))] ((HomesXA t tx tc) :: (ImmI tx.a7 tc.c.init) :: Γ) (Nat.lt_succ_self _) ⟨kf, kf, kf, kf, kf, trivial⟩ (fun w hw => (Sat.less (.take .here (.take .here (.drop .here (.drop .here .refl)))) hw)) ⟨fuel1, v0_5 + (1 : Int), v0_13 + (1 : Int), H, rfl, rfl, rfl⟩
  ·replace H := bifF H h2
   refine at_false (t := decide ((nth (nthR tc.wait v0_13) 0) = line)) (x := C46 [1,1,0,1,0,0,1,1,0,0,1,1,0]) (y := C46 [1,1,0,1,0,0,1,1,0,0,1,1,1]) (o := .tmp 20) kf kf kf h2 ?_
   refine at_skip kf ?_
   refine at_in_normal ?_
   refine at_then_normal ?_
   refine ar (id := 7) 2 ?_
   obtain ⟨hc7_0_0, H⟩ := chkE H
   refine sr 23 (iv (v0_13 + (1 : Int))) (run_eq (v := iv (IntKind.i64.wrap (v0_13 + (1 : Int)))) (fun _ => kf) (by rw [inR.wrap hc7_0_0])) ?_
   refine sp 13 (iv (v0_13 + (1 : Int))) ?_
   refine ops_end ?_
   refine ae [(1, iv line), (5, iv v0_5), (11, .slice tx.a11 (List.length tc.wait) tx.c11), (12, iv (((List.length tc.wait) : Nat) : Int)), (13, iv (v0_13 + (1 : Int)))] ?_
   refine at_round_normal ?_
   refine At.conv (Γ' := (HomesXA t tx tc) :: (ImmI tx.a7 tc.c.init) :: (Asn.own b4_2 (.cells #[iv (nth (nthR tc.wait v0_13) 0), iv (nth (nthR tc.wait v0_13) 1), iv (nth (nthR tc.wait v0_13) 2)] 108 (0, 0))) :: (ImmI tx.a7 tc.c.init) :: Γ) (fun w hw => HomesXA.close (x := tx) (t := tc) (Sat.less (.take (.there (.there (.there .here))) (.take .here (.take (.there (.there .here)) (.take (.there (.there .here)) (.take (.there (.there .here)) (.take .here (.take .here (.take .here .refl)))))))) (ImmR.dup (Sat.less (.take (.there (.there .here)) (.take .here (.take .here (.take .here (.take .here (.take .here (.take .here .refl))))))) hw)))) ?_
   exact at_roundR fuel1 [(1, iv line), (5, iv v0_5), (11, .slice tx.a11 (List.length tc.wait) tx.c11), (12, iv (((List.length tc.wait) : Nat) : Int)), (13, iv (v0_13 + (1 : Int)))] ((HomesXA t tx tc) :: (ImmI tx.a7 tc.c.init) :: Γ) (Nat.lt_succ_self _) ⟨kf, kf, kf, kf, kf, trivial⟩ (fun w hw => (Sat.less (.take .here (.take .here (.drop .here (.drop .here .refl)))) hw)) ⟨fuel1, v0_5, v0_13 + (1 : Int), H, rfl, rfl, rfl⟩
 ·replace H := bifF H h1
  refine at_false (t := decide (v0_13 < (((List.length tc.wait) : Nat) : Int))) (x := C46 [1,1,0,1,0,0,1,0,0]) (y := C46 [1,1,0,1,0,0,1,0,1]) (o := .tmp 14) kf kf kf h1 ?_
  refine at_exit (i := 0) kf ?_
  refine at_then_exit ?_
  refine at_then_exit ?_
  rw [qwaitingS_k0] at H
  refine ae [(1, iv line), (5, iv v0_5), (11, .slice tx.a11 (List.length tc.wait) tx.c11), (12, iv (((List.length tc.wait) : Nat) : Int)), (13, iv v0_13)] ?_
  refine At.conv (Γ' := (HomesXA t tx tc) :: (ImmI tx.a7 tc.c.init) :: Γ) (fun w hw => (Sat.less (.take .here (.take .here .refl)) hw)) ?_
  refine at_in_here ?_
  refine at_then_normal ?_
  refine aq (x := C46 [1,1,1,0]) (y := C46 [1,1,1,1]) ?_
  refine ar (id := 8) 2 ?_
  refine sp 24 (iv v0_5) ?_
  refine sp 4 (iv v0_5) ?_
  refine ops_end ?_
  refine ae [(4, iv v0_5)] ?_
  refine at_then_normal ?_
  refine at_ret kf ?_
  obtain rfl := someE H
  refine at_backR [iv v0_5] ((HomesXA t tx tc) :: Γ) (rs := [.tmp 4]) kf (.cons (.tmp kf) .nil) (fun w hw => (Sat.less (.take .here (.drop .here .refl)) hw)) ?_
  exact ⟨rfl, rfl⟩
def qaskS (tc : HomesS) (line : Int) (who : Int) (id : Int) : Option (Bool × HomesS) :=
 (bif decide (who < (0 : Int)) then some (false, tc) else (qownerS tc line).bind fun y3_2 => (bif decide (y3_2 = ((-1) : Int)) then (qwaitingS tc line).bind fun y3_7 => (bif decide (y3_7 = (0 : Int)) then chk ((tc.owner ++ ([[line, who]])).length ≤ 1099511627776) (letP (tc.owner ++ ([[line, who]])) fun l4_9 => some (true, ({ c := tc.c, node := tc.node, r := tc.r, owner := l4_9, wait := tc.wait } : HomesS))) else chk ((tc.wait ++ ([[line, who, id]])).length ≤ 1099511627776) (letP (tc.wait ++ ([[line, who, id]])) fun l6_10 => some (false, ({ c := tc.c, node := tc.node, r := tc.r, owner := tc.owner, wait := l6_10 } : HomesS)))) else chk ((tc.wait ++ ([[line, who, id]])).length ≤ 1099511627776) (letP (tc.wait ++ ([[line, who, id]])) fun l6_10 => some (false, ({ c := tc.c, node := tc.node, r := tc.r, owner := tc.owner, wait := l6_10 } : HomesS)))))
noncomputable def C41 (p : List Nat) : Code := codeAt (bodyOf Try.f41) p
set_option maxRecDepth 100000 in
set_option maxHeartbeats 8000000 in
theorem QAskF_tr {W0 : World} {Γ : List Asn} (t : Nat) (tc : HomesS) (line : Int) (who : Int) (id : Int)  (y : Bool × HomesS) (H : qaskS tc line who id = some y) : Tr Try.prog 41 #[.pointer (some ⟨t, 10, none⟩), iv line, iv who, iv id] W0 ((HomesA t tc) :: Γ) (fun r Δ => r = .bool y.1 ∧ Δ = (HomesA t y.2) :: Γ) := by
 unfold qaskS at H
 refine Tr.enter (fn := Try.f41) (c := C41 []) (args := [.pointer (some ⟨t, 10, none⟩), iv line, iv who, iv id]) 46 Try.func41 kf kf ?_
 refine ae [(0, .pointer (some ⟨t, 10, none⟩)), (1, iv line), (2, iv who), (3, iv id)] ?_
 refine aq (x := C41 [0]) (y := C41 [1]) ?_
 refine ar (id := 0) 1 ?_
 refine sp 8 (.bool false) ?_
 refine ops_end ?_
 refine ae [(0, .pointer (some ⟨t, 10, none⟩)), (1, iv line), (2, iv who), (3, iv id)] ?_
 refine at_then_normal ?_
 refine aq (x := C41 [1,0]) (y := C41 [1,1]) ?_
 refine aq (x := C41 [1,0,0]) (y := C41 [1,0,1]) ?_
 refine ar (id := 1) 2 ?_
 refine sp 9 (iv who) ?_
 refine sp 10 (.bool (decide (who < (0 : Int)))) ?_
 refine ops_end ?_
 refine ae [(0, .pointer (some ⟨t, 10, none⟩)), (1, iv line), (2, iv who), (3, iv id), (10, .bool (decide (who < (0 : Int))))] ?_
 refine at_then_normal ?_
 rcases Bool.eq_false_or_eq_true (decide (who < (0 : Int))) with h1 | h1
 ·replace H := bifT H h1
  refine at_true (t := decide (who < (0 : Int))) (x := C41 [1,0,1,0]) (y := C41 [1,0,1,1]) (o := .tmp 10) kf kf kf h1 ?_
  refine aq (x := C41 [1,0,1,0,0]) (y := C41 [1,0,1,0,1]) ?_
  refine ar (id := 2) 1 ?_
  refine sp 8 (.bool false) ?_
  refine ops_end ?_
  refine ae [(8, .bool false)] ?_
  refine at_then_normal ?_
  refine at_ret kf ?_
  refine at_then_ret ?_
  obtain rfl := someE H
  refine at_backR [.bool false] ((HomesA t tc) :: Γ) (rs := [.tmp 8]) kf (.cons (.tmp kf) .nil) (fun w hw => (Sat.less (.take .here .refl) hw)) ?_
  exact ⟨rfl, rfl⟩
 ·replace H := bifF H h1
  refine at_false (t := decide (who < (0 : Int))) (x := C41 [1,0,1,0]) (y := C41 [1,0,1,1]) (o := .tmp 10) kf kf kf h1 ?_
  refine at_skip kf ?_
  refine at_then_normal ?_
  refine aq (x := C41 [1,1,0]) (y := C41 [1,1,1]) ?_
  refine aq (x := C41 [1,1,0,0]) (y := C41 [1,1,0,1]) ?_
  refine ar (id := 3) 10 ?_
  refine sp 11 (.pointer (some ⟨t, 10, none⟩)) ?_
  refine sp 12 (iv line) ?_
  refine HomesA.tox .here ?_
  intro x3_2_t
  obtain ⟨y3_2, hy3_2, H⟩ := bindE H
  refine s_call 13 20 #[.pointer (some ⟨t, 10, none⟩), iv line] kf kf (fun _ => kf) (QOwnerF_tr t x3_2_t tc line y3_2 hy3_2) ?_
  rintro _ _ ⟨rfl, rfl⟩
  refine sp 14 (.bool (decide (y3_2 = ((-1) : Int)))) ?_
  rcases Bool.eq_false_or_eq_true (decide (y3_2 = ((-1) : Int))) with h2 | h2
  ·replace H := bifT H h2
   refine sr 15 (.bool true) (run_eq (v := .bool (decide (y3_2 = ((-1) : Int)))) (fun _ => kf) (congrArg Value.bool h2)) ?_
   refine sp 16 (.pointer (some ⟨t, 10, none⟩)) ?_
   refine sp 17 (iv line) ?_
   obtain ⟨y3_7, hy3_7, H⟩ := bindE H
   refine s_call 18 46 #[.pointer (some ⟨t, 10, none⟩), iv line] kf kf (fun _ => kf) (QWaitingF_tr t x3_2_t tc line y3_7 hy3_7) ?_
   rintro _ _ ⟨rfl, rfl⟩
   refine sp 19 (.bool (decide (y3_7 = (0 : Int)))) ?_
   refine sp 20 (.bool (decide (y3_7 = (0 : Int)))) ?_
   refine ops_end ?_
   refine ae [(0, .pointer (some ⟨t, 10, none⟩)), (1, iv line), (2, iv who), (3, iv id), (20, .bool (decide (y3_7 = (0 : Int))))] ?_
   refine at_then_normal ?_
   rcases Bool.eq_false_or_eq_true (decide (y3_7 = (0 : Int))) with h3 | h3
   ·replace H := bifT H h3
    refine at_true (t := decide (y3_7 = (0 : Int))) (x := C41 [1,1,0,1,0]) (y := C41 [1,1,0,1,1]) (o := .tmp 20) kf kf kf h3 ?_
    refine aq (x := C41 [1,1,0,1,0,0]) (y := C41 [1,1,0,1,0,1]) ?_
    refine ar (id := 4) 13 ?_
    refine sp 21 (.pointer (some ⟨t, 10, none⟩)) ?_
    refine sp 22 (.pointer (some ⟨t, 10, none⟩)) ?_
    refine sp 23 (.pointer (some ⟨t, 10, none⟩)) ?_
    refine sp 24 (.pointer (some ⟨t, 10, none⟩)) ?_
    refine HomesXA.open .here ?_
    refine sl 25 (.slice x3_2_t.a10 (List.length tc.owner) x3_2_t.c10) (load1 (off := 10) (fun _ => kf) (holds_own .here) kf) ?_
    refine sp 26 (iv line) ?_
    refine sp 27 (iv who) ?_
    refine sp 28 (.agg #[iv line, iv who]) ?_
    refine s_step 29 kf kf (st_new (T := 86) (cells := #[iv line, iv who]) (fun a => .slice (some a) 1 1) (fun _ => kf)) ?_
    rintro _ _ ⟨b4_8, rfl, rfl⟩
    obtain ⟨hc4_9_0, H⟩ := chkE H
    obtain ⟨l4_9, hl4_9, H⟩ := letE H
    refine s_step 30 kf kf (st_append_rows (k := 2) (m1 := (List.length tc.owner)) (m2 := 1) (cap2 := 1) (xs := tc.owner) (ys := [[line, who]]) (zs := l4_9) (info := tinfo 86) 16 (.agg #[iv 0, iv 0]) (m := List.length l4_9) 55 55 86 (fun _ => kf) kf kf kf kf kf kf kf (by decide) (.there (.there (.there (.there .here)))) (Reads.own (rows := rowsV [[line, who]]) .here rfl) (by intro x hx; rw [List.mem_singleton] at hx; subst hx; rfl) rfl rfl rfl hl4_9 (by rw [← hl4_9]; exact hc4_9_0)) ?_
    rintro _ _ ⟨a4_9, c4_9, rfl, rfl⟩
    refine sp 31 (.pointer (some ⟨t, 10, none⟩)) ?_
    refine sp 32 (.pointer (some ⟨t, 10, none⟩)) ?_
    refine s_do kf kf (st_store (off := 10) (vs := [.slice a4_9 (List.length l4_9) c4_9]) (c' := #[iv tc.c.nodes, iv tc.c.lines, iv tc.c.words, iv tc.c.sets, iv tc.c.ways, iv tc.c.out, iv tc.c.inn, .slice x3_2_t.a7 (List.length tc.c.init) x3_2_t.c7, iv tc.node, .slice x3_2_t.a9 (List.length tc.r) x3_2_t.c9, .slice a4_9 (List.length l4_9) c4_9, .slice x3_2_t.a11 (List.length tc.wait) x3_2_t.c11]) (fun _ => kf) (.there (.there .here)) kf kf kf) ?_
    rintro _ _ ⟨rfl, rfl⟩
    refine ops_end ?_
    refine At.env [] trivial ?_
    refine at_then_normal ?_
    refine aq (x := C41 [1,1,0,1,0,1,0]) (y := C41 [1,1,0,1,0,1,1]) ?_
    refine ar (id := 5) 1 ?_
    refine sp 8 (.bool true) ?_
    refine ops_end ?_
    refine ae [(8, .bool true)] ?_
    refine at_then_normal ?_
    refine at_ret kf ?_
    refine at_then_ret ?_
    refine At.conv (Γ' := (HomesXA t (⟨x3_2_t.a7, x3_2_t.c7, x3_2_t.a9, x3_2_t.c9, x3_2_t.r9, a4_9, c4_9, x3_2_t.a11, x3_2_t.c11, x3_2_t.T⟩ : HomesXP) ({ c := tc.c, node := tc.node, r := tc.r, owner := l4_9, wait := tc.wait } : HomesS)) :: (ImmI x3_2_t.a7 tc.c.init) :: (Asn.own b4_8 (.cells #[iv line, iv who] 86 (0, 0))) :: Γ) (fun w hw => HomesXA.close (x := (⟨x3_2_t.a7, x3_2_t.c7, x3_2_t.a9, x3_2_t.c9, x3_2_t.r9, a4_9, c4_9, x3_2_t.a11, x3_2_t.c11, x3_2_t.T⟩ : HomesXP)) (t := ({ c := tc.c, node := tc.node, r := tc.r, owner := l4_9, wait := tc.wait } : HomesS)) (Sat.less (.take (.there (.there .here)) (.take .here (.take (.there (.there (.there .here))) (.take (.there .here) (.take (.there (.there .here)) (.take .here (.take .here .refl))))))) (ImmR.dup (Sat.less (.take (.there (.there (.there .here))) (.take .here (.take .here (.take .here (.take .here (.take .here .refl)))))) hw)))) ?_
    refine At.conv (Γ' := (HomesA t ({ c := tc.c, node := tc.node, r := tc.r, owner := l4_9, wait := tc.wait } : HomesS)) :: (ImmI x3_2_t.a7 tc.c.init) :: (Asn.own b4_8 (.cells #[iv line, iv who] 86 (0, 0))) :: Γ) (fun w hw => HomesXA.shut (hw.pull .here)) ?_
    obtain rfl := someE H
    refine at_backR [.bool true] ((HomesA t ({ c := tc.c, node := tc.node, r := tc.r, owner := l4_9, wait := tc.wait } : HomesS)) :: Γ) (rs := [.tmp 8]) kf (.cons (.tmp kf) .nil) (fun w hw => (Sat.less (.take .here (.drop .here (.drop .here .refl))) hw)) ?_
    exact ⟨rfl, rfl⟩
   ·replace H := bifF H h3
    refine at_false (t := decide (y3_7 = (0 : Int))) (x := C41 [1,1,0,1,0]) (y := C41 [1,1,0,1,1]) (o := .tmp 20) kf kf kf h3 ?_
    refine at_skip kf ?_
    refine at_then_normal ?_
    refine aq (x := C41 [1,1,1,0]) (y := C41 [1,1,1,1]) ?_
    refine ar (id := 6) 14 ?_
    refine sp 33 (.pointer (some ⟨t, 10, none⟩)) ?_
    refine sp 34 (.pointer (some ⟨t, 10, none⟩)) ?_
    refine sp 35 (.pointer (some ⟨t, 10, none⟩)) ?_
    refine sp 36 (.pointer (some ⟨t, 11, none⟩)) ?_
    refine HomesXA.open .here ?_
    refine sl 37 (.slice x3_2_t.a11 (List.length tc.wait) x3_2_t.c11) (load1 (off := 11) (fun _ => kf) (holds_own .here) kf) ?_
    refine sp 38 (iv line) ?_
    refine sp 39 (iv who) ?_
    refine sp 40 (iv id) ?_
    refine sp 41 (.agg #[iv line, iv who, iv id]) ?_
    refine s_step 42 kf kf (st_new (T := 108) (cells := #[iv line, iv who, iv id]) (fun a => .slice (some a) 1 1) (fun _ => kf)) ?_
    rintro _ _ ⟨b6_9, rfl, rfl⟩
    obtain ⟨hc6_10_0, H⟩ := chkE H
    obtain ⟨l6_10, hl6_10, H⟩ := letE H
    refine s_step 43 kf kf (st_append_rows (k := 3) (m1 := (List.length tc.wait)) (m2 := 1) (cap2 := 1) (xs := tc.wait) (ys := [[line, who, id]]) (zs := l6_10) (info := tinfo 108) 24 (.agg #[iv 0, iv 0, iv 0]) (m := List.length l6_10) 56 56 108 (fun _ => kf) kf kf kf kf kf kf kf (by decide) (.there (.there (.there (.there (.there .here))))) (Reads.own (rows := rowsV [[line, who, id]]) .here rfl) (by intro x hx; rw [List.mem_singleton] at hx; subst hx; rfl) rfl rfl rfl hl6_10 (by rw [← hl6_10]; exact hc6_10_0)) ?_
    rintro _ _ ⟨a6_10, c6_10, rfl, rfl⟩
    refine sp 44 (.pointer (some ⟨t, 10, none⟩)) ?_
    refine sp 45 (.pointer (some ⟨t, 11, none⟩)) ?_
    refine s_do kf kf (st_store (off := 11) (vs := [.slice a6_10 (List.length l6_10) c6_10]) (c' := #[iv tc.c.nodes, iv tc.c.lines, iv tc.c.words, iv tc.c.sets, iv tc.c.ways, iv tc.c.out, iv tc.c.inn, .slice x3_2_t.a7 (List.length tc.c.init) x3_2_t.c7, iv tc.node, .slice x3_2_t.a9 (List.length tc.r) x3_2_t.c9, .slice x3_2_t.a10 (List.length tc.owner) x3_2_t.c10, .slice a6_10 (List.length l6_10) c6_10]) (fun _ => kf) (.there (.there .here)) kf kf kf) ?_
    rintro _ _ ⟨rfl, rfl⟩
    refine ops_end ?_
    refine At.env [] trivial ?_
    refine at_then_normal ?_
    refine aq (x := C41 [1,1,1,1,0]) (y := C41 [1,1,1,1,1]) ?_
    refine ar (id := 7) 1 ?_
    refine sp 8 (.bool false) ?_
    refine ops_end ?_
    refine ae [(8, .bool false)] ?_
    refine at_then_normal ?_
    refine at_ret kf ?_
    refine At.conv (Γ' := (HomesXA t (⟨x3_2_t.a7, x3_2_t.c7, x3_2_t.a9, x3_2_t.c9, x3_2_t.r9, x3_2_t.a10, x3_2_t.c10, a6_10, c6_10, x3_2_t.T⟩ : HomesXP) ({ c := tc.c, node := tc.node, r := tc.r, owner := tc.owner, wait := l6_10 } : HomesS)) :: (ImmI x3_2_t.a7 tc.c.init) :: (Asn.own b6_9 (.cells #[iv line, iv who, iv id] 108 (0, 0))) :: Γ) (fun w hw => HomesXA.close (x := (⟨x3_2_t.a7, x3_2_t.c7, x3_2_t.a9, x3_2_t.c9, x3_2_t.r9, x3_2_t.a10, x3_2_t.c10, a6_10, c6_10, x3_2_t.T⟩ : HomesXP)) (t := ({ c := tc.c, node := tc.node, r := tc.r, owner := tc.owner, wait := l6_10 } : HomesS)) (Sat.less (.take (.there (.there .here)) (.take .here (.take (.there (.there (.there .here))) (.take (.there (.there (.there .here))) (.take (.there .here) (.take .here (.take .here .refl))))))) (ImmR.dup (Sat.less (.take (.there (.there (.there .here))) (.take .here (.take .here (.take .here (.take .here (.take .here .refl)))))) hw)))) ?_
    refine At.conv (Γ' := (HomesA t ({ c := tc.c, node := tc.node, r := tc.r, owner := tc.owner, wait := l6_10 } : HomesS)) :: (ImmI x3_2_t.a7 tc.c.init) :: (Asn.own b6_9 (.cells #[iv line, iv who, iv id] 108 (0, 0))) :: Γ) (fun w hw => HomesXA.shut (hw.pull .here)) ?_
    obtain rfl := someE H
    refine at_backR [.bool false] ((HomesA t ({ c := tc.c, node := tc.node, r := tc.r, owner := tc.owner, wait := l6_10 } : HomesS)) :: Γ) (rs := [.tmp 8]) kf (.cons (.tmp kf) .nil) (fun w hw => (Sat.less (.take .here (.drop .here (.drop .here .refl))) hw)) ?_
    exact ⟨rfl, rfl⟩
  ·replace H := bifF H h2
   refine sr 15 (.bool false) (run_eq (v := .bool (decide (y3_2 = ((-1) : Int)))) (fun _ => kf) (congrArg Value.bool h2)) ?_
   refine sa 16 ?_
   refine sa 17 ?_
   refine sa 18 ?_
   refine sa 19 ?_
   refine sp 20 (.bool false) ?_
   refine ops_end ?_
   refine ae [(0, .pointer (some ⟨t, 10, none⟩)), (1, iv line), (2, iv who), (3, iv id), (20, .bool false)] ?_
   refine at_then_normal ?_
   refine at_false (t := false) (x := C41 [1,1,0,1,0]) (y := C41 [1,1,0,1,1]) (o := .tmp 20) kf kf kf rfl ?_
   refine at_skip kf ?_
   refine at_then_normal ?_
   refine aq (x := C41 [1,1,1,0]) (y := C41 [1,1,1,1]) ?_
   refine ar (id := 6) 14 ?_
   refine sp 33 (.pointer (some ⟨t, 10, none⟩)) ?_
   refine sp 34 (.pointer (some ⟨t, 10, none⟩)) ?_
   refine sp 35 (.pointer (some ⟨t, 10, none⟩)) ?_
   refine sp 36 (.pointer (some ⟨t, 11, none⟩)) ?_
   refine HomesXA.open .here ?_
   refine sl 37 (.slice x3_2_t.a11 (List.length tc.wait) x3_2_t.c11) (load1 (off := 11) (fun _ => kf) (holds_own .here) kf) ?_
   refine sp 38 (iv line) ?_
   refine sp 39 (iv who) ?_
   refine sp 40 (iv id) ?_
   refine sp 41 (.agg #[iv line, iv who, iv id]) ?_
   refine s_step 42 kf kf (st_new (T := 108) (cells := #[iv line, iv who, iv id]) (fun a => .slice (some a) 1 1) (fun _ => kf)) ?_
   rintro _ _ ⟨b6_9, rfl, rfl⟩
   obtain ⟨hc6_10_0, H⟩ := chkE H
   obtain ⟨l6_10, hl6_10, H⟩ := letE H
   refine s_step 43 kf kf (st_append_rows (k := 3) (m1 := (List.length tc.wait)) (m2 := 1) (cap2 := 1) (xs := tc.wait) (ys := [[line, who, id]]) (zs := l6_10) (info := tinfo 108) 24 (.agg #[iv 0, iv 0, iv 0]) (m := List.length l6_10) 56 56 108 (fun _ => kf) kf kf kf kf kf kf kf (by decide) (.there (.there (.there (.there (.there .here))))) (Reads.own (rows := rowsV [[line, who, id]]) .here rfl) (by intro x hx; rw [List.mem_singleton] at hx; subst hx; rfl) rfl rfl rfl hl6_10 (by rw [← hl6_10]; exact hc6_10_0)) ?_
   rintro _ _ ⟨a6_10, c6_10, rfl, rfl⟩
   refine sp 44 (.pointer (some ⟨t, 10, none⟩)) ?_
   refine sp 45 (.pointer (some ⟨t, 11, none⟩)) ?_
   refine s_do kf kf (st_store (off := 11) (vs := [.slice a6_10 (List.length l6_10) c6_10]) (c' := #[iv tc.c.nodes, iv tc.c.lines, iv tc.c.words, iv tc.c.sets, iv tc.c.ways, iv tc.c.out, iv tc.c.inn, .slice x3_2_t.a7 (List.length tc.c.init) x3_2_t.c7, iv tc.node, .slice x3_2_t.a9 (List.length tc.r) x3_2_t.c9, .slice x3_2_t.a10 (List.length tc.owner) x3_2_t.c10, .slice a6_10 (List.length l6_10) c6_10]) (fun _ => kf) (.there (.there .here)) kf kf kf) ?_
   rintro _ _ ⟨rfl, rfl⟩
   refine ops_end ?_
   refine At.env [] trivial ?_
   refine at_then_normal ?_
   refine aq (x := C41 [1,1,1,1,0]) (y := C41 [1,1,1,1,1]) ?_
   refine ar (id := 7) 1 ?_
   refine sp 8 (.bool false) ?_
   refine ops_end ?_
   refine ae [(8, .bool false)] ?_
   refine at_then_normal ?_
   refine at_ret kf ?_
   refine At.conv (Γ' := (HomesXA t (⟨x3_2_t.a7, x3_2_t.c7, x3_2_t.a9, x3_2_t.c9, x3_2_t.r9, x3_2_t.a10, x3_2_t.c10, a6_10, c6_10, x3_2_t.T⟩ : HomesXP) ({ c := tc.c, node := tc.node, r := tc.r, owner := tc.owner, wait := l6_10 } : HomesS)) :: (ImmI x3_2_t.a7 tc.c.init) :: (Asn.own b6_9 (.cells #[iv line, iv who, iv id] 108 (0, 0))) :: Γ) (fun w hw => HomesXA.close (x := (⟨x3_2_t.a7, x3_2_t.c7, x3_2_t.a9, x3_2_t.c9, x3_2_t.r9, x3_2_t.a10, x3_2_t.c10, a6_10, c6_10, x3_2_t.T⟩ : HomesXP)) (t := ({ c := tc.c, node := tc.node, r := tc.r, owner := tc.owner, wait := l6_10 } : HomesS)) (Sat.less (.take (.there (.there .here)) (.take .here (.take (.there (.there (.there .here))) (.take (.there (.there (.there .here))) (.take (.there .here) (.take .here (.take .here .refl))))))) (ImmR.dup (Sat.less (.take (.there (.there (.there .here))) (.take .here (.take .here (.take .here (.take .here (.take .here .refl)))))) hw)))) ?_
   refine At.conv (Γ' := (HomesA t ({ c := tc.c, node := tc.node, r := tc.r, owner := tc.owner, wait := l6_10 } : HomesS)) :: (ImmI x3_2_t.a7 tc.c.init) :: (Asn.own b6_9 (.cells #[iv line, iv who, iv id] 108 (0, 0))) :: Γ) (fun w hw => HomesXA.shut (hw.pull .here)) ?_
   obtain rfl := someE H
   refine at_backR [.bool false] ((HomesA t ({ c := tc.c, node := tc.node, r := tc.r, owner := tc.owner, wait := l6_10 } : HomesS)) :: Γ) (rs := [.tmp 8]) kf (.cons (.tmp kf) .nil) (fun w hw => (Sat.less (.take .here (.drop .here (.drop .here .refl))) hw)) ?_
   exact ⟨rfl, rfl⟩
def qreleaseS_k0 (tc : HomesS) (e0_14 : Int) : Option (Bool × HomesS) :=
 some (false, tc)
def qreleaseS_l0 (tc : HomesS) (line : Int) (who : Int) (k0 : Int → Option (Bool × HomesS)) : Nat → Int → Option (Bool × HomesS)
 | 0 => fun _ => none
 | m + 1 => fun v0_14 => (bif decide (v0_14 < (((List.length tc.owner) : Nat) : Int)) then chk (0 ≤ v0_14 ∧ v0_14 < ((List.length (tc.owner) : Nat) : Int)) (chk ((nthR tc.owner v0_14).length = 2) ((bif decide ((nth (nthR tc.owner v0_14) 0) = line) then (bif decide ((nth (nthR tc.owner v0_14) 1) = who) then chk ((0 ≤ (0 : Int) ∧ (0 : Int) ≤ v0_14 ∧ v0_14 ≤ ((List.length tc.owner : Nat) : Int)) ∧ ∀ x ∈ tc.owner, x.length = 2) (letP ((tc.owner.drop 0).take ((v0_14).toNat - 0)) fun l5_6 => chk (inR (v0_14 + (1 : Int))) (chk ((0 ≤ (v0_14 + (1 : Int)) ∧ (v0_14 + (1 : Int)) ≤ ((List.length tc.owner : Nat) : Int) ∧ ((List.length tc.owner : Nat) : Int) ≤ ((List.length tc.owner : Nat) : Int)) ∧ ∀ x ∈ tc.owner, x.length = 2) (letP ((tc.owner.drop ((v0_14 + (1 : Int))).toNat).take ((List.length tc.owner) - ((v0_14 + (1 : Int))).toNat)) fun l5_14 => chk ((l5_6).length ≤ 1099511627776) (letP (l5_6) fun l5_7 => chk ((l5_7 ++ l5_14).length ≤ 1099511627776) (letP (l5_7 ++ l5_14) fun l5_15 => some (true, ({ c := tc.c, node := tc.node, r := tc.r, owner := l5_15, wait := tc.wait } : HomesS))))))) else chk (inR (v0_14 + (1 : Int))) ((qreleaseS_l0 tc line who k0 m) (v0_14 + (1 : Int)))) else chk (inR (v0_14 + (1 : Int))) ((qreleaseS_l0 tc line who k0 m) (v0_14 + (1 : Int)))))) else k0 v0_14)
def qreleaseS (tc : HomesS) (line : Int) (who : Int) : Option (Bool × HomesS) :=
 qreleaseS_l0 tc line who (qreleaseS_k0 tc) 64 0
noncomputable def C43 (p : List Nat) : Code := codeAt (bodyOf Try.f43) p
set_option maxRecDepth 100000 in
set_option maxHeartbeats 8000000 in
theorem QReleaseF_tr {W0 : World} {Γ : List Asn} (t : Nat) (tc : HomesS) (line : Int) (who : Int)  (y : Bool × HomesS) (H : qreleaseS tc line who = some y) : Tr Try.prog 43 #[.pointer (some ⟨t, 10, none⟩), iv line, iv who] W0 ((HomesA t tc) :: Γ) (fun r Δ => r = .bool y.1 ∧ Δ = (HomesA t y.2) :: Γ) := by
 unfold qreleaseS at H
 refine Tr.enter (fn := Try.f43) (c := C43 []) (args := [.pointer (some ⟨t, 10, none⟩), iv line, iv who]) 48 Try.func43 kf kf ?_
 refine ae [(0, .pointer (some ⟨t, 10, none⟩)), (1, iv line), (2, iv who)] ?_
 refine aq (x := C43 [0]) (y := C43 [1]) ?_
 refine ar (id := 0) 1 ?_
 refine sp 6 (.bool false) ?_
 refine ops_end ?_
 refine ae [(0, .pointer (some ⟨t, 10, none⟩)), (1, iv line), (2, iv who)] ?_
 refine at_then_normal ?_
 refine aq (x := C43 [1,0]) (y := C43 [1,1]) ?_
 refine aq (x := C43 [1,0,0]) (y := C43 [1,0,1]) ?_
 refine ar (id := 1) 6 ?_
 refine sp 9 (.pointer (some ⟨t, 10, none⟩)) ?_
 refine sp 10 (.pointer (some ⟨t, 10, none⟩)) ?_
 refine sp 11 (.pointer (some ⟨t, 10, none⟩)) ?_
 refine HomesA.tox .here ?_
 intro x1_3_t
 refine HomesXA.open .here ?_
 refine sl 12 (.slice x1_3_t.a10 (List.length tc.owner) x1_3_t.c10) (load1 (off := 10) (fun _ => kf) (holds_own .here) kf) ?_
 refine sp 13 (iv (((List.length tc.owner) : Nat) : Int)) ?_
 refine sp 14 (iv (0)) ?_
 refine ops_end ?_
 refine ae [(0, .pointer (some ⟨t, 10, none⟩)), (1, iv line), (2, iv who), (12, .slice x1_3_t.a10 (List.length tc.owner) x1_3_t.c10), (13, iv (((List.length tc.owner) : Nat) : Int)), (14, iv (0))] ?_
 refine at_then_normal ?_
 refine at_block (i := 0) (x := C43 [1,0,1,0]) kf ?_
 refine At.conv (Γ' := (HomesXA t x1_3_t tc) :: (ImmI x1_3_t.a7 tc.c.init) :: Γ) (fun w hw => HomesXA.close (x := x1_3_t) (t := tc) (Sat.less (.take (.there (.there .here)) (.take .here (.take (.there .here) (.take (.there .here) (.take (.there .here) (.take .here .refl)))))) (ImmR.dup (Sat.less (.take (.there .here) (.take .here (.take .here (.take .here (.take .here .refl))))) hw)))) ?_
 refine At.conv (Γ' := (HomesXA t x1_3_t tc) :: (ImmI x1_3_t.a7 tc.c.init) :: Γ) (fun w hw => (Sat.less (.take .here (.take .here .refl)) hw)) ?_
 refine at_loopR (x := C43 [1,0,1,0,0]) (fun mm ff ΔΔ => ∃ (fuel : Nat) (v0_14 : Int), qreleaseS_l0 tc line who (qreleaseS_k0 tc) fuel v0_14 = some y ∧ fuel = mm ∧ ff = [(0, .pointer (some ⟨t, 10, none⟩)), (1, iv line), (2, iv who), (12, .slice x1_3_t.a10 (List.length tc.owner) x1_3_t.c10), (13, iv (((List.length tc.owner) : Nat) : Int)), (14, iv v0_14)] ∧ (HomesXA t x1_3_t tc) :: (ImmI x1_3_t.a7 tc.c.init) :: Γ = ΔΔ) (64) kf [(0, .pointer (some ⟨t, 10, none⟩)), (1, iv line), (2, iv who), (12, .slice x1_3_t.a10 (List.length tc.owner) x1_3_t.c10), (13, iv (((List.length tc.owner) : Nat) : Int)), (14, iv 0)] ⟨kf, kf, kf, kf, kf, kf, trivial⟩ ⟨64, 0, H, rfl, rfl, rfl⟩ ?_
 rintro _ _ _ ⟨fuel1, v0_14, H, rfl, rfl, rfl⟩
 rcases fuel1 with _ | fuel1
 ·exact (noneE H).elim
 rw [qreleaseS_l0] at H
 refine aq (x := C43 [1,0,1,0,0,0]) (y := C43 [1,0,1,0,0,1]) ?_
 refine ar (id := 2) 1 ?_
 refine sp 15 (.bool (decide (v0_14 < (((List.length tc.owner) : Nat) : Int)))) ?_
 refine ops_end ?_
 refine ae [(0, .pointer (some ⟨t, 10, none⟩)), (1, iv line), (2, iv who), (12, .slice x1_3_t.a10 (List.length tc.owner) x1_3_t.c10), (13, iv (((List.length tc.owner) : Nat) : Int)), (14, iv v0_14), (15, .bool (decide (v0_14 < (((List.length tc.owner) : Nat) : Int))))] ?_
 refine at_then_normal ?_
 refine aq (x := C43 [1,0,1,0,0,1,0]) (y := C43 [1,0,1,0,0,1,1]) ?_
 rcases Bool.eq_false_or_eq_true (decide (v0_14 < (((List.length tc.owner) : Nat) : Int))) with h1 | h1
 ·replace H := bifT H h1
  refine at_true (t := decide (v0_14 < (((List.length tc.owner) : Nat) : Int))) (x := C43 [1,0,1,0,0,1,0,0]) (y := C43 [1,0,1,0,0,1,0,1]) (o := .tmp 15) kf kf kf h1 ?_
  refine at_skip kf ?_
  refine at_then_normal ?_
  refine aq (x := C43 [1,0,1,0,0,1,1,0]) (y := C43 [1,0,1,0,0,1,1,1]) ?_
  refine at_block (i := 1) (x := C43 [1,0,1,0,0,1,1,0,0]) kf ?_
  refine aq (x := C43 [1,0,1,0,0,1,1,0,0,0]) (y := C43 [1,0,1,0,0,1,1,0,0,1]) ?_
  refine ar (id := 3) 6 ?_
  refine sp 16 (iv v0_14) ?_
  refine HomesXA.open .here ?_
  obtain ⟨hc3_1_0, H⟩ := chkE H
  refine rows_at (.there (.there (.there .here))) (by have := hc3_1_0; rw [rowsV_len]; omega) ?_
  intro bb1 oo1 ha1
  refine sr 17 (.pointer (some ⟨bb1, oo1 + ((v0_14).toNat * 2), none⟩)) (index_at (t := 55) (sz := 2) (E := 86) (a := x1_3_t.a10) (m := (List.length tc.owner)) (c := x1_3_t.c10) (b := bb1) (off := oo1) (i := (v0_14).toNat) (tinfo 86) (fun _ => kf) kf kf kf ha1 (idx_cast hc3_1_0) (idx_nat hc3_1_0) rfl) ?_
  obtain ⟨hc3_2_0, H⟩ := chkE H
  refine sl 18 (.agg #[iv (nth (nthR tc.owner v0_14) 0), iv (nth (nthR tc.owner v0_14) 1)]) (loadN_at (k := 2) (row := [iv (nth (nthR tc.owner v0_14) 0), iv (nth (nthR tc.owner v0_14) 1)]) (off := oo1) (i := (v0_14).toNat) (fun _ => kf) rfl rfl (fun j v hj => rows_cell (k := 2) (.there (.there (.there .here))) ha1 (rowsV_get hc3_1_0) (by rw [rowV_2 hc3_2_0]; exact hj))) ?_
  refine s_step 8 kf kf (st_new (T := 86) (cells := #[iv (0), iv (0)]) (fun a => .pointer (some a)) (fun _ => kf)) ?_
  rintro _ _ ⟨b3_3, rfl, rfl⟩
  refine sp 7 (iv v0_14) ?_
  refine s_do kf kf (st_store (off := 0) (vs := [iv (nth (nthR tc.owner v0_14) 0), iv (nth (nthR tc.owner v0_14) 1)]) (c' := #[iv (nth (nthR tc.owner v0_14) 0), iv (nth (nthR tc.owner v0_14) 1)]) (fun _ => kf) .here kf kf kf) ?_
  rintro _ _ ⟨rfl, rfl⟩
  refine ops_end ?_
  refine ae [(0, .pointer (some ⟨t, 10, none⟩)), (1, iv line), (2, iv who), (7, iv v0_14), (8, .pointer (some ⟨b3_3, 0, none⟩)), (12, .slice x1_3_t.a10 (List.length tc.owner) x1_3_t.c10), (13, iv (((List.length tc.owner) : Nat) : Int)), (14, iv v0_14)] ?_
  refine at_then_normal ?_
  refine aq (x := C43 [1,0,1,0,0,1,1,0,0,1,0]) (y := C43 [1,0,1,0,0,1,1,0,0,1,1]) ?_
  refine ar (id := 4) 10 ?_
  refine sp 19 (.pointer (some ⟨b3_3, 0, none⟩)) ?_
  refine sl 20 (iv (nth (nthR tc.owner v0_14) 0)) (load1 (off := 0) (fun _ => kf) (holds_own .here) kf) ?_
  refine sp 21 (iv line) ?_
  refine sp 22 (.bool (decide ((nth (nthR tc.owner v0_14) 0) = line))) ?_
  rcases Bool.eq_false_or_eq_true (decide ((nth (nthR tc.owner v0_14) 0) = line)) with h2 | h2
  ·replace H := bifT H h2
   refine sr 23 (.bool true) (run_eq (v := .bool (decide ((nth (nthR tc.owner v0_14) 0) = line))) (fun _ => kf) (congrArg Value.bool h2)) ?_
   refine sp 24 (.pointer (some ⟨b3_3, 1, none⟩)) ?_
   refine sl 25 (iv (nth (nthR tc.owner v0_14) 1)) (load1 (off := 1) (fun _ => kf) (holds_own .here) kf) ?_
   refine sp 26 (iv who) ?_
   refine sp 27 (.bool (decide ((nth (nthR tc.owner v0_14) 1) = who))) ?_
   refine sp 28 (.bool (decide ((nth (nthR tc.owner v0_14) 1) = who))) ?_
   refine ops_end ?_
   refine ae [(0, .pointer (some ⟨t, 10, none⟩)), (1, iv line), (2, iv who), (7, iv v0_14), (12, .slice x1_3_t.a10 (List.length tc.owner) x1_3_t.c10), (13, iv (((List.length tc.owner) : Nat) : Int)), (14, iv v0_14), (28, .bool (decide ((nth (nthR tc.owner v0_14) 1) = who)))] ?_
   refine at_then_normal ?_
   rcases Bool.eq_false_or_eq_true (decide ((nth (nthR tc.owner v0_14) 1) = who)) with h3 | h3
   ·replace H := bifT H h3
    refine at_true (t := decide ((nth (nthR tc.owner v0_14) 1) = who)) (x := C43 [1,0,1,0,0,1,1,0,0,1,1,0]) (y := C43 [1,0,1,0,0,1,1,0,0,1,1,1]) (o := .tmp 28) kf kf kf h3 ?_
    refine aq (x := C43 [1,0,1,0,0,1,1,0,0,1,1,0,0]) (y := C43 [1,0,1,0,0,1,1,0,0,1,1,0,1]) ?_
    refine at_region_draw (id := 5) kf kf ?_
    refine dp 0 29 (.pointer (some ⟨t, 10, none⟩)) ?_
    refine dp 1 30 (.pointer (some ⟨t, 10, none⟩)) ?_
    refine dp 2 31 (.pointer (some ⟨t, 10, none⟩)) ?_
    refine dp 3 32 (.pointer (some ⟨t, 10, none⟩)) ?_
    refine dl 4 33 (.slice x1_3_t.a10 (List.length tc.owner) x1_3_t.c10) (load1 (off := 10) (fun _ => kf) (holds_own (.there .here)) kf) ?_
    refine dp 5 34 (iv v0_14) ?_
    obtain ⟨hc5_6_0, H⟩ := chkE H
    obtain ⟨l5_6, hl5_6, H⟩ := letE H
    refine Draw.known (p := (List.length tc.owner) ≤ x1_3_t.c10) (fun w hw => by have := (RowsA.len (hw.pull (.there (.there (.there (.there .here)))))).2; rw [rowsV_len] at this; exact this) ?_
    intro hcap1
    have hbl5_6 := (hc5_6_0).1
    obtain ⟨a5_6, ha5_6⟩ : ∃ y : Option Addr, y = (if x1_3_t.c10 = 0 then x1_3_t.a10 else Option.map (fun x => Addr.add x (0 * 2)) x1_3_t.a10) := ⟨_, rfl⟩
    have hrl5_6 : Reads W0 ((RowsN 2 x1_3_t.a10 x1_3_t.c10 tc.owner) :: Γ) a5_6 (rowsV l5_6) := by rw [ha5_6]; exact Reads.partN (lo := 0) (hi := (v0_14).toNat) (hc5_6_0).2 (RowsA.reads (k := 2) .here) hl5_6 (by omega)
    refine d_pure 6 35 (.slice a5_6 (List.length l5_6) (x1_3_t.c10 - 0)) kf kf kf (run_eq (slice_at (t := 55) (lo := 0) (hi := (v0_14).toNat) (mx := x1_3_t.c10) (sz := 2) (E := 86) (a := x1_3_t.a10) (m := (List.length tc.owner)) (c := x1_3_t.c10) none (some (iv v0_14)) none (tinfo 86) (fun _ => kf) kf kf kf (Or.inl ⟨rfl, rfl⟩) (Or.inr ⟨_, rfl, by omega⟩) (Or.inl ⟨rfl, rfl⟩) (by omega) (by omega) (by omega)) (by rw [← ha5_6, show (v0_14).toNat - 0 = List.length l5_6 from by rw [← hl5_6]; simp only [List.length_take, List.length_drop]; omega])) ?_
    refine dp 8 37 (.pointer (some ⟨t, 10, none⟩)) ?_
    refine dp 9 38 (.pointer (some ⟨t, 10, none⟩)) ?_
    refine dp 10 39 (.pointer (some ⟨t, 10, none⟩)) ?_
    refine dl 11 40 (.slice x1_3_t.a10 (List.length tc.owner) x1_3_t.c10) (load1 (off := 10) (fun _ => kf) (holds_own (.there .here)) kf) ?_
    refine dp 12 41 (iv v0_14) ?_
    obtain ⟨hc5_13_0, H⟩ := chkE H
    refine d_pure 13 42 (iv (v0_14 + (1 : Int))) kf kf kf (run_eq (v := iv (IntKind.i64.wrap (v0_14 + (1 : Int)))) (fun _ => kf) (by rw [inR.wrap hc5_13_0])) ?_
    obtain ⟨hc5_14_0, H⟩ := chkE H
    obtain ⟨l5_14, hl5_14, H⟩ := letE H
    refine Draw.known (p := (List.length tc.owner) ≤ x1_3_t.c10) (fun w hw => by have := (RowsA.len (hw.pull (.there (.there (.there (.there .here)))))).2; rw [rowsV_len] at this; exact this) ?_
    intro hcap2
    have hbl5_14 := (hc5_14_0).1
    obtain ⟨a5_14, ha5_14⟩ : ∃ y : Option Addr, y = (if x1_3_t.c10 = ((v0_14 + (1 : Int))).toNat then x1_3_t.a10 else Option.map (fun x => Addr.add x (((v0_14 + (1 : Int))).toNat * 2)) x1_3_t.a10) := ⟨_, rfl⟩
    have hrl5_14 : Reads W0 ((RowsN 2 x1_3_t.a10 x1_3_t.c10 tc.owner) :: Γ) a5_14 (rowsV l5_14) := by rw [ha5_14]; exact Reads.partN (lo := ((v0_14 + (1 : Int))).toNat) (hi := (List.length tc.owner)) (hc5_14_0).2 (RowsA.reads (k := 2) .here) hl5_14 (by omega)
    refine d_pure 14 43 (.slice a5_14 (List.length l5_14) (x1_3_t.c10 - ((v0_14 + (1 : Int))).toNat)) kf kf kf (run_eq (slice_at (t := 55) (lo := ((v0_14 + (1 : Int))).toNat) (hi := (List.length tc.owner)) (mx := x1_3_t.c10) (sz := 2) (E := 86) (a := x1_3_t.a10) (m := (List.length tc.owner)) (c := x1_3_t.c10) (some (iv (v0_14 + (1 : Int)))) none none (tinfo 86) (fun _ => kf) kf kf kf (Or.inr ⟨_, rfl, by omega⟩) (Or.inl ⟨rfl, rfl, rfl⟩) (Or.inl ⟨rfl, rfl⟩) (by omega) (by omega) (by omega)) (by rw [← ha5_14, show (List.length tc.owner) - ((v0_14 + (1 : Int))).toNat = List.length l5_14 from by rw [← hl5_14]; simp only [List.length_take, List.length_drop]; omega])) ?_
    obtain ⟨hc5_7_0, H⟩ := chkE H
    obtain ⟨l5_7, hl5_7, H⟩ := letE H
    refine d_step 7 36 [6, 4, 5, 3, 2, 1] [14, 13, 12, 10, 9, 8, 0] [11] kf kf kf (StepTo.conv (Γ' := (RowsN 2 none 0 ([] : List (List Int))) :: (Asn.own b3_3 (.cells #[iv (nth (nthR tc.owner v0_14) 0), iv (nth (nthR tc.owner v0_14) 1)] 86 (0, 0))) :: (Asn.own t (.cells #[iv tc.c.nodes, iv tc.c.lines, iv tc.c.words, iv tc.c.sets, iv tc.c.ways, iv tc.c.out, iv tc.c.inn, .slice x1_3_t.a7 (List.length tc.c.init) x1_3_t.c7, iv tc.node, .slice x1_3_t.a9 (List.length tc.r) x1_3_t.c9, .slice x1_3_t.a10 (List.length tc.owner) x1_3_t.c10, .slice x1_3_t.a11 (List.length tc.wait) x1_3_t.c11] x1_3_t.T (0, 0))) :: (ImmI x1_3_t.a7 tc.c.init) :: (RecsX (α := RowS) x1_3_t.r9 x1_3_t.a9 x1_3_t.c9 tc.r) :: (RowsN 2 x1_3_t.a10 x1_3_t.c10 tc.owner) :: (RowsN 3 x1_3_t.a11 x1_3_t.c11 tc.wait) :: (ImmI x1_3_t.a7 tc.c.init) :: Γ) (fun w hw => RowsA.none_mk (k := 2) (a := none) hw) (st_append_rows (k := 2) (m1 := 0) (m2 := (List.length l5_6)) (cap2 := (x1_3_t.c10 - 0)) (xs := ([] : List (List Int))) (ys := l5_6) (zs := l5_7) (info := tinfo 86) 16 (.agg #[iv 0, iv 0]) (m := List.length l5_7) 55 55 86 (fun _ => kf) kf kf kf kf kf kf kf (by decide) .here (Reads.conv (fun w hw => hw.less (.take (.there (.there (.there (.there (.there .here))))) (.drop .here (.drop .here (.drop .here (.drop .here (.drop .here (.drop .here (.drop .here .refl))))))))) hrl5_6) (fun x hx => (hc5_6_0).2 x (List.mem_of_mem_drop (List.mem_of_mem_take (by rw [hl5_6]; exact hx)))) rfl rfl rfl hl5_7 (by rw [← hl5_7]; exact hc5_7_0))) ?_
    rintro _ _ ⟨a5_7, c5_7, rfl, rfl⟩
    refine ⟨(stable_cons 11 40 (.slice x1_3_t.a10 (List.length tc.owner) x1_3_t.c10) kf kf kf (load1 (off := 10) (fun _ => kf) (holds_own (.there (.there .here))) kf) stable_nil), ?_⟩
    obtain ⟨hc5_15_0, H⟩ := chkE H
    obtain ⟨l5_15, hl5_15, H⟩ := letE H
    refine d_step 15 44 [7, 14, 6, 11, 13, 4, 5, 10, 12, 3, 9, 2, 8, 1] [0] [] kf kf kf (st_append_rows (k := 2) (m1 := (List.length l5_7)) (m2 := (List.length l5_14)) (cap2 := (x1_3_t.c10 - ((v0_14 + (1 : Int))).toNat)) (xs := l5_7) (ys := l5_14) (zs := l5_15) (info := tinfo 86) 16 (.agg #[iv 0, iv 0]) (m := List.length l5_15) 55 55 86 (fun _ => kf) kf kf kf kf kf kf kf (by decide) .here (Reads.conv (fun w hw => hw.less (.take (.there (.there (.there (.there (.there .here))))) (.drop .here (.drop .here (.drop .here (.drop .here (.drop .here (.drop .here (.drop .here .refl))))))))) hrl5_14) (fun x hx => (hc5_14_0).2 x (List.mem_of_mem_drop (List.mem_of_mem_take (by rw [hl5_14]; exact hx)))) rfl rfl rfl hl5_15 (by rw [← hl5_15]; exact hc5_15_0)) ?_
    rintro _ _ ⟨a5_15, c5_15, rfl, rfl⟩
    refine ⟨stable_nil, ?_⟩
    refine dp 16 45 (.pointer (some ⟨t, 10, none⟩)) ?_
    refine dp 17 46 (.pointer (some ⟨t, 10, none⟩)) ?_
    refine d_do 18 [17, 15, 0, 1, 2, 3, 4, 5, 6, 7, 8, 9, 10, 11, 12, 13, 14, 16] [] [] kf kf kf (st_store (off := 10) (vs := [.slice a5_15 (List.length l5_15) c5_15]) (c' := #[iv tc.c.nodes, iv tc.c.lines, iv tc.c.words, iv tc.c.sets, iv tc.c.ways, iv tc.c.out, iv tc.c.inn, .slice x1_3_t.a7 (List.length tc.c.init) x1_3_t.c7, iv tc.node, .slice x1_3_t.a9 (List.length tc.r) x1_3_t.c9, .slice a5_15 (List.length l5_15) c5_15, .slice x1_3_t.a11 (List.length tc.wait) x1_3_t.c11]) (fun _ => kf) (.there (.there .here)) kf kf kf) ?_
    rintro _ _ ⟨rfl, rfl⟩
    refine ⟨stable_nil, ?_⟩
    refine draw_end kf ?_
    refine At.env [] trivial ?_
    refine at_then_normal ?_
    refine aq (x := C43 [1,0,1,0,0,1,1,0,0,1,1,0,1,0]) (y := C43 [1,0,1,0,0,1,1,0,0,1,1,0,1,1]) ?_
    refine ar (id := 6) 1 ?_
    refine sp 6 (.bool true) ?_
    refine ops_end ?_
    refine ae [(6, .bool true)] ?_
    refine at_then_normal ?_
    refine at_ret kf ?_
    refine at_in_ret ?_
    refine at_then_ret ?_
    refine at_then_ret ?_
    refine at_in_ret ?_
    refine at_then_ret ?_
    refine At.conv (Γ' := (HomesXA t (⟨x1_3_t.a7, x1_3_t.c7, x1_3_t.a9, x1_3_t.c9, x1_3_t.r9, a5_15, c5_15, x1_3_t.a11, x1_3_t.c11, x1_3_t.T⟩ : HomesXP) ({ c := tc.c, node := tc.node, r := tc.r, owner := l5_15, wait := tc.wait } : HomesS)) :: (ImmI x1_3_t.a7 tc.c.init) :: (Asn.own b3_3 (.cells #[iv (nth (nthR tc.owner v0_14) 0), iv (nth (nthR tc.owner v0_14) 1)] 86 (0, 0))) :: (RowsN 2 x1_3_t.a10 x1_3_t.c10 tc.owner) :: (ImmI x1_3_t.a7 tc.c.init) :: Γ) (fun w hw => HomesXA.close (x := (⟨x1_3_t.a7, x1_3_t.c7, x1_3_t.a9, x1_3_t.c9, x1_3_t.r9, a5_15, c5_15, x1_3_t.a11, x1_3_t.c11, x1_3_t.T⟩ : HomesXP)) (t := ({ c := tc.c, node := tc.node, r := tc.r, owner := l5_15, wait := tc.wait } : HomesS)) (Sat.less (.take (.there (.there .here)) (.take .here (.take (.there (.there (.there .here))) (.take (.there .here) (.take (.there (.there (.there .here))) (.take .here (.take .here (.take .here (.take .here .refl))))))))) (ImmR.dup (Sat.less (.take (.there (.there (.there .here))) (.take .here (.take .here (.take .here (.take .here (.take .here (.take .here (.take .here .refl)))))))) hw)))) ?_
    refine At.conv (Γ' := (HomesA t ({ c := tc.c, node := tc.node, r := tc.r, owner := l5_15, wait := tc.wait } : HomesS)) :: (ImmI x1_3_t.a7 tc.c.init) :: (Asn.own b3_3 (.cells #[iv (nth (nthR tc.owner v0_14) 0), iv (nth (nthR tc.owner v0_14) 1)] 86 (0, 0))) :: (RowsN 2 x1_3_t.a10 x1_3_t.c10 tc.owner) :: (ImmI x1_3_t.a7 tc.c.init) :: Γ) (fun w hw => HomesXA.shut (hw.pull .here)) ?_
    obtain rfl := someE H
    refine at_backR [.bool true] ((HomesA t ({ c := tc.c, node := tc.node, r := tc.r, owner := l5_15, wait := tc.wait } : HomesS)) :: Γ) (rs := [.tmp 6]) kf (.cons (.tmp kf) .nil) (fun w hw => (Sat.less (.take .here (.drop .here (.drop .here (.drop .here (.drop .here .refl))))) hw)) ?_
    exact ⟨rfl, rfl⟩
   ·replace H := bifF H h3
    refine at_false (t := decide ((nth (nthR tc.owner v0_14) 1) = who)) (x := C43 [1,0,1,0,0,1,1,0,0,1,1,0]) (y := C43 [1,0,1,0,0,1,1,0,0,1,1,1]) (o := .tmp 28) kf kf kf h3 ?_
    refine at_skip kf ?_
    refine at_in_normal ?_
    refine at_then_normal ?_
    refine ar (id := 7) 2 ?_
    obtain ⟨hc7_0_0, H⟩ := chkE H
    refine sr 47 (iv (v0_14 + (1 : Int))) (run_eq (v := iv (IntKind.i64.wrap (v0_14 + (1 : Int)))) (fun _ => kf) (by rw [inR.wrap hc7_0_0])) ?_
    refine sp 14 (iv (v0_14 + (1 : Int))) ?_
    refine ops_end ?_
    refine ae [(0, .pointer (some ⟨t, 10, none⟩)), (1, iv line), (2, iv who), (12, .slice x1_3_t.a10 (List.length tc.owner) x1_3_t.c10), (13, iv (((List.length tc.owner) : Nat) : Int)), (14, iv (v0_14 + (1 : Int)))] ?_
    refine at_round_normal ?_
    refine At.conv (Γ' := (HomesXA t x1_3_t tc) :: (ImmI x1_3_t.a7 tc.c.init) :: (Asn.own b3_3 (.cells #[iv (nth (nthR tc.owner v0_14) 0), iv (nth (nthR tc.owner v0_14) 1)] 86 (0, 0))) :: (ImmI x1_3_t.a7 tc.c.init) :: Γ) (fun w hw => HomesXA.close (x := x1_3_t) (t := tc) (Sat.less (.take (.there (.there (.there .here))) (.take .here (.take (.there (.there .here)) (.take (.there (.there .here)) (.take (.there (.there .here)) (.take .here (.take .here (.take .here .refl)))))))) (ImmR.dup (Sat.less (.take (.there (.there .here)) (.take .here (.take .here (.take .here (.take .here (.take .here (.take .here .refl))))))) hw)))) ?_
    exact at_roundR fuel1 [(0, .pointer (some ⟨t, 10, none⟩)), (1, iv line), (2, iv who), (12, .slice x1_3_t.a10 (List.length tc.owner) x1_3_t.c10), (13, iv (((List.length tc.owner) : Nat) : Int)), (14, iv (v0_14 + (1 : Int)))] ((HomesXA t x1_3_t tc) :: (ImmI x1_3_t.a7 tc.c.init) :: Γ) (Nat.lt_succ_self _) ⟨kf, kf, kf, kf, kf, kf, trivial⟩ (fun w hw => (Sat.less (.take .here (.take .here (.drop .here (.drop .here .refl)))) hw)) ⟨fuel1, v0_14 + (1 : Int), H, rfl, rfl, rfl⟩
  ·replace H := bifF H h2
   refine sr 23 (.bool false) (run_eq (v := .bool (decide ((nth (nthR tc.owner v0_14) 0) = line))) (fun _ => kf) (congrArg Value.bool h2)) ?_
   refine sa 24 ?_
   refine sa 25 ?_
   refine sa 26 ?_
   refine sa 27 ?_
   refine sp 28 (.bool false) ?_
   refine ops_end ?_
   refine ae [(0, .pointer (some ⟨t, 10, none⟩)), (1, iv line), (2, iv who), (7, iv v0_14), (12, .slice x1_3_t.a10 (List.length tc.owner) x1_3_t.c10), (13, iv (((List.length tc.owner) : Nat) : Int)), (14, iv v0_14), (28, .bool false)] ?_
   refine at_then_normal ?_
   refine at_false (t := false) (x := C43 [1,0,1,0,0,1,1,0,0,1,1,0]) (y := C43 [1,0,1,0,0,1,1,0,0,1,1,1]) (o := .tmp 28) kf kf kf rfl ?_
   refine at_skip kf ?_
   refine at_in_normal ?_
   refine at_then_normal ?_
   refine ar (id := 7) 2 ?_
   obtain ⟨hc7_0_0, H⟩ := chkE H
   refine sr 47 (iv (v0_14 + (1 : Int))) (run_eq (v := iv (IntKind.i64.wrap (v0_14 + (1 : Int)))) (fun _ => kf) (by rw [inR.wrap hc7_0_0])) ?_
   refine sp 14 (iv (v0_14 + (1 : Int))) ?_
   refine ops_end ?_
   refine ae [(0, .pointer (some ⟨t, 10, none⟩)), (1, iv line), (2, iv who), (12, .slice x1_3_t.a10 (List.length tc.owner) x1_3_t.c10), (13, iv (((List.length tc.owner) : Nat) : Int)), (14, iv (v0_14 + (1 : Int)))] ?_
   refine at_round_normal ?_
   refine At.conv (Γ' := (HomesXA t x1_3_t tc) :: (ImmI x1_3_t.a7 tc.c.init) :: (Asn.own b3_3 (.cells #[iv (nth (nthR tc.owner v0_14) 0), iv (nth (nthR tc.owner v0_14) 1)] 86 (0, 0))) :: (ImmI x1_3_t.a7 tc.c.init) :: Γ) (fun w hw => HomesXA.close (x := x1_3_t) (t := tc) (Sat.less (.take (.there (.there (.there .here))) (.take .here (.take (.there (.there .here)) (.take (.there (.there .here)) (.take (.there (.there .here)) (.take .here (.take .here (.take .here .refl)))))))) (ImmR.dup (Sat.less (.take (.there (.there .here)) (.take .here (.take .here (.take .here (.take .here (.take .here (.take .here .refl))))))) hw)))) ?_
   exact at_roundR fuel1 [(0, .pointer (some ⟨t, 10, none⟩)), (1, iv line), (2, iv who), (12, .slice x1_3_t.a10 (List.length tc.owner) x1_3_t.c10), (13, iv (((List.length tc.owner) : Nat) : Int)), (14, iv (v0_14 + (1 : Int)))] ((HomesXA t x1_3_t tc) :: (ImmI x1_3_t.a7 tc.c.init) :: Γ) (Nat.lt_succ_self _) ⟨kf, kf, kf, kf, kf, kf, trivial⟩ (fun w hw => (Sat.less (.take .here (.take .here (.drop .here (.drop .here .refl)))) hw)) ⟨fuel1, v0_14 + (1 : Int), H, rfl, rfl, rfl⟩
 ·replace H := bifF H h1
  refine at_false (t := decide (v0_14 < (((List.length tc.owner) : Nat) : Int))) (x := C43 [1,0,1,0,0,1,0,0]) (y := C43 [1,0,1,0,0,1,0,1]) (o := .tmp 15) kf kf kf h1 ?_
  refine at_exit (i := 0) kf ?_
  refine at_then_exit ?_
  refine at_then_exit ?_
  rw [qreleaseS_k0] at H
  refine ae [(0, .pointer (some ⟨t, 10, none⟩)), (1, iv line), (2, iv who), (12, .slice x1_3_t.a10 (List.length tc.owner) x1_3_t.c10), (13, iv (((List.length tc.owner) : Nat) : Int)), (14, iv v0_14)] ?_
  refine At.conv (Γ' := (HomesXA t x1_3_t tc) :: (ImmI x1_3_t.a7 tc.c.init) :: Γ) (fun w hw => (Sat.less (.take .here (.take .here .refl)) hw)) ?_
  refine at_in_here ?_
  refine at_then_normal ?_
  refine aq (x := C43 [1,1,0]) (y := C43 [1,1,1]) ?_
  refine ar (id := 8) 1 ?_
  refine sp 6 (.bool false) ?_
  refine ops_end ?_
  refine ae [(6, .bool false)] ?_
  refine at_then_normal ?_
  refine at_ret kf ?_
  refine At.conv (Γ' := (HomesA t tc) :: (ImmI x1_3_t.a7 tc.c.init) :: Γ) (fun w hw => HomesXA.shut (hw.pull .here)) ?_
  obtain rfl := someE H
  refine at_backR [.bool false] ((HomesA t tc) :: Γ) (rs := [.tmp 6]) kf (.cons (.tmp kf) .nil) (fun w hw => (Sat.less (.take .here (.drop .here .refl)) hw)) ?_
  exact ⟨rfl, rfl⟩
def qnextS_k0 (tc : HomesS) (e0_18 : Int) : Option (Int × Int × Bool × HomesS) :=
 some ((0 : Int), (0 : Int), false, tc)
def qnextS_l0 (tc : HomesS) (line : Int) (k0 : Int → Option (Int × Int × Bool × HomesS)) : Nat → Int → Option (Int × Int × Bool × HomesS)
 | 0 => fun _ => none
 | m + 1 => fun v0_18 => (bif decide (v0_18 < (((List.length tc.wait) : Nat) : Int)) then chk (0 ≤ v0_18 ∧ v0_18 < ((List.length (tc.wait) : Nat) : Int)) (chk ((nthR tc.wait v0_18).length = 3) ((bif decide ((nth (nthR tc.wait v0_18) 0) = line) then chk ((0 ≤ (0 : Int) ∧ (0 : Int) ≤ v0_18 ∧ v0_18 ≤ ((List.length tc.wait : Nat) : Int)) ∧ ∀ x ∈ tc.wait, x.length = 3) (letP ((tc.wait.drop 0).take ((v0_18).toNat - 0)) fun l7_6 => chk (inR (v0_18 + (1 : Int))) (chk ((0 ≤ (v0_18 + (1 : Int)) ∧ (v0_18 + (1 : Int)) ≤ ((List.length tc.wait : Nat) : Int) ∧ ((List.length tc.wait : Nat) : Int) ≤ ((List.length tc.wait : Nat) : Int)) ∧ ∀ x ∈ tc.wait, x.length = 3) (letP ((tc.wait.drop ((v0_18 + (1 : Int))).toNat).take ((List.length tc.wait) - ((v0_18 + (1 : Int))).toNat)) fun l7_14 => chk ((l7_6).length ≤ 1099511627776) (letP (l7_6) fun l7_7 => chk ((l7_7 ++ l7_14).length ≤ 1099511627776) (letP (l7_7 ++ l7_14) fun l7_15 => chk ((tc.owner ++ ([[line, nth (nthR tc.wait v0_18) 1]])).length ≤ 1099511627776) (letP (tc.owner ++ ([[line, nth (nthR tc.wait v0_18) 1]])) fun l8_10 => some ((nth (nthR tc.wait v0_18) 1), (nth (nthR tc.wait v0_18) 2), true, ({ c := tc.c, node := tc.node, r := tc.r, owner := l8_10, wait := l7_15 } : HomesS)))))))) else chk (inR (v0_18 + (1 : Int))) ((qnextS_l0 tc line k0 m) (v0_18 + (1 : Int)))))) else k0 v0_18)
def qnextS (tc : HomesS) (line : Int) : Option (Int × Int × Bool × HomesS) :=
 (qownerS tc line).bind fun y1_2 => (bif !(decide (y1_2 = ((-1) : Int))) then some ((0 : Int), (0 : Int), false, tc) else qnextS_l0 tc line (qnextS_k0 tc) 64 0)
noncomputable def C36 (p : List Nat) : Code := codeAt (bodyOf Try.f36) p
set_option maxRecDepth 100000 in
set_option maxHeartbeats 8000000 in
theorem QNextF_tr {W0 : World} {Γ : List Asn} (t : Nat) (tc : HomesS) (line : Int)  (y : Int × Int × Bool × HomesS) (H : qnextS tc line = some y) : Tr Try.prog 36 #[.pointer (some ⟨t, 10, none⟩), iv line] W0 ((HomesA t tc) :: Γ) (fun r Δ => r = .tuple #[iv y.1, iv y.2.1, .bool y.2.2.1] ∧ Δ = (HomesA t y.2.2.2) :: Γ) := by
 unfold qnextS at H
 refine Tr.enter (fn := Try.f36) (c := C36 []) (args := [.pointer (some ⟨t, 10, none⟩), iv line]) 63 Try.func36 kf kf ?_
 refine ae [(0, .pointer (some ⟨t, 10, none⟩)), (1, iv line)] ?_
 refine aq (x := C36 [0]) (y := C36 [1]) ?_
 refine ar (id := 0) 3 ?_
 refine sp 4 (iv (0)) ?_
 refine sp 5 (iv (0)) ?_
 refine sp 6 (.bool false) ?_
 refine ops_end ?_
 refine ae [(0, .pointer (some ⟨t, 10, none⟩)), (1, iv line)] ?_
 refine at_then_normal ?_
 refine aq (x := C36 [1,0]) (y := C36 [1,1]) ?_
 refine aq (x := C36 [1,0,0]) (y := C36 [1,0,1]) ?_
 refine ar (id := 1) 4 ?_
 refine sp 9 (.pointer (some ⟨t, 10, none⟩)) ?_
 refine sp 10 (iv line) ?_
 refine HomesA.tox .here ?_
 intro x1_2_t
 obtain ⟨y1_2, hy1_2, H⟩ := bindE H
 refine s_call 11 20 #[.pointer (some ⟨t, 10, none⟩), iv line] kf kf (fun _ => kf) (QOwnerF_tr t x1_2_t tc line y1_2 hy1_2) ?_
 rintro _ _ ⟨rfl, rfl⟩
 refine sp 12 (.bool (!(decide (y1_2 = ((-1) : Int))))) ?_
 refine ops_end ?_
 refine ae [(0, .pointer (some ⟨t, 10, none⟩)), (1, iv line), (12, .bool (!(decide (y1_2 = ((-1) : Int)))))] ?_
 refine at_then_normal ?_
 rcases Bool.eq_false_or_eq_true (!(decide (y1_2 = ((-1) : Int)))) with h1 | h1
 ·replace H := bifT H h1
  refine at_true (t := !(decide (y1_2 = ((-1) : Int)))) (x := C36 [1,0,1,0]) (y := C36 [1,0,1,1]) (o := .tmp 12) kf kf kf h1 ?_
  refine aq (x := C36 [1,0,1,0,0]) (y := C36 [1,0,1,0,1]) ?_
  refine ar (id := 2) 3 ?_
  refine sp 4 (iv (0)) ?_
  refine sp 5 (iv (0)) ?_
  refine sp 6 (.bool false) ?_
  refine ops_end ?_
  refine ae [(4, iv (0)), (5, iv (0)), (6, .bool false)] ?_
  refine at_then_normal ?_
  refine at_ret kf ?_
  refine at_then_ret ?_
  refine At.conv (Γ' := (HomesA t tc) :: Γ) (fun w hw => HomesXA.shut (hw.pull .here)) ?_
  obtain rfl := someE H
  refine at_backR [iv (0), iv (0), .bool false] ((HomesA t tc) :: Γ) (rs := [.tmp 4, .tmp 5, .tmp 6]) kf (.cons (.tmp kf) (.cons (.tmp kf) (.cons (.tmp kf) .nil))) (fun w hw => (Sat.less (.take .here .refl) hw)) ?_
  exact ⟨rfl, rfl⟩
 ·replace H := bifF H h1
  refine at_false (t := !(decide (y1_2 = ((-1) : Int)))) (x := C36 [1,0,1,0]) (y := C36 [1,0,1,1]) (o := .tmp 12) kf kf kf h1 ?_
  refine at_skip kf ?_
  refine at_then_normal ?_
  refine aq (x := C36 [1,1,0]) (y := C36 [1,1,1]) ?_
  refine aq (x := C36 [1,1,0,0]) (y := C36 [1,1,0,1]) ?_
  refine ar (id := 3) 6 ?_
  refine sp 13 (.pointer (some ⟨t, 10, none⟩)) ?_
  refine sp 14 (.pointer (some ⟨t, 10, none⟩)) ?_
  refine sp 15 (.pointer (some ⟨t, 11, none⟩)) ?_
  refine HomesXA.open .here ?_
  refine sl 16 (.slice x1_2_t.a11 (List.length tc.wait) x1_2_t.c11) (load1 (off := 11) (fun _ => kf) (holds_own .here) kf) ?_
  refine sp 17 (iv (((List.length tc.wait) : Nat) : Int)) ?_
  refine sp 18 (iv (0)) ?_
  refine ops_end ?_
  refine ae [(0, .pointer (some ⟨t, 10, none⟩)), (1, iv line), (16, .slice x1_2_t.a11 (List.length tc.wait) x1_2_t.c11), (17, iv (((List.length tc.wait) : Nat) : Int)), (18, iv (0))] ?_
  refine at_then_normal ?_
  refine at_block (i := 0) (x := C36 [1,1,0,1,0]) kf ?_
  refine At.conv (Γ' := (HomesXA t x1_2_t tc) :: (ImmI x1_2_t.a7 tc.c.init) :: Γ) (fun w hw => HomesXA.close (x := x1_2_t) (t := tc) (Sat.less (.take (.there (.there .here)) (.take .here (.take (.there .here) (.take (.there .here) (.take (.there .here) (.take .here .refl)))))) (ImmR.dup (Sat.less (.take (.there .here) (.take .here (.take .here (.take .here (.take .here .refl))))) hw)))) ?_
  refine At.conv (Γ' := (HomesXA t x1_2_t tc) :: (ImmI x1_2_t.a7 tc.c.init) :: Γ) (fun w hw => (Sat.less (.take .here (.take .here .refl)) hw)) ?_
  refine at_loopR (x := C36 [1,1,0,1,0,0]) (fun mm ff ΔΔ => ∃ (fuel : Nat) (v0_18 : Int), qnextS_l0 tc line (qnextS_k0 tc) fuel v0_18 = some y ∧ fuel = mm ∧ ff = [(0, .pointer (some ⟨t, 10, none⟩)), (1, iv line), (16, .slice x1_2_t.a11 (List.length tc.wait) x1_2_t.c11), (17, iv (((List.length tc.wait) : Nat) : Int)), (18, iv v0_18)] ∧ (HomesXA t x1_2_t tc) :: (ImmI x1_2_t.a7 tc.c.init) :: Γ = ΔΔ) (64) kf [(0, .pointer (some ⟨t, 10, none⟩)), (1, iv line), (16, .slice x1_2_t.a11 (List.length tc.wait) x1_2_t.c11), (17, iv (((List.length tc.wait) : Nat) : Int)), (18, iv 0)] ⟨kf, kf, kf, kf, kf, trivial⟩ ⟨64, 0, H, rfl, rfl, rfl⟩ ?_
  rintro _ _ _ ⟨fuel1, v0_18, H, rfl, rfl, rfl⟩
  rcases fuel1 with _ | fuel1
  ·exact (noneE H).elim
  rw [qnextS_l0] at H
  refine aq (x := C36 [1,1,0,1,0,0,0]) (y := C36 [1,1,0,1,0,0,1]) ?_
  refine ar (id := 4) 1 ?_
  refine sp 19 (.bool (decide (v0_18 < (((List.length tc.wait) : Nat) : Int)))) ?_
  refine ops_end ?_
  refine ae [(0, .pointer (some ⟨t, 10, none⟩)), (1, iv line), (16, .slice x1_2_t.a11 (List.length tc.wait) x1_2_t.c11), (17, iv (((List.length tc.wait) : Nat) : Int)), (18, iv v0_18), (19, .bool (decide (v0_18 < (((List.length tc.wait) : Nat) : Int))))] ?_
  refine at_then_normal ?_
  refine aq (x := C36 [1,1,0,1,0,0,1,0]) (y := C36 [1,1,0,1,0,0,1,1]) ?_
  rcases Bool.eq_false_or_eq_true (decide (v0_18 < (((List.length tc.wait) : Nat) : Int))) with h2 | h2
  ·replace H := bifT H h2
   refine at_true (t := decide (v0_18 < (((List.length tc.wait) : Nat) : Int))) (x := C36 [1,1,0,1,0,0,1,0,0]) (y := C36 [1,1,0,1,0,0,1,0,1]) (o := .tmp 19) kf kf kf h2 ?_
   refine at_skip kf ?_
   refine at_then_normal ?_
   refine aq (x := C36 [1,1,0,1,0,0,1,1,0]) (y := C36 [1,1,0,1,0,0,1,1,1]) ?_
   refine at_block (i := 1) (x := C36 [1,1,0,1,0,0,1,1,0,0]) kf ?_
   refine aq (x := C36 [1,1,0,1,0,0,1,1,0,0,0]) (y := C36 [1,1,0,1,0,0,1,1,0,0,1]) ?_
   refine ar (id := 5) 6 ?_
   refine sp 20 (iv v0_18) ?_
   refine HomesXA.open .here ?_
   obtain ⟨hc5_1_0, H⟩ := chkE H
   refine rows_at (.there (.there (.there (.there .here)))) (by have := hc5_1_0; rw [rowsV_len]; omega) ?_
   intro bb1 oo1 ha1
   refine sr 21 (.pointer (some ⟨bb1, oo1 + ((v0_18).toNat * 3), none⟩)) (index_at (t := 56) (sz := 3) (E := 108) (a := x1_2_t.a11) (m := (List.length tc.wait)) (c := x1_2_t.c11) (b := bb1) (off := oo1) (i := (v0_18).toNat) (tinfo 108) (fun _ => kf) kf kf kf ha1 (idx_cast hc5_1_0) (idx_nat hc5_1_0) rfl) ?_
   obtain ⟨hc5_2_0, H⟩ := chkE H
   refine sl 22 (.agg #[iv (nth (nthR tc.wait v0_18) 0), iv (nth (nthR tc.wait v0_18) 1), iv (nth (nthR tc.wait v0_18) 2)]) (loadN_at (k := 3) (row := [iv (nth (nthR tc.wait v0_18) 0), iv (nth (nthR tc.wait v0_18) 1), iv (nth (nthR tc.wait v0_18) 2)]) (off := oo1) (i := (v0_18).toNat) (fun _ => kf) rfl rfl (fun j v hj => rows_cell (k := 3) (.there (.there (.there (.there .here)))) ha1 (rowsV_get hc5_1_0) (by rw [rowV_3 hc5_2_0]; exact hj))) ?_
   refine s_step 8 kf kf (st_new (T := 108) (cells := #[iv (0), iv (0), iv (0)]) (fun a => .pointer (some a)) (fun _ => kf)) ?_
   rintro _ _ ⟨b5_3, rfl, rfl⟩
   refine sp 7 (iv v0_18) ?_
   refine s_do kf kf (st_store (off := 0) (vs := [iv (nth (nthR tc.wait v0_18) 0), iv (nth (nthR tc.wait v0_18) 1), iv (nth (nthR tc.wait v0_18) 2)]) (c' := #[iv (nth (nthR tc.wait v0_18) 0), iv (nth (nthR tc.wait v0_18) 1), iv (nth (nthR tc.wait v0_18) 2)]) (fun _ => kf) .here kf kf kf) ?_
   rintro _ _ ⟨rfl, rfl⟩
   refine ops_end ?_
   refine ae [(0, .pointer (some ⟨t, 10, none⟩)), (1, iv line), (7, iv v0_18), (8, .pointer (some ⟨b5_3, 0, none⟩)), (16, .slice x1_2_t.a11 (List.length tc.wait) x1_2_t.c11), (17, iv (((List.length tc.wait) : Nat) : Int)), (18, iv v0_18)] ?_
   refine at_then_normal ?_
   refine aq (x := C36 [1,1,0,1,0,0,1,1,0,0,1,0]) (y := C36 [1,1,0,1,0,0,1,1,0,0,1,1]) ?_
   refine ar (id := 6) 4 ?_
   refine sp 23 (.pointer (some ⟨b5_3, 0, none⟩)) ?_
   refine sl 24 (iv (nth (nthR tc.wait v0_18) 0)) (load1 (off := 0) (fun _ => kf) (holds_own .here) kf) ?_
   refine sp 25 (iv line) ?_
   refine sp 26 (.bool (decide ((nth (nthR tc.wait v0_18) 0) = line))) ?_
   refine ops_end ?_
   refine ae [(0, .pointer (some ⟨t, 10, none⟩)), (1, iv line), (7, iv v0_18), (8, .pointer (some ⟨b5_3, 0, none⟩)), (16, .slice x1_2_t.a11 (List.length tc.wait) x1_2_t.c11), (17, iv (((List.length tc.wait) : Nat) : Int)), (18, iv v0_18), (26, .bool (decide ((nth (nthR tc.wait v0_18) 0) = line)))] ?_
   refine at_then_normal ?_
   rcases Bool.eq_false_or_eq_true (decide ((nth (nthR tc.wait v0_18) 0) = line)) with h3 | h3
   ·replace H := bifT H h3
    refine at_true (t := decide ((nth (nthR tc.wait v0_18) 0) = line)) (x := C36 [1,1,0,1,0,0,1,1,0,0,1,1,0]) (y := C36 [1,1,0,1,0,0,1,1,0,0,1,1,1]) (o := .tmp 26) kf kf kf h3 ?_
    refine aq (x := C36 [1,1,0,1,0,0,1,1,0,0,1,1,0,0]) (y := C36 [1,1,0,1,0,0,1,1,0,0,1,1,0,1]) ?_
    refine at_region_draw (id := 7) kf kf ?_
    refine dp 0 27 (.pointer (some ⟨t, 10, none⟩)) ?_
    refine dp 1 28 (.pointer (some ⟨t, 10, none⟩)) ?_
    refine dp 2 29 (.pointer (some ⟨t, 10, none⟩)) ?_
    refine dp 3 30 (.pointer (some ⟨t, 11, none⟩)) ?_
    refine dl 4 31 (.slice x1_2_t.a11 (List.length tc.wait) x1_2_t.c11) (load1 (off := 11) (fun _ => kf) (holds_own (.there .here)) kf) ?_
    refine dp 5 32 (iv v0_18) ?_
    obtain ⟨hc7_6_0, H⟩ := chkE H
    obtain ⟨l7_6, hl7_6, H⟩ := letE H
    refine Draw.known (p := (List.length tc.wait) ≤ x1_2_t.c11) (fun w hw => by have := (RowsA.len (hw.pull (.there (.there (.there (.there (.there .here))))))).2; rw [rowsV_len] at this; exact this) ?_
    intro hcap1
    have hbl7_6 := (hc7_6_0).1
    obtain ⟨a7_6, ha7_6⟩ : ∃ y : Option Addr, y = (if x1_2_t.c11 = 0 then x1_2_t.a11 else Option.map (fun x => Addr.add x (0 * 3)) x1_2_t.a11) := ⟨_, rfl⟩
    have hrl7_6 : Reads W0 ((RowsN 3 x1_2_t.a11 x1_2_t.c11 tc.wait) :: Γ) a7_6 (rowsV l7_6) := by rw [ha7_6]; exact Reads.partN (lo := 0) (hi := (v0_18).toNat) (hc7_6_0).2 (RowsA.reads (k := 3) .here) hl7_6 (by omega)
    refine d_pure 6 33 (.slice a7_6 (List.length l7_6) (x1_2_t.c11 - 0)) kf kf kf (run_eq (slice_at (t := 56) (lo := 0) (hi := (v0_18).toNat) (mx := x1_2_t.c11) (sz := 3) (E := 108) (a := x1_2_t.a11) (m := (List.length tc.wait)) (c := x1_2_t.c11) none (some (iv v0_18)) none (tinfo 108) (fun _ => kf) kf kf kf (Or.inl ⟨rfl, rfl⟩) (Or.inr ⟨_, rfl, by omega⟩) (Or.inl ⟨rfl, rfl⟩) (by omega) (by omega) (by omega)) (by rw [← ha7_6, show (v0_18).toNat - 0 = List.length l7_6 from by rw [← hl7_6]; simp only [List.length_take, List.length_drop]; omega])) ?_
    refine dp 8 35 (.pointer (some ⟨t, 10, none⟩)) ?_
    refine dp 9 36 (.pointer (some ⟨t, 10, none⟩)) ?_
    refine dp 10 37 (.pointer (some ⟨t, 11, none⟩)) ?_
    refine dl 11 38 (.slice x1_2_t.a11 (List.length tc.wait) x1_2_t.c11) (load1 (off := 11) (fun _ => kf) (holds_own (.there .here)) kf) ?_
    refine dp 12 39 (iv v0_18) ?_
    obtain ⟨hc7_13_0, H⟩ := chkE H
    refine d_pure 13 40 (iv (v0_18 + (1 : Int))) kf kf kf (run_eq (v := iv (IntKind.i64.wrap (v0_18 + (1 : Int)))) (fun _ => kf) (by rw [inR.wrap hc7_13_0])) ?_
    obtain ⟨hc7_14_0, H⟩ := chkE H
    obtain ⟨l7_14, hl7_14, H⟩ := letE H
    refine Draw.known (p := (List.length tc.wait) ≤ x1_2_t.c11) (fun w hw => by have := (RowsA.len (hw.pull (.there (.there (.there (.there (.there .here))))))).2; rw [rowsV_len] at this; exact this) ?_
    intro hcap2
    have hbl7_14 := (hc7_14_0).1
    obtain ⟨a7_14, ha7_14⟩ : ∃ y : Option Addr, y = (if x1_2_t.c11 = ((v0_18 + (1 : Int))).toNat then x1_2_t.a11 else Option.map (fun x => Addr.add x (((v0_18 + (1 : Int))).toNat * 3)) x1_2_t.a11) := ⟨_, rfl⟩
    have hrl7_14 : Reads W0 ((RowsN 3 x1_2_t.a11 x1_2_t.c11 tc.wait) :: Γ) a7_14 (rowsV l7_14) := by rw [ha7_14]; exact Reads.partN (lo := ((v0_18 + (1 : Int))).toNat) (hi := (List.length tc.wait)) (hc7_14_0).2 (RowsA.reads (k := 3) .here) hl7_14 (by omega)
    refine d_pure 14 41 (.slice a7_14 (List.length l7_14) (x1_2_t.c11 - ((v0_18 + (1 : Int))).toNat)) kf kf kf (run_eq (slice_at (t := 56) (lo := ((v0_18 + (1 : Int))).toNat) (hi := (List.length tc.wait)) (mx := x1_2_t.c11) (sz := 3) (E := 108) (a := x1_2_t.a11) (m := (List.length tc.wait)) (c := x1_2_t.c11) (some (iv (v0_18 + (1 : Int)))) none none (tinfo 108) (fun _ => kf) kf kf kf (Or.inr ⟨_, rfl, by omega⟩) (Or.inl ⟨rfl, rfl, rfl⟩) (Or.inl ⟨rfl, rfl⟩) (by omega) (by omega) (by omega)) (by rw [← ha7_14, show (List.length tc.wait) - ((v0_18 + (1 : Int))).toNat = List.length l7_14 from by rw [← hl7_14]; simp only [List.length_take, List.length_drop]; omega])) ?_
    obtain ⟨hc7_7_0, H⟩ := chkE H
    obtain ⟨l7_7, hl7_7, H⟩ := letE H
    refine d_step 7 34 [6, 4, 5, 3, 2, 1] [14, 13, 12, 10, 9, 8, 0] [11] kf kf kf (StepTo.conv (Γ' := (RowsN 3 none 0 ([] : List (List Int))) :: (Asn.own b5_3 (.cells #[iv (nth (nthR tc.wait v0_18) 0), iv (nth (nthR tc.wait v0_18) 1), iv (nth (nthR tc.wait v0_18) 2)] 108 (0, 0))) :: (Asn.own t (.cells #[iv tc.c.nodes, iv tc.c.lines, iv tc.c.words, iv tc.c.sets, iv tc.c.ways, iv tc.c.out, iv tc.c.inn, .slice x1_2_t.a7 (List.length tc.c.init) x1_2_t.c7, iv tc.node, .slice x1_2_t.a9 (List.length tc.r) x1_2_t.c9, .slice x1_2_t.a10 (List.length tc.owner) x1_2_t.c10, .slice x1_2_t.a11 (List.length tc.wait) x1_2_t.c11] x1_2_t.T (0, 0))) :: (ImmI x1_2_t.a7 tc.c.init) :: (RecsX (α := RowS) x1_2_t.r9 x1_2_t.a9 x1_2_t.c9 tc.r) :: (RowsN 2 x1_2_t.a10 x1_2_t.c10 tc.owner) :: (RowsN 3 x1_2_t.a11 x1_2_t.c11 tc.wait) :: (ImmI x1_2_t.a7 tc.c.init) :: Γ) (fun w hw => RowsA.none_mk (k := 3) (a := none) hw) (st_append_rows (k := 3) (m1 := 0) (m2 := (List.length l7_6)) (cap2 := (x1_2_t.c11 - 0)) (xs := ([] : List (List Int))) (ys := l7_6) (zs := l7_7) (info := tinfo 108) 24 (.agg #[iv 0, iv 0, iv 0]) (m := List.length l7_7) 56 56 108 (fun _ => kf) kf kf kf kf kf kf kf (by decide) .here (Reads.conv (fun w hw => hw.less (.take (.there (.there (.there (.there (.there (.there .here)))))) (.drop .here (.drop .here (.drop .here (.drop .here (.drop .here (.drop .here (.drop .here .refl))))))))) hrl7_6) (fun x hx => (hc7_6_0).2 x (List.mem_of_mem_drop (List.mem_of_mem_take (by rw [hl7_6]; exact hx)))) rfl rfl rfl hl7_7 (by rw [← hl7_7]; exact hc7_7_0))) ?_
    rintro _ _ ⟨a7_7, c7_7, rfl, rfl⟩
    refine ⟨(stable_cons 11 38 (.slice x1_2_t.a11 (List.length tc.wait) x1_2_t.c11) kf kf kf (load1 (off := 11) (fun _ => kf) (holds_own (.there (.there .here))) kf) stable_nil), ?_⟩
    obtain ⟨hc7_15_0, H⟩ := chkE H
    obtain ⟨l7_15, hl7_15, H⟩ := letE H
    refine d_step 15 42 [7, 14, 6, 11, 13, 4, 5, 10, 12, 3, 9, 2, 8, 1] [0] [] kf kf kf (st_append_rows (k := 3) (m1 := (List.length l7_7)) (m2 := (List.length l7_14)) (cap2 := (x1_2_t.c11 - ((v0_18 + (1 : Int))).toNat)) (xs := l7_7) (ys := l7_14) (zs := l7_15) (info := tinfo 108) 24 (.agg #[iv 0, iv 0, iv 0]) (m := List.length l7_15) 56 56 108 (fun _ => kf) kf kf kf kf kf kf kf (by decide) .here (Reads.conv (fun w hw => hw.less (.take (.there (.there (.there (.there (.there (.there .here)))))) (.drop .here (.drop .here (.drop .here (.drop .here (.drop .here (.drop .here (.drop .here .refl))))))))) hrl7_14) (fun x hx => (hc7_14_0).2 x (List.mem_of_mem_drop (List.mem_of_mem_take (by rw [hl7_14]; exact hx)))) rfl rfl rfl hl7_15 (by rw [← hl7_15]; exact hc7_15_0)) ?_
    rintro _ _ ⟨a7_15, c7_15, rfl, rfl⟩
    refine ⟨stable_nil, ?_⟩
    refine dp 16 43 (.pointer (some ⟨t, 10, none⟩)) ?_
    refine dp 17 44 (.pointer (some ⟨t, 11, none⟩)) ?_
    refine d_do 18 [17, 15, 0, 1, 2, 3, 4, 5, 6, 7, 8, 9, 10, 11, 12, 13, 14, 16] [] [] kf kf kf (st_store (off := 11) (vs := [.slice a7_15 (List.length l7_15) c7_15]) (c' := #[iv tc.c.nodes, iv tc.c.lines, iv tc.c.words, iv tc.c.sets, iv tc.c.ways, iv tc.c.out, iv tc.c.inn, .slice x1_2_t.a7 (List.length tc.c.init) x1_2_t.c7, iv tc.node, .slice x1_2_t.a9 (List.length tc.r) x1_2_t.c9, .slice x1_2_t.a10 (List.length tc.owner) x1_2_t.c10, .slice a7_15 (List.length l7_15) c7_15]) (fun _ => kf) (.there (.there .here)) kf kf kf) ?_
    rintro _ _ ⟨rfl, rfl⟩
    refine ⟨stable_nil, ?_⟩
    refine draw_end kf ?_
    refine ae [(0, .pointer (some ⟨t, 10, none⟩)), (1, iv line), (8, .pointer (some ⟨b5_3, 0, none⟩))] ?_
    refine at_then_normal ?_
    refine aq (x := C36 [1,1,0,1,0,0,1,1,0,0,1,1,0,1,0]) (y := C36 [1,1,0,1,0,0,1,1,0,0,1,1,0,1,1]) ?_
    refine at_region_draw (id := 8) kf kf ?_
    refine dp 0 45 (.pointer (some ⟨t, 10, none⟩)) ?_
    refine dp 1 46 (.pointer (some ⟨t, 10, none⟩)) ?_
    refine dp 2 47 (.pointer (some ⟨t, 10, none⟩)) ?_
    refine dp 3 48 (.pointer (some ⟨t, 10, none⟩)) ?_
    refine dl 4 49 (.slice x1_2_t.a10 (List.length tc.owner) x1_2_t.c10) (load1 (off := 10) (fun _ => kf) (holds_own .here) kf) ?_
    refine dp 5 50 (iv line) ?_
    refine dp 6 51 (.pointer (some ⟨b5_3, 1, none⟩)) ?_
    refine dl 7 52 (iv (nth (nthR tc.wait v0_18) 1)) (load1 (off := 1) (fun _ => kf) (holds_own (.there (.there .here))) kf) ?_
    refine dp 8 53 (.agg #[iv line, iv (nth (nthR tc.wait v0_18) 1)]) ?_
    refine d_step 9 54 [8, 5, 7, 6] [3, 2, 1, 0] [4] kf kf kf (st_new (T := 86) (cells := #[iv line, iv (nth (nthR tc.wait v0_18) 1)]) (fun a => .slice (some a) 1 1) (fun _ => kf)) ?_
    rintro _ _ ⟨b8_9, rfl, rfl⟩
    refine ⟨(stable_cons 4 49 (.slice x1_2_t.a10 (List.length tc.owner) x1_2_t.c10) kf kf kf (load1 (off := 10) (fun _ => kf) (holds_own (.there .here)) kf) stable_nil), ?_⟩
    obtain ⟨hc8_10_0, H⟩ := chkE H
    obtain ⟨l8_10, hl8_10, H⟩ := letE H
    refine d_step 10 55 [4, 9, 3, 8, 2, 5, 7, 1, 6] [0] [] kf kf kf (st_append_rows (k := 2) (m1 := (List.length tc.owner)) (m2 := 1) (cap2 := 1) (xs := tc.owner) (ys := [[line, nth (nthR tc.wait v0_18) 1]]) (zs := l8_10) (info := tinfo 86) 16 (.agg #[iv 0, iv 0]) (m := List.length l8_10) 55 55 86 (fun _ => kf) kf kf kf kf kf kf kf (by decide) (.there (.there (.there (.there (.there (.there .here)))))) (Reads.own (rows := rowsV [[line, nth (nthR tc.wait v0_18) 1]]) .here rfl) (by intro x hx; rw [List.mem_singleton] at hx; subst hx; rfl) rfl rfl rfl hl8_10 (by rw [← hl8_10]; exact hc8_10_0)) ?_
    rintro _ _ ⟨a8_10, c8_10, rfl, rfl⟩
    refine ⟨stable_nil, ?_⟩
    refine dp 11 56 (.pointer (some ⟨t, 10, none⟩)) ?_
    refine dp 12 57 (.pointer (some ⟨t, 10, none⟩)) ?_
    refine d_do 13 [12, 10, 0, 1, 2, 3, 4, 5, 6, 7, 8, 9, 11] [] [] kf kf kf (st_store (off := 10) (vs := [.slice a8_10 (List.length l8_10) c8_10]) (c' := #[iv tc.c.nodes, iv tc.c.lines, iv tc.c.words, iv tc.c.sets, iv tc.c.ways, iv tc.c.out, iv tc.c.inn, .slice x1_2_t.a7 (List.length tc.c.init) x1_2_t.c7, iv tc.node, .slice x1_2_t.a9 (List.length tc.r) x1_2_t.c9, .slice a8_10 (List.length l8_10) c8_10, .slice a7_15 (List.length l7_15) c7_15]) (fun _ => kf) (.there (.there .here)) kf kf kf) ?_
    rintro _ _ ⟨rfl, rfl⟩
    refine ⟨stable_nil, ?_⟩
    refine draw_end kf ?_
    refine ae [(8, .pointer (some ⟨b5_3, 0, none⟩))] ?_
    refine at_then_normal ?_
    refine aq (x := C36 [1,1,0,1,0,0,1,1,0,0,1,1,0,1,1,0]) (y := C36 [1,1,0,1,0,0,1,1,0,0,1,1,0,1,1,1]) ?_
    refine at_region_draw (id := 9) kf kf ?_
    refine dp 0 58 (.pointer (some ⟨b5_3, 1, none⟩)) ?_
    refine dl 1 59 (iv (nth (nthR tc.wait v0_18) 1)) (load1 (off := 1) (fun _ => kf) (holds_own (.there (.there (.there (.there .here))))) kf) ?_
    refine dp 2 60 (.pointer (some ⟨b5_3, 2, none⟩)) ?_
    refine dl 3 61 (iv (nth (nthR tc.wait v0_18) 2)) (load1 (off := 2) (fun _ => kf) (holds_own (.there (.there (.there (.there .here))))) kf) ?_
    refine dp 4 4 (iv (nth (nthR tc.wait v0_18) 1)) ?_
    refine dp 5 5 (iv (nth (nthR tc.wait v0_18) 2)) ?_
    refine dp 6 6 (.bool true) ?_
    refine draw_end kf ?_
    refine ae [(4, iv (nth (nthR tc.wait v0_18) 1)), (5, iv (nth (nthR tc.wait v0_18) 2)), (6, .bool true)] ?_
    refine at_then_normal ?_
    refine at_ret kf ?_
    refine at_in_ret ?_
    refine at_then_ret ?_
    refine at_then_ret ?_
    refine at_in_ret ?_
    refine at_then_ret ?_
    refine At.conv (Γ' := (HomesXA t (⟨x1_2_t.a7, x1_2_t.c7, x1_2_t.a9, x1_2_t.c9, x1_2_t.r9, a8_10, c8_10, a7_15, c7_15, x1_2_t.T⟩ : HomesXP) ({ c := tc.c, node := tc.node, r := tc.r, owner := l8_10, wait := l7_15 } : HomesS)) :: (ImmI x1_2_t.a7 tc.c.init) :: (Asn.own b8_9 (.cells #[iv line, iv (nth (nthR tc.wait v0_18) 1)] 86 (0, 0))) :: (Asn.own b5_3 (.cells #[iv (nth (nthR tc.wait v0_18) 0), iv (nth (nthR tc.wait v0_18) 1), iv (nth (nthR tc.wait v0_18) 2)] 108 (0, 0))) :: (RowsN 3 x1_2_t.a11 x1_2_t.c11 tc.wait) :: (ImmI x1_2_t.a7 tc.c.init) :: Γ) (fun w hw => HomesXA.close (x := (⟨x1_2_t.a7, x1_2_t.c7, x1_2_t.a9, x1_2_t.c9, x1_2_t.r9, a8_10, c8_10, a7_15, c7_15, x1_2_t.T⟩ : HomesXP)) (t := ({ c := tc.c, node := tc.node, r := tc.r, owner := l8_10, wait := l7_15 } : HomesS)) (Sat.less (.take (.there (.there .here)) (.take .here (.take (.there (.there (.there (.there (.there .here))))) (.take (.there .here) (.take (.there (.there .here)) (.take .here (.take .here (.take .here (.take .here (.take .here .refl)))))))))) (ImmR.dup (Sat.less (.take (.there (.there (.there (.there (.there .here))))) (.take .here (.take .here (.take .here (.take .here (.take .here (.take .here (.take .here (.take .here .refl))))))))) hw)))) ?_
    refine At.conv (Γ' := (HomesA t ({ c := tc.c, node := tc.node, r := tc.r, owner := l8_10, wait := l7_15 } : HomesS)) :: (ImmI x1_2_t.a7 tc.c.init) :: (Asn.own b8_9 (.cells #[iv line, iv (nth (nthR tc.wait v0_18) 1)] 86 (0, 0))) :: (Asn.own b5_3 (.cells #[iv (nth (nthR tc.wait v0_18) 0), iv (nth (nthR tc.wait v0_18) 1), iv (nth (nthR tc.wait v0_18) 2)] 108 (0, 0))) :: (RowsN 3 x1_2_t.a11 x1_2_t.c11 tc.wait) :: (ImmI x1_2_t.a7 tc.c.init) :: Γ) (fun w hw => HomesXA.shut (hw.pull .here)) ?_
    obtain rfl := someE H
    refine at_backR [iv (nth (nthR tc.wait v0_18) 1), iv (nth (nthR tc.wait v0_18) 2), .bool true] ((HomesA t ({ c := tc.c, node := tc.node, r := tc.r, owner := l8_10, wait := l7_15 } : HomesS)) :: Γ) (rs := [.tmp 4, .tmp 5, .tmp 6]) kf (.cons (.tmp kf) (.cons (.tmp kf) (.cons (.tmp kf) .nil))) (fun w hw => (Sat.less (.take .here (.drop .here (.drop .here (.drop .here (.drop .here (.drop .here .refl)))))) hw)) ?_
    exact ⟨rfl, rfl⟩
   ·replace H := bifF H h3
    refine at_false (t := decide ((nth (nthR tc.wait v0_18) 0) = line)) (x := C36 [1,1,0,1,0,0,1,1,0,0,1,1,0]) (y := C36 [1,1,0,1,0,0,1,1,0,0,1,1,1]) (o := .tmp 26) kf kf kf h3 ?_
    refine at_skip kf ?_
    refine at_in_normal ?_
    refine at_then_normal ?_
    refine ar (id := 10) 2 ?_
    obtain ⟨hc10_0_0, H⟩ := chkE H
    refine sr 62 (iv (v0_18 + (1 : Int))) (run_eq (v := iv (IntKind.i64.wrap (v0_18 + (1 : Int)))) (fun _ => kf) (by rw [inR.wrap hc10_0_0])) ?_
    refine sp 18 (iv (v0_18 + (1 : Int))) ?_
    refine ops_end ?_
    refine ae [(0, .pointer (some ⟨t, 10, none⟩)), (1, iv line), (16, .slice x1_2_t.a11 (List.length tc.wait) x1_2_t.c11), (17, iv (((List.length tc.wait) : Nat) : Int)), (18, iv (v0_18 + (1 : Int)))] ?_
    refine at_round_normal ?_
    refine At.conv (Γ' := (HomesXA t x1_2_t tc) :: (ImmI x1_2_t.a7 tc.c.init) :: (Asn.own b5_3 (.cells #[iv (nth (nthR tc.wait v0_18) 0), iv (nth (nthR tc.wait v0_18) 1), iv (nth (nthR tc.wait v0_18) 2)] 108 (0, 0))) :: (ImmI x1_2_t.a7 tc.c.init) :: Γ) (fun w hw => HomesXA.close (x := x1_2_t) (t := tc) (Sat.less (.take (.there (.there (.there .here))) (.take .here (.take (.there (.there .here)) (.take (.there (.there .here)) (.take (.there (.there .here)) (.take .here (.take .here (.take .here .refl)))))))) (ImmR.dup (Sat.less (.take (.there (.there .here)) (.take .here (.take .here (.take .here (.take .here (.take .here (.take .here .refl))))))) hw)))) ?_
    exact at_roundR fuel1 [(0, .pointer (some ⟨t, 10, none⟩)), (1, iv line), (16, .slice x1_2_t.a11 (List.length tc.wait) x1_2_t.c11), (17, iv (((List.length tc.wait) : Nat) : Int)), (18, iv (v0_18 + (1 : Int)))] ((HomesXA t x1_2_t tc) :: (ImmI x1_2_t.a7 tc.c.init) :: Γ) (Nat.lt_succ_self _) ⟨kf, kf, kf, kf, kf, trivial⟩ (fun w hw => (Sat.less (.take .here (.take .here (.drop .here (.drop .here .refl)))) hw)) ⟨fuel1, v0_18 + (1 : Int), H, rfl, rfl, rfl⟩
  ·replace H := bifF H h2
   refine at_false (t := decide (v0_18 < (((List.length tc.wait) : Nat) : Int))) (x := C36 [1,1,0,1,0,0,1,0,0]) (y := C36 [1,1,0,1,0,0,1,0,1]) (o := .tmp 19) kf kf kf h2 ?_
   refine at_exit (i := 0) kf ?_
   refine at_then_exit ?_
   refine at_then_exit ?_
   rw [qnextS_k0] at H
   refine ae [(0, .pointer (some ⟨t, 10, none⟩)), (1, iv line), (16, .slice x1_2_t.a11 (List.length tc.wait) x1_2_t.c11), (17, iv (((List.length tc.wait) : Nat) : Int)), (18, iv v0_18)] ?_
   refine At.conv (Γ' := (HomesXA t x1_2_t tc) :: (ImmI x1_2_t.a7 tc.c.init) :: Γ) (fun w hw => (Sat.less (.take .here (.take .here .refl)) hw)) ?_
   refine at_in_here ?_
   refine at_then_normal ?_
   refine aq (x := C36 [1,1,1,0]) (y := C36 [1,1,1,1]) ?_
   refine ar (id := 11) 3 ?_
   refine sp 4 (iv (0)) ?_
   refine sp 5 (iv (0)) ?_
   refine sp 6 (.bool false) ?_
   refine ops_end ?_
   refine ae [(4, iv (0)), (5, iv (0)), (6, .bool false)] ?_
   refine at_then_normal ?_
   refine at_ret kf ?_
   refine At.conv (Γ' := (HomesA t tc) :: (ImmI x1_2_t.a7 tc.c.init) :: Γ) (fun w hw => HomesXA.shut (hw.pull .here)) ?_
   obtain rfl := someE H
   refine at_backR [iv (0), iv (0), .bool false] ((HomesA t tc) :: Γ) (rs := [.tmp 4, .tmp 5, .tmp 6]) kf (.cons (.tmp kf) (.cons (.tmp kf) (.cons (.tmp kf) .nil))) (fun w hw => (Sat.less (.take .here (.drop .here .refl)) hw)) ?_
   exact ⟨rfl, rfl⟩
def qreadyS_k1 (v0_3x : List Int) (tc : HomesS) (v0_12 : Int) (r0 : (List Int) → Int → Option ((List Int))) (e1_6 : Int) : Option ((List Int)) :=
 (bif decide (e1_6 = (((List.length v0_3x) : Nat) : Int)) then chk (0 ≤ (0 : Int) ∧ (0 : Int) ≤ e1_6 ∧ e1_6 ≤ ((v0_3x.length : Nat) : Int) ∧ e1_6 ≤ e1_6 ∧ e1_6 ≤ ((v0_3x.length : Nat) : Int)) (letP ((v0_3x.drop 0).take ((e1_6).toNat - 0)) fun l10_3 => chk (0 ≤ e1_6 ∧ e1_6 ≤ (((List.length v0_3x) : Nat) : Int) ∧ (((List.length v0_3x) : Nat) : Int) ≤ ((v0_3x.length : Nat) : Int)) (letP ((v0_3x.drop (e1_6).toNat).take ((List.length v0_3x) - (e1_6).toNat)) fun l10_9 => letP ([nth (nthR tc.wait v0_12) 0] : List Int) fun l10_6 => chk ((l10_6 ++ l10_9).length ≤ 1099511627776) (letP (l10_6 ++ l10_9) fun l10_10 => chk ((l10_3 ++ l10_10).length ≤ 1099511627776) (letP (l10_3 ++ l10_10) fun l10_11 => chk (inR (v0_12 + (1 : Int))) (r0 l10_11 (v0_12 + (1 : Int))))))) else chk (0 ≤ e1_6 ∧ e1_6 < ((v0_3x.length : Nat) : Int)) ((bif !(decide ((nth v0_3x e1_6) = (nth (nthR tc.wait v0_12) 0))) then chk (0 ≤ (0 : Int) ∧ (0 : Int) ≤ e1_6 ∧ e1_6 ≤ ((v0_3x.length : Nat) : Int) ∧ e1_6 ≤ e1_6 ∧ e1_6 ≤ ((v0_3x.length : Nat) : Int)) (letP ((v0_3x.drop 0).take ((e1_6).toNat - 0)) fun l10_3 => chk (0 ≤ e1_6 ∧ e1_6 ≤ (((List.length v0_3x) : Nat) : Int) ∧ (((List.length v0_3x) : Nat) : Int) ≤ ((v0_3x.length : Nat) : Int)) (letP ((v0_3x.drop (e1_6).toNat).take ((List.length v0_3x) - (e1_6).toNat)) fun l10_9 => letP ([nth (nthR tc.wait v0_12) 0] : List Int) fun l10_6 => chk ((l10_6 ++ l10_9).length ≤ 1099511627776) (letP (l10_6 ++ l10_9) fun l10_10 => chk ((l10_3 ++ l10_10).length ≤ 1099511627776) (letP (l10_3 ++ l10_10) fun l10_11 => chk (inR (v0_12 + (1 : Int))) (r0 l10_11 (v0_12 + (1 : Int))))))) else chk (inR (v0_12 + (1 : Int))) (r0 v0_3x (v0_12 + (1 : Int))))))
def qreadyS_l1 (v0_3x : List Int) (tc : HomesS) (v0_12 : Int) (k1 : Int → Option ((List Int))) : Nat → Int → Option ((List Int))
 | 0 => fun _ => none
 | m + 1 => fun v1_6 => (bif decide (v1_6 < (((List.length v0_3x) : Nat) : Int)) then chk (0 ≤ v1_6 ∧ v1_6 < ((v0_3x.length : Nat) : Int)) ((bif decide ((nth v0_3x v1_6) < (nth (nthR tc.wait v0_12) 0)) then chk (inR (v1_6 + (1 : Int))) ((qreadyS_l1 v0_3x tc v0_12 k1 m) (v1_6 + (1 : Int))) else k1 v1_6)) else k1 v1_6)
def qreadyS_k0 (e0_3x : List Int) (e0_12 : Int) : Option ((List Int)) :=
 some e0_3x
def qreadyS_l0 (tc : HomesS) (k0 : (List Int) → Int → Option ((List Int))) : Nat → (List Int) → Int → Option ((List Int))
 | 0 => fun _ _ => none
 | m + 1 => fun v0_3x v0_12 => (bif decide (v0_12 < (((List.length tc.wait) : Nat) : Int)) then chk (0 ≤ v0_12 ∧ v0_12 < ((List.length (tc.wait) : Nat) : Int)) (chk ((nthR tc.wait v0_12).length = 3) ((qownerS tc (nth (nthR tc.wait v0_12) 0)).bind fun y5_3 => (bif !(decide (y5_3 = ((-1) : Int))) then chk (inR (v0_12 + (1 : Int))) ((qreadyS_l0 tc k0 m) v0_3x (v0_12 + (1 : Int))) else qreadyS_l1 v0_3x tc v0_12 (qreadyS_k1 v0_3x tc v0_12 (qreadyS_l0 tc k0 m)) 64 0))) else k0 v0_3x v0_12)
def qreadyS (tc : HomesS) : Option ((List Int)) :=
 qreadyS_l0 tc (qreadyS_k0 ) 64 ([] : List Int) 0
noncomputable def C35 (p : List Nat) : Code := codeAt (bodyOf Try.f35) p
set_option maxRecDepth 100000 in
set_option maxHeartbeats 8000000 in
theorem QReadyF_tr {W0 : World} {Γ : List Asn} (t : Nat) (tx : HomesXP) (tc : HomesS)  (y : (List Int)) (H : qreadyS tc = some y) : Tr Try.prog 35 #[.pointer (some ⟨t, 10, none⟩)] W0 ((HomesXA t tx tc) :: Γ) (fun r Δ => ∃ (a0_0 : Option Addr) (c0_0 : Nat), r = .slice a0_0 (List.length y) c0_0 ∧ Δ = (IntsA a0_0 c0_0 y) :: (HomesXA t tx tc) :: Γ) := by
 unfold qreadyS at H
 refine Tr.enter (fn := Try.f35) (c := C35 []) (args := [.pointer (some ⟨t, 10, none⟩)]) 63 Try.func35 kf kf ?_
 refine ae [(0, .pointer (some ⟨t, 10, none⟩))] ?_
 refine aq (x := C35 [0]) (y := C35 [1]) ?_
 refine ar (id := 0) 1 ?_
 refine sp 2 (.slice none 0 0) ?_
 refine ops_end ?_
 refine ae [(0, .pointer (some ⟨t, 10, none⟩))] ?_
 refine at_then_normal ?_
 refine aq (x := C35 [1,0]) (y := C35 [1,1]) ?_
 refine ar (id := 1) 1 ?_
 refine sp 3 (.slice none 0 0) ?_
 refine ops_end ?_
 refine ae [(0, .pointer (some ⟨t, 10, none⟩)), (3, .slice none 0 0)] ?_
 refine at_then_normal ?_
 refine aq (x := C35 [1,1,0]) (y := C35 [1,1,1]) ?_
 refine aq (x := C35 [1,1,0,0]) (y := C35 [1,1,0,1]) ?_
 refine ar (id := 2) 6 ?_
 refine sp 7 (.pointer (some ⟨t, 10, none⟩)) ?_
 refine sp 8 (.pointer (some ⟨t, 10, none⟩)) ?_
 refine sp 9 (.pointer (some ⟨t, 11, none⟩)) ?_
 refine HomesXA.open .here ?_
 refine sl 10 (.slice tx.a11 (List.length tc.wait) tx.c11) (load1 (off := 11) (fun _ => kf) (holds_own .here) kf) ?_
 refine sp 11 (iv (((List.length tc.wait) : Nat) : Int)) ?_
 refine sp 12 (iv (0)) ?_
 refine ops_end ?_
 refine ae [(0, .pointer (some ⟨t, 10, none⟩)), (3, .slice none 0 0), (10, .slice tx.a11 (List.length tc.wait) tx.c11), (11, iv (((List.length tc.wait) : Nat) : Int)), (12, iv (0))] ?_
 refine at_then_normal ?_
 refine at_block (i := 0) (x := C35 [1,1,0,1,0]) kf ?_
 refine At.conv (Γ' := (HomesXA t tx tc) :: (ImmI tx.a7 tc.c.init) :: Γ) (fun w hw => HomesXA.close (x := tx) (t := tc) (Sat.less (.take (.there (.there .here)) (.take .here (.take (.there .here) (.take (.there .here) (.take (.there .here) (.take .here .refl)))))) (ImmR.dup (Sat.less (.take (.there .here) (.take .here (.take .here (.take .here (.take .here .refl))))) hw)))) ?_
 refine At.conv (Γ' := (IntsA none 0 ([] : List Int)) :: (HomesXA t tx tc) :: (ImmI tx.a7 tc.c.init) :: Γ) (fun w hw => (Sat.less (.take .here (.take .here (.take .here .refl))) (RowsA.none_mk (k := 1) (a := none) hw))) ?_
 refine at_loopR (x := C35 [1,1,0,1,0,0]) (fun mm ff ΔΔ => ∃ (fuel : Nat) (v0_3x : List Int) (v0_12 : Int) (v0_3a : Option Addr) (v0_3c : Nat), qreadyS_l0 tc (qreadyS_k0 ) fuel v0_3x v0_12 = some y ∧ fuel = mm ∧ ff = [(0, .pointer (some ⟨t, 10, none⟩)), (3, .slice v0_3a (List.length v0_3x) v0_3c), (10, .slice tx.a11 (List.length tc.wait) tx.c11), (11, iv (((List.length tc.wait) : Nat) : Int)), (12, iv v0_12)] ∧ (IntsA v0_3a v0_3c v0_3x) :: (HomesXA t tx tc) :: (ImmI tx.a7 tc.c.init) :: Γ = ΔΔ) (64) kf [(0, .pointer (some ⟨t, 10, none⟩)), (3, .slice none (List.length ([] : List Int)) 0), (10, .slice tx.a11 (List.length tc.wait) tx.c11), (11, iv (((List.length tc.wait) : Nat) : Int)), (12, iv 0)] ⟨kf, kf, kf, kf, kf, trivial⟩ ⟨64, ([] : List Int), 0, none, 0, H, rfl, rfl, rfl⟩ ?_
 rintro _ _ _ ⟨fuel1, v0_3x, v0_12, v0_3a, v0_3c, H, rfl, rfl, rfl⟩
 rcases fuel1 with _ | fuel1
 ·exact (noneE H).elim
 rw [qreadyS_l0] at H
 refine aq (x := C35 [1,1,0,1,0,0,0]) (y := C35 [1,1,0,1,0,0,1]) ?_
 refine ar (id := 3) 1 ?_
 refine sp 13 (.bool (decide (v0_12 < (((List.length tc.wait) : Nat) : Int)))) ?_
 refine ops_end ?_
 refine ae [(0, .pointer (some ⟨t, 10, none⟩)), (3, .slice v0_3a (List.length v0_3x) v0_3c), (10, .slice tx.a11 (List.length tc.wait) tx.c11), (11, iv (((List.length tc.wait) : Nat) : Int)), (12, iv v0_12), (13, .bool (decide (v0_12 < (((List.length tc.wait) : Nat) : Int))))] ?_
 refine at_then_normal ?_
 refine aq (x := C35 [1,1,0,1,0,0,1,0]) (y := C35 [1,1,0,1,0,0,1,1]) ?_
 rcases Bool.eq_false_or_eq_true (decide (v0_12 < (((List.length tc.wait) : Nat) : Int))) with h1 | h1
 ·replace H := bifT H h1
  refine at_true (t := decide (v0_12 < (((List.length tc.wait) : Nat) : Int))) (x := C35 [1,1,0,1,0,0,1,0,0]) (y := C35 [1,1,0,1,0,0,1,0,1]) (o := .tmp 13) kf kf kf h1 ?_
  refine at_skip kf ?_
  refine at_then_normal ?_
  refine aq (x := C35 [1,1,0,1,0,0,1,1,0]) (y := C35 [1,1,0,1,0,0,1,1,1]) ?_
  refine at_block (i := 1) (x := C35 [1,1,0,1,0,0,1,1,0,0]) kf ?_
  refine aq (x := C35 [1,1,0,1,0,0,1,1,0,0,0]) (y := C35 [1,1,0,1,0,0,1,1,0,0,1]) ?_
  refine ar (id := 4) 4 ?_
  refine HomesXA.open (.there .here) ?_
  obtain ⟨hc4_0_0, H⟩ := chkE H
  refine rows_at (.there (.there (.there (.there .here)))) (by have := hc4_0_0; rw [rowsV_len]; omega) ?_
  intro bb1 oo1 ha1
  refine sr 14 (.pointer (some ⟨bb1, oo1 + ((v0_12).toNat * 3), none⟩)) (index_at (t := 56) (sz := 3) (E := 108) (a := tx.a11) (m := (List.length tc.wait)) (c := tx.c11) (b := bb1) (off := oo1) (i := (v0_12).toNat) (tinfo 108) (fun _ => kf) kf kf kf ha1 (idx_cast hc4_0_0) (idx_nat hc4_0_0) rfl) ?_
  obtain ⟨hc4_1_0, H⟩ := chkE H
  refine sl 15 (.agg #[iv (nth (nthR tc.wait v0_12) 0), iv (nth (nthR tc.wait v0_12) 1), iv (nth (nthR tc.wait v0_12) 2)]) (loadN_at (k := 3) (row := [iv (nth (nthR tc.wait v0_12) 0), iv (nth (nthR tc.wait v0_12) 1), iv (nth (nthR tc.wait v0_12) 2)]) (off := oo1) (i := (v0_12).toNat) (fun _ => kf) rfl rfl (fun j v hj => rows_cell (k := 3) (.there (.there (.there (.there .here)))) ha1 (rowsV_get hc4_0_0) (by rw [rowV_3 hc4_1_0]; exact hj))) ?_
  refine s_step 5 kf kf (st_new (T := 108) (cells := #[iv (0), iv (0), iv (0)]) (fun a => .pointer (some a)) (fun _ => kf)) ?_
  rintro _ _ ⟨b4_2, rfl, rfl⟩
  refine s_do kf kf (st_store (off := 0) (vs := [iv (nth (nthR tc.wait v0_12) 0), iv (nth (nthR tc.wait v0_12) 1), iv (nth (nthR tc.wait v0_12) 2)]) (c' := #[iv (nth (nthR tc.wait v0_12) 0), iv (nth (nthR tc.wait v0_12) 1), iv (nth (nthR tc.wait v0_12) 2)]) (fun _ => kf) .here kf kf kf) ?_
  rintro _ _ ⟨rfl, rfl⟩
  refine ops_end ?_
  refine ae [(0, .pointer (some ⟨t, 10, none⟩)), (3, .slice v0_3a (List.length v0_3x) v0_3c), (5, .pointer (some ⟨b4_2, 0, none⟩)), (10, .slice tx.a11 (List.length tc.wait) tx.c11), (11, iv (((List.length tc.wait) : Nat) : Int)), (12, iv v0_12)] ?_
  refine at_then_normal ?_
  refine aq (x := C35 [1,1,0,1,0,0,1,1,0,0,1,0]) (y := C35 [1,1,0,1,0,0,1,1,0,0,1,1]) ?_
  refine aq (x := C35 [1,1,0,1,0,0,1,1,0,0,1,0,0]) (y := C35 [1,1,0,1,0,0,1,1,0,0,1,0,1]) ?_
  refine ar (id := 5) 5 ?_
  refine sp 16 (.pointer (some ⟨t, 10, none⟩)) ?_
  refine sp 17 (.pointer (some ⟨b4_2, 0, none⟩)) ?_
  refine sl 18 (iv (nth (nthR tc.wait v0_12) 0)) (load1 (off := 0) (fun _ => kf) (holds_own .here) kf) ?_
  refine At.conv (Γ' := (HomesXA t tx tc) :: (ImmI tx.a7 tc.c.init) :: (Asn.own b4_2 (.cells #[iv (nth (nthR tc.wait v0_12) 0), iv (nth (nthR tc.wait v0_12) 1), iv (nth (nthR tc.wait v0_12) 2)] 108 (0, 0))) :: (IntsA v0_3a v0_3c v0_3x) :: (ImmI tx.a7 tc.c.init) :: Γ) (fun w hw => HomesXA.close (x := tx) (t := tc) (Sat.less (.take (.there (.there (.there .here))) (.take .here (.take (.there (.there .here)) (.take (.there (.there .here)) (.take (.there (.there .here)) (.take .here (.take .here (.take .here (.take .here .refl))))))))) (ImmR.dup (Sat.less (.take (.there (.there .here)) (.take .here (.take .here (.take .here (.take .here (.take .here (.take .here (.take .here .refl)))))))) hw)))) ?_
  obtain ⟨y5_3, hy5_3, H⟩ := bindE H
  refine s_call 19 20 #[.pointer (some ⟨t, 10, none⟩), iv (nth (nthR tc.wait v0_12) 0)] kf kf (fun _ => kf) (QOwnerF_tr t tx tc (nth (nthR tc.wait v0_12) 0) y5_3 hy5_3) ?_
  rintro _ _ ⟨rfl, rfl⟩
  refine sp 20 (.bool (!(decide (y5_3 = ((-1) : Int))))) ?_
  refine ops_end ?_
  refine ae [(0, .pointer (some ⟨t, 10, none⟩)), (3, .slice v0_3a (List.length v0_3x) v0_3c), (5, .pointer (some ⟨b4_2, 0, none⟩)), (10, .slice tx.a11 (List.length tc.wait) tx.c11), (11, iv (((List.length tc.wait) : Nat) : Int)), (12, iv v0_12), (20, .bool (!(decide (y5_3 = ((-1) : Int)))))] ?_
  refine at_then_normal ?_
  rcases Bool.eq_false_or_eq_true (!(decide (y5_3 = ((-1) : Int)))) with h2 | h2
  ·replace H := bifT H h2
   refine at_true (t := !(decide (y5_3 = ((-1) : Int)))) (x := C35 [1,1,0,1,0,0,1,1,0,0,1,0,1,0]) (y := C35 [1,1,0,1,0,0,1,1,0,0,1,0,1,1]) (o := .tmp 20) kf kf kf h2 ?_
   refine at_exit (i := 1) kf ?_
   refine at_then_exit ?_
   refine at_in_here ?_
   refine at_then_normal ?_
   refine ar (id := 11) 2 ?_
   obtain ⟨hc11_0_0, H⟩ := chkE H
   refine sr 61 (iv (v0_12 + (1 : Int))) (run_eq (v := iv (IntKind.i64.wrap (v0_12 + (1 : Int)))) (fun _ => kf) (by rw [inR.wrap hc11_0_0])) ?_
   refine sp 12 (iv (v0_12 + (1 : Int))) ?_
   refine ops_end ?_
   refine ae [(0, .pointer (some ⟨t, 10, none⟩)), (3, .slice v0_3a (List.length v0_3x) v0_3c), (10, .slice tx.a11 (List.length tc.wait) tx.c11), (11, iv (((List.length tc.wait) : Nat) : Int)), (12, iv (v0_12 + (1 : Int)))] ?_
   refine at_round_normal ?_
   exact at_roundR fuel1 [(0, .pointer (some ⟨t, 10, none⟩)), (3, .slice v0_3a (List.length v0_3x) v0_3c), (10, .slice tx.a11 (List.length tc.wait) tx.c11), (11, iv (((List.length tc.wait) : Nat) : Int)), (12, iv (v0_12 + (1 : Int)))] ((IntsA v0_3a v0_3c v0_3x) :: (HomesXA t tx tc) :: (ImmI tx.a7 tc.c.init) :: Γ) (Nat.lt_succ_self _) ⟨kf, kf, kf, kf, kf, trivial⟩ (fun w hw => (Sat.less (.take (.there (.there (.there .here))) (.take .here (.take .here (.drop .here (.drop .here .refl))))) hw)) ⟨fuel1, v0_3x, v0_12 + (1 : Int), v0_3a, v0_3c, H, rfl, rfl, rfl⟩
  ·replace H := bifF H h2
   refine at_false (t := !(decide (y5_3 = ((-1) : Int)))) (x := C35 [1,1,0,1,0,0,1,1,0,0,1,0,1,0]) (y := C35 [1,1,0,1,0,0,1,1,0,0,1,0,1,1]) (o := .tmp 20) kf kf kf h2 ?_
   refine at_skip kf ?_
   refine at_then_normal ?_
   refine aq (x := C35 [1,1,0,1,0,0,1,1,0,0,1,1,0]) (y := C35 [1,1,0,1,0,0,1,1,0,0,1,1,1]) ?_
   refine ar (id := 6) 1 ?_
   refine sp 6 (iv (0)) ?_
   refine ops_end ?_
   refine ae [(0, .pointer (some ⟨t, 10, none⟩)), (3, .slice v0_3a (List.length v0_3x) v0_3c), (5, .pointer (some ⟨b4_2, 0, none⟩)), (6, iv (0)), (10, .slice tx.a11 (List.length tc.wait) tx.c11), (11, iv (((List.length tc.wait) : Nat) : Int)), (12, iv v0_12)] ?_
   refine at_then_normal ?_
   refine aq (x := C35 [1,1,0,1,0,0,1,1,0,0,1,1,1,0]) (y := C35 [1,1,0,1,0,0,1,1,0,0,1,1,1,1]) ?_
   refine at_block (i := 2) (x := C35 [1,1,0,1,0,0,1,1,0,0,1,1,1,0,0]) kf ?_
   refine At.conv (Γ' := (HomesXA t tx tc) :: (ImmI tx.a7 tc.c.init) :: (Asn.own b4_2 (.cells #[iv (nth (nthR tc.wait v0_12) 0), iv (nth (nthR tc.wait v0_12) 1), iv (nth (nthR tc.wait v0_12) 2)] 108 (0, 0))) :: (IntsA v0_3a v0_3c v0_3x) :: (ImmI tx.a7 tc.c.init) :: Γ) (fun w hw => (Sat.less (.take .here (.take .here (.take .here (.take .here (.take .here .refl))))) hw)) ?_
   refine at_loopR (x := C35 [1,1,0,1,0,0,1,1,0,0,1,1,1,0,0,0]) (fun mm ff ΔΔ => ∃ (fuel : Nat) (v1_6 : Int), qreadyS_l1 v0_3x tc v0_12 (qreadyS_k1 v0_3x tc v0_12 (qreadyS_l0 tc (qreadyS_k0 ) fuel1)) fuel v1_6 = some y ∧ fuel = mm ∧ ff = [(0, .pointer (some ⟨t, 10, none⟩)), (3, .slice v0_3a (List.length v0_3x) v0_3c), (5, .pointer (some ⟨b4_2, 0, none⟩)), (6, iv v1_6), (10, .slice tx.a11 (List.length tc.wait) tx.c11), (11, iv (((List.length tc.wait) : Nat) : Int)), (12, iv v0_12)] ∧ (HomesXA t tx tc) :: (ImmI tx.a7 tc.c.init) :: (Asn.own b4_2 (.cells #[iv (nth (nthR tc.wait v0_12) 0), iv (nth (nthR tc.wait v0_12) 1), iv (nth (nthR tc.wait v0_12) 2)] 108 (0, 0))) :: (IntsA v0_3a v0_3c v0_3x) :: (ImmI tx.a7 tc.c.init) :: Γ = ΔΔ) (64) kf [(0, .pointer (some ⟨t, 10, none⟩)), (3, .slice v0_3a (List.length v0_3x) v0_3c), (5, .pointer (some ⟨b4_2, 0, none⟩)), (6, iv 0), (10, .slice tx.a11 (List.length tc.wait) tx.c11), (11, iv (((List.length tc.wait) : Nat) : Int)), (12, iv v0_12)] ⟨kf, kf, kf, kf, kf, kf, kf, trivial⟩ ⟨64, 0, H, rfl, rfl, rfl⟩ ?_
   rintro _ _ _ ⟨fuel2, v1_6, H, rfl, rfl, rfl⟩
   rcases fuel2 with _ | fuel2
   ·exact (noneE H).elim
   rw [qreadyS_l1] at H
   refine aq (x := C35 [1,1,0,1,0,0,1,1,0,0,1,1,1,0,0,0,0]) (y := C35 [1,1,0,1,0,0,1,1,0,0,1,1,1,0,0,0,1]) ?_
   refine aq (x := C35 [1,1,0,1,0,0,1,1,0,0,1,1,1,0,0,0,0,0]) (y := C35 [1,1,0,1,0,0,1,1,0,0,1,1,1,0,0,0,0,1]) ?_
   refine at_region_draw (id := 7) kf kf ?_
   refine dp 0 21 (iv v1_6) ?_
   refine dp 1 22 (.slice v0_3a (List.length v0_3x) v0_3c) ?_
   refine dp 2 23 (iv (((List.length v0_3x) : Nat) : Int)) ?_
   refine dp 3 24 (.bool (decide (v1_6 < (((List.length v0_3x) : Nat) : Int)))) ?_
   rcases Bool.eq_false_or_eq_true (decide (v1_6 < (((List.length v0_3x) : Nat) : Int))) with h3 | h3
   ·replace H := bifT H h3
    refine d_pure 4 25 (.bool true) kf kf kf (run_eq (v := .bool (decide (v1_6 < (((List.length v0_3x) : Nat) : Int)))) (fun _ => kf) (congrArg Value.bool h3)) ?_
    refine dp 5 26 (.slice v0_3a (List.length v0_3x) v0_3c) ?_
    refine dp 6 27 (iv v1_6) ?_
    obtain ⟨hc7_7_0, H⟩ := chkE H
    refine rows_at_draw (.there (.there (.there .here))) (by have := hc7_7_0; simp only [ints_length]; omega) ?_
    intro bb2 oo2 ha2
    refine d_pure 7 28 (.pointer (some ⟨bb2, oo2 + ((v1_6).toNat * 1 + 0), none⟩)) kf kf kf (index_at (t := 22) (sz := 1) (E := 3) (a := v0_3a) (m := (List.length v0_3x)) (c := v0_3c) (b := bb2) (off := oo2) (i := (v1_6).toNat) (tinfo 3) (fun _ => kf) kf kf kf ha2 (idx_cast hc7_7_0) (idx_nat hc7_7_0) rfl) ?_
    refine dl 8 29 (iv (nth v0_3x v1_6)) (load1_at (off := oo2 + ((v1_6).toNat * 1 + 0)) (v := iv (nth v0_3x v1_6)) (fun _ => kf) rfl (reads_cell (k := 1) (RowsA.reads (k := 1) (.there (.there (.there .here)))) (ints_rows _) ha2 (nth_row hc7_7_0) (show [(iv (nth v0_3x v1_6) : Value)][0]? = some _ from rfl))) ?_
    refine dp 9 30 (.pointer (some ⟨b4_2, 0, none⟩)) ?_
    refine dl 10 31 (iv (nth (nthR tc.wait v0_12) 0)) (load1 (off := 0) (fun _ => kf) (holds_own (.there (.there .here))) kf) ?_
    refine dp 11 32 (.bool (decide ((nth v0_3x v1_6) < (nth (nthR tc.wait v0_12) 0)))) ?_
    refine dp 12 33 (.bool (decide ((nth v0_3x v1_6) < (nth (nthR tc.wait v0_12) 0)))) ?_
    refine draw_end kf ?_
    refine ae [(0, .pointer (some ⟨t, 10, none⟩)), (3, .slice v0_3a (List.length v0_3x) v0_3c), (5, .pointer (some ⟨b4_2, 0, none⟩)), (6, iv v1_6), (10, .slice tx.a11 (List.length tc.wait) tx.c11), (11, iv (((List.length tc.wait) : Nat) : Int)), (12, iv v0_12), (33, .bool (decide ((nth v0_3x v1_6) < (nth (nthR tc.wait v0_12) 0))))] ?_
    refine at_then_normal ?_
    rcases Bool.eq_false_or_eq_true (decide ((nth v0_3x v1_6) < (nth (nthR tc.wait v0_12) 0))) with h4 | h4
    ·replace H := bifT H h4
     refine at_true (t := decide ((nth v0_3x v1_6) < (nth (nthR tc.wait v0_12) 0))) (x := C35 [1,1,0,1,0,0,1,1,0,0,1,1,1,0,0,0,0,1,0]) (y := C35 [1,1,0,1,0,0,1,1,0,0,1,1,1,0,0,0,0,1,1]) (o := .tmp 33) kf kf kf h4 ?_
     refine at_skip kf ?_
     refine at_then_normal ?_
     refine at_block (i := 3) (x := C35 [1,1,0,1,0,0,1,1,0,0,1,1,1,0,0,0,1,0]) kf ?_
     refine ar (id := 8) 3 ?_
     refine sp 34 (iv v1_6) ?_
     obtain ⟨hc8_1_0, H⟩ := chkE H
     refine sr 35 (iv (v1_6 + (1 : Int))) (run_eq (v := iv (IntKind.i64.wrap (v1_6 + (1 : Int)))) (fun _ => kf) (by rw [inR.wrap hc8_1_0])) ?_
     refine sp 6 (iv (v1_6 + (1 : Int))) ?_
     refine ops_end ?_
     refine ae [(0, .pointer (some ⟨t, 10, none⟩)), (3, .slice v0_3a (List.length v0_3x) v0_3c), (5, .pointer (some ⟨b4_2, 0, none⟩)), (6, iv (v1_6 + (1 : Int))), (10, .slice tx.a11 (List.length tc.wait) tx.c11), (11, iv (((List.length tc.wait) : Nat) : Int)), (12, iv v0_12)] ?_
     refine at_in_normal ?_
     refine at_round_normal ?_
     exact at_roundR fuel2 [(0, .pointer (some ⟨t, 10, none⟩)), (3, .slice v0_3a (List.length v0_3x) v0_3c), (5, .pointer (some ⟨b4_2, 0, none⟩)), (6, iv (v1_6 + (1 : Int))), (10, .slice tx.a11 (List.length tc.wait) tx.c11), (11, iv (((List.length tc.wait) : Nat) : Int)), (12, iv v0_12)] ((HomesXA t tx tc) :: (ImmI tx.a7 tc.c.init) :: (Asn.own b4_2 (.cells #[iv (nth (nthR tc.wait v0_12) 0), iv (nth (nthR tc.wait v0_12) 1), iv (nth (nthR tc.wait v0_12) 2)] 108 (0, 0))) :: (IntsA v0_3a v0_3c v0_3x) :: (ImmI tx.a7 tc.c.init) :: Γ) (Nat.lt_succ_self _) ⟨kf, kf, kf, kf, kf, kf, kf, trivial⟩ (fun w hw => (Sat.less (.take .here (.take .here (.take .here (.take .here (.take .here .refl))))) hw)) ⟨fuel2, v1_6 + (1 : Int), H, rfl, rfl, rfl⟩
    ·replace H := bifF H h4
     refine at_false (t := decide ((nth v0_3x v1_6) < (nth (nthR tc.wait v0_12) 0))) (x := C35 [1,1,0,1,0,0,1,1,0,0,1,1,1,0,0,0,0,1,0]) (y := C35 [1,1,0,1,0,0,1,1,0,0,1,1,1,0,0,0,0,1,1]) (o := .tmp 33) kf kf kf h4 ?_
     refine at_exit (i := 2) kf ?_
     refine at_then_exit ?_
     refine at_then_exit ?_
     rw [qreadyS_k1] at H
     refine ae [(0, .pointer (some ⟨t, 10, none⟩)), (3, .slice v0_3a (List.length v0_3x) v0_3c), (5, .pointer (some ⟨b4_2, 0, none⟩)), (6, iv v1_6), (10, .slice tx.a11 (List.length tc.wait) tx.c11), (11, iv (((List.length tc.wait) : Nat) : Int)), (12, iv v0_12)] ?_
     refine At.conv (Γ' := (HomesXA t tx tc) :: (ImmI tx.a7 tc.c.init) :: (Asn.own b4_2 (.cells #[iv (nth (nthR tc.wait v0_12) 0), iv (nth (nthR tc.wait v0_12) 1), iv (nth (nthR tc.wait v0_12) 2)] 108 (0, 0))) :: (IntsA v0_3a v0_3c v0_3x) :: (ImmI tx.a7 tc.c.init) :: Γ) (fun w hw => (Sat.less (.take .here (.take .here (.take .here (.take .here (.take .here .refl))))) hw)) ?_
     refine at_in_here ?_
     refine at_then_normal ?_
     refine aq (x := C35 [1,1,0,1,0,0,1,1,0,0,1,1,1,1,0]) (y := C35 [1,1,0,1,0,0,1,1,0,0,1,1,1,1,1]) ?_
     refine at_region_draw (id := 9) kf kf ?_
     refine dp 0 36 (iv v1_6) ?_
     refine dp 1 37 (.slice v0_3a (List.length v0_3x) v0_3c) ?_
     refine dp 2 38 (iv (((List.length v0_3x) : Nat) : Int)) ?_
     refine dp 3 39 (.bool (decide (v1_6 = (((List.length v0_3x) : Nat) : Int)))) ?_
     rcases Bool.eq_false_or_eq_true (decide (v1_6 = (((List.length v0_3x) : Nat) : Int))) with h5 | h5
     ·replace H := bifT H h5
      refine d_pure 4 40 (.bool true) kf kf kf (run_eq (v := .bool (decide (v1_6 = (((List.length v0_3x) : Nat) : Int)))) (fun _ => kf) (congrArg Value.bool h5)) ?_
      refine d_off 5 41 kf kf kf ?_
      refine d_off 6 42 kf kf kf ?_
      refine d_off 7 43 kf kf kf ?_
      refine d_off 8 44 kf kf kf ?_
      refine d_off 9 45 kf kf kf ?_
      refine d_off 10 46 kf kf kf ?_
      refine d_off 11 47 kf kf kf ?_
      refine dp 12 48 (.bool true) ?_
      refine draw_end kf ?_
      refine ae [(0, .pointer (some ⟨t, 10, none⟩)), (3, .slice v0_3a (List.length v0_3x) v0_3c), (5, .pointer (some ⟨b4_2, 0, none⟩)), (6, iv v1_6), (10, .slice tx.a11 (List.length tc.wait) tx.c11), (11, iv (((List.length tc.wait) : Nat) : Int)), (12, iv v0_12), (48, .bool true)] ?_
      refine at_then_normal ?_
      refine at_true (t := true) (x := C35 [1,1,0,1,0,0,1,1,0,0,1,1,1,1,1,0]) (y := C35 [1,1,0,1,0,0,1,1,0,0,1,1,1,1,1,1]) (o := .tmp 48) kf kf kf rfl ?_
      refine at_region_draw (id := 10) kf kf ?_
      refine dp 0 49 (.slice v0_3a (List.length v0_3x) v0_3c) ?_
      refine dp 1 50 (iv v1_6) ?_
      refine dp 2 51 (iv v1_6) ?_
      obtain ⟨hc10_3_0, H⟩ := chkE H
      obtain ⟨l10_3, hl10_3, H⟩ := letE H
      refine Draw.known (p := (List.length v0_3x) ≤ v0_3c) (fun w hw => by have := (RowsA.len (hw.pull (.there (.there (.there .here))))).2; simpa using this) ?_
      intro hcap1
      have hcapl10_3 : (List.length v0_3x) ≤ v0_3c := hcap1
      have hcl10_3 := hc10_3_0
      obtain ⟨a10_3, ha10_3⟩ : ∃ y : Option Addr, y = (if (v1_6).toNat = 0 then v0_3a else Option.map (fun x => Addr.add x (0 * 1)) v0_3a) := ⟨_, rfl⟩
      have hrl10_3 : Reads W0 ((HomesXA t tx tc) :: (ImmI tx.a7 tc.c.init) :: (Asn.own b4_2 (.cells #[iv (nth (nthR tc.wait v0_12) 0), iv (nth (nthR tc.wait v0_12) 1), iv (nth (nthR tc.wait v0_12) 2)] 108 (0, 0))) :: (IntsA v0_3a v0_3c v0_3x) :: (ImmI tx.a7 tc.c.init) :: Γ) a10_3 (ints l10_3) := by rw [ha10_3, ← hl10_3]; exact Reads.part (lo := 0) (hi := (v1_6).toNat) (RowsA.reads (k := 1) (.there (.there (.there .here)))) rfl (by omega)
      refine d_pure 3 52 (.slice a10_3 (List.length l10_3) ((v1_6).toNat - 0)) kf kf kf (run_eq (slice_at (t := 22) (lo := 0) (hi := (v1_6).toNat) (mx := (v1_6).toNat) (sz := 1) (E := 3) (a := v0_3a) (m := (List.length v0_3x)) (c := v0_3c) none (some (iv v1_6)) (some (iv v1_6)) (tinfo 3) (fun _ => kf) kf kf kf (Or.inl ⟨rfl, rfl⟩) (Or.inr ⟨_, rfl, by omega⟩) (Or.inr ⟨_, rfl, by omega⟩) (by omega) (by omega) (by omega)) (by rw [← ha10_3, show (v1_6).toNat - 0 = List.length l10_3 from by rw [← hl10_3]; simp only [List.length_take, List.length_drop]; omega])) ?_
      refine dp 4 53 (.pointer (some ⟨b4_2, 0, none⟩)) ?_
      refine dl 5 54 (iv (nth (nthR tc.wait v0_12) 0)) (load1 (off := 0) (fun _ => kf) (holds_own (.there (.there .here))) kf) ?_
      refine dp 7 56 (.slice v0_3a (List.length v0_3x) v0_3c) ?_
      refine dp 8 57 (iv v1_6) ?_
      obtain ⟨hc10_9_0, H⟩ := chkE H
      obtain ⟨l10_9, hl10_9, H⟩ := letE H
      refine Draw.known (p := (List.length v0_3x) ≤ v0_3c) (fun w hw => by have := (RowsA.len (hw.pull (.there (.there (.there .here))))).2; simpa using this) ?_
      intro hcap2
      have hcapl10_9 : (List.length v0_3x) ≤ v0_3c := hcap2
      have hcl10_9 := hc10_9_0
      obtain ⟨a10_9, ha10_9⟩ : ∃ y : Option Addr, y = (if v0_3c = (v1_6).toNat then v0_3a else Option.map (fun x => Addr.add x ((v1_6).toNat * 1)) v0_3a) := ⟨_, rfl⟩
      have hrl10_9 : Reads W0 ((HomesXA t tx tc) :: (ImmI tx.a7 tc.c.init) :: (Asn.own b4_2 (.cells #[iv (nth (nthR tc.wait v0_12) 0), iv (nth (nthR tc.wait v0_12) 1), iv (nth (nthR tc.wait v0_12) 2)] 108 (0, 0))) :: (IntsA v0_3a v0_3c v0_3x) :: (ImmI tx.a7 tc.c.init) :: Γ) a10_9 (ints l10_9) := by rw [ha10_9, ← hl10_9]; exact Reads.part (lo := (v1_6).toNat) (hi := (List.length v0_3x)) (RowsA.reads (k := 1) (.there (.there (.there .here)))) rfl (by omega)
      refine d_pure 9 58 (.slice a10_9 (List.length l10_9) (v0_3c - (v1_6).toNat)) kf kf kf (run_eq (slice_at (t := 22) (lo := (v1_6).toNat) (hi := (List.length v0_3x)) (mx := v0_3c) (sz := 1) (E := 3) (a := v0_3a) (m := (List.length v0_3x)) (c := v0_3c) (some (iv v1_6)) none none (tinfo 3) (fun _ => kf) kf kf kf (Or.inr ⟨_, rfl, by omega⟩) (Or.inl ⟨rfl, rfl, rfl⟩) (Or.inl ⟨rfl, rfl⟩) (by omega) (by omega) (by omega)) (by rw [← ha10_9, show (List.length v0_3x) - (v1_6).toNat = List.length l10_9 from by rw [← hl10_9]; simp only [List.length_take, List.length_drop]; omega])) ?_
      obtain ⟨l10_6, hl10_6, H⟩ := letE H
      refine d_step 6 55 [5, 4] [9, 8, 7, 3, 2, 1, 0] [] kf kf kf (st_new_ints (T := 3) (xs := l10_6) 1 hl10_6 (fun _ => kf) kf) ?_
      rintro _ _ ⟨b10_6, rfl, rfl⟩
      refine ⟨stable_nil, ?_⟩
      obtain ⟨hc10_10_0, H⟩ := chkE H
      obtain ⟨l10_10, hl10_10, H⟩ := letE H
      refine d_step 10 59 [6, 9, 5, 7, 8, 4] [3, 2, 1, 0] [] kf kf kf (st_append_ints (xs := l10_6) (ys := l10_9) (zs := l10_10) (m1 := (List.length l10_6)) (m2 := (List.length l10_9)) (m := List.length l10_10) (cap2 := (v0_3c - (v1_6).toNat)) 22 22 3 (tinfo 3) (fun _ => kf) kf kf kf kf kf .here (Reads.conv (fun w hw => hw.less (.take (.there .here) (.take (.there .here) (.take (.there .here) (.take (.there .here) (.take (.there .here) (.drop .here .refl))))))) hrl10_9) (by first | rfl | simp) (by first | rfl | simp) (by rw [← hl10_10]; first | done | simp) (by rw [← hl10_10]; first | done | simp) (by rw [← hl10_10]; exact hc10_10_0)) ?_
      rintro _ _ ⟨a10_10, c10_10, rfl, rfl⟩
      refine ⟨stable_nil, ?_⟩
      obtain ⟨hc10_11_0, H⟩ := chkE H
      obtain ⟨l10_11, hl10_11, H⟩ := letE H
      refine d_step 11 60 [3, 10, 0, 1, 2, 6, 9, 5, 7, 8, 4] [] [] kf kf kf (StepTo.conv (fun w hw => ints_shrink (hi := (v1_6).toNat) (mx := (v1_6).toNat) ha10_3 hl10_3 (by omega) (by omega) (Sat.less (.take (.there (.there (.there (.there .here)))) (.take .here (.take .here (.take .here (.take .here (.take .here .refl)))))) hw)) (st_append_ints (xs := l10_3) (ys := l10_10) (zs := l10_11) (m1 := (List.length l10_3)) (m2 := (List.length l10_10)) (m := List.length l10_11) (cap2 := c10_10) 22 22 3 (tinfo 3) (fun _ => kf) kf kf kf kf kf .here (RowsA.reads (k := 1) (.there .here)) (by first | rfl | simp) (by first | rfl | simp) (by rw [← hl10_11]; first | done | simp) (by rw [← hl10_11]; first | done | simp) (by rw [← hl10_11]; exact hc10_11_0))) ?_
      rintro _ _ ⟨a10_11, c10_11, rfl, rfl⟩
      refine ⟨stable_nil, ?_⟩
      refine dp 12 3 (.slice a10_11 (List.length l10_11) c10_11) ?_
      refine draw_end kf ?_
      refine ae [(0, .pointer (some ⟨t, 10, none⟩)), (3, .slice a10_11 (List.length l10_11) c10_11), (10, .slice tx.a11 (List.length tc.wait) tx.c11), (11, iv (((List.length tc.wait) : Nat) : Int)), (12, iv v0_12)] ?_
      refine at_in_normal ?_
      refine at_then_normal ?_
      refine ar (id := 11) 2 ?_
      obtain ⟨hc11_0_0, H⟩ := chkE H
      refine sr 61 (iv (v0_12 + (1 : Int))) (run_eq (v := iv (IntKind.i64.wrap (v0_12 + (1 : Int)))) (fun _ => kf) (by rw [inR.wrap hc11_0_0])) ?_
      refine sp 12 (iv (v0_12 + (1 : Int))) ?_
      refine ops_end ?_
      refine ae [(0, .pointer (some ⟨t, 10, none⟩)), (3, .slice a10_11 (List.length l10_11) c10_11), (10, .slice tx.a11 (List.length tc.wait) tx.c11), (11, iv (((List.length tc.wait) : Nat) : Int)), (12, iv (v0_12 + (1 : Int)))] ?_
      refine at_round_normal ?_
      exact at_roundR fuel1 [(0, .pointer (some ⟨t, 10, none⟩)), (3, .slice a10_11 (List.length l10_11) c10_11), (10, .slice tx.a11 (List.length tc.wait) tx.c11), (11, iv (((List.length tc.wait) : Nat) : Int)), (12, iv (v0_12 + (1 : Int)))] ((IntsA a10_11 c10_11 l10_11) :: (HomesXA t tx tc) :: (ImmI tx.a7 tc.c.init) :: Γ) (Nat.lt_succ_self _) ⟨kf, kf, kf, kf, kf, trivial⟩ (fun w hw => (Sat.less (.take .here (.take (.there .here) (.take (.there .here) (.drop .here (.drop .here (.drop .here .refl)))))) hw)) ⟨fuel1, l10_11, v0_12 + (1 : Int), a10_11, c10_11, H, rfl, rfl, rfl⟩
     ·replace H := bifF H h5
      refine d_pure 4 40 (.bool false) kf kf kf (run_eq (v := .bool (decide (v1_6 = (((List.length v0_3x) : Nat) : Int)))) (fun _ => kf) (congrArg Value.bool h5)) ?_
      refine dp 5 41 (.slice v0_3a (List.length v0_3x) v0_3c) ?_
      refine dp 6 42 (iv v1_6) ?_
      obtain ⟨hc9_7_0, H⟩ := chkE H
      refine rows_at_draw (.there (.there (.there .here))) (by have := hc9_7_0; simp only [ints_length]; omega) ?_
      intro bb3 oo3 ha3
      refine d_pure 7 43 (.pointer (some ⟨bb3, oo3 + ((v1_6).toNat * 1 + 0), none⟩)) kf kf kf (index_at (t := 22) (sz := 1) (E := 3) (a := v0_3a) (m := (List.length v0_3x)) (c := v0_3c) (b := bb3) (off := oo3) (i := (v1_6).toNat) (tinfo 3) (fun _ => kf) kf kf kf ha3 (idx_cast hc9_7_0) (idx_nat hc9_7_0) rfl) ?_
      refine dl 8 44 (iv (nth v0_3x v1_6)) (load1_at (off := oo3 + ((v1_6).toNat * 1 + 0)) (v := iv (nth v0_3x v1_6)) (fun _ => kf) rfl (reads_cell (k := 1) (RowsA.reads (k := 1) (.there (.there (.there .here)))) (ints_rows _) ha3 (nth_row hc9_7_0) (show [(iv (nth v0_3x v1_6) : Value)][0]? = some _ from rfl))) ?_
      refine dp 9 45 (.pointer (some ⟨b4_2, 0, none⟩)) ?_
      refine dl 10 46 (iv (nth (nthR tc.wait v0_12) 0)) (load1 (off := 0) (fun _ => kf) (holds_own (.there (.there .here))) kf) ?_
      refine dp 11 47 (.bool (!(decide ((nth v0_3x v1_6) = (nth (nthR tc.wait v0_12) 0))))) ?_
      refine dp 12 48 (.bool (!(decide ((nth v0_3x v1_6) = (nth (nthR tc.wait v0_12) 0))))) ?_
      refine draw_end kf ?_
      refine ae [(0, .pointer (some ⟨t, 10, none⟩)), (3, .slice v0_3a (List.length v0_3x) v0_3c), (5, .pointer (some ⟨b4_2, 0, none⟩)), (6, iv v1_6), (10, .slice tx.a11 (List.length tc.wait) tx.c11), (11, iv (((List.length tc.wait) : Nat) : Int)), (12, iv v0_12), (48, .bool (!(decide ((nth v0_3x v1_6) = (nth (nthR tc.wait v0_12) 0)))))] ?_
      refine at_then_normal ?_
      rcases Bool.eq_false_or_eq_true (!(decide ((nth v0_3x v1_6) = (nth (nthR tc.wait v0_12) 0)))) with h6 | h6
      ·replace H := bifT H h6
       refine at_true (t := !(decide ((nth v0_3x v1_6) = (nth (nthR tc.wait v0_12) 0)))) (x := C35 [1,1,0,1,0,0,1,1,0,0,1,1,1,1,1,0]) (y := C35 [1,1,0,1,0,0,1,1,0,0,1,1,1,1,1,1]) (o := .tmp 48) kf kf kf h6 ?_
       refine at_region_draw (id := 10) kf kf ?_
       refine dp 0 49 (.slice v0_3a (List.length v0_3x) v0_3c) ?_
       refine dp 1 50 (iv v1_6) ?_
       refine dp 2 51 (iv v1_6) ?_
       obtain ⟨hc10_3_0, H⟩ := chkE H
       obtain ⟨l10_3, hl10_3, H⟩ := letE H
       refine Draw.known (p := (List.length v0_3x) ≤ v0_3c) (fun w hw => by have := (RowsA.len (hw.pull (.there (.there (.there .here))))).2; simpa using this) ?_
       intro hcap3
       have hcapl10_3 : (List.length v0_3x) ≤ v0_3c := hcap3
       have hcl10_3 := hc10_3_0
       obtain ⟨a10_3, ha10_3⟩ : ∃ y : Option Addr, y = (if (v1_6).toNat = 0 then v0_3a else Option.map (fun x => Addr.add x (0 * 1)) v0_3a) := ⟨_, rfl⟩
       have hrl10_3 : Reads W0 ((HomesXA t tx tc) :: (ImmI tx.a7 tc.c.init) :: (Asn.own b4_2 (.cells #[iv (nth (nthR tc.wait v0_12) 0), iv (nth (nthR tc.wait v0_12) 1), iv (nth (nthR tc.wait v0_12) 2)] 108 (0, 0))) :: (IntsA v0_3a v0_3c v0_3x) :: (ImmI tx.a7 tc.c.init) :: Γ) a10_3 (ints l10_3) := by rw [ha10_3, ← hl10_3]; exact Reads.part (lo := 0) (hi := (v1_6).toNat) (RowsA.reads (k := 1) (.there (.there (.there .here)))) rfl (by omega)
       refine d_pure 3 52 (.slice a10_3 (List.length l10_3) ((v1_6).toNat - 0)) kf kf kf (run_eq (slice_at (t := 22) (lo := 0) (hi := (v1_6).toNat) (mx := (v1_6).toNat) (sz := 1) (E := 3) (a := v0_3a) (m := (List.length v0_3x)) (c := v0_3c) none (some (iv v1_6)) (some (iv v1_6)) (tinfo 3) (fun _ => kf) kf kf kf (Or.inl ⟨rfl, rfl⟩) (Or.inr ⟨_, rfl, by omega⟩) (Or.inr ⟨_, rfl, by omega⟩) (by omega) (by omega) (by omega)) (by rw [← ha10_3, show (v1_6).toNat - 0 = List.length l10_3 from by rw [← hl10_3]; simp only [List.length_take, List.length_drop]; omega])) ?_
       refine dp 4 53 (.pointer (some ⟨b4_2, 0, none⟩)) ?_
       refine dl 5 54 (iv (nth (nthR tc.wait v0_12) 0)) (load1 (off := 0) (fun _ => kf) (holds_own (.there (.there .here))) kf) ?_
       refine dp 7 56 (.slice v0_3a (List.length v0_3x) v0_3c) ?_
       refine dp 8 57 (iv v1_6) ?_
       obtain ⟨hc10_9_0, H⟩ := chkE H
       obtain ⟨l10_9, hl10_9, H⟩ := letE H
       refine Draw.known (p := (List.length v0_3x) ≤ v0_3c) (fun w hw => by have := (RowsA.len (hw.pull (.there (.there (.there .here))))).2; simpa using this) ?_
       intro hcap4
       have hcapl10_9 : (List.length v0_3x) ≤ v0_3c := hcap4
       have hcl10_9 := hc10_9_0
       obtain ⟨a10_9, ha10_9⟩ : ∃ y : Option Addr, y = (if v0_3c = (v1_6).toNat then v0_3a else Option.map (fun x => Addr.add x ((v1_6).toNat * 1)) v0_3a) := ⟨_, rfl⟩
       have hrl10_9 : Reads W0 ((HomesXA t tx tc) :: (ImmI tx.a7 tc.c.init) :: (Asn.own b4_2 (.cells #[iv (nth (nthR tc.wait v0_12) 0), iv (nth (nthR tc.wait v0_12) 1), iv (nth (nthR tc.wait v0_12) 2)] 108 (0, 0))) :: (IntsA v0_3a v0_3c v0_3x) :: (ImmI tx.a7 tc.c.init) :: Γ) a10_9 (ints l10_9) := by rw [ha10_9, ← hl10_9]; exact Reads.part (lo := (v1_6).toNat) (hi := (List.length v0_3x)) (RowsA.reads (k := 1) (.there (.there (.there .here)))) rfl (by omega)
       refine d_pure 9 58 (.slice a10_9 (List.length l10_9) (v0_3c - (v1_6).toNat)) kf kf kf (run_eq (slice_at (t := 22) (lo := (v1_6).toNat) (hi := (List.length v0_3x)) (mx := v0_3c) (sz := 1) (E := 3) (a := v0_3a) (m := (List.length v0_3x)) (c := v0_3c) (some (iv v1_6)) none none (tinfo 3) (fun _ => kf) kf kf kf (Or.inr ⟨_, rfl, by omega⟩) (Or.inl ⟨rfl, rfl, rfl⟩) (Or.inl ⟨rfl, rfl⟩) (by omega) (by omega) (by omega)) (by rw [← ha10_9, show (List.length v0_3x) - (v1_6).toNat = List.length l10_9 from by rw [← hl10_9]; simp only [List.length_take, List.length_drop]; omega])) ?_
       obtain ⟨l10_6, hl10_6, H⟩ := letE H
       refine d_step 6 55 [5, 4] [9, 8, 7, 3, 2, 1, 0] [] kf kf kf (st_new_ints (T := 3) (xs := l10_6) 1 hl10_6 (fun _ => kf) kf) ?_
       rintro _ _ ⟨b10_6, rfl, rfl⟩
       refine ⟨stable_nil, ?_⟩
       obtain ⟨hc10_10_0, H⟩ := chkE H
       obtain ⟨l10_10, hl10_10, H⟩ := letE H
       refine d_step 10 59 [6, 9, 5, 7, 8, 4] [3, 2, 1, 0] [] kf kf kf (st_append_ints (xs := l10_6) (ys := l10_9) (zs := l10_10) (m1 := (List.length l10_6)) (m2 := (List.length l10_9)) (m := List.length l10_10) (cap2 := (v0_3c - (v1_6).toNat)) 22 22 3 (tinfo 3) (fun _ => kf) kf kf kf kf kf .here (Reads.conv (fun w hw => hw.less (.take (.there .here) (.take (.there .here) (.take (.there .here) (.take (.there .here) (.take (.there .here) (.drop .here .refl))))))) hrl10_9) (by first | rfl | simp) (by first | rfl | simp) (by rw [← hl10_10]; first | done | simp) (by rw [← hl10_10]; first | done | simp) (by rw [← hl10_10]; exact hc10_10_0)) ?_
       rintro _ _ ⟨a10_10, c10_10, rfl, rfl⟩
       refine ⟨stable_nil, ?_⟩
       obtain ⟨hc10_11_0, H⟩ := chkE H
       obtain ⟨l10_11, hl10_11, H⟩ := letE H
       refine d_step 11 60 [3, 10, 0, 1, 2, 6, 9, 5, 7, 8, 4] [] [] kf kf kf (StepTo.conv (fun w hw => ints_shrink (hi := (v1_6).toNat) (mx := (v1_6).toNat) ha10_3 hl10_3 (by omega) (by omega) (Sat.less (.take (.there (.there (.there (.there .here)))) (.take .here (.take .here (.take .here (.take .here (.take .here .refl)))))) hw)) (st_append_ints (xs := l10_3) (ys := l10_10) (zs := l10_11) (m1 := (List.length l10_3)) (m2 := (List.length l10_10)) (m := List.length l10_11) (cap2 := c10_10) 22 22 3 (tinfo 3) (fun _ => kf) kf kf kf kf kf .here (RowsA.reads (k := 1) (.there .here)) (by first | rfl | simp) (by first | rfl | simp) (by rw [← hl10_11]; first | done | simp) (by rw [← hl10_11]; first | done | simp) (by rw [← hl10_11]; exact hc10_11_0))) ?_
       rintro _ _ ⟨a10_11, c10_11, rfl, rfl⟩
       refine ⟨stable_nil, ?_⟩
       refine dp 12 3 (.slice a10_11 (List.length l10_11) c10_11) ?_
       refine draw_end kf ?_
       refine ae [(0, .pointer (some ⟨t, 10, none⟩)), (3, .slice a10_11 (List.length l10_11) c10_11), (10, .slice tx.a11 (List.length tc.wait) tx.c11), (11, iv (((List.length tc.wait) : Nat) : Int)), (12, iv v0_12)] ?_
       refine at_in_normal ?_
       refine at_then_normal ?_
       refine ar (id := 11) 2 ?_
       obtain ⟨hc11_0_0, H⟩ := chkE H
       refine sr 61 (iv (v0_12 + (1 : Int))) (run_eq (v := iv (IntKind.i64.wrap (v0_12 + (1 : Int)))) (fun _ => kf) (by rw [inR.wrap hc11_0_0])) ?_
       refine sp 12 (iv (v0_12 + (1 : Int))) ?_
       refine ops_end ?_
       refine ae [(0, .pointer (some ⟨t, 10, none⟩)), (3, .slice a10_11 (List.length l10_11) c10_11), (10, .slice tx.a11 (List.length tc.wait) tx.c11), (11, iv (((List.length tc.wait) : Nat) : Int)), (12, iv (v0_12 + (1 : Int)))] ?_
       refine at_round_normal ?_
       exact at_roundR fuel1 [(0, .pointer (some ⟨t, 10, none⟩)), (3, .slice a10_11 (List.length l10_11) c10_11), (10, .slice tx.a11 (List.length tc.wait) tx.c11), (11, iv (((List.length tc.wait) : Nat) : Int)), (12, iv (v0_12 + (1 : Int)))] ((IntsA a10_11 c10_11 l10_11) :: (HomesXA t tx tc) :: (ImmI tx.a7 tc.c.init) :: Γ) (Nat.lt_succ_self _) ⟨kf, kf, kf, kf, kf, trivial⟩ (fun w hw => (Sat.less (.take .here (.take (.there .here) (.take (.there .here) (.drop .here (.drop .here (.drop .here .refl)))))) hw)) ⟨fuel1, l10_11, v0_12 + (1 : Int), a10_11, c10_11, H, rfl, rfl, rfl⟩
      ·replace H := bifF H h6
       refine at_false (t := !(decide ((nth v0_3x v1_6) = (nth (nthR tc.wait v0_12) 0)))) (x := C35 [1,1,0,1,0,0,1,1,0,0,1,1,1,1,1,0]) (y := C35 [1,1,0,1,0,0,1,1,0,0,1,1,1,1,1,1]) (o := .tmp 48) kf kf kf h6 ?_
       refine at_skip kf ?_
       refine at_in_normal ?_
       refine at_then_normal ?_
       refine ar (id := 11) 2 ?_
       obtain ⟨hc11_0_0, H⟩ := chkE H
       refine sr 61 (iv (v0_12 + (1 : Int))) (run_eq (v := iv (IntKind.i64.wrap (v0_12 + (1 : Int)))) (fun _ => kf) (by rw [inR.wrap hc11_0_0])) ?_
       refine sp 12 (iv (v0_12 + (1 : Int))) ?_
       refine ops_end ?_
       refine ae [(0, .pointer (some ⟨t, 10, none⟩)), (3, .slice v0_3a (List.length v0_3x) v0_3c), (10, .slice tx.a11 (List.length tc.wait) tx.c11), (11, iv (((List.length tc.wait) : Nat) : Int)), (12, iv (v0_12 + (1 : Int)))] ?_
       refine at_round_normal ?_
       exact at_roundR fuel1 [(0, .pointer (some ⟨t, 10, none⟩)), (3, .slice v0_3a (List.length v0_3x) v0_3c), (10, .slice tx.a11 (List.length tc.wait) tx.c11), (11, iv (((List.length tc.wait) : Nat) : Int)), (12, iv (v0_12 + (1 : Int)))] ((IntsA v0_3a v0_3c v0_3x) :: (HomesXA t tx tc) :: (ImmI tx.a7 tc.c.init) :: Γ) (Nat.lt_succ_self _) ⟨kf, kf, kf, kf, kf, trivial⟩ (fun w hw => (Sat.less (.take (.there (.there (.there .here))) (.take .here (.take .here (.drop .here (.drop .here .refl))))) hw)) ⟨fuel1, v0_3x, v0_12 + (1 : Int), v0_3a, v0_3c, H, rfl, rfl, rfl⟩
   ·replace H := bifF H h3
    refine d_pure 4 25 (.bool false) kf kf kf (run_eq (v := .bool (decide (v1_6 < (((List.length v0_3x) : Nat) : Int)))) (fun _ => kf) (congrArg Value.bool h3)) ?_
    refine d_off 5 26 kf kf kf ?_
    refine d_off 6 27 kf kf kf ?_
    refine d_off 7 28 kf kf kf ?_
    refine d_off 8 29 kf kf kf ?_
    refine d_off 9 30 kf kf kf ?_
    refine d_off 10 31 kf kf kf ?_
    refine d_off 11 32 kf kf kf ?_
    refine dp 12 33 (.bool false) ?_
    refine draw_end kf ?_
    refine ae [(0, .pointer (some ⟨t, 10, none⟩)), (3, .slice v0_3a (List.length v0_3x) v0_3c), (5, .pointer (some ⟨b4_2, 0, none⟩)), (6, iv v1_6), (10, .slice tx.a11 (List.length tc.wait) tx.c11), (11, iv (((List.length tc.wait) : Nat) : Int)), (12, iv v0_12), (33, .bool false)] ?_
    refine at_then_normal ?_
    refine at_false (t := false) (x := C35 [1,1,0,1,0,0,1,1,0,0,1,1,1,0,0,0,0,1,0]) (y := C35 [1,1,0,1,0,0,1,1,0,0,1,1,1,0,0,0,0,1,1]) (o := .tmp 33) kf kf kf rfl ?_
    refine at_exit (i := 2) kf ?_
    refine at_then_exit ?_
    refine at_then_exit ?_
    rw [qreadyS_k1] at H
    refine ae [(0, .pointer (some ⟨t, 10, none⟩)), (3, .slice v0_3a (List.length v0_3x) v0_3c), (5, .pointer (some ⟨b4_2, 0, none⟩)), (6, iv v1_6), (10, .slice tx.a11 (List.length tc.wait) tx.c11), (11, iv (((List.length tc.wait) : Nat) : Int)), (12, iv v0_12)] ?_
    refine At.conv (Γ' := (HomesXA t tx tc) :: (ImmI tx.a7 tc.c.init) :: (Asn.own b4_2 (.cells #[iv (nth (nthR tc.wait v0_12) 0), iv (nth (nthR tc.wait v0_12) 1), iv (nth (nthR tc.wait v0_12) 2)] 108 (0, 0))) :: (IntsA v0_3a v0_3c v0_3x) :: (ImmI tx.a7 tc.c.init) :: Γ) (fun w hw => (Sat.less (.take .here (.take .here (.take .here (.take .here (.take .here .refl))))) hw)) ?_
    refine at_in_here ?_
    refine at_then_normal ?_
    refine aq (x := C35 [1,1,0,1,0,0,1,1,0,0,1,1,1,1,0]) (y := C35 [1,1,0,1,0,0,1,1,0,0,1,1,1,1,1]) ?_
    refine at_region_draw (id := 9) kf kf ?_
    refine dp 0 36 (iv v1_6) ?_
    refine dp 1 37 (.slice v0_3a (List.length v0_3x) v0_3c) ?_
    refine dp 2 38 (iv (((List.length v0_3x) : Nat) : Int)) ?_
    refine dp 3 39 (.bool (decide (v1_6 = (((List.length v0_3x) : Nat) : Int)))) ?_
    rcases Bool.eq_false_or_eq_true (decide (v1_6 = (((List.length v0_3x) : Nat) : Int))) with h7 | h7
    ·replace H := bifT H h7
     refine d_pure 4 40 (.bool true) kf kf kf (run_eq (v := .bool (decide (v1_6 = (((List.length v0_3x) : Nat) : Int)))) (fun _ => kf) (congrArg Value.bool h7)) ?_
     refine d_off 5 41 kf kf kf ?_
     refine d_off 6 42 kf kf kf ?_
     refine d_off 7 43 kf kf kf ?_
     refine d_off 8 44 kf kf kf ?_
     refine d_off 9 45 kf kf kf ?_
     refine d_off 10 46 kf kf kf ?_
     refine d_off 11 47 kf kf kf ?_
     refine dp 12 48 (.bool true) ?_
     refine draw_end kf ?_
     refine ae [(0, .pointer (some ⟨t, 10, none⟩)), (3, .slice v0_3a (List.length v0_3x) v0_3c), (5, .pointer (some ⟨b4_2, 0, none⟩)), (6, iv v1_6), (10, .slice tx.a11 (List.length tc.wait) tx.c11), (11, iv (((List.length tc.wait) : Nat) : Int)), (12, iv v0_12), (48, .bool true)] ?_
     refine at_then_normal ?_
     refine at_true (t := true) (x := C35 [1,1,0,1,0,0,1,1,0,0,1,1,1,1,1,0]) (y := C35 [1,1,0,1,0,0,1,1,0,0,1,1,1,1,1,1]) (o := .tmp 48) kf kf kf rfl ?_
     refine at_region_draw (id := 10) kf kf ?_
     refine dp 0 49 (.slice v0_3a (List.length v0_3x) v0_3c) ?_
     refine dp 1 50 (iv v1_6) ?_
     refine dp 2 51 (iv v1_6) ?_
     obtain ⟨hc10_3_0, H⟩ := chkE H
     obtain ⟨l10_3, hl10_3, H⟩ := letE H
     refine Draw.known (p := (List.length v0_3x) ≤ v0_3c) (fun w hw => by have := (RowsA.len (hw.pull (.there (.there (.there .here))))).2; simpa using this) ?_
     intro hcap5
     have hcapl10_3 : (List.length v0_3x) ≤ v0_3c := hcap5
     have hcl10_3 := hc10_3_0
     obtain ⟨a10_3, ha10_3⟩ : ∃ y : Option Addr, y = (if (v1_6).toNat = 0 then v0_3a else Option.map (fun x => Addr.add x (0 * 1)) v0_3a) := ⟨_, rfl⟩
     have hrl10_3 : Reads W0 ((HomesXA t tx tc) :: (ImmI tx.a7 tc.c.init) :: (Asn.own b4_2 (.cells #[iv (nth (nthR tc.wait v0_12) 0), iv (nth (nthR tc.wait v0_12) 1), iv (nth (nthR tc.wait v0_12) 2)] 108 (0, 0))) :: (IntsA v0_3a v0_3c v0_3x) :: (ImmI tx.a7 tc.c.init) :: Γ) a10_3 (ints l10_3) := by rw [ha10_3, ← hl10_3]; exact Reads.part (lo := 0) (hi := (v1_6).toNat) (RowsA.reads (k := 1) (.there (.there (.there .here)))) rfl (by omega)
     refine d_pure 3 52 (.slice a10_3 (List.length l10_3) ((v1_6).toNat - 0)) kf kf kf (run_eq (slice_at (t := 22) (lo := 0) (hi := (v1_6).toNat) (mx := (v1_6).toNat) (sz := 1) (E := 3) (a := v0_3a) (m := (List.length v0_3x)) (c := v0_3c) none (some (iv v1_6)) (some (iv v1_6)) (tinfo 3) (fun _ => kf) kf kf kf (Or.inl ⟨rfl, rfl⟩) (Or.inr ⟨_, rfl, by omega⟩) (Or.inr ⟨_, rfl, by omega⟩) (by omega) (by omega) (by omega)) (by rw [← ha10_3, show (v1_6).toNat - 0 = List.length l10_3 from by rw [← hl10_3]; simp only [List.length_take, List.length_drop]; omega])) ?_
     refine dp 4 53 (.pointer (some ⟨b4_2, 0, none⟩)) ?_
     refine dl 5 54 (iv (nth (nthR tc.wait v0_12) 0)) (load1 (off := 0) (fun _ => kf) (holds_own (.there (.there .here))) kf) ?_
     refine dp 7 56 (.slice v0_3a (List.length v0_3x) v0_3c) ?_
     refine dp 8 57 (iv v1_6) ?_
     obtain ⟨hc10_9_0, H⟩ := chkE H
     obtain ⟨l10_9, hl10_9, H⟩ := letE H
     refine Draw.known (p := (List.length v0_3x) ≤ v0_3c) (fun w hw => by have := (RowsA.len (hw.pull (.there (.there (.there .here))))).2; simpa using this) ?_
     intro hcap6
     have hcapl10_9 : (List.length v0_3x) ≤ v0_3c := hcap6
     have hcl10_9 := hc10_9_0
     obtain ⟨a10_9, ha10_9⟩ : ∃ y : Option Addr, y = (if v0_3c = (v1_6).toNat then v0_3a else Option.map (fun x => Addr.add x ((v1_6).toNat * 1)) v0_3a) := ⟨_, rfl⟩
     have hrl10_9 : Reads W0 ((HomesXA t tx tc) :: (ImmI tx.a7 tc.c.init) :: (Asn.own b4_2 (.cells #[iv (nth (nthR tc.wait v0_12) 0), iv (nth (nthR tc.wait v0_12) 1), iv (nth (nthR tc.wait v0_12) 2)] 108 (0, 0))) :: (IntsA v0_3a v0_3c v0_3x) :: (ImmI tx.a7 tc.c.init) :: Γ) a10_9 (ints l10_9) := by rw [ha10_9, ← hl10_9]; exact Reads.part (lo := (v1_6).toNat) (hi := (List.length v0_3x)) (RowsA.reads (k := 1) (.there (.there (.there .here)))) rfl (by omega)
     refine d_pure 9 58 (.slice a10_9 (List.length l10_9) (v0_3c - (v1_6).toNat)) kf kf kf (run_eq (slice_at (t := 22) (lo := (v1_6).toNat) (hi := (List.length v0_3x)) (mx := v0_3c) (sz := 1) (E := 3) (a := v0_3a) (m := (List.length v0_3x)) (c := v0_3c) (some (iv v1_6)) none none (tinfo 3) (fun _ => kf) kf kf kf (Or.inr ⟨_, rfl, by omega⟩) (Or.inl ⟨rfl, rfl, rfl⟩) (Or.inl ⟨rfl, rfl⟩) (by omega) (by omega) (by omega)) (by rw [← ha10_9, show (List.length v0_3x) - (v1_6).toNat = List.length l10_9 from by rw [← hl10_9]; simp only [List.length_take, List.length_drop]; omega])) ?_
     obtain ⟨l10_6, hl10_6, H⟩ := letE H
     refine d_step 6 55 [5, 4] [9, 8, 7, 3, 2, 1, 0] [] kf kf kf (st_new_ints (T := 3) (xs := l10_6) 1 hl10_6 (fun _ => kf) kf) ?_
     rintro _ _ ⟨b10_6, rfl, rfl⟩
     refine ⟨stable_nil, ?_⟩
     obtain ⟨hc10_10_0, H⟩ := chkE H
     obtain ⟨l10_10, hl10_10, H⟩ := letE H
     refine d_step 10 59 [6, 9, 5, 7, 8, 4] [3, 2, 1, 0] [] kf kf kf (st_append_ints (xs := l10_6) (ys := l10_9) (zs := l10_10) (m1 := (List.length l10_6)) (m2 := (List.length l10_9)) (m := List.length l10_10) (cap2 := (v0_3c - (v1_6).toNat)) 22 22 3 (tinfo 3) (fun _ => kf) kf kf kf kf kf .here (Reads.conv (fun w hw => hw.less (.take (.there .here) (.take (.there .here) (.take (.there .here) (.take (.there .here) (.take (.there .here) (.drop .here .refl))))))) hrl10_9) (by first | rfl | simp) (by first | rfl | simp) (by rw [← hl10_10]; first | done | simp) (by rw [← hl10_10]; first | done | simp) (by rw [← hl10_10]; exact hc10_10_0)) ?_
     rintro _ _ ⟨a10_10, c10_10, rfl, rfl⟩
     refine ⟨stable_nil, ?_⟩
     obtain ⟨hc10_11_0, H⟩ := chkE H
     obtain ⟨l10_11, hl10_11, H⟩ := letE H
     refine d_step 11 60 [3, 10, 0, 1, 2, 6, 9, 5, 7, 8, 4] [] [] kf kf kf (StepTo.conv (fun w hw => ints_shrink (hi := (v1_6).toNat) (mx := (v1_6).toNat) ha10_3 hl10_3 (by omega) (by omega) (Sat.less (.take (.there (.there (.there (.there .here)))) (.take .here (.take .here (.take .here (.take .here (.take .here .refl)))))) hw)) (st_append_ints (xs := l10_3) (ys := l10_10) (zs := l10_11) (m1 := (List.length l10_3)) (m2 := (List.length l10_10)) (m := List.length l10_11) (cap2 := c10_10) 22 22 3 (tinfo 3) (fun _ => kf) kf kf kf kf kf .here (RowsA.reads (k := 1) (.there .here)) (by first | rfl | simp) (by first | rfl | simp) (by rw [← hl10_11]; first | done | simp) (by rw [← hl10_11]; first | done | simp) (by rw [← hl10_11]; exact hc10_11_0))) ?_
     rintro _ _ ⟨a10_11, c10_11, rfl, rfl⟩
     refine ⟨stable_nil, ?_⟩
     refine dp 12 3 (.slice a10_11 (List.length l10_11) c10_11) ?_
     refine draw_end kf ?_
     refine ae [(0, .pointer (some ⟨t, 10, none⟩)), (3, .slice a10_11 (List.length l10_11) c10_11), (10, .slice tx.a11 (List.length tc.wait) tx.c11), (11, iv (((List.length tc.wait) : Nat) : Int)), (12, iv v0_12)] ?_
     refine at_in_normal ?_
     refine at_then_normal ?_
     refine ar (id := 11) 2 ?_
     obtain ⟨hc11_0_0, H⟩ := chkE H
     refine sr 61 (iv (v0_12 + (1 : Int))) (run_eq (v := iv (IntKind.i64.wrap (v0_12 + (1 : Int)))) (fun _ => kf) (by rw [inR.wrap hc11_0_0])) ?_
     refine sp 12 (iv (v0_12 + (1 : Int))) ?_
     refine ops_end ?_
     refine ae [(0, .pointer (some ⟨t, 10, none⟩)), (3, .slice a10_11 (List.length l10_11) c10_11), (10, .slice tx.a11 (List.length tc.wait) tx.c11), (11, iv (((List.length tc.wait) : Nat) : Int)), (12, iv (v0_12 + (1 : Int)))] ?_
     refine at_round_normal ?_
     exact at_roundR fuel1 [(0, .pointer (some ⟨t, 10, none⟩)), (3, .slice a10_11 (List.length l10_11) c10_11), (10, .slice tx.a11 (List.length tc.wait) tx.c11), (11, iv (((List.length tc.wait) : Nat) : Int)), (12, iv (v0_12 + (1 : Int)))] ((IntsA a10_11 c10_11 l10_11) :: (HomesXA t tx tc) :: (ImmI tx.a7 tc.c.init) :: Γ) (Nat.lt_succ_self _) ⟨kf, kf, kf, kf, kf, trivial⟩ (fun w hw => (Sat.less (.take .here (.take (.there .here) (.take (.there .here) (.drop .here (.drop .here (.drop .here .refl)))))) hw)) ⟨fuel1, l10_11, v0_12 + (1 : Int), a10_11, c10_11, H, rfl, rfl, rfl⟩
    ·replace H := bifF H h7
     refine d_pure 4 40 (.bool false) kf kf kf (run_eq (v := .bool (decide (v1_6 = (((List.length v0_3x) : Nat) : Int)))) (fun _ => kf) (congrArg Value.bool h7)) ?_
     refine dp 5 41 (.slice v0_3a (List.length v0_3x) v0_3c) ?_
     refine dp 6 42 (iv v1_6) ?_
     obtain ⟨hc9_7_0, H⟩ := chkE H
     refine rows_at_draw (.there (.there (.there .here))) (by have := hc9_7_0; simp only [ints_length]; omega) ?_
     intro bb4 oo4 ha4
     refine d_pure 7 43 (.pointer (some ⟨bb4, oo4 + ((v1_6).toNat * 1 + 0), none⟩)) kf kf kf (index_at (t := 22) (sz := 1) (E := 3) (a := v0_3a) (m := (List.length v0_3x)) (c := v0_3c) (b := bb4) (off := oo4) (i := (v1_6).toNat) (tinfo 3) (fun _ => kf) kf kf kf ha4 (idx_cast hc9_7_0) (idx_nat hc9_7_0) rfl) ?_
     refine dl 8 44 (iv (nth v0_3x v1_6)) (load1_at (off := oo4 + ((v1_6).toNat * 1 + 0)) (v := iv (nth v0_3x v1_6)) (fun _ => kf) rfl (reads_cell (k := 1) (RowsA.reads (k := 1) (.there (.there (.there .here)))) (ints_rows _) ha4 (nth_row hc9_7_0) (show [(iv (nth v0_3x v1_6) : Value)][0]? = some _ from rfl))) ?_
     refine dp 9 45 (.pointer (some ⟨b4_2, 0, none⟩)) ?_
     refine dl 10 46 (iv (nth (nthR tc.wait v0_12) 0)) (load1 (off := 0) (fun _ => kf) (holds_own (.there (.there .here))) kf) ?_
     refine dp 11 47 (.bool (!(decide ((nth v0_3x v1_6) = (nth (nthR tc.wait v0_12) 0))))) ?_
     refine dp 12 48 (.bool (!(decide ((nth v0_3x v1_6) = (nth (nthR tc.wait v0_12) 0))))) ?_
     refine draw_end kf ?_
     refine ae [(0, .pointer (some ⟨t, 10, none⟩)), (3, .slice v0_3a (List.length v0_3x) v0_3c), (5, .pointer (some ⟨b4_2, 0, none⟩)), (6, iv v1_6), (10, .slice tx.a11 (List.length tc.wait) tx.c11), (11, iv (((List.length tc.wait) : Nat) : Int)), (12, iv v0_12), (48, .bool (!(decide ((nth v0_3x v1_6) = (nth (nthR tc.wait v0_12) 0)))))] ?_
     refine at_then_normal ?_
     rcases Bool.eq_false_or_eq_true (!(decide ((nth v0_3x v1_6) = (nth (nthR tc.wait v0_12) 0)))) with h8 | h8
     ·replace H := bifT H h8
      refine at_true (t := !(decide ((nth v0_3x v1_6) = (nth (nthR tc.wait v0_12) 0)))) (x := C35 [1,1,0,1,0,0,1,1,0,0,1,1,1,1,1,0]) (y := C35 [1,1,0,1,0,0,1,1,0,0,1,1,1,1,1,1]) (o := .tmp 48) kf kf kf h8 ?_
      refine at_region_draw (id := 10) kf kf ?_
      refine dp 0 49 (.slice v0_3a (List.length v0_3x) v0_3c) ?_
      refine dp 1 50 (iv v1_6) ?_
      refine dp 2 51 (iv v1_6) ?_
      obtain ⟨hc10_3_0, H⟩ := chkE H
      obtain ⟨l10_3, hl10_3, H⟩ := letE H
      refine Draw.known (p := (List.length v0_3x) ≤ v0_3c) (fun w hw => by have := (RowsA.len (hw.pull (.there (.there (.there .here))))).2; simpa using this) ?_
      intro hcap7
      have hcapl10_3 : (List.length v0_3x) ≤ v0_3c := hcap7
      have hcl10_3 := hc10_3_0
      obtain ⟨a10_3, ha10_3⟩ : ∃ y : Option Addr, y = (if (v1_6).toNat = 0 then v0_3a else Option.map (fun x => Addr.add x (0 * 1)) v0_3a) := ⟨_, rfl⟩
      have hrl10_3 : Reads W0 ((HomesXA t tx tc) :: (ImmI tx.a7 tc.c.init) :: (Asn.own b4_2 (.cells #[iv (nth (nthR tc.wait v0_12) 0), iv (nth (nthR tc.wait v0_12) 1), iv (nth (nthR tc.wait v0_12) 2)] 108 (0, 0))) :: (IntsA v0_3a v0_3c v0_3x) :: (ImmI tx.a7 tc.c.init) :: Γ) a10_3 (ints l10_3) := by rw [ha10_3, ← hl10_3]; exact Reads.part (lo := 0) (hi := (v1_6).toNat) (RowsA.reads (k := 1) (.there (.there (.there .here)))) rfl (by omega)
      refine d_pure 3 52 (.slice a10_3 (List.length l10_3) ((v1_6).toNat - 0)) kf kf kf (run_eq (slice_at (t := 22) (lo := 0) (hi := (v1_6).toNat) (mx := (v1_6).toNat) (sz := 1) (E := 3) (a := v0_3a) (m := (List.length v0_3x)) (c := v0_3c) none (some (iv v1_6)) (some (iv v1_6)) (tinfo 3) (fun _ => kf) kf kf kf (Or.inl ⟨rfl, rfl⟩) (Or.inr ⟨_, rfl, by omega⟩) (Or.inr ⟨_, rfl, by omega⟩) (by omega) (by omega) (by omega)) (by rw [← ha10_3, show (v1_6).toNat - 0 = List.length l10_3 from by rw [← hl10_3]; simp only [List.length_take, List.length_drop]; omega])) ?_
      refine dp 4 53 (.pointer (some ⟨b4_2, 0, none⟩)) ?_
      refine dl 5 54 (iv (nth (nthR tc.wait v0_12) 0)) (load1 (off := 0) (fun _ => kf) (holds_own (.there (.there .here))) kf) ?_
      refine dp 7 56 (.slice v0_3a (List.length v0_3x) v0_3c) ?_
      refine dp 8 57 (iv v1_6) ?_
      obtain ⟨hc10_9_0, H⟩ := chkE H
      obtain ⟨l10_9, hl10_9, H⟩ := letE H
      refine Draw.known (p := (List.length v0_3x) ≤ v0_3c) (fun w hw => by have := (RowsA.len (hw.pull (.there (.there (.there .here))))).2; simpa using this) ?_
      intro hcap8
      have hcapl10_9 : (List.length v0_3x) ≤ v0_3c := hcap8
      have hcl10_9 := hc10_9_0
      obtain ⟨a10_9, ha10_9⟩ : ∃ y : Option Addr, y = (if v0_3c = (v1_6).toNat then v0_3a else Option.map (fun x => Addr.add x ((v1_6).toNat * 1)) v0_3a) := ⟨_, rfl⟩
      have hrl10_9 : Reads W0 ((HomesXA t tx tc) :: (ImmI tx.a7 tc.c.init) :: (Asn.own b4_2 (.cells #[iv (nth (nthR tc.wait v0_12) 0), iv (nth (nthR tc.wait v0_12) 1), iv (nth (nthR tc.wait v0_12) 2)] 108 (0, 0))) :: (IntsA v0_3a v0_3c v0_3x) :: (ImmI tx.a7 tc.c.init) :: Γ) a10_9 (ints l10_9) := by rw [ha10_9, ← hl10_9]; exact Reads.part (lo := (v1_6).toNat) (hi := (List.length v0_3x)) (RowsA.reads (k := 1) (.there (.there (.there .here)))) rfl (by omega)
      refine d_pure 9 58 (.slice a10_9 (List.length l10_9) (v0_3c - (v1_6).toNat)) kf kf kf (run_eq (slice_at (t := 22) (lo := (v1_6).toNat) (hi := (List.length v0_3x)) (mx := v0_3c) (sz := 1) (E := 3) (a := v0_3a) (m := (List.length v0_3x)) (c := v0_3c) (some (iv v1_6)) none none (tinfo 3) (fun _ => kf) kf kf kf (Or.inr ⟨_, rfl, by omega⟩) (Or.inl ⟨rfl, rfl, rfl⟩) (Or.inl ⟨rfl, rfl⟩) (by omega) (by omega) (by omega)) (by rw [← ha10_9, show (List.length v0_3x) - (v1_6).toNat = List.length l10_9 from by rw [← hl10_9]; simp only [List.length_take, List.length_drop]; omega])) ?_
      obtain ⟨l10_6, hl10_6, H⟩ := letE H
      refine d_step 6 55 [5, 4] [9, 8, 7, 3, 2, 1, 0] [] kf kf kf (st_new_ints (T := 3) (xs := l10_6) 1 hl10_6 (fun _ => kf) kf) ?_
      rintro _ _ ⟨b10_6, rfl, rfl⟩
      refine ⟨stable_nil, ?_⟩
      obtain ⟨hc10_10_0, H⟩ := chkE H
      obtain ⟨l10_10, hl10_10, H⟩ := letE H
      refine d_step 10 59 [6, 9, 5, 7, 8, 4] [3, 2, 1, 0] [] kf kf kf (st_append_ints (xs := l10_6) (ys := l10_9) (zs := l10_10) (m1 := (List.length l10_6)) (m2 := (List.length l10_9)) (m := List.length l10_10) (cap2 := (v0_3c - (v1_6).toNat)) 22 22 3 (tinfo 3) (fun _ => kf) kf kf kf kf kf .here (Reads.conv (fun w hw => hw.less (.take (.there .here) (.take (.there .here) (.take (.there .here) (.take (.there .here) (.take (.there .here) (.drop .here .refl))))))) hrl10_9) (by first | rfl | simp) (by first | rfl | simp) (by rw [← hl10_10]; first | done | simp) (by rw [← hl10_10]; first | done | simp) (by rw [← hl10_10]; exact hc10_10_0)) ?_
      rintro _ _ ⟨a10_10, c10_10, rfl, rfl⟩
      refine ⟨stable_nil, ?_⟩
      obtain ⟨hc10_11_0, H⟩ := chkE H
      obtain ⟨l10_11, hl10_11, H⟩ := letE H
      refine d_step 11 60 [3, 10, 0, 1, 2, 6, 9, 5, 7, 8, 4] [] [] kf kf kf (StepTo.conv (fun w hw => ints_shrink (hi := (v1_6).toNat) (mx := (v1_6).toNat) ha10_3 hl10_3 (by omega) (by omega) (Sat.less (.take (.there (.there (.there (.there .here)))) (.take .here (.take .here (.take .here (.take .here (.take .here .refl)))))) hw)) (st_append_ints (xs := l10_3) (ys := l10_10) (zs := l10_11) (m1 := (List.length l10_3)) (m2 := (List.length l10_10)) (m := List.length l10_11) (cap2 := c10_10) 22 22 3 (tinfo 3) (fun _ => kf) kf kf kf kf kf .here (RowsA.reads (k := 1) (.there .here)) (by first | rfl | simp) (by first | rfl | simp) (by rw [← hl10_11]; first | done | simp) (by rw [← hl10_11]; first | done | simp) (by rw [← hl10_11]; exact hc10_11_0))) ?_
      rintro _ _ ⟨a10_11, c10_11, rfl, rfl⟩
      refine ⟨stable_nil, ?_⟩
      refine dp 12 3 (.slice a10_11 (List.length l10_11) c10_11) ?_
      refine draw_end kf ?_
      refine ae [(0, .pointer (some ⟨t, 10, none⟩)), (3, .slice a10_11 (List.length l10_11) c10_11), (10, .slice tx.a11 (List.length tc.wait) tx.c11), (11, iv (((List.length tc.wait) : Nat) : Int)), (12, iv v0_12)] ?_
      refine at_in_normal ?_
      refine at_then_normal ?_
      refine ar (id := 11) 2 ?_
      obtain ⟨hc11_0_0, H⟩ := chkE H
      refine sr 61 (iv (v0_12 + (1 : Int))) (run_eq (v := iv (IntKind.i64.wrap (v0_12 + (1 : Int)))) (fun _ => kf) (by rw [inR.wrap hc11_0_0])) ?_
      refine sp 12 (iv (v0_12 + (1 : Int))) ?_
      refine ops_end ?_
      refine ae [(0, .pointer (some ⟨t, 10, none⟩)), (3, .slice a10_11 (List.length l10_11) c10_11), (10, .slice tx.a11 (List.length tc.wait) tx.c11), (11, iv (((List.length tc.wait) : Nat) : Int)), (12, iv (v0_12 + (1 : Int)))] ?_
      refine at_round_normal ?_
      exact at_roundR fuel1 [(0, .pointer (some ⟨t, 10, none⟩)), (3, .slice a10_11 (List.length l10_11) c10_11), (10, .slice tx.a11 (List.length tc.wait) tx.c11), (11, iv (((List.length tc.wait) : Nat) : Int)), (12, iv (v0_12 + (1 : Int)))] ((IntsA a10_11 c10_11 l10_11) :: (HomesXA t tx tc) :: (ImmI tx.a7 tc.c.init) :: Γ) (Nat.lt_succ_self _) ⟨kf, kf, kf, kf, kf, trivial⟩ (fun w hw => (Sat.less (.take .here (.take (.there .here) (.take (.there .here) (.drop .here (.drop .here (.drop .here .refl)))))) hw)) ⟨fuel1, l10_11, v0_12 + (1 : Int), a10_11, c10_11, H, rfl, rfl, rfl⟩
     ·replace H := bifF H h8
      refine at_false (t := !(decide ((nth v0_3x v1_6) = (nth (nthR tc.wait v0_12) 0)))) (x := C35 [1,1,0,1,0,0,1,1,0,0,1,1,1,1,1,0]) (y := C35 [1,1,0,1,0,0,1,1,0,0,1,1,1,1,1,1]) (o := .tmp 48) kf kf kf h8 ?_
      refine at_skip kf ?_
      refine at_in_normal ?_
      refine at_then_normal ?_
      refine ar (id := 11) 2 ?_
      obtain ⟨hc11_0_0, H⟩ := chkE H
      refine sr 61 (iv (v0_12 + (1 : Int))) (run_eq (v := iv (IntKind.i64.wrap (v0_12 + (1 : Int)))) (fun _ => kf) (by rw [inR.wrap hc11_0_0])) ?_
      refine sp 12 (iv (v0_12 + (1 : Int))) ?_
      refine ops_end ?_
      refine ae [(0, .pointer (some ⟨t, 10, none⟩)), (3, .slice v0_3a (List.length v0_3x) v0_3c), (10, .slice tx.a11 (List.length tc.wait) tx.c11), (11, iv (((List.length tc.wait) : Nat) : Int)), (12, iv (v0_12 + (1 : Int)))] ?_
      refine at_round_normal ?_
      exact at_roundR fuel1 [(0, .pointer (some ⟨t, 10, none⟩)), (3, .slice v0_3a (List.length v0_3x) v0_3c), (10, .slice tx.a11 (List.length tc.wait) tx.c11), (11, iv (((List.length tc.wait) : Nat) : Int)), (12, iv (v0_12 + (1 : Int)))] ((IntsA v0_3a v0_3c v0_3x) :: (HomesXA t tx tc) :: (ImmI tx.a7 tc.c.init) :: Γ) (Nat.lt_succ_self _) ⟨kf, kf, kf, kf, kf, trivial⟩ (fun w hw => (Sat.less (.take (.there (.there (.there .here))) (.take .here (.take .here (.drop .here (.drop .here .refl))))) hw)) ⟨fuel1, v0_3x, v0_12 + (1 : Int), v0_3a, v0_3c, H, rfl, rfl, rfl⟩
 ·replace H := bifF H h1
  refine at_false (t := decide (v0_12 < (((List.length tc.wait) : Nat) : Int))) (x := C35 [1,1,0,1,0,0,1,0,0]) (y := C35 [1,1,0,1,0,0,1,0,1]) (o := .tmp 13) kf kf kf h1 ?_
  refine at_exit (i := 0) kf ?_
  refine at_then_exit ?_
  refine at_then_exit ?_
  rw [qreadyS_k0] at H
  refine ae [(0, .pointer (some ⟨t, 10, none⟩)), (3, .slice v0_3a (List.length v0_3x) v0_3c), (10, .slice tx.a11 (List.length tc.wait) tx.c11), (11, iv (((List.length tc.wait) : Nat) : Int)), (12, iv v0_12)] ?_
  refine At.conv (Γ' := (IntsA v0_3a v0_3c v0_3x) :: (HomesXA t tx tc) :: (ImmI tx.a7 tc.c.init) :: Γ) (fun w hw => (Sat.less (.take .here (.take .here (.take .here .refl))) hw)) ?_
  refine at_in_here ?_
  refine at_then_normal ?_
  refine aq (x := C35 [1,1,1,0]) (y := C35 [1,1,1,1]) ?_
  refine ar (id := 12) 2 ?_
  refine sp 62 (.slice v0_3a (List.length v0_3x) v0_3c) ?_
  refine sp 2 (.slice v0_3a (List.length v0_3x) v0_3c) ?_
  refine ops_end ?_
  refine ae [(2, .slice v0_3a (List.length v0_3x) v0_3c)] ?_
  refine at_then_normal ?_
  refine at_ret kf ?_
  obtain rfl := someE H
  refine at_backR [.slice v0_3a (List.length v0_3x) v0_3c] ((IntsA v0_3a v0_3c v0_3x) :: (HomesXA t tx tc) :: Γ) (rs := [.tmp 2]) kf (.cons (.tmp kf) .nil) (fun w hw => (Sat.less (.take .here (.take .here (.drop .here .refl))) hw)) ?_
  exact ⟨v0_3a, v0_3c, rfl, rfl⟩
end Go.Proofs.Ytcigheahollkcaa
