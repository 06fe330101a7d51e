/- The lines that are ready: what is answered is what the plain function says. -/
import Derived.Test.YtcigheahollkcaaTuA
import Derived.Test.YtcigheahollkcaaSlKeysSorted
namespace Go.Proofs.Ytcigheahollkcaa
open Go Go.RowKit
set_option linter.unusedVariables false
set_option linter.unusedSimpArgs false
def treadyS_k0 (e0_3x : List Int) (e0_13 : Int) : Option ((List Int)) :=
 some e0_3x
def treadyS_l0 (l2_5 : List Int) (tc : TurnsS) (k0 : (List Int) → Int → Option ((List Int))) : Nat → (List Int) → Int → Option ((List Int))
 | 0 => fun _ _ => none
 | m + 1 => fun v0_3x v0_13 => (bif decide (v0_13 < (((List.length l2_5) : Nat) : Int)) then chk (0 ≤ v0_13 ∧ v0_13 < ((l2_5.length : Nat) : Int)) ((townedS tc (nth l2_5 v0_13)).bind fun y5_2 => (bif !y5_2 then (twaitingS tc (nth l2_5 v0_13)).bind fun y5_7 => (bif decide ((0 : Int) < y5_7) then letP ([nth l2_5 v0_13] : List Int) fun l6_2 => chk ((v0_3x ++ l6_2).length ≤ 1099511627776) (letP (v0_3x ++ l6_2) fun l6_3 => chk (inR (v0_13 + (1 : Int))) ((treadyS_l0 l2_5 tc k0 m) l6_3 (v0_13 + (1 : Int)))) else chk (inR (v0_13 + (1 : Int))) ((treadyS_l0 l2_5 tc k0 m) v0_3x (v0_13 + (1 : Int)))) else chk (inR (v0_13 + (1 : Int))) ((treadyS_l0 l2_5 tc k0 m) v0_3x (v0_13 + (1 : Int))))) else k0 v0_3x v0_13)
def treadyS (tc : TurnsS) : Option ((List Int)) :=
 chk (KeysOk tc.wait) (letP (srt (List.map Prod.fst tc.wait)) fun l2_5 => treadyS_l0 l2_5 tc (treadyS_k0 ) 64 ([] : List Int) 0)
noncomputable def C32 (p : List Nat) : Code := codeAt (bodyOf Try.f32) p
set_option maxRecDepth 100000 in
set_option maxHeartbeats 8000000 in
theorem TReadyF_tr {W0 : World} {Γ : List Asn} (t : Nat) (tc : TurnsS)  (y : (List Int)) (H : treadyS tc = some y) : Tr Try.prog 32 #[.pointer (some ⟨t, 0, none⟩)] W0 ((TurnsA t tc) :: Γ) (fun r Δ => ∃ (a0_0 : Option Addr) (c0_0 : Nat), r = .slice a0_0 (List.length y) c0_0 ∧ Δ = (IntsA a0_0 c0_0 y) :: (TurnsA t tc) :: Γ) := by
 unfold treadyS at H
 refine Tr.enter (fn := Try.f32) (c := C32 []) (args := [.pointer (some ⟨t, 0, none⟩)]) 33 Try.func32 kf kf ?_
 refine ae [(0, .pointer (some ⟨t, 0, none⟩))] ?_
 refine aq (x := C32 [0]) (y := C32 [1]) ?_
 refine ar (id := 0) 1 ?_
 refine sp 2 (.slice none 0 0) ?_
 refine ops_end ?_
 refine ae [(0, .pointer (some ⟨t, 0, none⟩))] ?_
 refine at_then_normal ?_
 refine aq (x := C32 [1,0]) (y := C32 [1,1]) ?_
 refine ar (id := 1) 1 ?_
 refine sp 3 (.slice none 0 0) ?_
 refine ops_end ?_
 refine ae [(0, .pointer (some ⟨t, 0, none⟩)), (3, .slice none 0 0)] ?_
 refine at_then_normal ?_
 refine aq (x := C32 [1,1,0]) (y := C32 [1,1,1]) ?_
 refine aq (x := C32 [1,1,0,0]) (y := C32 [1,1,0,1]) ?_
 refine ar (id := 2) 8 ?_
 refine sp 6 (.pointer (some ⟨t, 0, none⟩)) ?_
 refine sp 7 (.pointer (some ⟨t, 0, none⟩)) ?_
 refine sp 8 (.pointer (some ⟨t, 1, none⟩)) ?_
 refine TurnsA.open .here ?_
 intro mo2_3 mw2_3 T2_3
 refine sl 9 (.map (some mw2_3)) (load1 (off := 1) (fun _ => kf) (holds_own .here) kf) ?_
 refine s_call 10 54 #[.map (some mw2_3)] kf kf (fun _ => kf) (keysK_tr (mb := some mw2_3)) ?_
 rintro _ _ ⟨nb2_4, rfl, rfl⟩
 obtain ⟨hc2_5_0, H⟩ := chkE H
 obtain ⟨l2_5, hl2_5, H⟩ := letE H
 refine s_call 11 53 #[.func (.func 58) #[] #[.pointer (some ⟨nb2_4, 0, none⟩)]] kf kf (fun _ => kf) (Tr.conv (Γ' := (Asn.own nb2_4 (.cells #[.map (some mw2_3)] 75 (0, 0))) :: (WMapA mw2_3 tc.wait) :: (Asn.own t (.cells #[.map (some mo2_3), .map (some mw2_3)] T2_3 (0, 0))) :: (IMapA mo2_3 tc.owners) :: Γ) (fun w hw => Sat.less (.take .here (.take (.there (.there .here)) (.take .here (.take .here .refl)))) hw) (sortedW_y (l := tc.wait) hc2_5_0 hl2_5)) ?_
 rintro _ _ ⟨a2_5, c2_5, rfl, rfl⟩
 refine sp 12 (.int .i64 (((List.length l2_5) : Nat) : Int)) ?_
 refine sp 13 (.int .i64 (0)) ?_
 refine ops_end ?_
 refine ae [(0, .pointer (some ⟨t, 0, none⟩)), (3, .slice none 0 0), (11, .slice a2_5 (List.length l2_5) c2_5), (12, .int .i64 (((List.length l2_5) : Nat) : Int)), (13, .int .i64 (0))] ?_
 refine at_then_normal ?_
 refine at_block (i := 0) (x := C32 [1,1,0,1,0]) kf ?_
 refine At.conv (Γ' := (TurnsA t tc) :: (IntsA a2_5 c2_5 l2_5) :: Γ) (fun w hw => TurnsA.close tc rfl rfl (Sat.less (.take (.there (.there .here)) (.take (.there (.there .here)) (.take (.there .here) (.take .here .refl)))) hw)) ?_
 refine At.conv (Γ' := (IntsA none 0 ([] : List Int)) :: (TurnsA t tc) :: (IntsA a2_5 c2_5 l2_5) :: Γ) (fun w hw => (Sat.less (.take .here (.take .here (.take .here .refl))) (RowsA.none_mk (k := 1) (a := none) hw))) ?_
 refine at_loopR (x := C32 [1,1,0,1,0,0]) (fun mm ff ΔΔ => ∃ (fuel : Nat) (v0_3x : List Int) (v0_13 : Int) (v0_3a : Option Addr) (v0_3c : Nat), treadyS_l0 l2_5 tc (treadyS_k0 ) fuel v0_3x v0_13 = some y ∧ fuel = mm ∧ ff = [(0, .pointer (some ⟨t, 0, none⟩)), (3, .slice v0_3a (List.length v0_3x) v0_3c), (11, .slice a2_5 (List.length l2_5) c2_5), (12, .int .i64 (((List.length l2_5) : Nat) : Int)), (13, .int .i64 v0_13)] ∧ (IntsA v0_3a v0_3c v0_3x) :: (TurnsA t tc) :: (IntsA a2_5 c2_5 l2_5) :: Γ = ΔΔ) (64) kf [(0, .pointer (some ⟨t, 0, none⟩)), (3, .slice none (List.length ([] : List Int)) 0), (11, .slice a2_5 (List.length l2_5) c2_5), (12, .int .i64 (((List.length l2_5) : Nat) : Int)), (13, .int .i64 0)] ⟨kf, kf, kf, kf, kf, trivial⟩ ⟨64, ([] : List Int), 0, none, 0, H, rfl, rfl, rfl⟩ ?_
 rintro _ _ _ ⟨fuel1, v0_3x, v0_13, v0_3a, v0_3c, H, rfl, rfl, rfl⟩
 rcases fuel1 with _ | fuel1
 ·exact (noneE H).elim
 rw [treadyS_l0] at H
 refine aq (x := C32 [1,1,0,1,0,0,0]) (y := C32 [1,1,0,1,0,0,1]) ?_
 refine ar (id := 3) 1 ?_
 refine sp 14 (.bool (decide (v0_13 < (((List.length l2_5) : Nat) : Int)))) ?_
 refine ops_end ?_
 refine ae [(0, .pointer (some ⟨t, 0, none⟩)), (3, .slice v0_3a (List.length v0_3x) v0_3c), (11, .slice a2_5 (List.length l2_5) c2_5), (12, .int .i64 (((List.length l2_5) : Nat) : Int)), (13, .int .i64 v0_13), (14, .bool (decide (v0_13 < (((List.length l2_5) : Nat) : Int))))] ?_
 refine at_then_normal ?_
 refine aq (x := C32 [1,1,0,1,0,0,1,0]) (y := C32 [1,1,0,1,0,0,1,1]) ?_
 rcases Bool.eq_false_or_eq_true (decide (v0_13 < (((List.length l2_5) : Nat) : Int))) with h1 | h1
 ·replace H := bifT H h1
  refine at_true (t := decide (v0_13 < (((List.length l2_5) : Nat) : Int))) (x := C32 [1,1,0,1,0,0,1,0,0]) (y := C32 [1,1,0,1,0,0,1,0,1]) (o := .tmp 14) kf kf kf h1 ?_
  refine at_skip kf ?_
  refine at_then_normal ?_
  refine aq (x := C32 [1,1,0,1,0,0,1,1,0]) (y := C32 [1,1,0,1,0,0,1,1,1]) ?_
  refine at_block (i := 1) (x := C32 [1,1,0,1,0,0,1,1,0,0]) kf ?_
  refine aq (x := C32 [1,1,0,1,0,0,1,1,0,0,0]) (y := C32 [1,1,0,1,0,0,1,1,0,0,1]) ?_
  refine ar (id := 4) 3 ?_
  obtain ⟨hc4_0_0, H⟩ := chkE H
  refine rows_at (.there (.there .here)) (by have := hc4_0_0; simp only [ints_length]; omega) ?_
  intro bb1 oo1 ha1
  refine sr 15 (.pointer (some ⟨bb1, oo1 + ((v0_13).toNat * 1 + 0), none⟩)) (index_at (t := 22) (sz := 1) (E := 3) (a := a2_5) (m := (List.length l2_5)) (c := c2_5) (b := bb1) (off := oo1) (i := (v0_13).toNat) (tinfo 3) (fun _ => kf) kf kf kf ha1 (idx_cast hc4_0_0) (idx_nat hc4_0_0) rfl) ?_
  refine sl 16 (.int .i64 (nth l2_5 v0_13)) (load1_at (off := oo1 + ((v0_13).toNat * 1 + 0)) (v := .int .i64 (nth l2_5 v0_13)) (fun _ => kf) rfl (reads_cell (k := 1) (RowsA.reads (k := 1) (.there (.there .here))) (ints_rows _) ha1 (nth_row hc4_0_0) (show [(.int .i64 (nth l2_5 v0_13) : Value)][0]? = some _ from rfl))) ?_
  refine sp 5 (.int .i64 (nth l2_5 v0_13)) ?_
  refine ops_end ?_
  refine ae [(0, .pointer (some ⟨t, 0, none⟩)), (3, .slice v0_3a (List.length v0_3x) v0_3c), (5, .int .i64 (nth l2_5 v0_13)), (11, .slice a2_5 (List.length l2_5) c2_5), (12, .int .i64 (((List.length l2_5) : Nat) : Int)), (13, .int .i64 v0_13)] ?_
  refine at_then_normal ?_
  refine aq (x := C32 [1,1,0,1,0,0,1,1,0,0,1,0]) (y := C32 [1,1,0,1,0,0,1,1,0,0,1,1]) ?_
  refine ar (id := 5) 10 ?_
  refine sp 17 (.pointer (some ⟨t, 0, none⟩)) ?_
  refine sp 18 (.int .i64 (nth l2_5 v0_13)) ?_
  obtain ⟨y5_2, hy5_2, H⟩ := bindE H
  refine s_call 19 50 #[.pointer (some ⟨t, 0, none⟩), .int .i64 (nth l2_5 v0_13)] kf kf (fun _ => kf) (Tr.conv (Γ' := (TurnsA t tc) :: (IntsA v0_3a v0_3c v0_3x) :: (IntsA a2_5 c2_5 l2_5) :: Γ) (fun w hw => (Sat.less (.take (.there .here) (.take .here (.take .here .refl))) hw)) (TOwnedF_tr t tc (nth l2_5 v0_13) y5_2 hy5_2)) ?_
  rintro _ _ ⟨rfl, rfl⟩
  refine sp 20 (.bool !y5_2) ?_
  rcases Bool.eq_false_or_eq_true (!y5_2) with h2 | h2
  ·replace H := bifT H h2
   refine sr 21 (.bool true) (run_eq (v := .bool (!y5_2)) (fun _ => kf) (congrArg Value.bool h2)) ?_
   refine sp 22 (.pointer (some ⟨t, 0, none⟩)) ?_
   refine sp 23 (.int .i64 (nth l2_5 v0_13)) ?_
   obtain ⟨y5_7, hy5_7, H⟩ := bindE H
   refine s_call 24 12 #[.pointer (some ⟨t, 0, none⟩), .int .i64 (nth l2_5 v0_13)] kf kf (fun _ => kf) (TWaitingF_tr t tc (nth l2_5 v0_13) y5_7 hy5_7) ?_
   rintro _ _ ⟨rfl, rfl⟩
   refine sp 25 (.bool (decide ((0 : Int) < y5_7))) ?_
   refine sp 26 (.bool (decide ((0 : Int) < y5_7))) ?_
   refine ops_end ?_
   refine ae [(0, .pointer (some ⟨t, 0, none⟩)), (3, .slice v0_3a (List.length v0_3x) v0_3c), (5, .int .i64 (nth l2_5 v0_13)), (11, .slice a2_5 (List.length l2_5) c2_5), (12, .int .i64 (((List.length l2_5) : Nat) : Int)), (13, .int .i64 v0_13), (26, .bool (decide ((0 : Int) < y5_7)))] ?_
   refine at_then_normal ?_
   rcases Bool.eq_false_or_eq_true (decide ((0 : Int) < y5_7)) with h3 | h3
   ·replace H := bifT H h3
    refine at_true (t := decide ((0 : Int) < y5_7)) (x := C32 [1,1,0,1,0,0,1,1,0,0,1,1,0]) (y := C32 [1,1,0,1,0,0,1,1,0,0,1,1,1]) (o := .tmp 26) kf kf kf h3 ?_
    refine ar (id := 6) 5 ?_
    refine sp 27 (.slice v0_3a (List.length v0_3x) v0_3c) ?_
    refine sp 28 (.int .i64 (nth l2_5 v0_13)) ?_
    obtain ⟨l6_2, hl6_2, H⟩ := letE H
    refine s_step 29 kf kf (st_new_ints (T := 3) (xs := l6_2) 1 hl6_2 (fun _ => kf) kf) ?_
    rintro _ _ ⟨b6_2, rfl, rfl⟩
    obtain ⟨hc6_3_0, H⟩ := chkE H
    obtain ⟨l6_3, hl6_3, H⟩ := letE H
    refine s_step 30 kf kf (st_append_ints (xs := v0_3x) (ys := l6_2) (zs := l6_3) (m1 := (List.length v0_3x)) (m2 := (List.length l6_2)) (m := List.length l6_3) (cap2 := 1) 22 22 3 (tinfo 3) (fun _ => kf) kf kf kf kf kf (.there (.there .here)) (RowsA.reads (k := 1) .here) (by first | rfl | simp) (by first | rfl | simp) (by rw [← hl6_3]; first | done | simp) (by rw [← hl6_3]; first | done | simp) (by rw [← hl6_3]; exact hc6_3_0)) ?_
    rintro _ _ ⟨a6_3, c6_3, rfl, rfl⟩
    refine sp 3 (.slice a6_3 (List.length l6_3) c6_3) ?_
    refine ops_end ?_
    refine ae [(0, .pointer (some ⟨t, 0, none⟩)), (3, .slice a6_3 (List.length l6_3) c6_3), (11, .slice a2_5 (List.length l2_5) c2_5), (12, .int .i64 (((List.length l2_5) : Nat) : Int)), (13, .int .i64 v0_13)] ?_
    refine at_in_normal ?_
    refine at_then_normal ?_
    refine ar (id := 7) 2 ?_
    obtain ⟨hc7_0_0, H⟩ := chkE H
    refine sr 31 (.int .i64 (v0_13 + (1 : Int))) (run_eq (v := .int .i64 (IntKind.i64.wrap (v0_13 + (1 : Int)))) (fun _ => kf) (by rw [inR.wrap hc7_0_0])) ?_
    refine sp 13 (.int .i64 (v0_13 + (1 : Int))) ?_
    refine ops_end ?_
    refine ae [(0, .pointer (some ⟨t, 0, none⟩)), (3, .slice a6_3 (List.length l6_3) c6_3), (11, .slice a2_5 (List.length l2_5) c2_5), (12, .int .i64 (((List.length l2_5) : Nat) : Int)), (13, .int .i64 (v0_13 + (1 : Int)))] ?_
    refine at_round_normal ?_
    exact at_roundR fuel1 [(0, .pointer (some ⟨t, 0, none⟩)), (3, .slice a6_3 (List.length l6_3) c6_3), (11, .slice a2_5 (List.length l2_5) c2_5), (12, .int .i64 (((List.length l2_5) : Nat) : Int)), (13, .int .i64 (v0_13 + (1 : Int)))] ((IntsA a6_3 c6_3 l6_3) :: (TurnsA t tc) :: (IntsA a2_5 c2_5 l2_5) :: Γ) (Nat.lt_succ_self _) ⟨kf, kf, kf, kf, kf, trivial⟩ (fun w hw => (Sat.less (.take .here (.take (.there .here) (.take (.there .here) (.drop .here .refl)))) hw)) ⟨fuel1, l6_3, v0_13 + (1 : Int), a6_3, c6_3, H, rfl, rfl, rfl⟩
   ·replace H := bifF H h3
    refine at_false (t := decide ((0 : Int) < y5_7)) (x := C32 [1,1,0,1,0,0,1,1,0,0,1,1,0]) (y := C32 [1,1,0,1,0,0,1,1,0,0,1,1,1]) (o := .tmp 26) kf kf kf h3 ?_
    refine at_skip kf ?_
    refine at_in_normal ?_
    refine at_then_normal ?_
    refine ar (id := 7) 2 ?_
    obtain ⟨hc7_0_0, H⟩ := chkE H
    refine sr 31 (.int .i64 (v0_13 + (1 : Int))) (run_eq (v := .int .i64 (IntKind.i64.wrap (v0_13 + (1 : Int)))) (fun _ => kf) (by rw [inR.wrap hc7_0_0])) ?_
    refine sp 13 (.int .i64 (v0_13 + (1 : Int))) ?_
    refine ops_end ?_
    refine ae [(0, .pointer (some ⟨t, 0, none⟩)), (3, .slice v0_3a (List.length v0_3x) v0_3c), (11, .slice a2_5 (List.length l2_5) c2_5), (12, .int .i64 (((List.length l2_5) : Nat) : Int)), (13, .int .i64 (v0_13 + (1 : Int)))] ?_
    refine at_round_normal ?_
    exact at_roundR fuel1 [(0, .pointer (some ⟨t, 0, none⟩)), (3, .slice v0_3a (List.length v0_3x) v0_3c), (11, .slice a2_5 (List.length l2_5) c2_5), (12, .int .i64 (((List.length l2_5) : Nat) : Int)), (13, .int .i64 (v0_13 + (1 : Int)))] ((IntsA v0_3a v0_3c v0_3x) :: (TurnsA t tc) :: (IntsA a2_5 c2_5 l2_5) :: Γ) (Nat.lt_succ_self _) ⟨kf, kf, kf, kf, kf, trivial⟩ (fun w hw => (Sat.less (.take (.there .here) (.take .here (.take .here .refl))) hw)) ⟨fuel1, v0_3x, v0_13 + (1 : Int), v0_3a, v0_3c, H, rfl, rfl, rfl⟩
  ·replace H := bifF H h2
   refine sr 21 (.bool false) (run_eq (v := .bool (!y5_2)) (fun _ => kf) (congrArg Value.bool h2)) ?_
   refine sa 22 ?_
   refine sa 23 ?_
   refine sa 24 ?_
   refine sa 25 ?_
   refine sp 26 (.bool false) ?_
   refine ops_end ?_
   refine ae [(0, .pointer (some ⟨t, 0, none⟩)), (3, .slice v0_3a (List.length v0_3x) v0_3c), (5, .int .i64 (nth l2_5 v0_13)), (11, .slice a2_5 (List.length l2_5) c2_5), (12, .int .i64 (((List.length l2_5) : Nat) : Int)), (13, .int .i64 v0_13), (26, .bool false)] ?_
   refine at_then_normal ?_
   refine at_false (t := false) (x := C32 [1,1,0,1,0,0,1,1,0,0,1,1,0]) (y := C32 [1,1,0,1,0,0,1,1,0,0,1,1,1]) (o := .tmp 26) kf kf kf rfl ?_
   refine at_skip kf ?_
   refine at_in_normal ?_
   refine at_then_normal ?_
   refine ar (id := 7) 2 ?_
   obtain ⟨hc7_0_0, H⟩ := chkE H
   refine sr 31 (.int .i64 (v0_13 + (1 : Int))) (run_eq (v := .int .i64 (IntKind.i64.wrap (v0_13 + (1 : Int)))) (fun _ => kf) (by rw [inR.wrap hc7_0_0])) ?_
   refine sp 13 (.int .i64 (v0_13 + (1 : Int))) ?_
   refine ops_end ?_
   refine ae [(0, .pointer (some ⟨t, 0, none⟩)), (3, .slice v0_3a (List.length v0_3x) v0_3c), (11, .slice a2_5 (List.length l2_5) c2_5), (12, .int .i64 (((List.length l2_5) : Nat) : Int)), (13, .int .i64 (v0_13 + (1 : Int)))] ?_
   refine at_round_normal ?_
   exact at_roundR fuel1 [(0, .pointer (some ⟨t, 0, none⟩)), (3, .slice v0_3a (List.length v0_3x) v0_3c), (11, .slice a2_5 (List.length l2_5) c2_5), (12, .int .i64 (((List.length l2_5) : Nat) : Int)), (13, .int .i64 (v0_13 + (1 : Int)))] ((IntsA v0_3a v0_3c v0_3x) :: (TurnsA t tc) :: (IntsA a2_5 c2_5 l2_5) :: Γ) (Nat.lt_succ_self _) ⟨kf, kf, kf, kf, kf, trivial⟩ (fun w hw => (Sat.less (.take (.there .here) (.take .here (.take .here .refl))) hw)) ⟨fuel1, v0_3x, v0_13 + (1 : Int), v0_3a, v0_3c, H, rfl, rfl, rfl⟩
 ·replace H := bifF H h1
  refine at_false (t := decide (v0_13 < (((List.length l2_5) : Nat) : Int))) (x := C32 [1,1,0,1,0,0,1,0,0]) (y := C32 [1,1,0,1,0,0,1,0,1]) (o := .tmp 14) kf kf kf h1 ?_
  refine at_exit (i := 0) kf ?_
  refine at_then_exit ?_
  refine at_then_exit ?_
  rw [treadyS_k0] at H
  refine ae [(0, .pointer (some ⟨t, 0, none⟩)), (3, .slice v0_3a (List.length v0_3x) v0_3c), (11, .slice a2_5 (List.length l2_5) c2_5), (12, .int .i64 (((List.length l2_5) : Nat) : Int)), (13, .int .i64 v0_13)] ?_
  refine At.conv (Γ' := (IntsA v0_3a v0_3c v0_3x) :: (TurnsA t tc) :: (IntsA a2_5 c2_5 l2_5) :: Γ) (fun w hw => (Sat.less (.take .here (.take .here (.take .here .refl))) hw)) ?_
  refine at_in_here ?_
  refine at_then_normal ?_
  refine aq (x := C32 [1,1,1,0]) (y := C32 [1,1,1,1]) ?_
  refine ar (id := 8) 2 ?_
  refine sp 32 (.slice v0_3a (List.length v0_3x) v0_3c) ?_
  refine sp 2 (.slice v0_3a (List.length v0_3x) v0_3c) ?_
  refine ops_end ?_
  refine ae [(2, .slice v0_3a (List.length v0_3x) v0_3c)] ?_
  refine at_then_normal ?_
  refine at_ret kf ?_
  obtain rfl := someE H
  refine at_backR [.slice v0_3a (List.length v0_3x) v0_3c] ((IntsA v0_3a v0_3c v0_3x) :: (TurnsA t tc) :: Γ) (rs := [.tmp 2]) kf (.cons (.tmp kf) .nil) (fun w hw => (Sat.less (.take .here (.take .here (.drop .here .refl))) hw)) ?_
  exact ⟨v0_3a, v0_3c, rfl, rfl⟩
end Go.Proofs.Ytcigheahollkcaa
