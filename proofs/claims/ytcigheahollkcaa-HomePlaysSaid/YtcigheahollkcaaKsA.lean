/- Whether two lists of numbers are alike. -/
import Derived.Test.YtcigheahollkcaaOwnB
namespace Go.Proofs.Ytcigheahollkcaa
open Go Go.RowKit
set_option linter.unusedVariables false
set_option linter.unusedSimpArgs false
def ksameR_k0 (e0_5 : Int) : Option (Bool) :=
 some true
def ksameR_l0 (a : List Int) (b : List Int) (k0 : Int → Option (Bool)) : Nat → Int → Option (Bool)
 | 0 => fun _ => none
 | m + 1 => fun v0_5 => (bif decide (v0_5 < (((List.length a) : Nat) : Int)) then chk (0 ≤ v0_5 ∧ v0_5 < ((a.length : Nat) : Int)) (chk (0 ≤ v0_5 ∧ v0_5 < ((b.length : Nat) : Int)) ((bif !(decide ((nth a v0_5) = (nth b v0_5))) then some false else chk (inR (v0_5 + (1 : Int))) ((ksameR_l0 a b k0 m) (v0_5 + (1 : Int)))))) else k0 v0_5)
def ksameR (a : List Int) (b : List Int) : Option (Bool) :=
 (bif !(decide ((((List.length a) : Nat) : Int) = (((List.length b) : Nat) : Int))) then some false else ksameR_l0 a b (ksameR_k0 ) (List.length a + 1) 0)
noncomputable def C24 (p : List Nat) : Code := codeAt (bodyOf Try.f24) p
set_option maxRecDepth 100000 in
set_option maxHeartbeats 8000000 in
theorem KSameR_tr {W0 : World} {Γ : List Asn} (aa : Option Addr) (acap : Nat) (a : List Int) (ba : Option Addr) (bcap : Nat) (b : List Int) (hraa : Reads W0 Γ aa (ints a)) (hrba : Reads W0 Γ ba (ints b)) (y : Bool) (H : ksameR a b = some y) : Tr Try.prog 24 #[.slice aa (List.length a) acap, .slice ba (List.length b) bcap] W0 (Γ) (fun r Δ => r = .bool y ∧ Δ = Γ) := by
 unfold ksameR at H
 refine Tr.enter (fn := Try.f24) (c := C24 []) (args := [.slice aa (List.length a) acap, .slice ba (List.length b) bcap]) 26 Try.func24 kf kf ?_
 refine ae [(0, .slice aa (List.length a) acap), (1, .slice ba (List.length b) bcap)] ?_
 refine aq (x := C24 [0]) (y := C24 [1]) ?_
 refine ar (id := 0) 1 ?_
 refine sp 4 (.bool false) ?_
 refine ops_end ?_
 refine ae [(0, .slice aa (List.length a) acap), (1, .slice ba (List.length b) bcap)] ?_
 refine at_then_normal ?_
 refine aq (x := C24 [1,0]) (y := C24 [1,1]) ?_
 refine aq (x := C24 [1,0,0]) (y := C24 [1,0,1]) ?_
 refine ar (id := 1) 5 ?_
 refine sp 6 (.slice aa (List.length a) acap) ?_
 refine sp 7 (.int .i64 (((List.length a) : Nat) : Int)) ?_
 refine sp 8 (.slice ba (List.length b) bcap) ?_
 refine sp 9 (.int .i64 (((List.length b) : Nat) : Int)) ?_
 refine sp 10 (.bool (!(decide ((((List.length a) : Nat) : Int) = (((List.length b) : Nat) : Int))))) ?_
 refine ops_end ?_
 refine ae [(0, .slice aa (List.length a) acap), (1, .slice ba (List.length b) bcap), (10, .bool (!(decide ((((List.length a) : Nat) : Int) = (((List.length b) : Nat) : Int)))))] ?_
 refine at_then_normal ?_
 rcases Bool.eq_false_or_eq_true (!(decide ((((List.length a) : Nat) : Int) = (((List.length b) : Nat) : Int)))) with h1 | h1
 ·replace H := bifT H h1
  refine at_true (t := !(decide ((((List.length a) : Nat) : Int) = (((List.length b) : Nat) : Int)))) (x := C24 [1,0,1,0]) (y := C24 [1,0,1,1]) (o := .tmp 10) kf kf kf h1 ?_
  refine aq (x := C24 [1,0,1,0,0]) (y := C24 [1,0,1,0,1]) ?_
  refine ar (id := 2) 1 ?_
  refine sp 4 (.bool false) ?_
  refine ops_end ?_
  refine ae [(4, .bool false)] ?_
  refine at_then_normal ?_
  refine at_ret kf ?_
  refine at_then_ret ?_
  obtain rfl := someE H
  refine at_backR [.bool false] (Γ) (rs := [.tmp 4]) kf (.cons (.tmp kf) .nil) (fun w hw => (Sat.less .refl hw)) ?_
  exact ⟨rfl, rfl⟩
 ·replace H := bifF H h1
  refine at_false (t := !(decide ((((List.length a) : Nat) : Int) = (((List.length b) : Nat) : Int)))) (x := C24 [1,0,1,0]) (y := C24 [1,0,1,1]) (o := .tmp 10) kf kf kf h1 ?_
  refine at_skip kf ?_
  refine at_then_normal ?_
  refine aq (x := C24 [1,1,0]) (y := C24 [1,1,1]) ?_
  refine aq (x := C24 [1,1,0,0]) (y := C24 [1,1,0,1]) ?_
  refine ar (id := 3) 1 ?_
  refine sp 5 (.int .i64 (0)) ?_
  refine ops_end ?_
  refine ae [(0, .slice aa (List.length a) acap), (1, .slice ba (List.length b) bcap), (5, .int .i64 (0))] ?_
  refine at_then_normal ?_
  refine at_block (i := 0) (x := C24 [1,1,0,1,0]) kf ?_
  refine At.conv (Γ' := Γ) (fun w hw => (Sat.less .refl hw)) ?_
  refine at_loopR (x := C24 [1,1,0,1,0,0]) (fun mm ff ΔΔ => ∃ (fuel : Nat) (v0_5 : Int), ksameR_l0 a b (ksameR_k0 ) fuel v0_5 = some y ∧ fuel = mm ∧ ff = [(0, .slice aa (List.length a) acap), (1, .slice ba (List.length b) bcap), (5, .int .i64 v0_5)] ∧ Γ = ΔΔ) ((List.length a + 1)) kf [(0, .slice aa (List.length a) acap), (1, .slice ba (List.length b) bcap), (5, .int .i64 0)] ⟨kf, kf, kf, trivial⟩ ⟨(List.length a + 1), 0, H, rfl, rfl, rfl⟩ ?_
  rintro _ _ _ ⟨fuel1, v0_5, H, rfl, rfl, rfl⟩
  rcases fuel1 with _ | fuel1
  ·exact (noneE H).elim
  rw [ksameR_l0] at H
  refine aq (x := C24 [1,1,0,1,0,0,0]) (y := C24 [1,1,0,1,0,0,1]) ?_
  refine aq (x := C24 [1,1,0,1,0,0,0,0]) (y := C24 [1,1,0,1,0,0,0,1]) ?_
  refine ar (id := 4) 4 ?_
  refine sp 11 (.int .i64 v0_5) ?_
  refine sp 12 (.slice aa (List.length a) acap) ?_
  refine sp 13 (.int .i64 (((List.length a) : Nat) : Int)) ?_
  refine sp 14 (.bool (decide (v0_5 < (((List.length a) : Nat) : Int)))) ?_
  refine ops_end ?_
  refine ae [(0, .slice aa (List.length a) acap), (1, .slice ba (List.length b) bcap), (5, .int .i64 v0_5), (14, .bool (decide (v0_5 < (((List.length a) : Nat) : Int))))] ?_
  refine at_then_normal ?_
  rcases Bool.eq_false_or_eq_true (decide (v0_5 < (((List.length a) : Nat) : Int))) with h2 | h2
  ·replace H := bifT H h2
   refine at_true (t := decide (v0_5 < (((List.length a) : Nat) : Int))) (x := C24 [1,1,0,1,0,0,0,1,0]) (y := C24 [1,1,0,1,0,0,0,1,1]) (o := .tmp 14) kf kf kf h2 ?_
   refine at_skip kf ?_
   refine at_then_normal ?_
   refine aq (x := C24 [1,1,0,1,0,0,1,0]) (y := C24 [1,1,0,1,0,0,1,1]) ?_
   refine at_block (i := 1) (x := C24 [1,1,0,1,0,0,1,0,0]) kf ?_
   refine aq (x := C24 [1,1,0,1,0,0,1,0,0,0]) (y := C24 [1,1,0,1,0,0,1,0,0,1]) ?_
   refine at_region_draw (id := 6) kf kf ?_
   refine dp 0 17 (.slice aa (List.length a) acap) ?_
   refine dp 1 18 (.int .i64 v0_5) ?_
   obtain ⟨hc6_2_0, H⟩ := chkE H
   refine reads_at_draw (Reads.conv (fun w hw => hw.less .refl) hraa) (by have := hc6_2_0; omega) ?_
   intro bb1 oo1 ha1
   refine d_pure 2 19 (.pointer (some ⟨bb1, oo1 + ((v0_5).toNat * 1 + 0), none⟩)) kf kf kf (index_at (t := 22) (sz := 1) (E := 3) (a := aa) (m := (List.length a)) (c := acap) (b := bb1) (off := oo1) (i := (v0_5).toNat) (tinfo 3) (fun _ => kf) kf kf kf ha1 (idx_cast hc6_2_0) (idx_nat hc6_2_0) rfl) ?_
   refine dl 3 20 (.int .i64 (nth a v0_5)) (load1_at (off := oo1 + ((v0_5).toNat * 1 + 0)) (v := .int .i64 (nth a v0_5)) (fun _ => kf) rfl (reads_cell (k := 1) (Reads.conv (fun w hw => hw.less .refl) hraa) (ints_rows _) ha1 (nth_row hc6_2_0) (show [(.int .i64 (nth a v0_5) : Value)][0]? = some _ from rfl))) ?_
   refine dp 4 21 (.slice ba (List.length b) bcap) ?_
   refine dp 5 22 (.int .i64 v0_5) ?_
   obtain ⟨hc6_6_0, H⟩ := chkE H
   refine reads_at_draw (Reads.conv (fun w hw => hw.less .refl) hrba) (by have := hc6_6_0; omega) ?_
   intro bb2 oo2 ha2
   refine d_pure 6 23 (.pointer (some ⟨bb2, oo2 + ((v0_5).toNat * 1 + 0), none⟩)) kf kf kf (index_at (t := 22) (sz := 1) (E := 3) (a := ba) (m := (List.length b)) (c := bcap) (b := bb2) (off := oo2) (i := (v0_5).toNat) (tinfo 3) (fun _ => kf) kf kf kf ha2 (idx_cast hc6_6_0) (idx_nat hc6_6_0) rfl) ?_
   refine dl 7 24 (.int .i64 (nth b v0_5)) (load1_at (off := oo2 + ((v0_5).toNat * 1 + 0)) (v := .int .i64 (nth b v0_5)) (fun _ => kf) rfl (reads_cell (k := 1) (Reads.conv (fun w hw => hw.less .refl) hrba) (ints_rows _) ha2 (nth_row hc6_6_0) (show [(.int .i64 (nth b v0_5) : Value)][0]? = some _ from rfl))) ?_
   refine dp 8 25 (.bool (!(decide ((nth a v0_5) = (nth b v0_5))))) ?_
   refine draw_end kf ?_
   refine ae [(0, .slice aa (List.length a) acap), (1, .slice ba (List.length b) bcap), (5, .int .i64 v0_5), (25, .bool (!(decide ((nth a v0_5) = (nth b v0_5)))))] ?_
   refine at_then_normal ?_
   rcases Bool.eq_false_or_eq_true (!(decide ((nth a v0_5) = (nth b v0_5)))) with h3 | h3
   ·replace H := bifT H h3
    refine at_true (t := !(decide ((nth a v0_5) = (nth b v0_5)))) (x := C24 [1,1,0,1,0,0,1,0,0,1,0]) (y := C24 [1,1,0,1,0,0,1,0,0,1,1]) (o := .tmp 25) kf kf kf h3 ?_
    refine aq (x := C24 [1,1,0,1,0,0,1,0,0,1,0,0]) (y := C24 [1,1,0,1,0,0,1,0,0,1,0,1]) ?_
    refine ar (id := 7) 1 ?_
    refine sp 4 (.bool false) ?_
    refine ops_end ?_
    refine ae [(4, .bool false)] ?_
    refine at_then_normal ?_
    refine at_ret kf ?_
    refine at_in_ret ?_
    refine at_then_ret ?_
    refine at_then_ret ?_
    refine at_in_ret ?_
    refine at_then_ret ?_
    obtain rfl := someE H
    refine at_backR [.bool false] (Γ) (rs := [.tmp 4]) kf (.cons (.tmp kf) .nil) (fun w hw => (Sat.less .refl hw)) ?_
    exact ⟨rfl, rfl⟩
   ·replace H := bifF H h3
    refine at_false (t := !(decide ((nth a v0_5) = (nth b v0_5)))) (x := C24 [1,1,0,1,0,0,1,0,0,1,0]) (y := C24 [1,1,0,1,0,0,1,0,0,1,1]) (o := .tmp 25) kf kf kf h3 ?_
    refine at_skip kf ?_
    refine at_in_normal ?_
    refine at_then_normal ?_
    refine ar (id := 5) 3 ?_
    refine sp 15 (.int .i64 v0_5) ?_
    obtain ⟨hc5_1_0, H⟩ := chkE H
    refine sr 16 (.int .i64 (v0_5 + (1 : Int))) (run_eq (v := .int .i64 (IntKind.i64.wrap (v0_5 + (1 : Int)))) (fun _ => kf) (by rw [inR.wrap hc5_1_0])) ?_
    refine sp 5 (.int .i64 (v0_5 + (1 : Int))) ?_
    refine ops_end ?_
    refine ae [(0, .slice aa (List.length a) acap), (1, .slice ba (List.length b) bcap), (5, .int .i64 (v0_5 + (1 : Int)))] ?_
    refine at_round_normal ?_
    exact at_roundR fuel1 [(0, .slice aa (List.length a) acap), (1, .slice ba (List.length b) bcap), (5, .int .i64 (v0_5 + (1 : Int)))] (Γ) (Nat.lt_succ_self _) ⟨kf, kf, kf, trivial⟩ (fun w hw => (Sat.less .refl hw)) ⟨fuel1, v0_5 + (1 : Int), H, rfl, rfl, rfl⟩
  ·replace H := bifF H h2
   refine at_false (t := decide (v0_5 < (((List.length a) : Nat) : Int))) (x := C24 [1,1,0,1,0,0,0,1,0]) (y := C24 [1,1,0,1,0,0,0,1,1]) (o := .tmp 14) kf kf kf h2 ?_
   refine at_exit (i := 0) kf ?_
   refine at_then_exit ?_
   refine at_then_exit ?_
   rw [ksameR_k0] at H
   refine ae [(0, .slice aa (List.length a) acap), (1, .slice ba (List.length b) bcap), (5, .int .i64 v0_5)] ?_
   refine At.conv (Γ' := Γ) (fun w hw => (Sat.less .refl hw)) ?_
   refine at_in_here ?_
   refine at_then_normal ?_
   refine aq (x := C24 [1,1,1,0]) (y := C24 [1,1,1,1]) ?_
   refine ar (id := 8) 1 ?_
   refine sp 4 (.bool true) ?_
   refine ops_end ?_
   refine ae [(4, .bool true)] ?_
   refine at_then_normal ?_
   refine at_ret kf ?_
   obtain rfl := someE H
   refine at_backR [.bool true] (Γ) (rs := [.tmp 4]) kf (.cons (.tmp kf) .nil) (fun w hw => (Sat.less .refl hw)) ?_
   exact ⟨rfl, rfl⟩
def ksameS (a b : List Int) : Option Bool := chk (okL a) (some (decide (a = b)))
theorem nth_drop {xs : List Int} {i : Nat} (h : i < xs.length) : xs.drop i = nth xs (i : Int) :: xs.drop (i + 1) := by
 rw [List.drop_eq_getElem_cons h]
 simp [nth, h]
theorem ksameR_step (a b : List Int) (k : Int → Option Bool) (ha : a.length ≤ 1099511627776) (m i : Nat) (hab : a.length = b.length) (hi : i < a.length) (h2 : nth a (i : Int) = nth b (i : Int)) : ksameR_l0 a b k (m + 1) (i : Int) = ksameR_l0 a b k m ((i + 1 : Nat) : Int) := by
 rw [ksameR_l0]
 have h1 : (i : Int) < ((a.length : Nat) : Int) := by omega
 have h3 : (i : Int) < ((b.length : Nat) : Int) := by omega
 have h4 : inR ((i : Int) + 1) := by unfold inR; omega
 have h5 : (0 : Int) ≤ (i : Int) := by omega
 simp [h1, h3, h4, h5, h2, chk]
theorem ksameR_stop (a b : List Int) (k : Int → Option Bool) (m i : Nat) (hab : a.length = b.length) (hi : i < a.length) (h2 : ¬ nth a (i : Int) = nth b (i : Int)) : ksameR_l0 a b k (m + 1) (i : Int) = some false := by
 rw [ksameR_l0]
 have h1 : (i : Int) < ((a.length : Nat) : Int) := by omega
 have h3 : (i : Int) < ((b.length : Nat) : Int) := by omega
 have h5 : (0 : Int) ≤ (i : Int) := by omega
 simp [h1, h3, h5, h2, chk]
theorem ksameR_end (a b : List Int) (k : Int → Option Bool) (m i : Nat) (hi : a.length ≤ i) : ksameR_l0 a b k (m + 1) (i : Int) = k i := by
 rw [ksameR_l0]
 have h1 : ¬ (i : Int) < ((a.length : Nat) : Int) := by omega
 simp only [h1, decide_false, cond_false]
theorem ksameR_loop (a b : List Int) (k : Int → Option Bool) (hk : ∀ i, k i = some true) (hab : a.length = b.length) (ha : a.length ≤ 1099511627776) :
  ∀ (d i : Nat), i + d = a.length → ∀ fuel, d < fuel → ksameR_l0 a b k fuel (i : Int) = some (decide (a.drop i = b.drop i)) := by
 intro d
 induction d with
 | zero =>
  intro i hi fuel hf
  obtain ⟨m, rfl⟩ : ∃ m, fuel = m + 1 := ⟨fuel - 1, by omega⟩
  rw [ksameR_end a b k m i (by omega), hk, List.drop_eq_nil_of_le (by omega), List.drop_eq_nil_of_le (by omega)]
  simp
 | succ d ih =>
  intro i hi fuel hf
  obtain ⟨m, rfl⟩ : ∃ m, fuel = m + 1 := ⟨fuel - 1, by omega⟩
  rw [nth_drop (xs := a) (i := i) (by omega), nth_drop (xs := b) (i := i) (by omega)]
  by_cases h2 : nth a (i : Int) = nth b (i : Int)
  ·rw [ksameR_step a b k ha m i hab (by omega) h2, ih (i + 1) (by omega) m (by omega)]
   simp [h2]
  ·rw [ksameR_stop a b k m i hab (by omega) h2]
   simp [h2]
theorem ksameR_is (a b : List Int) (h : okL a) : ksameR a b = some (decide (a = b)) := by
 unfold ksameR
 by_cases hab : a.length = b.length
 ·have := ksameR_loop a b ksameR_k0 (fun _ => rfl) hab h a.length 0 (by omega) (a.length + 1) (by omega)
  simp only [hab, decide_true, Bool.not_true, cond_false]
  rw [← hab]
  simpa using this
 ·have : a ≠ b := fun e => hab (by rw [e])
  have h2 : ¬ ((a.length : Nat) : Int) = ((b.length : Nat) : Int) := by omega
  simp [this, h2]

theorem KSameF_tr {W0 : World} {Γ : List Asn} (aa : Option Addr) (acap : Nat) (a : List Int) (ba : Option Addr) (bcap : Nat) (b : List Int) (hraa : Reads W0 Γ aa (ints a)) (hrba : Reads W0 Γ ba (ints b)) (y : Bool) (H : ksameS a b = some y) : Tr Try.prog 24 #[.slice aa (List.length a) acap, .slice ba (List.length b) bcap] W0 (Γ) (fun r Δ => r = .bool y ∧ Δ = Γ) := by
 unfold ksameS at H
 obtain ⟨h, H⟩ := chkE H
 obtain rfl := someE H
 exact KSameR_tr aa acap a ba bcap b hraa hrba _ (ksameR_is a b h)
end Go.Proofs.Ytcigheahollkcaa
