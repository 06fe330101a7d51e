/- The law PurgeData: its walk. -/
import Derived.Test.YtlnjnkbnppnbkaaPdB
namespace Go.Proofs.Ytlnjnkbnppnbkaa
open Go Go.RowKit
set_option linter.unusedVariables false
set_option linter.unusedSimpArgs false
def purgeDataS_j2 (y12_8 : DealS × Bool × CacheS) (y13_1 : Ent × Bool) (e2_16 : Int) : Option (Bool) :=
  (bif y12_8.2.1 then (bif decide (y12_8.1.step = (6 : Int)) then (bif decide ((((List.length y12_8.1.data) : Nat) : Int) = (0 : Int)) then (bif y13_1.2 then (bif y13_1.1.dirty then (lonlyS (⟨y13_1.1.fwd, y13_1.1.back⟩ : LinkS)).bind fun y17_22 => (bif y17_22 then (ewordS y13_1.1 (0 : Int)).bind fun y17_26 => (bif decide (y17_26 = e2_16) then (wakes15S).bind fun y17_31 => some y17_31 else some false) else some false) else some false) else some false) else some false) else some false) else some false)
def purgeDataS_j1 (d : Int) (y6_5 : DealS × Bool × CacheS) (mine : Bool) (a : Int) (e1_13 : Int) : Option (Bool) :=
  letP ([d] : List Int) fun l12_6 => (pnextS y6_5.1 (2 : Int) y6_5.2.2 (⟨9, 0, 0, 0, 1, e1_13, 0, !mine, l12_6⟩ : PktS)).bind fun y12_8 => (findS y12_8.2.2 (1 : Int)).bind fun y13_1 => (bif mine then purgeDataS_j2 y12_8 y13_1 a else purgeDataS_j2 y12_8 y13_1 d)
def purgeDataS_j0 (b : Int) (mine : Bool) (d : Int) (a : Int) (e0_b1_0_0 : CacheS) : Option (Bool) :=
  (dbeginS (2 : Int) (1 : Int) (0 : Int)).bind fun y6_0 => letP ([b] : List Int) fun l6_3 => (pnextS y6_0 (2 : Int) e0_b1_0_0 (⟨7, 0, 0, 0, 1, 3, 1, false, l6_3⟩ : PktS)).bind fun y6_5 => (bif !y6_5.2.1 then some false else (bif !(decide (y6_5.1.step = (3 : Int))) then some false else (bif !(decide (y6_5.1.next = (3 : Int))) then some false else (bif mine then purgeDataS_j1 d y6_5 mine a 2 else purgeDataS_j1 d y6_5 mine a (-1)))))
def purgeDataS (a : Int) (b : Int) (d : Int) (mine : Bool) : Option (Bool) :=
  (bothNilS).bind fun y1_0 => (bif mine then letP ([a] : List Int) fun l5_2 => (enewS (1 : Int) ((-1) : Int) (3 : Int) false l5_2).bind fun y5_3 => (putS y1_0.1 y5_3).bind fun y5_4 => purgeDataS_j0 b mine d a y5_4.2 else purgeDataS_j0 b mine d a y1_0.1)
noncomputable def C3 (p : List Nat) : Code := codeAt (bodyOf Try.f3) p
set_option maxRecDepth 100000 in
set_option maxHeartbeats 8000000 in
theorem PurgeDataF_tr {W0 : World} {Γ : List Asn} (a : Int) (b : Int) (d : Int) (mine : Bool)  (y : Bool) (H : purgeDataS a b d mine = some y) : Tr Try.prog 3 #[.int .i64 a, .int .i64 b, .int .i64 d, .bool mine] W0 (Γ) (fun r Δ => r = .bool y ∧ Δ = Γ) := by
  unfold purgeDataS at H
  refine Tr.enter (fn := Try.f3) (c := C3 []) (args := [.int .i64 a, .int .i64 b, .int .i64 d, .bool mine]) 104 Try.func3 (by kernel_rfl) (by kernel_rfl) ?_
  refine At.env [(0, .int .i64 a), (1, .int .i64 b), (2, .int .i64 d), (3, .bool mine)] ⟨by kernel_rfl, by kernel_rfl, by kernel_rfl, by kernel_rfl, trivial⟩ ?_
  refine at_seq (x := C3 [0]) (y := C3 [1]) (by kernel_rfl) ?_
  refine at_region (id := 0) 1 (by kernel_rfl) (by kernel_rfl) ?_
  refine s_pure 8 (.bool false) (by kernel_rfl) (by kernel_rfl) (fun _ => by kernel_rfl) ?_
  refine ops_end ?_
  refine At.env [(0, .int .i64 a), (1, .int .i64 b), (2, .int .i64 d), (3, .bool mine), (8, .bool false)] ⟨by kernel_rfl, by kernel_rfl, by kernel_rfl, by kernel_rfl, by kernel_rfl, trivial⟩ ?_
  refine at_then_normal ?_
  refine at_seq (x := C3 [1, 0]) (y := C3 [1, 1]) (by kernel_rfl) ?_
  refine at_region (id := 1) 6 (by kernel_rfl) (by kernel_rfl) ?_
  obtain ⟨y1_0, hy1_0, H⟩ := bindE H
  refine s_call 18 13 #[.slice none 0 0, .slice none 0 0, .slice none 0 0] (by kernel_rfl) (by kernel_rfl) (fun _ => by kernel_rfl) (BothNilF_tr  y1_0 hy1_0) ?_
  rintro _ _ ⟨b1_0_0, b1_0_1, rfl, rfl⟩
  refine s_pure 17 (.tuple #[.pointer (some ⟨b1_0_0, 0, none⟩), .pointer (some ⟨b1_0_1, 0, none⟩)]) (by kernel_rfl) (by kernel_rfl) (fun _ => by kernel_rfl) ?_
  refine s_pure 19 (.pointer (some ⟨b1_0_0, 0, none⟩)) (by kernel_rfl) (by kernel_rfl) (fun _ => by kernel_rfl) ?_
  refine s_pure 20 (.pointer (some ⟨b1_0_1, 0, none⟩)) (by kernel_rfl) (by kernel_rfl) (fun _ => by kernel_rfl) ?_
  refine s_pure 9 (.pointer (some ⟨b1_0_0, 0, none⟩)) (by kernel_rfl) (by kernel_rfl) (fun _ => by kernel_rfl) ?_
  refine s_pure 10 (.pointer (some ⟨b1_0_1, 0, none⟩)) (by kernel_rfl) (by kernel_rfl) (fun _ => by kernel_rfl) ?_
  refine ops_end ?_
  refine At.env [(0, .int .i64 a), (1, .int .i64 b), (2, .int .i64 d), (3, .bool mine), (8, .bool false), (9, .pointer (some ⟨b1_0_0, 0, none⟩))] ⟨by kernel_rfl, by kernel_rfl, by kernel_rfl, by kernel_rfl, by kernel_rfl, by kernel_rfl, trivial⟩ ?_
  refine at_then_normal ?_
  refine at_seq (x := C3 [1, 1, 0]) (y := C3 [1, 1, 1]) (by kernel_rfl) ?_
  refine at_seq (x := C3 [1, 1, 0, 0]) (y := C3 [1, 1, 0, 1]) (by kernel_rfl) ?_
  refine at_region (id := 2) 2 (by kernel_rfl) (by kernel_rfl) ?_
  refine s_pure 21 (.pointer (some ⟨b1_0_0, 0, none⟩)) (by kernel_rfl) (by kernel_rfl) (fun _ => by kernel_rfl) ?_
  refine s_pure 22 (.bool false) (by kernel_rfl) (by kernel_rfl) (fun _ => by kernel_rfl) ?_
  refine ops_end ?_
  refine At.env [(0, .int .i64 a), (1, .int .i64 b), (2, .int .i64 d), (3, .bool mine), (8, .bool false), (9, .pointer (some ⟨b1_0_0, 0, none⟩)), (22, .bool false)] ⟨by kernel_rfl, by kernel_rfl, by kernel_rfl, by kernel_rfl, by kernel_rfl, by kernel_rfl, by kernel_rfl, trivial⟩ ?_
  refine at_then_normal ?_
  refine at_false (t := false) (x := C3 [1, 1, 0, 1, 0]) (y := C3 [1, 1, 0, 1, 1]) (o := .tmp 22) (by kernel_rfl) (by kernel_rfl) (by kernel_rfl) rfl ?_
  refine at_skip (by kernel_rfl) ?_
  refine at_then_normal ?_
  refine at_seq_join (x := C3 [1, 1, 1, 0]) (y := C3 [1, 1, 1, 1]) (fun ff ΔΔ => ∃ (e0_b1_0_0 : CacheS), purgeDataS_j0 b mine d a e0_b1_0_0 = some y ∧ ff = [(0, .int .i64 a), (1, .int .i64 b), (2, .int .i64 d), (3, .bool mine), (8, .bool false), (9, .pointer (some ⟨b1_0_0, 0, none⟩))] ∧ (CacheA b1_0_0 e0_b1_0_0) :: (RCacheA b1_0_1 y1_0.2) :: Γ = ΔΔ) (by kernel_rfl) ?_ ?_
  · rintro _ _ ⟨e0_b1_0_0, H, rfl, rfl⟩
    rw [purgeDataS_j0] at H
    refine at_seq (x := C3 [1, 1, 1, 1, 0]) (y := C3 [1, 1, 1, 1, 1]) (by kernel_rfl) ?_
    refine at_region (id := 6) 12 (by kernel_rfl) (by kernel_rfl) ?_
    obtain ⟨y6_0, hy6_0, H⟩ := bindE H
    refine s_call 30 17 #[.int .i64 (2), .int .i64 (1), .int .i64 (0)] (by kernel_rfl) (by kernel_rfl) (fun _ => by kernel_rfl) (DBeginF_tr (2 : Int) (1 : Int) (0 : Int) y6_0 hy6_0) ?_
    rintro _ _ ⟨a6_0_00, c6_0_00, rfl, rfl⟩
    refine s_pure 31 (.pointer (some ⟨b1_0_0, 0, none⟩)) (by kernel_rfl) (by kernel_rfl) (fun _ => by kernel_rfl) ?_
    refine s_pure 32 (.int .i64 b) (by kernel_rfl) (by kernel_rfl) (fun _ => by kernel_rfl) ?_
    obtain ⟨l6_3, hl6_3, H⟩ := letE H
    refine s_step 33 (by kernel_rfl) (by kernel_rfl) (st_new_ints (T := 3) (xs := l6_3) 1 hl6_3 (fun _ => by kernel_rfl) (by kernel_rfl)) ?_
    rintro _ _ ⟨b6_3, rfl, rfl⟩
    refine s_pure 34 (.agg #[.int .i64 (7), .int .i64 (0), .int .i64 (0), .int .i64 (0), .int .i64 (1), .int .i64 (3), .int .i64 (1), .bool false, .slice (some ⟨b6_3, 0, none⟩) (List.length l6_3) 1]) (by kernel_rfl) (by kernel_rfl) (fun _ => by kernel_rfl) ?_
    obtain ⟨y6_5, hy6_5, H⟩ := bindE H
    refine s_call 35 16 #[.agg #[.int .i64 y6_0.kind, .int .i64 y6_0.line, .int .i64 y6_0.id, .int .i64 y6_0.step, .int .i64 y6_0.state, .int .i64 y6_0.head, .slice a6_0_00 (List.length y6_0.data) c6_0_00, .int .i64 y6_0.next, .int .i64 y6_0.told], .int .i64 (2), .pointer (some ⟨b1_0_0, 0, none⟩), .agg #[.int .i64 (7), .int .i64 (0), .int .i64 (0), .int .i64 (0), .int .i64 (1), .int .i64 (3), .int .i64 (1), .bool false, .slice (some ⟨b6_3, 0, none⟩) (List.length l6_3) 1]] (by kernel_rfl) (by kernel_rfl) (fun _ => by kernel_rfl) (Tr.conv (Γ' := (ImmI a6_0_00 y6_0.data) :: (CacheA b1_0_0 e0_b1_0_0) :: (ImmI a6_0_00 y6_0.data) :: (IntsA (some ⟨b6_3, 0, none⟩) 1 l6_3) :: (RCacheA b1_0_1 y1_0.2) :: Γ) (fun w hw => (Sat.less (.take .here (.take (.there (.there .here)) (.take .here (.take .here (.take .here .refl))))) (ImmR.dup (Sat.less (.take (.there .here) (.take .here (.take .here (.take .here .refl)))) hw)))) (PNextF_tr a6_0_00 c6_0_00 y6_0 (2 : Int) b1_0_0 e0_b1_0_0 (some ⟨b6_3, 0, none⟩) 1 (⟨7, 0, 0, 0, 1, 3, 1, false, l6_3⟩ : PktS) (RowsA.reads (k := 1) (.there .here)) y6_5 hy6_5)) ?_
    rintro _ _ ⟨a6_5_00, c6_5_00, rfl, rfl⟩
    refine s_pure 29 (.tuple #[.agg #[.int .i64 y6_5.1.kind, .int .i64 y6_5.1.line, .int .i64 y6_5.1.id, .int .i64 y6_5.1.step, .int .i64 y6_5.1.state, .int .i64 y6_5.1.head, .slice a6_5_00 (List.length y6_5.1.data) c6_5_00, .int .i64 y6_5.1.next, .int .i64 y6_5.1.told], .bool y6_5.2.1]) (by kernel_rfl) (by kernel_rfl) (fun _ => by kernel_rfl) ?_
    refine s_pure 36 (.agg #[.int .i64 y6_5.1.kind, .int .i64 y6_5.1.line, .int .i64 y6_5.1.id, .int .i64 y6_5.1.step, .int .i64 y6_5.1.state, .int .i64 y6_5.1.head, .slice a6_5_00 (List.length y6_5.1.data) c6_5_00, .int .i64 y6_5.1.next, .int .i64 y6_5.1.told]) (by kernel_rfl) (by kernel_rfl) (fun _ => by kernel_rfl) ?_
    refine s_pure 37 (.bool y6_5.2.1) (by kernel_rfl) (by kernel_rfl) (fun _ => by kernel_rfl) ?_
    refine s_step 11 (by kernel_rfl) (by kernel_rfl) (st_new (T := 35) (cells := #[.int .i64 (0), .int .i64 (0), .int .i64 (0), .int .i64 (0), .int .i64 (0), .int .i64 (0), .slice none 0 0, .int .i64 (0), .int .i64 (0)]) (fun a => .pointer (some a)) (fun _ => by kernel_rfl)) ?_
    rintro _ _ ⟨b6_9, rfl, rfl⟩
    refine s_do (by kernel_rfl) (by kernel_rfl) (st_store (off := 0) (vs := [.int .i64 y6_5.1.kind, .int .i64 y6_5.1.line, .int .i64 y6_5.1.id, .int .i64 y6_5.1.step, .int .i64 y6_5.1.state, .int .i64 y6_5.1.head, .slice a6_5_00 (List.length y6_5.1.data) c6_5_00, .int .i64 y6_5.1.next, .int .i64 y6_5.1.told]) (c' := #[.int .i64 y6_5.1.kind, .int .i64 y6_5.1.line, .int .i64 y6_5.1.id, .int .i64 y6_5.1.step, .int .i64 y6_5.1.state, .int .i64 y6_5.1.head, .slice a6_5_00 (List.length y6_5.1.data) c6_5_00, .int .i64 y6_5.1.next, .int .i64 y6_5.1.told]) (fun _ => by kernel_rfl) .here (by kernel_rfl) (by kernel_rfl) (by kernel_rfl)) ?_
    rintro _ _ ⟨rfl, rfl⟩
    refine s_pure 12 (.bool y6_5.2.1) (by kernel_rfl) (by kernel_rfl) (fun _ => by kernel_rfl) ?_
    refine ops_end ?_
    refine At.env [(0, .int .i64 a), (1, .int .i64 b), (2, .int .i64 d), (3, .bool mine), (8, .bool false), (9, .pointer (some ⟨b1_0_0, 0, none⟩)), (11, .pointer (some ⟨b6_9, 0, none⟩)), (12, .bool y6_5.2.1)] ⟨by kernel_rfl, by kernel_rfl, by kernel_rfl, by kernel_rfl, by kernel_rfl, by kernel_rfl, by kernel_rfl, by kernel_rfl, trivial⟩ ?_
    refine at_then_normal ?_
    refine at_seq (x := C3 [1, 1, 1, 1, 1, 0]) (y := C3 [1, 1, 1, 1, 1, 1]) (by kernel_rfl) ?_
    refine at_seq (x := C3 [1, 1, 1, 1, 1, 0, 0]) (y := C3 [1, 1, 1, 1, 1, 0, 1]) (by kernel_rfl) ?_
    refine at_region (id := 7) 12 (by kernel_rfl) (by kernel_rfl) ?_
    refine s_pure 38 (.bool y6_5.2.1) (by kernel_rfl) (by kernel_rfl) (fun _ => by kernel_rfl) ?_
    refine s_pure 39 (.bool !y6_5.2.1) (by kernel_rfl) (by kernel_rfl) (fun _ => by kernel_rfl) ?_
    rcases Bool.eq_false_or_eq_true (!y6_5.2.1) with h1 | h1
    · replace H := bifT H h1
      refine s_pure 40 (.bool true) (by kernel_rfl) (by kernel_rfl) (run_eq (v := .bool (!y6_5.2.1)) (fun _ => by kernel_rfl) (congrArg Value.bool h1)) ?_
      refine s_pass 41 (by kernel_rfl) (by kernel_rfl) ?_
      refine s_pass 42 (by kernel_rfl) (by kernel_rfl) ?_
      refine s_pass 43 (by kernel_rfl) (by kernel_rfl) ?_
      refine s_pure 44 (.bool true) (by kernel_rfl) (by kernel_rfl) (fun _ => by kernel_rfl) ?_
      refine s_pure 45 (.bool true) (by kernel_rfl) (by kernel_rfl) (fun _ => by kernel_rfl) ?_
      refine s_pass 46 (by kernel_rfl) (by kernel_rfl) ?_
      refine s_pass 47 (by kernel_rfl) (by kernel_rfl) ?_
      refine s_pass 48 (by kernel_rfl) (by kernel_rfl) ?_
      refine s_pure 49 (.bool true) (by kernel_rfl) (by kernel_rfl) (fun _ => by kernel_rfl) ?_
      refine ops_end ?_
      refine At.env [(0, .int .i64 a), (1, .int .i64 b), (2, .int .i64 d), (3, .bool mine), (8, .bool false), (9, .pointer (some ⟨b1_0_0, 0, none⟩)), (11, .pointer (some ⟨b6_9, 0, none⟩)), (12, .bool y6_5.2.1), (49, .bool true)] ⟨by kernel_rfl, by kernel_rfl, by kernel_rfl, by kernel_rfl, by kernel_rfl, by kernel_rfl, by kernel_rfl, by kernel_rfl, by kernel_rfl, trivial⟩ ?_
      refine at_then_normal ?_
      refine at_true (t := true) (x := C3 [1, 1, 1, 1, 1, 0, 1, 0]) (y := C3 [1, 1, 1, 1, 1, 0, 1, 1]) (o := .tmp 49) (by kernel_rfl) (by kernel_rfl) (by kernel_rfl) rfl ?_
      refine at_seq (x := C3 [1, 1, 1, 1, 1, 0, 1, 0, 0]) (y := C3 [1, 1, 1, 1, 1, 0, 1, 0, 1]) (by kernel_rfl) ?_
      refine at_region (id := 8) 1 (by kernel_rfl) (by kernel_rfl) ?_
      refine s_pure 8 (.bool false) (by kernel_rfl) (by kernel_rfl) (fun _ => by kernel_rfl) ?_
      refine ops_end ?_
      refine At.env [(0, .int .i64 a), (1, .int .i64 b), (2, .int .i64 d), (3, .bool mine), (8, .bool false), (9, .pointer (some ⟨b1_0_0, 0, none⟩)), (11, .pointer (some ⟨b6_9, 0, none⟩)), (12, .bool y6_5.2.1), (49, .bool true)] ⟨by kernel_rfl, by kernel_rfl, by kernel_rfl, by kernel_rfl, by kernel_rfl, by kernel_rfl, by kernel_rfl, by kernel_rfl, by kernel_rfl, trivial⟩ ?_
      refine at_then_normal ?_
      refine at_ret (by kernel_rfl) ?_
      refine at_then_ret ?_
      obtain rfl := someE H
      refine at_backR [.bool false] (Γ) (rs := [.tmp 8]) (by kernel_rfl) (.cons (.tmp (by kernel_rfl)) .nil) (fun w hw => (Sat.less (.drop .here (.drop .here (.drop .here (.drop .here (.drop .here (.drop .here .refl)))))) hw)) ?_
      exact ⟨rfl, rfl⟩
    · replace H := bifF H h1
      refine s_pure 40 (.bool false) (by kernel_rfl) (by kernel_rfl) (run_eq (v := .bool (!y6_5.2.1)) (fun _ => by kernel_rfl) (congrArg Value.bool h1)) ?_
      refine s_pure 41 (.pointer (some ⟨b6_9, 3, none⟩)) (by kernel_rfl) (by kernel_rfl) (fun _ => by kernel_rfl) ?_
      refine s_load 42 (.int .i64 y6_5.1.step) (by kernel_rfl) (by kernel_rfl) (load1 (off := 3) (fun _ => by kernel_rfl) (holds_own .here) (by kernel_rfl)) ?_
      refine s_pure 43 (.bool (!(decide (y6_5.1.step = (3 : Int))))) (by kernel_rfl) (by kernel_rfl) (fun _ => by kernel_rfl) ?_
      refine s_pure 44 (.bool (!(decide (y6_5.1.step = (3 : Int))))) (by kernel_rfl) (by kernel_rfl) (fun _ => by kernel_rfl) ?_
      rcases Bool.eq_false_or_eq_true (!(decide (y6_5.1.step = (3 : Int)))) with h2 | h2
      · replace H := bifT H h2
        refine s_pure 45 (.bool true) (by kernel_rfl) (by kernel_rfl) (run_eq (v := .bool (!(decide (y6_5.1.step = (3 : Int))))) (fun _ => by kernel_rfl) (congrArg Value.bool h2)) ?_
        refine s_pass 46 (by kernel_rfl) (by kernel_rfl) ?_
        refine s_pass 47 (by kernel_rfl) (by kernel_rfl) ?_
        refine s_pass 48 (by kernel_rfl) (by kernel_rfl) ?_
        refine s_pure 49 (.bool true) (by kernel_rfl) (by kernel_rfl) (fun _ => by kernel_rfl) ?_
        refine ops_end ?_
        refine At.env [(0, .int .i64 a), (1, .int .i64 b), (2, .int .i64 d), (3, .bool mine), (8, .bool false), (9, .pointer (some ⟨b1_0_0, 0, none⟩)), (11, .pointer (some ⟨b6_9, 0, none⟩)), (12, .bool y6_5.2.1), (49, .bool true)] ⟨by kernel_rfl, by kernel_rfl, by kernel_rfl, by kernel_rfl, by kernel_rfl, by kernel_rfl, by kernel_rfl, by kernel_rfl, by kernel_rfl, trivial⟩ ?_
        refine at_then_normal ?_
        refine at_true (t := true) (x := C3 [1, 1, 1, 1, 1, 0, 1, 0]) (y := C3 [1, 1, 1, 1, 1, 0, 1, 1]) (o := .tmp 49) (by kernel_rfl) (by kernel_rfl) (by kernel_rfl) rfl ?_
        refine at_seq (x := C3 [1, 1, 1, 1, 1, 0, 1, 0, 0]) (y := C3 [1, 1, 1, 1, 1, 0, 1, 0, 1]) (by kernel_rfl) ?_
        refine at_region (id := 8) 1 (by kernel_rfl) (by kernel_rfl) ?_
        refine s_pure 8 (.bool false) (by kernel_rfl) (by kernel_rfl) (fun _ => by kernel_rfl) ?_
        refine ops_end ?_
        refine At.env [(0, .int .i64 a), (1, .int .i64 b), (2, .int .i64 d), (3, .bool mine), (8, .bool false), (9, .pointer (some ⟨b1_0_0, 0, none⟩)), (11, .pointer (some ⟨b6_9, 0, none⟩)), (12, .bool y6_5.2.1), (49, .bool true)] ⟨by kernel_rfl, by kernel_rfl, by kernel_rfl, by kernel_rfl, by kernel_rfl, by kernel_rfl, by kernel_rfl, by kernel_rfl, by kernel_rfl, trivial⟩ ?_
        refine at_then_normal ?_
        refine at_ret (by kernel_rfl) ?_
        refine at_then_ret ?_
        obtain rfl := someE H
        refine at_backR [.bool false] (Γ) (rs := [.tmp 8]) (by kernel_rfl) (.cons (.tmp (by kernel_rfl)) .nil) (fun w hw => (Sat.less (.drop .here (.drop .here (.drop .here (.drop .here (.drop .here (.drop .here .refl)))))) hw)) ?_
        exact ⟨rfl, rfl⟩
      · replace H := bifF H h2
        refine s_pure 45 (.bool false) (by kernel_rfl) (by kernel_rfl) (run_eq (v := .bool (!(decide (y6_5.1.step = (3 : Int))))) (fun _ => by kernel_rfl) (congrArg Value.bool h2)) ?_
        refine s_pure 46 (.pointer (some ⟨b6_9, 7, none⟩)) (by kernel_rfl) (by kernel_rfl) (fun _ => by kernel_rfl) ?_
        refine s_load 47 (.int .i64 y6_5.1.next) (by kernel_rfl) (by kernel_rfl) (load1 (off := 7) (fun _ => by kernel_rfl) (holds_own .here) (by kernel_rfl)) ?_
        refine s_pure 48 (.bool (!(decide (y6_5.1.next = (3 : Int))))) (by kernel_rfl) (by kernel_rfl) (fun _ => by kernel_rfl) ?_
        refine s_pure 49 (.bool (!(decide (y6_5.1.next = (3 : Int))))) (by kernel_rfl) (by kernel_rfl) (fun _ => by kernel_rfl) ?_
        refine ops_end ?_
        refine At.env [(0, .int .i64 a), (1, .int .i64 b), (2, .int .i64 d), (3, .bool mine), (8, .bool false), (9, .pointer (some ⟨b1_0_0, 0, none⟩)), (11, .pointer (some ⟨b6_9, 0, none⟩)), (12, .bool y6_5.2.1), (49, .bool (!(decide (y6_5.1.next = (3 : Int)))))] ⟨by kernel_rfl, by kernel_rfl, by kernel_rfl, by kernel_rfl, by kernel_rfl, by kernel_rfl, by kernel_rfl, by kernel_rfl, by kernel_rfl, trivial⟩ ?_
        refine at_then_normal ?_
        rcases Bool.eq_false_or_eq_true (!(decide (y6_5.1.next = (3 : Int)))) with h3 | h3
        · replace H := bifT H h3
          refine at_true (t := !(decide (y6_5.1.next = (3 : Int)))) (x := C3 [1, 1, 1, 1, 1, 0, 1, 0]) (y := C3 [1, 1, 1, 1, 1, 0, 1, 1]) (o := .tmp 49) (by kernel_rfl) (by kernel_rfl) (by kernel_rfl) h3 ?_
          refine at_seq (x := C3 [1, 1, 1, 1, 1, 0, 1, 0, 0]) (y := C3 [1, 1, 1, 1, 1, 0, 1, 0, 1]) (by kernel_rfl) ?_
          refine at_region (id := 8) 1 (by kernel_rfl) (by kernel_rfl) ?_
          refine s_pure 8 (.bool false) (by kernel_rfl) (by kernel_rfl) (fun _ => by kernel_rfl) ?_
          refine ops_end ?_
          refine At.env [(0, .int .i64 a), (1, .int .i64 b), (2, .int .i64 d), (3, .bool mine), (8, .bool false), (9, .pointer (some ⟨b1_0_0, 0, none⟩)), (11, .pointer (some ⟨b6_9, 0, none⟩)), (12, .bool y6_5.2.1), (49, .bool (!(decide (y6_5.1.next = (3 : Int)))))] ⟨by kernel_rfl, by kernel_rfl, by kernel_rfl, by kernel_rfl, by kernel_rfl, by kernel_rfl, by kernel_rfl, by kernel_rfl, by kernel_rfl, trivial⟩ ?_
          refine at_then_normal ?_
          refine at_ret (by kernel_rfl) ?_
          refine at_then_ret ?_
          obtain rfl := someE H
          refine at_backR [.bool false] (Γ) (rs := [.tmp 8]) (by kernel_rfl) (.cons (.tmp (by kernel_rfl)) .nil) (fun w hw => (Sat.less (.drop .here (.drop .here (.drop .here (.drop .here (.drop .here (.drop .here .refl)))))) hw)) ?_
          exact ⟨rfl, rfl⟩
        · replace H := bifF H h3
          refine at_false (t := !(decide (y6_5.1.next = (3 : Int)))) (x := C3 [1, 1, 1, 1, 1, 0, 1, 0]) (y := C3 [1, 1, 1, 1, 1, 0, 1, 1]) (o := .tmp 49) (by kernel_rfl) (by kernel_rfl) (by kernel_rfl) h3 ?_
          refine at_skip (by kernel_rfl) ?_
          refine at_then_normal ?_
          refine at_seq (x := C3 [1, 1, 1, 1, 1, 1, 0]) (y := C3 [1, 1, 1, 1, 1, 1, 1]) (by kernel_rfl) ?_
          refine at_region (id := 9) 1 (by kernel_rfl) (by kernel_rfl) ?_
          refine s_pure 13 (.int .i64 (-1)) (by kernel_rfl) (by kernel_rfl) (fun _ => by kernel_rfl) ?_
          refine ops_end ?_
          refine At.env [(0, .int .i64 a), (1, .int .i64 b), (2, .int .i64 d), (3, .bool mine), (8, .bool false), (9, .pointer (some ⟨b1_0_0, 0, none⟩)), (11, .pointer (some ⟨b6_9, 0, none⟩)), (12, .bool y6_5.2.1), (13, .int .i64 (-1)), (49, .bool (!(decide (y6_5.1.next = (3 : Int)))))] ⟨by kernel_rfl, by kernel_rfl, by kernel_rfl, by kernel_rfl, by kernel_rfl, by kernel_rfl, by kernel_rfl, by kernel_rfl, by kernel_rfl, by kernel_rfl, trivial⟩ ?_
          refine at_then_normal ?_
          refine at_seq_join (x := C3 [1, 1, 1, 1, 1, 1, 1, 0]) (y := C3 [1, 1, 1, 1, 1, 1, 1, 1]) (fun ff ΔΔ => ∃ (e1_13 : Int), purgeDataS_j1 d y6_5 mine a e1_13 = some y ∧ ff = [(0, .int .i64 a), (2, .int .i64 d), (3, .bool mine), (8, .bool false), (9, .pointer (some ⟨b1_0_0, 0, none⟩)), (11, .pointer (some ⟨b6_9, 0, none⟩)), (12, .bool y6_5.2.1), (13, .int .i64 e1_13)] ∧ (Asn.own b6_9 (.cells #[.int .i64 y6_5.1.kind, .int .i64 y6_5.1.line, .int .i64 y6_5.1.id, .int .i64 y6_5.1.step, .int .i64 y6_5.1.state, .int .i64 y6_5.1.head, .slice a6_5_00 (List.length y6_5.1.data) c6_5_00, .int .i64 y6_5.1.next, .int .i64 y6_5.1.told] 35 (0, 0))) :: (ImmI a6_5_00 y6_5.1.data) :: (CacheA b1_0_0 y6_5.2.2) :: (RCacheA b1_0_1 y1_0.2) :: Γ = ΔΔ) (by kernel_rfl) ?_ ?_
          · rintro _ _ ⟨e1_13, H, rfl, rfl⟩
            rw [purgeDataS_j1] at H
            refine at_seq (x := C3 [1, 1, 1, 1, 1, 1, 1, 1, 0]) (y := C3 [1, 1, 1, 1, 1, 1, 1, 1, 1]) (by kernel_rfl) ?_
            refine at_region (id := 12) 14 (by kernel_rfl) (by kernel_rfl) ?_
            refine s_load 52 (.agg #[.int .i64 y6_5.1.kind, .int .i64 y6_5.1.line, .int .i64 y6_5.1.id, .int .i64 y6_5.1.step, .int .i64 y6_5.1.state, .int .i64 y6_5.1.head, .slice a6_5_00 (List.length y6_5.1.data) c6_5_00, .int .i64 y6_5.1.next, .int .i64 y6_5.1.told]) (by kernel_rfl) (by kernel_rfl) (loadN (off := 0) (vs := [.int .i64 y6_5.1.kind, .int .i64 y6_5.1.line, .int .i64 y6_5.1.id, .int .i64 y6_5.1.step, .int .i64 y6_5.1.state, .int .i64 y6_5.1.head, .slice a6_5_00 (List.length y6_5.1.data) c6_5_00, .int .i64 y6_5.1.next, .int .i64 y6_5.1.told]) 9 (fun _ => by kernel_rfl) (holds_own .here) rfl (by exact ⟨rfl, rfl, rfl, rfl, rfl, rfl, rfl, rfl, rfl, trivial⟩)) ?_
            refine s_pure 53 (.pointer (some ⟨b1_0_0, 0, none⟩)) (by kernel_rfl) (by kernel_rfl) (fun _ => by kernel_rfl) ?_
            refine s_pure 54 (.int .i64 e1_13) (by kernel_rfl) (by kernel_rfl) (fun _ => by kernel_rfl) ?_
            refine s_pure 55 (.bool mine) (by kernel_rfl) (by kernel_rfl) (fun _ => by kernel_rfl) ?_
            refine s_pure 56 (.bool !mine) (by kernel_rfl) (by kernel_rfl) (fun _ => by kernel_rfl) ?_
            refine s_pure 57 (.int .i64 d) (by kernel_rfl) (by kernel_rfl) (fun _ => by kernel_rfl) ?_
            obtain ⟨l12_6, hl12_6, H⟩ := letE H
            refine s_step 58 (by kernel_rfl) (by kernel_rfl) (st_new_ints (T := 3) (xs := l12_6) 1 hl12_6 (fun _ => by kernel_rfl) (by kernel_rfl)) ?_
            rintro _ _ ⟨b12_6, rfl, rfl⟩
            refine s_pure 59 (.agg #[.int .i64 (9), .int .i64 (0), .int .i64 (0), .int .i64 (0), .int .i64 (1), .int .i64 e1_13, .int .i64 (0), .bool !mine, .slice (some ⟨b12_6, 0, none⟩) (List.length l12_6) 1]) (by kernel_rfl) (by kernel_rfl) (fun _ => by kernel_rfl) ?_
            obtain ⟨y12_8, hy12_8, H⟩ := bindE H
            refine s_call 60 16 #[.agg #[.int .i64 y6_5.1.kind, .int .i64 y6_5.1.line, .int .i64 y6_5.1.id, .int .i64 y6_5.1.step, .int .i64 y6_5.1.state, .int .i64 y6_5.1.head, .slice a6_5_00 (List.length y6_5.1.data) c6_5_00, .int .i64 y6_5.1.next, .int .i64 y6_5.1.told], .int .i64 (2), .pointer (some ⟨b1_0_0, 0, none⟩), .agg #[.int .i64 (9), .int .i64 (0), .int .i64 (0), .int .i64 (0), .int .i64 (1), .int .i64 e1_13, .int .i64 (0), .bool !mine, .slice (some ⟨b12_6, 0, none⟩) (List.length l12_6) 1]] (by kernel_rfl) (by kernel_rfl) (fun _ => by kernel_rfl) (Tr.conv (Γ' := (ImmI a6_5_00 y6_5.1.data) :: (CacheA b1_0_0 y6_5.2.2) :: (ImmI a6_5_00 y6_5.1.data) :: (IntsA (some ⟨b12_6, 0, none⟩) 1 l12_6) :: (Asn.own b6_9 (.cells #[.int .i64 y6_5.1.kind, .int .i64 y6_5.1.line, .int .i64 y6_5.1.id, .int .i64 y6_5.1.step, .int .i64 y6_5.1.state, .int .i64 y6_5.1.head, .slice a6_5_00 (List.length y6_5.1.data) c6_5_00, .int .i64 y6_5.1.next, .int .i64 y6_5.1.told] 35 (0, 0))) :: (RCacheA b1_0_1 y1_0.2) :: Γ) (fun w hw => (Sat.less (.take .here (.take (.there (.there (.there .here))) (.take .here (.take .here (.take .here (.take .here .refl)))))) (ImmR.dup (Sat.less (.take (.there (.there .here)) (.take .here (.take .here (.take .here (.take .here .refl))))) hw)))) (PNextF_tr a6_5_00 c6_5_00 y6_5.1 (2 : Int) b1_0_0 y6_5.2.2 (some ⟨b12_6, 0, none⟩) 1 (⟨9, 0, 0, 0, 1, e1_13, 0, !mine, l12_6⟩ : PktS) (RowsA.reads (k := 1) (.there .here)) y12_8 hy12_8)) ?_
            rintro _ _ ⟨a12_8_00, c12_8_00, rfl, rfl⟩
            refine s_pure 51 (.tuple #[.agg #[.int .i64 y12_8.1.kind, .int .i64 y12_8.1.line, .int .i64 y12_8.1.id, .int .i64 y12_8.1.step, .int .i64 y12_8.1.state, .int .i64 y12_8.1.head, .slice a12_8_00 (List.length y12_8.1.data) c12_8_00, .int .i64 y12_8.1.next, .int .i64 y12_8.1.told], .bool y12_8.2.1]) (by kernel_rfl) (by kernel_rfl) (fun _ => by kernel_rfl) ?_
            refine s_pure 61 (.agg #[.int .i64 y12_8.1.kind, .int .i64 y12_8.1.line, .int .i64 y12_8.1.id, .int .i64 y12_8.1.step, .int .i64 y12_8.1.state, .int .i64 y12_8.1.head, .slice a12_8_00 (List.length y12_8.1.data) c12_8_00, .int .i64 y12_8.1.next, .int .i64 y12_8.1.told]) (by kernel_rfl) (by kernel_rfl) (fun _ => by kernel_rfl) ?_
            refine s_pure 62 (.bool y12_8.2.1) (by kernel_rfl) (by kernel_rfl) (fun _ => by kernel_rfl) ?_
            refine s_do (by kernel_rfl) (by kernel_rfl) (st_store (off := 0) (vs := [.int .i64 y12_8.1.kind, .int .i64 y12_8.1.line, .int .i64 y12_8.1.id, .int .i64 y12_8.1.step, .int .i64 y12_8.1.state, .int .i64 y12_8.1.head, .slice a12_8_00 (List.length y12_8.1.data) c12_8_00, .int .i64 y12_8.1.next, .int .i64 y12_8.1.told]) (c' := #[.int .i64 y12_8.1.kind, .int .i64 y12_8.1.line, .int .i64 y12_8.1.id, .int .i64 y12_8.1.step, .int .i64 y12_8.1.state, .int .i64 y12_8.1.head, .slice a12_8_00 (List.length y12_8.1.data) c12_8_00, .int .i64 y12_8.1.next, .int .i64 y12_8.1.told]) (fun _ => by kernel_rfl) (.there (.there (.there (.there .here)))) (by kernel_rfl) (by kernel_rfl) (by kernel_rfl)) ?_
            rintro _ _ ⟨rfl, rfl⟩
            refine s_pure 12 (.bool y12_8.2.1) (by kernel_rfl) (by kernel_rfl) (fun _ => by kernel_rfl) ?_
            refine ops_end ?_
            refine At.env [(0, .int .i64 a), (2, .int .i64 d), (3, .bool mine), (8, .bool false), (9, .pointer (some ⟨b1_0_0, 0, none⟩)), (11, .pointer (some ⟨b6_9, 0, none⟩)), (12, .bool y12_8.2.1), (13, .int .i64 e1_13)] ⟨by kernel_rfl, by kernel_rfl, by kernel_rfl, by kernel_rfl, by kernel_rfl, by kernel_rfl, by kernel_rfl, by kernel_rfl, trivial⟩ ?_
            refine at_then_normal ?_
            refine at_seq (x := C3 [1, 1, 1, 1, 1, 1, 1, 1, 1, 0]) (y := C3 [1, 1, 1, 1, 1, 1, 1, 1, 1, 1]) (by kernel_rfl) ?_
            refine at_region (id := 13) 8 (by kernel_rfl) (by kernel_rfl) ?_
            refine s_pure 64 (.pointer (some ⟨b1_0_0, 0, none⟩)) (by kernel_rfl) (by kernel_rfl) (fun _ => by kernel_rfl) ?_
            obtain ⟨y13_1, hy13_1, H⟩ := bindE H
            refine s_call 65 18 #[.pointer (some ⟨b1_0_0, 0, none⟩), .int .i64 (1)] (by kernel_rfl) (by kernel_rfl) (fun _ => by kernel_rfl) (Tr.conv (Γ' := (CacheA b1_0_0 y12_8.2.2) :: (Asn.own b6_9 (.cells #[.int .i64 y12_8.1.kind, .int .i64 y12_8.1.line, .int .i64 y12_8.1.id, .int .i64 y12_8.1.step, .int .i64 y12_8.1.state, .int .i64 y12_8.1.head, .slice a12_8_00 (List.length y12_8.1.data) c12_8_00, .int .i64 y12_8.1.next, .int .i64 y12_8.1.told] 35 (0, 0))) :: (ImmI a12_8_00 y12_8.1.data) :: (ImmI a6_5_00 y6_5.1.data) :: (IntsA (some ⟨b12_6, 0, none⟩) 1 l12_6) :: (RCacheA b1_0_1 y1_0.2) :: Γ) (fun w hw => (Sat.less (.take (.there (.there .here)) (.take .here (.take .here (.take .here (.take .here (.take .here .refl)))))) hw)) (FindF_tr b1_0_0 y12_8.2.2 (1 : Int) y13_1 hy13_1)) ?_
            rintro _ _ ⟨a13_1_00, c13_1_00, rfl, rfl⟩
            refine s_pure 63 (.tuple #[.agg #[.int .i64 y13_1.1.fwd, .int .i64 y13_1.1.back, .int .i64 y13_1.1.line, .int .i64 y13_1.1.used, .bool y13_1.1.dirty, .slice a13_1_00 (List.length y13_1.1.data) c13_1_00], .bool y13_1.2]) (by kernel_rfl) (by kernel_rfl) (fun _ => by kernel_rfl) ?_
            refine s_pure 66 (.agg #[.int .i64 y13_1.1.fwd, .int .i64 y13_1.1.back, .int .i64 y13_1.1.line, .int .i64 y13_1.1.used, .bool y13_1.1.dirty, .slice a13_1_00 (List.length y13_1.1.data) c13_1_00]) (by kernel_rfl) (by kernel_rfl) (fun _ => by kernel_rfl) ?_
            refine s_pure 67 (.bool y13_1.2) (by kernel_rfl) (by kernel_rfl) (fun _ => by kernel_rfl) ?_
            refine s_step 14 (by kernel_rfl) (by kernel_rfl) (st_new (T := 32) (cells := #[.int .i64 (0), .int .i64 (0), .int .i64 (0), .int .i64 (0), .bool false, .slice none 0 0]) (fun a => .pointer (some a)) (fun _ => by kernel_rfl)) ?_
            rintro _ _ ⟨b13_5, rfl, rfl⟩
            refine s_do (by kernel_rfl) (by kernel_rfl) (st_store (off := 0) (vs := [.int .i64 y13_1.1.fwd, .int .i64 y13_1.1.back, .int .i64 y13_1.1.line, .int .i64 y13_1.1.used, .bool y13_1.1.dirty, .slice a13_1_00 (List.length y13_1.1.data) c13_1_00]) (c' := #[.int .i64 y13_1.1.fwd, .int .i64 y13_1.1.back, .int .i64 y13_1.1.line, .int .i64 y13_1.1.used, .bool y13_1.1.dirty, .slice a13_1_00 (List.length y13_1.1.data) c13_1_00]) (fun _ => by kernel_rfl) .here (by kernel_rfl) (by kernel_rfl) (by kernel_rfl)) ?_
            rintro _ _ ⟨rfl, rfl⟩
            refine s_pure 15 (.bool y13_1.2) (by kernel_rfl) (by kernel_rfl) (fun _ => by kernel_rfl) ?_
            refine ops_end ?_
            refine At.env [(0, .int .i64 a), (2, .int .i64 d), (3, .bool mine), (8, .bool false), (9, .pointer (some ⟨b1_0_0, 0, none⟩)), (11, .pointer (some ⟨b6_9, 0, none⟩)), (12, .bool y12_8.2.1), (13, .int .i64 e1_13), (14, .pointer (some ⟨b13_5, 0, none⟩)), (15, .bool y13_1.2)] ⟨by kernel_rfl, by kernel_rfl, by kernel_rfl, by kernel_rfl, by kernel_rfl, by kernel_rfl, by kernel_rfl, by kernel_rfl, by kernel_rfl, by kernel_rfl, trivial⟩ ?_
            refine at_then_normal ?_
            refine at_seq (x := C3 [1, 1, 1, 1, 1, 1, 1, 1, 1, 1, 0]) (y := C3 [1, 1, 1, 1, 1, 1, 1, 1, 1, 1, 1]) (by kernel_rfl) ?_
            refine at_region (id := 14) 2 (by kernel_rfl) (by kernel_rfl) ?_
            refine s_pure 68 (.int .i64 d) (by kernel_rfl) (by kernel_rfl) (fun _ => by kernel_rfl) ?_
            refine s_pure 16 (.int .i64 d) (by kernel_rfl) (by kernel_rfl) (fun _ => by kernel_rfl) ?_
            refine ops_end ?_
            refine At.env [(0, .int .i64 a), (2, .int .i64 d), (3, .bool mine), (8, .bool false), (9, .pointer (some ⟨b1_0_0, 0, none⟩)), (11, .pointer (some ⟨b6_9, 0, none⟩)), (12, .bool y12_8.2.1), (13, .int .i64 e1_13), (14, .pointer (some ⟨b13_5, 0, none⟩)), (15, .bool y13_1.2), (16, .int .i64 d)] ⟨by kernel_rfl, by kernel_rfl, by kernel_rfl, by kernel_rfl, by kernel_rfl, by kernel_rfl, by kernel_rfl, by kernel_rfl, by kernel_rfl, by kernel_rfl, by kernel_rfl, trivial⟩ ?_
            refine at_then_normal ?_
            refine at_seq_join (x := C3 [1, 1, 1, 1, 1, 1, 1, 1, 1, 1, 1, 0]) (y := C3 [1, 1, 1, 1, 1, 1, 1, 1, 1, 1, 1, 1]) (fun ff ΔΔ => ∃ (e2_16 : Int), purgeDataS_j2 y12_8 y13_1 e2_16 = some y ∧ ff = [(8, .bool false), (11, .pointer (some ⟨b6_9, 0, none⟩)), (12, .bool y12_8.2.1), (14, .pointer (some ⟨b13_5, 0, none⟩)), (15, .bool y13_1.2), (16, .int .i64 e2_16)] ∧ (Asn.own b13_5 (.cells #[.int .i64 y13_1.1.fwd, .int .i64 y13_1.1.back, .int .i64 y13_1.1.line, .int .i64 y13_1.1.used, .bool y13_1.1.dirty, .slice a13_1_00 (List.length y13_1.1.data) c13_1_00] 32 (0, 0))) :: (IntsA a13_1_00 c13_1_00 y13_1.1.data) :: (CacheA b1_0_0 y12_8.2.2) :: (Asn.own b6_9 (.cells #[.int .i64 y12_8.1.kind, .int .i64 y12_8.1.line, .int .i64 y12_8.1.id, .int .i64 y12_8.1.step, .int .i64 y12_8.1.state, .int .i64 y12_8.1.head, .slice a12_8_00 (List.length y12_8.1.data) c12_8_00, .int .i64 y12_8.1.next, .int .i64 y12_8.1.told] 35 (0, 0))) :: (ImmI a12_8_00 y12_8.1.data) :: (RCacheA b1_0_1 y1_0.2) :: Γ = ΔΔ) (by kernel_rfl) ?_ ?_
            · rintro _ _ ⟨e2_16, H, rfl, rfl⟩
              rw [purgeDataS_j2] at H
              refine at_seq (x := C3 [1, 1, 1, 1, 1, 1, 1, 1, 1, 1, 1, 1, 0]) (y := C3 [1, 1, 1, 1, 1, 1, 1, 1, 1, 1, 1, 1, 1]) (by kernel_rfl) ?_
              refine at_region (id := 17) 34 (by kernel_rfl) (by kernel_rfl) ?_
              refine s_pure 71 (.bool y12_8.2.1) (by kernel_rfl) (by kernel_rfl) (fun _ => by kernel_rfl) ?_
              rcases Bool.eq_false_or_eq_true (y12_8.2.1) with h4 | h4
              · replace H := bifT H h4
                refine s_pure 72 (.bool true) (by kernel_rfl) (by kernel_rfl) (run_eq (v := .bool (y12_8.2.1)) (fun _ => by kernel_rfl) (congrArg Value.bool h4)) ?_
                refine s_pure 73 (.pointer (some ⟨b6_9, 3, none⟩)) (by kernel_rfl) (by kernel_rfl) (fun _ => by kernel_rfl) ?_
                refine s_load 74 (.int .i64 y12_8.1.step) (by kernel_rfl) (by kernel_rfl) (load1 (off := 3) (fun _ => by kernel_rfl) (holds_own (.there (.there (.there .here)))) (by kernel_rfl)) ?_
                refine s_pure 75 (.bool (decide (y12_8.1.step = (6 : Int)))) (by kernel_rfl) (by kernel_rfl) (fun _ => by kernel_rfl) ?_
                refine s_pure 76 (.bool (decide (y12_8.1.step = (6 : Int)))) (by kernel_rfl) (by kernel_rfl) (fun _ => by kernel_rfl) ?_
                rcases Bool.eq_false_or_eq_true (decide (y12_8.1.step = (6 : Int))) with h5 | h5
                · replace H := bifT H h5
                  refine s_pure 77 (.bool true) (by kernel_rfl) (by kernel_rfl) (run_eq (v := .bool (decide (y12_8.1.step = (6 : Int)))) (fun _ => by kernel_rfl) (congrArg Value.bool h5)) ?_
                  refine s_pure 78 (.pointer (some ⟨b6_9, 6, none⟩)) (by kernel_rfl) (by kernel_rfl) (fun _ => by kernel_rfl) ?_
                  refine s_load 79 (.slice a12_8_00 (List.length y12_8.1.data) c12_8_00) (by kernel_rfl) (by kernel_rfl) (load1 (off := 6) (fun _ => by kernel_rfl) (holds_own (.there (.there (.there .here)))) (by kernel_rfl)) ?_
                  refine s_pure 80 (.int .i64 (((List.length y12_8.1.data) : Nat) : Int)) (by kernel_rfl) (by kernel_rfl) (fun _ => by kernel_rfl) ?_
                  refine s_pure 81 (.bool (decide ((((List.length y12_8.1.data) : Nat) : Int) = (0 : Int)))) (by kernel_rfl) (by kernel_rfl) (fun _ => by kernel_rfl) ?_
                  refine s_pure 82 (.bool (decide ((((List.length y12_8.1.data) : Nat) : Int) = (0 : Int)))) (by kernel_rfl) (by kernel_rfl) (fun _ => by kernel_rfl) ?_
                  rcases Bool.eq_false_or_eq_true (decide ((((List.length y12_8.1.data) : Nat) : Int) = (0 : Int))) with h6 | h6
                  · replace H := bifT H h6
                    refine s_pure 83 (.bool true) (by kernel_rfl) (by kernel_rfl) (run_eq (v := .bool (decide ((((List.length y12_8.1.data) : Nat) : Int) = (0 : Int)))) (fun _ => by kernel_rfl) (congrArg Value.bool h6)) ?_
                    refine s_pure 84 (.bool y13_1.2) (by kernel_rfl) (by kernel_rfl) (fun _ => by kernel_rfl) ?_
                    refine s_pure 85 (.bool y13_1.2) (by kernel_rfl) (by kernel_rfl) (fun _ => by kernel_rfl) ?_
                    rcases Bool.eq_false_or_eq_true (y13_1.2) with h7 | h7
                    · replace H := bifT H h7
                      refine s_pure 86 (.bool true) (by kernel_rfl) (by kernel_rfl) (run_eq (v := .bool (y13_1.2)) (fun _ => by kernel_rfl) (congrArg Value.bool h7)) ?_
                      refine s_pure 87 (.pointer (some ⟨b13_5, 4, none⟩)) (by kernel_rfl) (by kernel_rfl) (fun _ => by kernel_rfl) ?_
                      refine s_load 88 (.bool y13_1.1.dirty) (by kernel_rfl) (by kernel_rfl) (load1 (off := 4) (fun _ => by kernel_rfl) (holds_own .here) (by kernel_rfl)) ?_
                      refine s_pure 89 (.bool y13_1.1.dirty) (by kernel_rfl) (by kernel_rfl) (fun _ => by kernel_rfl) ?_
                      rcases Bool.eq_false_or_eq_true (y13_1.1.dirty) with h8 | h8
                      · replace H := bifT H h8
                        refine s_pure 90 (.bool true) (by kernel_rfl) (by kernel_rfl) (run_eq (v := .bool (y13_1.1.dirty)) (fun _ => by kernel_rfl) (congrArg Value.bool h8)) ?_
                        refine s_pure 91 (.pointer (some ⟨b13_5, 0, none⟩)) (by kernel_rfl) (by kernel_rfl) (fun _ => by kernel_rfl) ?_
                        refine s_load 92 (.agg #[.int .i64 y13_1.1.fwd, .int .i64 y13_1.1.back]) (by kernel_rfl) (by kernel_rfl) (loadN (off := 0) (vs := [.int .i64 y13_1.1.fwd, .int .i64 y13_1.1.back]) 2 (fun _ => by kernel_rfl) (holds_own .here) rfl (by exact ⟨rfl, rfl, trivial⟩)) ?_
                        obtain ⟨y17_22, hy17_22, H⟩ := bindE H
                        refine s_quiet 93 (.bool y17_22) 19 #[.agg #[.int .i64 y13_1.1.fwd, .int .i64 y13_1.1.back]] (by kernel_rfl) (by kernel_rfl) (fun _ => by kernel_rfl) (LOnlyF_tr (⟨y13_1.1.fwd, y13_1.1.back⟩ : LinkS) y17_22 hy17_22) ?_
                        refine s_pure 94 (.bool y17_22) (by kernel_rfl) (by kernel_rfl) (fun _ => by kernel_rfl) ?_
                        rcases Bool.eq_false_or_eq_true (y17_22) with h9 | h9
                        · replace H := bifT H h9
                          refine s_pure 95 (.bool true) (by kernel_rfl) (by kernel_rfl) (run_eq (v := .bool (y17_22)) (fun _ => by kernel_rfl) (congrArg Value.bool h9)) ?_
                          refine s_load 96 (.agg #[.int .i64 y13_1.1.fwd, .int .i64 y13_1.1.back, .int .i64 y13_1.1.line, .int .i64 y13_1.1.used, .bool y13_1.1.dirty, .slice a13_1_00 (List.length y13_1.1.data) c13_1_00]) (by kernel_rfl) (by kernel_rfl) (loadN (off := 0) (vs := [.int .i64 y13_1.1.fwd, .int .i64 y13_1.1.back, .int .i64 y13_1.1.line, .int .i64 y13_1.1.used, .bool y13_1.1.dirty, .slice a13_1_00 (List.length y13_1.1.data) c13_1_00]) 6 (fun _ => by kernel_rfl) (holds_own .here) rfl (by exact ⟨rfl, rfl, rfl, rfl, rfl, rfl, trivial⟩)) ?_
                          obtain ⟨y17_26, hy17_26, H⟩ := bindE H
                          refine s_call 97 20 #[.agg #[.int .i64 y13_1.1.fwd, .int .i64 y13_1.1.back, .int .i64 y13_1.1.line, .int .i64 y13_1.1.used, .bool y13_1.1.dirty, .slice a13_1_00 (List.length y13_1.1.data) c13_1_00], .int .i64 (0)] (by kernel_rfl) (by kernel_rfl) (fun _ => by kernel_rfl) (EWordF_tr a13_1_00 c13_1_00 y13_1.1 (0 : Int) (RowsA.reads (k := 1) (.there .here)) y17_26 hy17_26) ?_
                          rintro _ _ ⟨rfl, rfl⟩
                          refine s_pure 98 (.int .i64 e2_16) (by kernel_rfl) (by kernel_rfl) (fun _ => by kernel_rfl) ?_
                          refine s_pure 99 (.bool (decide (y17_26 = e2_16))) (by kernel_rfl) (by kernel_rfl) (fun _ => by kernel_rfl) ?_
                          refine s_pure 100 (.bool (decide (y17_26 = e2_16))) (by kernel_rfl) (by kernel_rfl) (fun _ => by kernel_rfl) ?_
                          rcases Bool.eq_false_or_eq_true (decide (y17_26 = e2_16)) with h10 | h10
                          · replace H := bifT H h10
                            refine s_pure 101 (.bool true) (by kernel_rfl) (by kernel_rfl) (run_eq (v := .bool (decide (y17_26 = e2_16))) (fun _ => by kernel_rfl) (congrArg Value.bool h10)) ?_
                            obtain ⟨y17_31, hy17_31, H⟩ := bindE H
                            refine s_call 102 21 #[] (by kernel_rfl) (by kernel_rfl) (fun _ => by kernel_rfl) (W15F_tr  y17_31 hy17_31) ?_
                            rintro _ _ ⟨rfl, rfl⟩
                            refine s_pure 103 (.bool y17_31) (by kernel_rfl) (by kernel_rfl) (fun _ => by kernel_rfl) ?_
                            refine s_pure 8 (.bool y17_31) (by kernel_rfl) (by kernel_rfl) (fun _ => by kernel_rfl) ?_
                            refine ops_end ?_
                            refine At.env [(8, .bool y17_31), (11, .pointer (some ⟨b6_9, 0, none⟩)), (12, .bool y12_8.2.1), (14, .pointer (some ⟨b13_5, 0, none⟩)), (15, .bool y13_1.2), (16, .int .i64 e2_16)] ⟨by kernel_rfl, by kernel_rfl, by kernel_rfl, by kernel_rfl, by kernel_rfl, by kernel_rfl, trivial⟩ ?_
                            refine at_then_normal ?_
                            refine at_ret (by kernel_rfl) ?_
                            obtain rfl := someE H
                            refine at_backR [.bool y17_31] (Γ) (rs := [.tmp 8]) (by kernel_rfl) (.cons (.tmp (by kernel_rfl)) .nil) (fun w hw => (Sat.less (.drop .here (.drop .here (.drop .here (.drop .here (.drop .here (.drop .here .refl)))))) hw)) ?_
                            exact ⟨rfl, rfl⟩
                          · replace H := bifF H h10
                            refine s_pure 101 (.bool false) (by kernel_rfl) (by kernel_rfl) (run_eq (v := .bool (decide (y17_26 = e2_16))) (fun _ => by kernel_rfl) (congrArg Value.bool h10)) ?_
                            refine s_pass 102 (by kernel_rfl) (by kernel_rfl) ?_
                            refine s_pure 103 (.bool false) (by kernel_rfl) (by kernel_rfl) (fun _ => by kernel_rfl) ?_
                            refine s_pure 8 (.bool false) (by kernel_rfl) (by kernel_rfl) (fun _ => by kernel_rfl) ?_
                            refine ops_end ?_
                            refine At.env [(8, .bool false), (11, .pointer (some ⟨b6_9, 0, none⟩)), (12, .bool y12_8.2.1), (14, .pointer (some ⟨b13_5, 0, none⟩)), (15, .bool y13_1.2), (16, .int .i64 e2_16)] ⟨by kernel_rfl, by kernel_rfl, by kernel_rfl, by kernel_rfl, by kernel_rfl, by kernel_rfl, trivial⟩ ?_
                            refine at_then_normal ?_
                            refine at_ret (by kernel_rfl) ?_
                            obtain rfl := someE H
                            refine at_backR [.bool false] (Γ) (rs := [.tmp 8]) (by kernel_rfl) (.cons (.tmp (by kernel_rfl)) .nil) (fun w hw => (Sat.less (.drop .here (.drop .here (.drop .here (.drop .here (.drop .here (.drop .here .refl)))))) hw)) ?_
                            exact ⟨rfl, rfl⟩
                        · replace H := bifF H h9
                          refine s_pure 95 (.bool false) (by kernel_rfl) (by kernel_rfl) (run_eq (v := .bool (y17_22)) (fun _ => by kernel_rfl) (congrArg Value.bool h9)) ?_
                          refine s_pass 96 (by kernel_rfl) (by kernel_rfl) ?_
                          refine s_pass 97 (by kernel_rfl) (by kernel_rfl) ?_
                          refine s_pass 98 (by kernel_rfl) (by kernel_rfl) ?_
                          refine s_pass 99 (by kernel_rfl) (by kernel_rfl) ?_
                          refine s_pure 100 (.bool false) (by kernel_rfl) (by kernel_rfl) (fun _ => by kernel_rfl) ?_
                          refine s_pure 101 (.bool false) (by kernel_rfl) (by kernel_rfl) (fun _ => by kernel_rfl) ?_
                          refine s_pass 102 (by kernel_rfl) (by kernel_rfl) ?_
                          refine s_pure 103 (.bool false) (by kernel_rfl) (by kernel_rfl) (fun _ => by kernel_rfl) ?_
                          refine s_pure 8 (.bool false) (by kernel_rfl) (by kernel_rfl) (fun _ => by kernel_rfl) ?_
                          refine ops_end ?_
                          refine At.env [(8, .bool false), (11, .pointer (some ⟨b6_9, 0, none⟩)), (12, .bool y12_8.2.1), (14, .pointer (some ⟨b13_5, 0, none⟩)), (15, .bool y13_1.2), (16, .int .i64 e2_16)] ⟨by kernel_rfl, by kernel_rfl, by kernel_rfl, by kernel_rfl, by kernel_rfl, by kernel_rfl, trivial⟩ ?_
                          refine at_then_normal ?_
                          refine at_ret (by kernel_rfl) ?_
                          obtain rfl := someE H
                          refine at_backR [.bool false] (Γ) (rs := [.tmp 8]) (by kernel_rfl) (.cons (.tmp (by kernel_rfl)) .nil) (fun w hw => (Sat.less (.drop .here (.drop .here (.drop .here (.drop .here (.drop .here (.drop .here .refl)))))) hw)) ?_
                          exact ⟨rfl, rfl⟩
                      · replace H := bifF H h8
                        refine s_pure 90 (.bool false) (by kernel_rfl) (by kernel_rfl) (run_eq (v := .bool (y13_1.1.dirty)) (fun _ => by kernel_rfl) (congrArg Value.bool h8)) ?_
                        refine s_pass 91 (by kernel_rfl) (by kernel_rfl) ?_
                        refine s_pass 92 (by kernel_rfl) (by kernel_rfl) ?_
                        refine s_pass 93 (by kernel_rfl) (by kernel_rfl) ?_
                        refine s_pure 94 (.bool false) (by kernel_rfl) (by kernel_rfl) (fun _ => by kernel_rfl) ?_
                        refine s_pure 95 (.bool false) (by kernel_rfl) (by kernel_rfl) (fun _ => by kernel_rfl) ?_
                        refine s_pass 96 (by kernel_rfl) (by kernel_rfl) ?_
                        refine s_pass 97 (by kernel_rfl) (by kernel_rfl) ?_
                        refine s_pass 98 (by kernel_rfl) (by kernel_rfl) ?_
                        refine s_pass 99 (by kernel_rfl) (by kernel_rfl) ?_
                        refine s_pure 100 (.bool false) (by kernel_rfl) (by kernel_rfl) (fun _ => by kernel_rfl) ?_
                        refine s_pure 101 (.bool false) (by kernel_rfl) (by kernel_rfl) (fun _ => by kernel_rfl) ?_
                        refine s_pass 102 (by kernel_rfl) (by kernel_rfl) ?_
                        refine s_pure 103 (.bool false) (by kernel_rfl) (by kernel_rfl) (fun _ => by kernel_rfl) ?_
                        refine s_pure 8 (.bool false) (by kernel_rfl) (by kernel_rfl) (fun _ => by kernel_rfl) ?_
                        refine ops_end ?_
                        refine At.env [(8, .bool false), (11, .pointer (some ⟨b6_9, 0, none⟩)), (12, .bool y12_8.2.1), (14, .pointer (some ⟨b13_5, 0, none⟩)), (15, .bool y13_1.2), (16, .int .i64 e2_16)] ⟨by kernel_rfl, by kernel_rfl, by kernel_rfl, by kernel_rfl, by kernel_rfl, by kernel_rfl, trivial⟩ ?_
                        refine at_then_normal ?_
                        refine at_ret (by kernel_rfl) ?_
                        obtain rfl := someE H
                        refine at_backR [.bool false] (Γ) (rs := [.tmp 8]) (by kernel_rfl) (.cons (.tmp (by kernel_rfl)) .nil) (fun w hw => (Sat.less (.drop .here (.drop .here (.drop .here (.drop .here (.drop .here (.drop .here .refl)))))) hw)) ?_
                        exact ⟨rfl, rfl⟩
                    · replace H := bifF H h7
                      refine s_pure 86 (.bool false) (by kernel_rfl) (by kernel_rfl) (run_eq (v := .bool (y13_1.2)) (fun _ => by kernel_rfl) (congrArg Value.bool h7)) ?_
                      refine s_pass 87 (by kernel_rfl) (by kernel_rfl) ?_
                      refine s_pass 88 (by kernel_rfl) (by kernel_rfl) ?_
                      refine s_pure 89 (.bool false) (by kernel_rfl) (by kernel_rfl) (fun _ => by kernel_rfl) ?_
                      refine s_pure 90 (.bool false) (by kernel_rfl) (by kernel_rfl) (fun _ => by kernel_rfl) ?_
                      refine s_pass 91 (by kernel_rfl) (by kernel_rfl) ?_
                      refine s_pass 92 (by kernel_rfl) (by kernel_rfl) ?_
                      refine s_pass 93 (by kernel_rfl) (by kernel_rfl) ?_
                      refine s_pure 94 (.bool false) (by kernel_rfl) (by kernel_rfl) (fun _ => by kernel_rfl) ?_
                      refine s_pure 95 (.bool false) (by kernel_rfl) (by kernel_rfl) (fun _ => by kernel_rfl) ?_
                      refine s_pass 96 (by kernel_rfl) (by kernel_rfl) ?_
                      refine s_pass 97 (by kernel_rfl) (by kernel_rfl) ?_
                      refine s_pass 98 (by kernel_rfl) (by kernel_rfl) ?_
                      refine s_pass 99 (by kernel_rfl) (by kernel_rfl) ?_
                      refine s_pure 100 (.bool false) (by kernel_rfl) (by kernel_rfl) (fun _ => by kernel_rfl) ?_
                      refine s_pure 101 (.bool false) (by kernel_rfl) (by kernel_rfl) (fun _ => by kernel_rfl) ?_
                      refine s_pass 102 (by kernel_rfl) (by kernel_rfl) ?_
                      refine s_pure 103 (.bool false) (by kernel_rfl) (by kernel_rfl) (fun _ => by kernel_rfl) ?_
                      refine s_pure 8 (.bool false) (by kernel_rfl) (by kernel_rfl) (fun _ => by kernel_rfl) ?_
                      refine ops_end ?_
                      refine At.env [(8, .bool false), (11, .pointer (some ⟨b6_9, 0, none⟩)), (12, .bool y12_8.2.1), (14, .pointer (some ⟨b13_5, 0, none⟩)), (15, .bool y13_1.2), (16, .int .i64 e2_16)] ⟨by kernel_rfl, by kernel_rfl, by kernel_rfl, by kernel_rfl, by kernel_rfl, by kernel_rfl, trivial⟩ ?_
                      refine at_then_normal ?_
                      refine at_ret (by kernel_rfl) ?_
                      obtain rfl := someE H
                      refine at_backR [.bool false] (Γ) (rs := [.tmp 8]) (by kernel_rfl) (.cons (.tmp (by kernel_rfl)) .nil) (fun w hw => (Sat.less (.drop .here (.drop .here (.drop .here (.drop .here (.drop .here (.drop .here .refl)))))) hw)) ?_
                      exact ⟨rfl, rfl⟩
                  · replace H := bifF H h6
                    refine s_pure 83 (.bool false) (by kernel_rfl) (by kernel_rfl) (run_eq (v := .bool (decide ((((List.length y12_8.1.data) : Nat) : Int) = (0 : Int)))) (fun _ => by kernel_rfl) (congrArg Value.bool h6)) ?_
                    refine s_pass 84 (by kernel_rfl) (by kernel_rfl) ?_
                    refine s_pure 85 (.bool false) (by kernel_rfl) (by kernel_rfl) (fun _ => by kernel_rfl) ?_
                    refine s_pure 86 (.bool false) (by kernel_rfl) (by kernel_rfl) (fun _ => by kernel_rfl) ?_
                    refine s_pass 87 (by kernel_rfl) (by kernel_rfl) ?_
                    refine s_pass 88 (by kernel_rfl) (by kernel_rfl) ?_
                    refine s_pure 89 (.bool false) (by kernel_rfl) (by kernel_rfl) (fun _ => by kernel_rfl) ?_
                    refine s_pure 90 (.bool false) (by kernel_rfl) (by kernel_rfl) (fun _ => by kernel_rfl) ?_
                    refine s_pass 91 (by kernel_rfl) (by kernel_rfl) ?_
                    refine s_pass 92 (by kernel_rfl) (by kernel_rfl) ?_
                    refine s_pass 93 (by kernel_rfl) (by kernel_rfl) ?_
                    refine s_pure 94 (.bool false) (by kernel_rfl) (by kernel_rfl) (fun _ => by kernel_rfl) ?_
                    refine s_pure 95 (.bool false) (by kernel_rfl) (by kernel_rfl) (fun _ => by kernel_rfl) ?_
                    refine s_pass 96 (by kernel_rfl) (by kernel_rfl) ?_
                    refine s_pass 97 (by kernel_rfl) (by kernel_rfl) ?_
                    refine s_pass 98 (by kernel_rfl) (by kernel_rfl) ?_
                    refine s_pass 99 (by kernel_rfl) (by kernel_rfl) ?_
                    refine s_pure 100 (.bool false) (by kernel_rfl) (by kernel_rfl) (fun _ => by kernel_rfl) ?_
                    refine s_pure 101 (.bool false) (by kernel_rfl) (by kernel_rfl) (fun _ => by kernel_rfl) ?_
                    refine s_pass 102 (by kernel_rfl) (by kernel_rfl) ?_
                    refine s_pure 103 (.bool false) (by kernel_rfl) (by kernel_rfl) (fun _ => by kernel_rfl) ?_
                    refine s_pure 8 (.bool false) (by kernel_rfl) (by kernel_rfl) (fun _ => by kernel_rfl) ?_
                    refine ops_end ?_
                    refine At.env [(8, .bool false), (11, .pointer (some ⟨b6_9, 0, none⟩)), (12, .bool y12_8.2.1), (14, .pointer (some ⟨b13_5, 0, none⟩)), (15, .bool y13_1.2), (16, .int .i64 e2_16)] ⟨by kernel_rfl, by kernel_rfl, by kernel_rfl, by kernel_rfl, by kernel_rfl, by kernel_rfl, trivial⟩ ?_
                    refine at_then_normal ?_
                    refine at_ret (by kernel_rfl) ?_
                    obtain rfl := someE H
                    refine at_backR [.bool false] (Γ) (rs := [.tmp 8]) (by kernel_rfl) (.cons (.tmp (by kernel_rfl)) .nil) (fun w hw => (Sat.less (.drop .here (.drop .here (.drop .here (.drop .here (.drop .here (.drop .here .refl)))))) hw)) ?_
                    exact ⟨rfl, rfl⟩
                · replace H := bifF H h5
                  refine s_pure 77 (.bool false) (by kernel_rfl) (by kernel_rfl) (run_eq (v := .bool (decide (y12_8.1.step = (6 : Int)))) (fun _ => by kernel_rfl) (congrArg Value.bool h5)) ?_
                  refine s_pass 78 (by kernel_rfl) (by kernel_rfl) ?_
                  refine s_pass 79 (by kernel_rfl) (by kernel_rfl) ?_
                  refine s_pass 80 (by kernel_rfl) (by kernel_rfl) ?_
                  refine s_pass 81 (by kernel_rfl) (by kernel_rfl) ?_
                  refine s_pure 82 (.bool false) (by kernel_rfl) (by kernel_rfl) (fun _ => by kernel_rfl) ?_
                  refine s_pure 83 (.bool false) (by kernel_rfl) (by kernel_rfl) (fun _ => by kernel_rfl) ?_
                  refine s_pass 84 (by kernel_rfl) (by kernel_rfl) ?_
                  refine s_pure 85 (.bool false) (by kernel_rfl) (by kernel_rfl) (fun _ => by kernel_rfl) ?_
                  refine s_pure 86 (.bool false) (by kernel_rfl) (by kernel_rfl) (fun _ => by kernel_rfl) ?_
                  refine s_pass 87 (by kernel_rfl) (by kernel_rfl) ?_
                  refine s_pass 88 (by kernel_rfl) (by kernel_rfl) ?_
                  refine s_pure 89 (.bool false) (by kernel_rfl) (by kernel_rfl) (fun _ => by kernel_rfl) ?_
                  refine s_pure 90 (.bool false) (by kernel_rfl) (by kernel_rfl) (fun _ => by kernel_rfl) ?_
                  refine s_pass 91 (by kernel_rfl) (by kernel_rfl) ?_
                  refine s_pass 92 (by kernel_rfl) (by kernel_rfl) ?_
                  refine s_pass 93 (by kernel_rfl) (by kernel_rfl) ?_
                  refine s_pure 94 (.bool false) (by kernel_rfl) (by kernel_rfl) (fun _ => by kernel_rfl) ?_
                  refine s_pure 95 (.bool false) (by kernel_rfl) (by kernel_rfl) (fun _ => by kernel_rfl) ?_
                  refine s_pass 96 (by kernel_rfl) (by kernel_rfl) ?_
                  refine s_pass 97 (by kernel_rfl) (by kernel_rfl) ?_
                  refine s_pass 98 (by kernel_rfl) (by kernel_rfl) ?_
                  refine s_pass 99 (by kernel_rfl) (by kernel_rfl) ?_
                  refine s_pure 100 (.bool false) (by kernel_rfl) (by kernel_rfl) (fun _ => by kernel_rfl) ?_
                  refine s_pure 101 (.bool false) (by kernel_rfl) (by kernel_rfl) (fun _ => by kernel_rfl) ?_
                  refine s_pass 102 (by kernel_rfl) (by kernel_rfl) ?_
                  refine s_pure 103 (.bool false) (by kernel_rfl) (by kernel_rfl) (fun _ => by kernel_rfl) ?_
                  refine s_pure 8 (.bool false) (by kernel_rfl) (by kernel_rfl) (fun _ => by kernel_rfl) ?_
                  refine ops_end ?_
                  refine At.env [(8, .bool false), (11, .pointer (some ⟨b6_9, 0, none⟩)), (12, .bool y12_8.2.1), (14, .pointer (some ⟨b13_5, 0, none⟩)), (15, .bool y13_1.2), (16, .int .i64 e2_16)] ⟨by kernel_rfl, by kernel_rfl, by kernel_rfl, by kernel_rfl, by kernel_rfl, by kernel_rfl, trivial⟩ ?_
                  refine at_then_normal ?_
                  refine at_ret (by kernel_rfl) ?_
                  obtain rfl := someE H
                  refine at_backR [.bool false] (Γ) (rs := [.tmp 8]) (by kernel_rfl) (.cons (.tmp (by kernel_rfl)) .nil) (fun w hw => (Sat.less (.drop .here (.drop .here (.drop .here (.drop .here (.drop .here (.drop .here .refl)))))) hw)) ?_
                  exact ⟨rfl, rfl⟩
              · replace H := bifF H h4
                refine s_pure 72 (.bool false) (by kernel_rfl) (by kernel_rfl) (run_eq (v := .bool (y12_8.2.1)) (fun _ => by kernel_rfl) (congrArg Value.bool h4)) ?_
                refine s_pass 73 (by kernel_rfl) (by kernel_rfl) ?_
                refine s_pass 74 (by kernel_rfl) (by kernel_rfl) ?_
                refine s_pass 75 (by kernel_rfl) (by kernel_rfl) ?_
                refine s_pure 76 (.bool false) (by kernel_rfl) (by kernel_rfl) (fun _ => by kernel_rfl) ?_
                refine s_pure 77 (.bool false) (by kernel_rfl) (by kernel_rfl) (fun _ => by kernel_rfl) ?_
                refine s_pass 78 (by kernel_rfl) (by kernel_rfl) ?_
                refine s_pass 79 (by kernel_rfl) (by kernel_rfl) ?_
                refine s_pass 80 (by kernel_rfl) (by kernel_rfl) ?_
                refine s_pass 81 (by kernel_rfl) (by kernel_rfl) ?_
                refine s_pure 82 (.bool false) (by kernel_rfl) (by kernel_rfl) (fun _ => by kernel_rfl) ?_
                refine s_pure 83 (.bool false) (by kernel_rfl) (by kernel_rfl) (fun _ => by kernel_rfl) ?_
                refine s_pass 84 (by kernel_rfl) (by kernel_rfl) ?_
                refine s_pure 85 (.bool false) (by kernel_rfl) (by kernel_rfl) (fun _ => by kernel_rfl) ?_
                refine s_pure 86 (.bool false) (by kernel_rfl) (by kernel_rfl) (fun _ => by kernel_rfl) ?_
                refine s_pass 87 (by kernel_rfl) (by kernel_rfl) ?_
                refine s_pass 88 (by kernel_rfl) (by kernel_rfl) ?_
                refine s_pure 89 (.bool false) (by kernel_rfl) (by kernel_rfl) (fun _ => by kernel_rfl) ?_
                refine s_pure 90 (.bool false) (by kernel_rfl) (by kernel_rfl) (fun _ => by kernel_rfl) ?_
                refine s_pass 91 (by kernel_rfl) (by kernel_rfl) ?_
                refine s_pass 92 (by kernel_rfl) (by kernel_rfl) ?_
                refine s_pass 93 (by kernel_rfl) (by kernel_rfl) ?_
                refine s_pure 94 (.bool false) (by kernel_rfl) (by kernel_rfl) (fun _ => by kernel_rfl) ?_
                refine s_pure 95 (.bool false) (by kernel_rfl) (by kernel_rfl) (fun _ => by kernel_rfl) ?_
                refine s_pass 96 (by kernel_rfl) (by kernel_rfl) ?_
                refine s_pass 97 (by kernel_rfl) (by kernel_rfl) ?_
                refine s_pass 98 (by kernel_rfl) (by kernel_rfl) ?_
                refine s_pass 99 (by kernel_rfl) (by kernel_rfl) ?_
                refine s_pure 100 (.bool false) (by kernel_rfl) (by kernel_rfl) (fun _ => by kernel_rfl) ?_
                refine s_pure 101 (.bool false) (by kernel_rfl) (by kernel_rfl) (fun _ => by kernel_rfl) ?_
                refine s_pass 102 (by kernel_rfl) (by kernel_rfl) ?_
                refine s_pure 103 (.bool false) (by kernel_rfl) (by kernel_rfl) (fun _ => by kernel_rfl) ?_
                refine s_pure 8 (.bool false) (by kernel_rfl) (by kernel_rfl) (fun _ => by kernel_rfl) ?_
                refine ops_end ?_
                refine At.env [(8, .bool false), (11, .pointer (some ⟨b6_9, 0, none⟩)), (12, .bool y12_8.2.1), (14, .pointer (some ⟨b13_5, 0, none⟩)), (15, .bool y13_1.2), (16, .int .i64 e2_16)] ⟨by kernel_rfl, by kernel_rfl, by kernel_rfl, by kernel_rfl, by kernel_rfl, by kernel_rfl, trivial⟩ ?_
                refine at_then_normal ?_
                refine at_ret (by kernel_rfl) ?_
                obtain rfl := someE H
                refine at_backR [.bool false] (Γ) (rs := [.tmp 8]) (by kernel_rfl) (.cons (.tmp (by kernel_rfl)) .nil) (fun w hw => (Sat.less (.drop .here (.drop .here (.drop .here (.drop .here (.drop .here (.drop .here .refl)))))) hw)) ?_
                exact ⟨rfl, rfl⟩
            · refine at_seq (x := C3 [1, 1, 1, 1, 1, 1, 1, 1, 1, 1, 1, 0, 0]) (y := C3 [1, 1, 1, 1, 1, 1, 1, 1, 1, 1, 1, 0, 1]) (by kernel_rfl) ?_
              refine at_region (id := 15) 1 (by kernel_rfl) (by kernel_rfl) ?_
              refine s_pure 69 (.bool mine) (by kernel_rfl) (by kernel_rfl) (fun _ => by kernel_rfl) ?_
              refine ops_end ?_
              refine At.env [(0, .int .i64 a), (2, .int .i64 d), (3, .bool mine), (8, .bool false), (9, .pointer (some ⟨b1_0_0, 0, none⟩)), (11, .pointer (some ⟨b6_9, 0, none⟩)), (12, .bool y12_8.2.1), (13, .int .i64 e1_13), (14, .pointer (some ⟨b13_5, 0, none⟩)), (15, .bool y13_1.2), (16, .int .i64 d), (69, .bool mine)] ⟨by kernel_rfl, by kernel_rfl, by kernel_rfl, by kernel_rfl, by kernel_rfl, by kernel_rfl, by kernel_rfl, by kernel_rfl, by kernel_rfl, by kernel_rfl, by kernel_rfl, by kernel_rfl, trivial⟩ ?_
              refine at_then_normal ?_
              rcases Bool.eq_false_or_eq_true (mine) with h11 | h11
              · replace H := bifT H h11
                refine at_true (t := mine) (x := C3 [1, 1, 1, 1, 1, 1, 1, 1, 1, 1, 1, 0, 1, 0]) (y := C3 [1, 1, 1, 1, 1, 1, 1, 1, 1, 1, 1, 0, 1, 1]) (o := .tmp 69) (by kernel_rfl) (by kernel_rfl) (by kernel_rfl) h11 ?_
                refine at_region (id := 16) 2 (by kernel_rfl) (by kernel_rfl) ?_
                refine s_pure 70 (.int .i64 a) (by kernel_rfl) (by kernel_rfl) (fun _ => by kernel_rfl) ?_
                refine s_pure 16 (.int .i64 a) (by kernel_rfl) (by kernel_rfl) (fun _ => by kernel_rfl) ?_
                refine ops_end ?_
                refine At.env [(0, .int .i64 a), (2, .int .i64 d), (3, .bool mine), (8, .bool false), (9, .pointer (some ⟨b1_0_0, 0, none⟩)), (11, .pointer (some ⟨b6_9, 0, none⟩)), (12, .bool y12_8.2.1), (13, .int .i64 e1_13), (14, .pointer (some ⟨b13_5, 0, none⟩)), (15, .bool y13_1.2), (16, .int .i64 a), (69, .bool mine)] ⟨by kernel_rfl, by kernel_rfl, by kernel_rfl, by kernel_rfl, by kernel_rfl, by kernel_rfl, by kernel_rfl, by kernel_rfl, by kernel_rfl, by kernel_rfl, by kernel_rfl, by kernel_rfl, trivial⟩ ?_
                refine at_round_normal ?_
                exact at_join_mk [(8, .bool false), (11, .pointer (some ⟨b6_9, 0, none⟩)), (12, .bool y12_8.2.1), (14, .pointer (some ⟨b13_5, 0, none⟩)), (15, .bool y13_1.2), (16, .int .i64 a)] ((Asn.own b13_5 (.cells #[.int .i64 y13_1.1.fwd, .int .i64 y13_1.1.back, .int .i64 y13_1.1.line, .int .i64 y13_1.1.used, .bool y13_1.1.dirty, .slice a13_1_00 (List.length y13_1.1.data) c13_1_00] 32 (0, 0))) :: (IntsA a13_1_00 c13_1_00 y13_1.1.data) :: (CacheA b1_0_0 y12_8.2.2) :: (Asn.own b6_9 (.cells #[.int .i64 y12_8.1.kind, .int .i64 y12_8.1.line, .int .i64 y12_8.1.id, .int .i64 y12_8.1.step, .int .i64 y12_8.1.state, .int .i64 y12_8.1.head, .slice a12_8_00 (List.length y12_8.1.data) c12_8_00, .int .i64 y12_8.1.next, .int .i64 y12_8.1.told] 35 (0, 0))) :: (ImmI a12_8_00 y12_8.1.data) :: (RCacheA b1_0_1 y1_0.2) :: Γ) ⟨by kernel_rfl, by kernel_rfl, by kernel_rfl, by kernel_rfl, by kernel_rfl, by kernel_rfl, trivial⟩ (fun w hw => (Sat.less (.take .here (.take .here (.take .here (.take .here (.take .here (.take (.there (.there .here)) (.drop .here (.drop .here .refl)))))))) hw)) ⟨a, H, rfl, rfl⟩
              · replace H := bifF H h11
                refine at_false (t := mine) (x := C3 [1, 1, 1, 1, 1, 1, 1, 1, 1, 1, 1, 0, 1, 0]) (y := C3 [1, 1, 1, 1, 1, 1, 1, 1, 1, 1, 1, 0, 1, 1]) (o := .tmp 69) (by kernel_rfl) (by kernel_rfl) (by kernel_rfl) h11 ?_
                refine at_skip (by kernel_rfl) ?_
                refine at_round_normal ?_
                exact at_join_mk [(8, .bool false), (11, .pointer (some ⟨b6_9, 0, none⟩)), (12, .bool y12_8.2.1), (14, .pointer (some ⟨b13_5, 0, none⟩)), (15, .bool y13_1.2), (16, .int .i64 d)] ((Asn.own b13_5 (.cells #[.int .i64 y13_1.1.fwd, .int .i64 y13_1.1.back, .int .i64 y13_1.1.line, .int .i64 y13_1.1.used, .bool y13_1.1.dirty, .slice a13_1_00 (List.length y13_1.1.data) c13_1_00] 32 (0, 0))) :: (IntsA a13_1_00 c13_1_00 y13_1.1.data) :: (CacheA b1_0_0 y12_8.2.2) :: (Asn.own b6_9 (.cells #[.int .i64 y12_8.1.kind, .int .i64 y12_8.1.line, .int .i64 y12_8.1.id, .int .i64 y12_8.1.step, .int .i64 y12_8.1.state, .int .i64 y12_8.1.head, .slice a12_8_00 (List.length y12_8.1.data) c12_8_00, .int .i64 y12_8.1.next, .int .i64 y12_8.1.told] 35 (0, 0))) :: (ImmI a12_8_00 y12_8.1.data) :: (RCacheA b1_0_1 y1_0.2) :: Γ) ⟨by kernel_rfl, by kernel_rfl, by kernel_rfl, by kernel_rfl, by kernel_rfl, by kernel_rfl, trivial⟩ (fun w hw => (Sat.less (.take .here (.take .here (.take .here (.take .here (.take .here (.take (.there (.there .here)) (.drop .here (.drop .here .refl)))))))) hw)) ⟨d, H, rfl, rfl⟩
          · refine at_seq (x := C3 [1, 1, 1, 1, 1, 1, 1, 0, 0]) (y := C3 [1, 1, 1, 1, 1, 1, 1, 0, 1]) (by kernel_rfl) ?_
            refine at_region (id := 10) 1 (by kernel_rfl) (by kernel_rfl) ?_
            refine s_pure 50 (.bool mine) (by kernel_rfl) (by kernel_rfl) (fun _ => by kernel_rfl) ?_
            refine ops_end ?_
            refine At.env [(0, .int .i64 a), (1, .int .i64 b), (2, .int .i64 d), (3, .bool mine), (8, .bool false), (9, .pointer (some ⟨b1_0_0, 0, none⟩)), (11, .pointer (some ⟨b6_9, 0, none⟩)), (12, .bool y6_5.2.1), (13, .int .i64 (-1)), (49, .bool (!(decide (y6_5.1.next = (3 : Int))))), (50, .bool mine)] ⟨by kernel_rfl, by kernel_rfl, by kernel_rfl, by kernel_rfl, by kernel_rfl, by kernel_rfl, by kernel_rfl, by kernel_rfl, by kernel_rfl, by kernel_rfl, by kernel_rfl, trivial⟩ ?_
            refine at_then_normal ?_
            rcases Bool.eq_false_or_eq_true (mine) with h12 | h12
            · replace H := bifT H h12
              refine at_true (t := mine) (x := C3 [1, 1, 1, 1, 1, 1, 1, 0, 1, 0]) (y := C3 [1, 1, 1, 1, 1, 1, 1, 0, 1, 1]) (o := .tmp 50) (by kernel_rfl) (by kernel_rfl) (by kernel_rfl) h12 ?_
              refine at_region (id := 11) 1 (by kernel_rfl) (by kernel_rfl) ?_
              refine s_pure 13 (.int .i64 (2)) (by kernel_rfl) (by kernel_rfl) (fun _ => by kernel_rfl) ?_
              refine ops_end ?_
              refine At.env [(0, .int .i64 a), (1, .int .i64 b), (2, .int .i64 d), (3, .bool mine), (8, .bool false), (9, .pointer (some ⟨b1_0_0, 0, none⟩)), (11, .pointer (some ⟨b6_9, 0, none⟩)), (12, .bool y6_5.2.1), (13, .int .i64 (2)), (49, .bool (!(decide (y6_5.1.next = (3 : Int))))), (50, .bool mine)] ⟨by kernel_rfl, by kernel_rfl, by kernel_rfl, by kernel_rfl, by kernel_rfl, by kernel_rfl, by kernel_rfl, by kernel_rfl, by kernel_rfl, by kernel_rfl, by kernel_rfl, trivial⟩ ?_
              refine at_round_normal ?_
              exact at_join_mk [(0, .int .i64 a), (2, .int .i64 d), (3, .bool mine), (8, .bool false), (9, .pointer (some ⟨b1_0_0, 0, none⟩)), (11, .pointer (some ⟨b6_9, 0, none⟩)), (12, .bool y6_5.2.1), (13, .int .i64 2)] ((Asn.own b6_9 (.cells #[.int .i64 y6_5.1.kind, .int .i64 y6_5.1.line, .int .i64 y6_5.1.id, .int .i64 y6_5.1.step, .int .i64 y6_5.1.state, .int .i64 y6_5.1.head, .slice a6_5_00 (List.length y6_5.1.data) c6_5_00, .int .i64 y6_5.1.next, .int .i64 y6_5.1.told] 35 (0, 0))) :: (ImmI a6_5_00 y6_5.1.data) :: (CacheA b1_0_0 y6_5.2.2) :: (RCacheA b1_0_1 y1_0.2) :: Γ) ⟨by kernel_rfl, by kernel_rfl, by kernel_rfl, by kernel_rfl, by kernel_rfl, by kernel_rfl, by kernel_rfl, by kernel_rfl, trivial⟩ (fun w hw => (Sat.less (.take .here (.take .here (.take .here (.take (.there (.there .here)) (.drop .here (.drop .here .refl)))))) hw)) ⟨2, H, rfl, rfl⟩
            · replace H := bifF H h12
              refine at_false (t := mine) (x := C3 [1, 1, 1, 1, 1, 1, 1, 0, 1, 0]) (y := C3 [1, 1, 1, 1, 1, 1, 1, 0, 1, 1]) (o := .tmp 50) (by kernel_rfl) (by kernel_rfl) (by kernel_rfl) h12 ?_
              refine at_skip (by kernel_rfl) ?_
              refine at_round_normal ?_
              exact at_join_mk [(0, .int .i64 a), (2, .int .i64 d), (3, .bool mine), (8, .bool false), (9, .pointer (some ⟨b1_0_0, 0, none⟩)), (11, .pointer (some ⟨b6_9, 0, none⟩)), (12, .bool y6_5.2.1), (13, .int .i64 (-1))] ((Asn.own b6_9 (.cells #[.int .i64 y6_5.1.kind, .int .i64 y6_5.1.line, .int .i64 y6_5.1.id, .int .i64 y6_5.1.step, .int .i64 y6_5.1.state, .int .i64 y6_5.1.head, .slice a6_5_00 (List.length y6_5.1.data) c6_5_00, .int .i64 y6_5.1.next, .int .i64 y6_5.1.told] 35 (0, 0))) :: (ImmI a6_5_00 y6_5.1.data) :: (CacheA b1_0_0 y6_5.2.2) :: (RCacheA b1_0_1 y1_0.2) :: Γ) ⟨by kernel_rfl, by kernel_rfl, by kernel_rfl, by kernel_rfl, by kernel_rfl, by kernel_rfl, by kernel_rfl, by kernel_rfl, trivial⟩ (fun w hw => (Sat.less (.take .here (.take .here (.take .here (.take (.there (.there .here)) (.drop .here (.drop .here .refl)))))) hw)) ⟨(-1), H, rfl, rfl⟩
  · refine at_seq (x := C3 [1, 1, 1, 0, 0]) (y := C3 [1, 1, 1, 0, 1]) (by kernel_rfl) ?_
    refine at_region (id := 4) 1 (by kernel_rfl) (by kernel_rfl) ?_
    refine s_pure 23 (.bool mine) (by kernel_rfl) (by kernel_rfl) (fun _ => by kernel_rfl) ?_
    refine ops_end ?_
    refine At.env [(0, .int .i64 a), (1, .int .i64 b), (2, .int .i64 d), (3, .bool mine), (8, .bool false), (9, .pointer (some ⟨b1_0_0, 0, none⟩)), (22, .bool false), (23, .bool mine)] ⟨by kernel_rfl, by kernel_rfl, by kernel_rfl, by kernel_rfl, by kernel_rfl, by kernel_rfl, by kernel_rfl, by kernel_rfl, trivial⟩ ?_
    refine at_then_normal ?_
    rcases Bool.eq_false_or_eq_true (mine) with h13 | h13
    · replace H := bifT H h13
      refine at_true (t := mine) (x := C3 [1, 1, 1, 0, 1, 0]) (y := C3 [1, 1, 1, 0, 1, 1]) (o := .tmp 23) (by kernel_rfl) (by kernel_rfl) (by kernel_rfl) h13 ?_
      refine at_region (id := 5) 5 (by kernel_rfl) (by kernel_rfl) ?_
      refine s_pure 24 (.pointer (some ⟨b1_0_0, 0, none⟩)) (by kernel_rfl) (by kernel_rfl) (fun _ => by kernel_rfl) ?_
      refine s_pure 25 (.int .i64 a) (by kernel_rfl) (by kernel_rfl) (fun _ => by kernel_rfl) ?_
      obtain ⟨l5_2, hl5_2, H⟩ := letE H
      refine s_step 26 (by kernel_rfl) (by kernel_rfl) (st_new_ints (T := 3) (xs := l5_2) 1 hl5_2 (fun _ => by kernel_rfl) (by kernel_rfl)) ?_
      rintro _ _ ⟨b5_2, rfl, rfl⟩
      obtain ⟨y5_3, hy5_3, H⟩ := bindE H
      refine s_call 27 15 #[.int .i64 (1), .int .i64 (-1), .int .i64 (3), .bool false, .slice (some ⟨b5_2, 0, none⟩) (List.length l5_2) 1] (by kernel_rfl) (by kernel_rfl) (fun _ => by kernel_rfl) (ENewF_tr (1 : Int) ((-1) : Int) (3 : Int) false (some ⟨b5_2, 0, none⟩) 1 l5_2 (RowsA.reads (k := 1) .here) y5_3 hy5_3) ?_
      rintro _ _ ⟨a5_3_00, c5_3_00, rfl, rfl⟩
      obtain ⟨y5_4, hy5_4, H⟩ := bindE H
      refine s_call 28 14 #[.pointer (some ⟨b1_0_0, 0, none⟩), .agg #[.int .i64 y5_3.fwd, .int .i64 y5_3.back, .int .i64 y5_3.line, .int .i64 y5_3.used, .bool y5_3.dirty, .slice a5_3_00 (List.length y5_3.data) c5_3_00]] (by kernel_rfl) (by kernel_rfl) (fun _ => by kernel_rfl) (Tr.conv (Γ' := (CacheA b1_0_0 y1_0.1) :: (IntsA a5_3_00 c5_3_00 y5_3.data) :: (IntsA (some ⟨b5_2, 0, none⟩) 1 l5_2) :: (RCacheA b1_0_1 y1_0.2) :: Γ) (fun w hw => (Sat.less (.take (.there (.there .here)) (.take .here (.take .here (.take .here .refl)))) hw)) (PutF_tr b1_0_0 y1_0.1 a5_3_00 c5_3_00 y5_3 (RowsA.reads (k := 1) .here) y5_4 hy5_4)) ?_
      rintro _ _ ⟨rfl, rfl⟩
      refine ops_end ?_
      refine At.env [(0, .int .i64 a), (1, .int .i64 b), (2, .int .i64 d), (3, .bool mine), (8, .bool false), (9, .pointer (some ⟨b1_0_0, 0, none⟩)), (22, .bool false), (23, .bool mine)] ⟨by kernel_rfl, by kernel_rfl, by kernel_rfl, by kernel_rfl, by kernel_rfl, by kernel_rfl, by kernel_rfl, by kernel_rfl, trivial⟩ ?_
      refine at_round_normal ?_
      exact at_join_mk [(0, .int .i64 a), (1, .int .i64 b), (2, .int .i64 d), (3, .bool mine), (8, .bool false), (9, .pointer (some ⟨b1_0_0, 0, none⟩))] ((CacheA b1_0_0 y5_4.2) :: (RCacheA b1_0_1 y1_0.2) :: Γ) ⟨by kernel_rfl, by kernel_rfl, by kernel_rfl, by kernel_rfl, by kernel_rfl, by kernel_rfl, trivial⟩ (fun w hw => (Sat.less (.take .here (.take (.there (.there .here)) (.drop .here (.drop .here .refl)))) hw)) ⟨y5_4.2, H, rfl, rfl⟩
    · replace H := bifF H h13
      refine at_false (t := mine) (x := C3 [1, 1, 1, 0, 1, 0]) (y := C3 [1, 1, 1, 0, 1, 1]) (o := .tmp 23) (by kernel_rfl) (by kernel_rfl) (by kernel_rfl) h13 ?_
      refine at_skip (by kernel_rfl) ?_
      refine at_round_normal ?_
      exact at_join_mk [(0, .int .i64 a), (1, .int .i64 b), (2, .int .i64 d), (3, .bool mine), (8, .bool false), (9, .pointer (some ⟨b1_0_0, 0, none⟩))] ((CacheA b1_0_0 y1_0.1) :: (RCacheA b1_0_1 y1_0.2) :: Γ) ⟨by kernel_rfl, by kernel_rfl, by kernel_rfl, by kernel_rfl, by kernel_rfl, by kernel_rfl, trivial⟩ (fun w hw => (Sat.less (.take .here (.take .here .refl)) hw)) ⟨y1_0.1, H, rfl, rfl⟩
end Go.Proofs.Ytlnjnkbnppnbkaa
