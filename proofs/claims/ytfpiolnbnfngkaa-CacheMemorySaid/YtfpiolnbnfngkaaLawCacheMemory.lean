/- The law CacheMemory: its walk. -/
import Derived.Test.YtfpiolnbnfngkaaMemA
import Derived.Test.YtfpiolnbnfngkaaKsA
namespace Go.Proofs.Ytfpiolnbnfngkaa
open Go Go.RowKit
set_option linter.unusedVariables false
set_option linter.unusedSimpArgs false
def cacheMemoryS_j0 (v : Int) (e0_71 : Bool) (e0_b1_0 : CacheS) : Option (Bool) :=
  (bif e0_71 then some false else (findS e0_b1_0 (2 : Int)).bind fun y16_1 => (dropS e0_b1_0 (2 : Int)).bind fun y17_1 => (dropS y17_1.2.2 (2 : Int)).bind fun y18_1 => (ewordS y16_1.1 (0 : Int)).bind fun y19_1 => (bif decide (y19_1 = (wr (v + (2 : Int)))) then (bif decide (y16_1.1.used = (2 : Int)) then (bif y17_1.2.1 then (ewordS y17_1.1 (0 : Int)).bind fun y19_15 => (bif decide (y19_15 = (wr (v + (2 : Int)))) then (bif decide (y17_1.1.used = (2 : Int)) then (bif !y18_1.2.1 then letP (lenC y18_1.2.2) fun y19_31 => (bif decide (y19_31 = (0 : Int)) then (wakes08S).bind fun y19_35 => some y19_35 else some false) else some false) else some false) else some false) else some false) else some false) else some false))
def cacheMemoryS (data : List Int) (v : Int) : Option (Bool) :=
  letP (newC (1 : Int) (1 : Int)) fun y1_0 => (cutS data (3 : Int)).bind fun y4_1 => letP ([1] : List Int) fun l4_2 => chk ((y4_1 ++ l4_2).length ≤ 1099511627776) (letP (y4_1 ++ l4_2) fun l4_3 => (enewS (2 : Int) (0 : Int) (1 : Int) true l4_3).bind fun y5_1 => (putS y1_0 y5_1).bind fun y6_2 => (bif !(decide (y6_2.1 = (0 : Int))) then some false else (ewriteS y5_1 (0 : Int) (wr (v + (1 : Int)))).bind fun y8_2 => (findS y6_2.2 (2 : Int)).bind fun y9_1 => (ksameS y9_1.1.data l4_3).bind fun y10_3 => (bif !y10_3 then some false else (ewriteS y9_1.1 (0 : Int) (wr (v + (2 : Int)))).bind fun y12_2 => (findS y6_2.2 (2 : Int)).bind fun y13_1 => (ksameS y13_1.1.data l4_3).bind fun y14_3 => (bif !y14_3 then cacheMemoryS_j0 v true y6_2.2 else (bif !(decide (y13_1.1.used = (1 : Int))) then cacheMemoryS_j0 v true y6_2.2 else (touchS y6_2.2 (2 : Int)).bind fun y14_12 => (bif !y14_12.1 then cacheMemoryS_j0 v true y14_12.2 else (putS y14_12.2 y12_2.2).bind fun y14_18 => cacheMemoryS_j0 v (!(decide (y14_18.1 = (0 : Int)))) y14_18.2))))))
noncomputable def C7 (p : List Nat) : Code := codeAt (bodyOf Try.f7) p
set_option maxRecDepth 100000 in
set_option maxHeartbeats 8000000 in
theorem CacheMemoryF_tr {W0 : World} {Γ : List Asn} (dataa : Option Addr) (datacap : Nat) (data : List Int) (v : Int) (hrdataa : Reads W0 Γ dataa (ints data)) (hcdataa : data.length ≤ datacap) (y : Bool) (H : cacheMemoryS data v = some y) : Tr Try.prog 7 #[.slice dataa (List.length data) datacap, .int .i64 v] W0 (Γ) (fun r Δ => r = .bool y ∧ Δ = Γ) := by
  unfold cacheMemoryS at H
  refine Tr.enter (fn := Try.f7) (c := C7 []) (args := [.slice dataa (List.length data) datacap, .int .i64 v]) 124 Try.func7 (by kernel_rfl) (by kernel_rfl) ?_
  refine At.env [(0, .slice dataa (List.length data) datacap), (1, .int .i64 v)] ⟨by kernel_rfl, by kernel_rfl, trivial⟩ ?_
  refine at_seq (x := C7 [0]) (y := C7 [1]) (by kernel_rfl) ?_
  refine at_region (id := 0) 1 (by kernel_rfl) (by kernel_rfl) ?_
  refine s_pure 4 (.bool false) (by kernel_rfl) (by kernel_rfl) (fun _ => by kernel_rfl) ?_
  refine ops_end ?_
  refine At.env [(0, .slice dataa (List.length data) datacap), (1, .int .i64 v)] ⟨by kernel_rfl, by kernel_rfl, trivial⟩ ?_
  refine at_then_normal ?_
  refine at_seq (x := C7 [1,0]) (y := C7 [1,1]) (by kernel_rfl) ?_
  refine at_region (id := 1) 2 (by kernel_rfl) (by kernel_rfl) ?_
  obtain ⟨y1_0, hy1_0, H⟩ := letE H
  refine s_call 17 13 #[.int .i64 (1), .int .i64 (1)] (by kernel_rfl) (by kernel_rfl) (fun _ => by kernel_rfl) (NewF_tr (1 : Int) (1 : Int) y1_0 hy1_0) ?_
  rintro _ _ ⟨b1_0, rfl, rfl⟩
  refine s_pure 5 (.pointer (some ⟨b1_0, 0, none⟩)) (by kernel_rfl) (by kernel_rfl) (fun _ => by kernel_rfl) ?_
  refine ops_end ?_
  refine At.env [(0, .slice dataa (List.length data) datacap), (1, .int .i64 v), (5, .pointer (some ⟨b1_0, 0, none⟩))] ⟨by kernel_rfl, by kernel_rfl, by kernel_rfl, trivial⟩ ?_
  refine at_then_normal ?_
  refine at_seq (x := C7 [1,1,0]) (y := C7 [1,1,1]) (by kernel_rfl) ?_
  refine at_seq (x := C7 [1,1,0,0]) (y := C7 [1,1,0,1]) (by kernel_rfl) ?_
  refine at_region (id := 2) 2 (by kernel_rfl) (by kernel_rfl) ?_
  refine s_pure 18 (.pointer (some ⟨b1_0, 0, none⟩)) (by kernel_rfl) (by kernel_rfl) (fun _ => by kernel_rfl) ?_
  refine s_pure 19 (.bool false) (by kernel_rfl) (by kernel_rfl) (fun _ => by kernel_rfl) ?_
  refine ops_end ?_
  refine At.env [(0, .slice dataa (List.length data) datacap), (1, .int .i64 v), (5, .pointer (some ⟨b1_0, 0, none⟩)), (19, .bool false)] ⟨by kernel_rfl, by kernel_rfl, by kernel_rfl, by kernel_rfl, trivial⟩ ?_
  refine at_then_normal ?_
  refine at_false (t := false) (x := C7 [1,1,0,1,0]) (y := C7 [1,1,0,1,1]) (o := .tmp 19) (by kernel_rfl) (by kernel_rfl) (by kernel_rfl) rfl ?_
  refine at_skip (by kernel_rfl) ?_
  refine at_then_normal ?_
  refine at_seq (x := C7 [1,1,1,0]) (y := C7 [1,1,1,1]) (by kernel_rfl) ?_
  refine at_region (id := 4) 5 (by kernel_rfl) (by kernel_rfl) ?_
  refine s_pure 20 (.slice dataa (List.length data) datacap) (by kernel_rfl) (by kernel_rfl) (fun _ => by kernel_rfl) ?_
  obtain ⟨y4_1, hy4_1, H⟩ := bindE H
  refine s_call 21 14 #[.slice dataa (List.length data) datacap, .int .i64 (3)] (by kernel_rfl) (by kernel_rfl) (fun _ => by kernel_rfl) (CutF_tr dataa datacap data (3 : Int) (Reads.conv (fun w hw => hw.less (.drop .here .refl)) hrdataa) hcdataa y4_1 hy4_1) ?_
  rintro _ _ ⟨a4_1_00, c4_1_00, rfl, rfl⟩
  obtain ⟨l4_2, hl4_2, H⟩ := letE H
  refine s_step 22 (by kernel_rfl) (by kernel_rfl) (st_new_ints (T := 3) (xs := l4_2) 1 hl4_2 (fun _ => by kernel_rfl) (by kernel_rfl)) ?_
  rintro _ _ ⟨b4_2, rfl, rfl⟩
  obtain ⟨hc4_3_0, H⟩ := chkE H
  obtain ⟨l4_3, hl4_3, H⟩ := letE H
  refine s_step 23 (by kernel_rfl) (by kernel_rfl) (st_append_ints (xs := y4_1) (ys := l4_2) (zs := l4_3) (m1 := (List.length y4_1)) (m2 := (List.length l4_2)) (m := List.length l4_3) (cap2 := 1) 22 22 3 (tinfo 3) (fun _ => by kernel_rfl) (by kernel_rfl) (by kernel_rfl) (by kernel_rfl) (by kernel_rfl) (by kernel_rfl) (.there .here) (RowsA.reads (k := 1) .here) (by first | rfl | simp) (by first | rfl | simp) (by rw [← hl4_3]; first | done | simp) (by rw [← hl4_3]; first | done | simp) (by rw [← hl4_3]; exact hc4_3_0)) ?_
  rintro _ _ ⟨a4_3, c4_3, rfl, rfl⟩
  refine s_pure 0 (.slice a4_3 (List.length l4_3) c4_3) (by kernel_rfl) (by kernel_rfl) (fun _ => by kernel_rfl) ?_
  refine ops_end ?_
  refine At.env [(0, .slice a4_3 (List.length l4_3) c4_3), (1, .int .i64 v), (5, .pointer (some ⟨b1_0, 0, none⟩))] ⟨by kernel_rfl, by kernel_rfl, by kernel_rfl, trivial⟩ ?_
  refine at_then_normal ?_
  refine at_seq (x := C7 [1,1,1,1,0]) (y := C7 [1,1,1,1,1]) (by kernel_rfl) ?_
  refine at_region (id := 5) 4 (by kernel_rfl) (by kernel_rfl) ?_
  refine s_pure 24 (.slice a4_3 (List.length l4_3) c4_3) (by kernel_rfl) (by kernel_rfl) (fun _ => by kernel_rfl) ?_
  obtain ⟨y5_1, hy5_1, H⟩ := bindE H
  refine s_call 25 16 #[.int .i64 (2), .int .i64 (0), .int .i64 (1), .bool true, .slice a4_3 (List.length l4_3) c4_3] (by kernel_rfl) (by kernel_rfl) (fun _ => by kernel_rfl) (ENewF_tr (2 : Int) (0 : Int) (1 : Int) true a4_3 c4_3 l4_3 (RowsA.reads (k := 1) .here) y5_1 hy5_1) ?_
  rintro _ _ ⟨a5_1_00, c5_1_00, rfl, rfl⟩
  refine s_step 6 (by kernel_rfl) (by kernel_rfl) (st_new (T := 31) (cells := #[.int .i64 (0), .int .i64 (0), .int .i64 (0), .int .i64 (0), .bool false, .slice none 0 0]) (fun a => .pointer (some a)) (fun _ => by kernel_rfl)) ?_
  rintro _ _ ⟨b5_2, rfl, rfl⟩
  refine s_do (by kernel_rfl) (by kernel_rfl) (st_store (off := 0) (vs := [.int .i64 y5_1.fwd, .int .i64 y5_1.back, .int .i64 y5_1.line, .int .i64 y5_1.used, .bool y5_1.dirty, .slice a5_1_00 (List.length y5_1.data) c5_1_00]) (c' := #[.int .i64 y5_1.fwd, .int .i64 y5_1.back, .int .i64 y5_1.line, .int .i64 y5_1.used, .bool y5_1.dirty, .slice a5_1_00 (List.length y5_1.data) c5_1_00]) (fun _ => by kernel_rfl) .here (by kernel_rfl) (by kernel_rfl) (by kernel_rfl)) ?_
  rintro _ _ ⟨rfl, rfl⟩
  refine ops_end ?_
  refine At.env [(0, .slice a4_3 (List.length l4_3) c4_3), (1, .int .i64 v), (5, .pointer (some ⟨b1_0, 0, none⟩)), (6, .pointer (some ⟨b5_2, 0, none⟩))] ⟨by kernel_rfl, by kernel_rfl, by kernel_rfl, by kernel_rfl, trivial⟩ ?_
  refine at_then_normal ?_
  refine at_seq (x := C7 [1,1,1,1,1,0]) (y := C7 [1,1,1,1,1,1]) (by kernel_rfl) ?_
  refine at_seq (x := C7 [1,1,1,1,1,0,0]) (y := C7 [1,1,1,1,1,0,1]) (by kernel_rfl) ?_
  refine at_region (id := 6) 4 (by kernel_rfl) (by kernel_rfl) ?_
  refine s_pure 26 (.pointer (some ⟨b1_0, 0, none⟩)) (by kernel_rfl) (by kernel_rfl) (fun _ => by kernel_rfl) ?_
  refine s_load 27 (.agg #[.int .i64 y5_1.fwd, .int .i64 y5_1.back, .int .i64 y5_1.line, .int .i64 y5_1.used, .bool y5_1.dirty, .slice a5_1_00 (List.length y5_1.data) c5_1_00]) (by kernel_rfl) (by kernel_rfl) (loadN (off := 0) (vs := [.int .i64 y5_1.fwd, .int .i64 y5_1.back, .int .i64 y5_1.line, .int .i64 y5_1.used, .bool y5_1.dirty, .slice a5_1_00 (List.length y5_1.data) c5_1_00]) 6 (fun _ => by kernel_rfl) (holds_own .here) rfl (by exact ⟨rfl, rfl, rfl, rfl, rfl, rfl, trivial⟩)) ?_
  obtain ⟨y6_2, hy6_2, H⟩ := bindE H
  refine s_call 28 15 #[.pointer (some ⟨b1_0, 0, none⟩), .agg #[.int .i64 y5_1.fwd, .int .i64 y5_1.back, .int .i64 y5_1.line, .int .i64 y5_1.used, .bool y5_1.dirty, .slice a5_1_00 (List.length y5_1.data) c5_1_00]] (by kernel_rfl) (by kernel_rfl) (fun _ => by kernel_rfl) (Tr.conv (Γ' := (CacheA b1_0 y1_0) :: (Asn.own b5_2 (.cells #[.int .i64 y5_1.fwd, .int .i64 y5_1.back, .int .i64 y5_1.line, .int .i64 y5_1.used, .bool y5_1.dirty, .slice a5_1_00 (List.length y5_1.data) c5_1_00] 31 (0, 0))) :: (IntsA a5_1_00 c5_1_00 y5_1.data) :: (IntsA a4_3 c4_3 l4_3) :: (IntsA (some ⟨b4_2, 0, none⟩) 1 l4_2) :: Γ) (fun w hw => (Sat.less (.take (.there (.there (.there (.there .here)))) (.take .here (.take .here (.take .here (.take .here .refl))))) hw)) (PutF_tr b1_0 y1_0 a5_1_00 c5_1_00 y5_1 (RowsA.reads (k := 1) (.there .here)) y6_2 hy6_2)) ?_
  rintro _ _ ⟨rfl, rfl⟩
  refine s_pure 29 (.bool (!(decide (y6_2.1 = (0 : Int))))) (by kernel_rfl) (by kernel_rfl) (fun _ => by kernel_rfl) ?_
  refine ops_end ?_
  refine At.env [(0, .slice a4_3 (List.length l4_3) c4_3), (1, .int .i64 v), (5, .pointer (some ⟨b1_0, 0, none⟩)), (6, .pointer (some ⟨b5_2, 0, none⟩)), (29, .bool (!(decide (y6_2.1 = (0 : Int)))))] ⟨by kernel_rfl, by kernel_rfl, by kernel_rfl, by kernel_rfl, by kernel_rfl, trivial⟩ ?_
  refine at_then_normal ?_
  rcases Bool.eq_false_or_eq_true (!(decide (y6_2.1 = (0 : Int)))) with h1 | h1
  · replace H := bifT H h1
    refine at_true (t := !(decide (y6_2.1 = (0 : Int)))) (x := C7 [1,1,1,1,1,0,1,0]) (y := C7 [1,1,1,1,1,0,1,1]) (o := .tmp 29) (by kernel_rfl) (by kernel_rfl) (by kernel_rfl) h1 ?_
    refine at_seq (x := C7 [1,1,1,1,1,0,1,0,0]) (y := C7 [1,1,1,1,1,0,1,0,1]) (by kernel_rfl) ?_
    refine at_region (id := 7) 1 (by kernel_rfl) (by kernel_rfl) ?_
    refine s_pure 4 (.bool false) (by kernel_rfl) (by kernel_rfl) (fun _ => by kernel_rfl) ?_
    refine ops_end ?_
    refine At.env [(4, .bool false)] ⟨by kernel_rfl, trivial⟩ ?_
    refine at_then_normal ?_
    refine at_ret (by kernel_rfl) ?_
    refine at_then_ret ?_
    obtain rfl := someE H
    refine at_backR [.bool false] (Γ) (rs := [.tmp 4]) (by kernel_rfl) (.cons (.tmp (by kernel_rfl)) .nil) (fun w hw => (Sat.less (.drop .here (.drop .here (.drop .here (.drop .here (.drop .here .refl))))) hw)) ?_
    exact ⟨rfl, rfl⟩
  · replace H := bifF H h1
    refine at_false (t := !(decide (y6_2.1 = (0 : Int)))) (x := C7 [1,1,1,1,1,0,1,0]) (y := C7 [1,1,1,1,1,0,1,1]) (o := .tmp 29) (by kernel_rfl) (by kernel_rfl) (by kernel_rfl) h1 ?_
    refine at_skip (by kernel_rfl) ?_
    refine at_then_normal ?_
    refine at_seq (x := C7 [1,1,1,1,1,1,0]) (y := C7 [1,1,1,1,1,1,1]) (by kernel_rfl) ?_
    refine at_region (id := 8) 3 (by kernel_rfl) (by kernel_rfl) ?_
    refine s_pure 30 (.int .i64 v) (by kernel_rfl) (by kernel_rfl) (fun _ => by kernel_rfl) ?_
    refine s_pure 31 (.int .i64 (wr (v + (1 : Int)))) (by kernel_rfl) (by kernel_rfl) (fun _ => by kernel_rfl) ?_
    obtain ⟨y8_2, hy8_2, H⟩ := bindE H
    refine s_call 32 30 #[.pointer (some ⟨b5_2, 0, none⟩), .int .i64 (0), .int .i64 (wr (v + (1 : Int)))] (by kernel_rfl) (by kernel_rfl) (fun _ => by kernel_rfl) (Tr.conv (Γ' := (IntsA a5_1_00 c5_1_00 y5_1.data) :: (Asn.own b5_2 (.cells #[.int .i64 y5_1.fwd, .int .i64 y5_1.back, .int .i64 y5_1.line, .int .i64 y5_1.used, .bool y5_1.dirty, .slice a5_1_00 (List.length y5_1.data) c5_1_00] 31 (0, 0))) :: (CacheA b1_0 y6_2.2) :: (IntsA a4_3 c4_3 l4_3) :: (IntsA (some ⟨b4_2, 0, none⟩) 1 l4_2) :: Γ) (fun w hw => (Sat.less (.take (.there (.there .here)) (.take (.there .here) (.take .here (.take .here (.take .here .refl))))) hw)) (EWriteF_tr b5_2 31 a5_1_00 c5_1_00 y5_1 (0 : Int) (wr (v + (1 : Int))) y8_2 hy8_2)) ?_
    rintro _ _ ⟨a8_2_e, c8_2_e, rfl, rfl⟩
    refine ops_end ?_
    refine At.env [(0, .slice a4_3 (List.length l4_3) c4_3), (1, .int .i64 v), (5, .pointer (some ⟨b1_0, 0, none⟩))] ⟨by kernel_rfl, by kernel_rfl, by kernel_rfl, trivial⟩ ?_
    refine at_then_normal ?_
    refine at_seq (x := C7 [1,1,1,1,1,1,1,0]) (y := C7 [1,1,1,1,1,1,1,1]) (by kernel_rfl) ?_
    refine at_region (id := 9) 8 (by kernel_rfl) (by kernel_rfl) ?_
    refine s_pure 34 (.pointer (some ⟨b1_0, 0, none⟩)) (by kernel_rfl) (by kernel_rfl) (fun _ => by kernel_rfl) ?_
    obtain ⟨y9_1, hy9_1, H⟩ := bindE H
    refine s_call 35 20 #[.pointer (some ⟨b1_0, 0, none⟩), .int .i64 (2)] (by kernel_rfl) (by kernel_rfl) (fun _ => by kernel_rfl) (Tr.conv (Γ' := (CacheA b1_0 y6_2.2) :: (IntsA a8_2_e c8_2_e y8_2.2.data) :: (Asn.own b5_2 (.cells #[.int .i64 y8_2.2.fwd, .int .i64 y8_2.2.back, .int .i64 y8_2.2.line, .int .i64 y8_2.2.used, .bool y8_2.2.dirty, .slice a8_2_e (List.length y8_2.2.data) c8_2_e] 31 (0, 0))) :: (IntsA a4_3 c4_3 l4_3) :: (IntsA (some ⟨b4_2, 0, none⟩) 1 l4_2) :: Γ) (fun w hw => (Sat.less (.take (.there (.there .here)) (.take .here (.take .here (.take .here (.take .here .refl))))) hw)) (FindF_tr b1_0 y6_2.2 (2 : Int) y9_1 hy9_1)) ?_
    rintro _ _ ⟨a9_1_00, c9_1_00, rfl, rfl⟩
    refine s_pure 33 (.tuple #[.agg #[.int .i64 y9_1.1.fwd, .int .i64 y9_1.1.back, .int .i64 y9_1.1.line, .int .i64 y9_1.1.used, .bool y9_1.1.dirty, .slice a9_1_00 (List.length y9_1.1.data) c9_1_00], .bool y9_1.2]) (by kernel_rfl) (by kernel_rfl) (fun _ => by kernel_rfl) ?_
    refine s_pure 36 (.agg #[.int .i64 y9_1.1.fwd, .int .i64 y9_1.1.back, .int .i64 y9_1.1.line, .int .i64 y9_1.1.used, .bool y9_1.1.dirty, .slice a9_1_00 (List.length y9_1.1.data) c9_1_00]) (by kernel_rfl) (by kernel_rfl) (fun _ => by kernel_rfl) ?_
    refine s_pure 37 (.bool y9_1.2) (by kernel_rfl) (by kernel_rfl) (fun _ => by kernel_rfl) ?_
    refine s_step 7 (by kernel_rfl) (by kernel_rfl) (st_new (T := 31) (cells := #[.int .i64 (0), .int .i64 (0), .int .i64 (0), .int .i64 (0), .bool false, .slice none 0 0]) (fun a => .pointer (some a)) (fun _ => by kernel_rfl)) ?_
    rintro _ _ ⟨b9_5, rfl, rfl⟩
    refine s_do (by kernel_rfl) (by kernel_rfl) (st_store (off := 0) (vs := [.int .i64 y9_1.1.fwd, .int .i64 y9_1.1.back, .int .i64 y9_1.1.line, .int .i64 y9_1.1.used, .bool y9_1.1.dirty, .slice a9_1_00 (List.length y9_1.1.data) c9_1_00]) (c' := #[.int .i64 y9_1.1.fwd, .int .i64 y9_1.1.back, .int .i64 y9_1.1.line, .int .i64 y9_1.1.used, .bool y9_1.1.dirty, .slice a9_1_00 (List.length y9_1.1.data) c9_1_00]) (fun _ => by kernel_rfl) .here (by kernel_rfl) (by kernel_rfl) (by kernel_rfl)) ?_
    rintro _ _ ⟨rfl, rfl⟩
    refine s_pure 8 (.bool y9_1.2) (by kernel_rfl) (by kernel_rfl) (fun _ => by kernel_rfl) ?_
    refine ops_end ?_
    refine At.env [(0, .slice a4_3 (List.length l4_3) c4_3), (1, .int .i64 v), (5, .pointer (some ⟨b1_0, 0, none⟩)), (7, .pointer (some ⟨b9_5, 0, none⟩))] ⟨by kernel_rfl, by kernel_rfl, by kernel_rfl, by kernel_rfl, trivial⟩ ?_
    refine at_then_normal ?_
    refine at_seq (x := C7 [1,1,1,1,1,1,1,1,0]) (y := C7 [1,1,1,1,1,1,1,1,1]) (by kernel_rfl) ?_
    refine at_seq (x := C7 [1,1,1,1,1,1,1,1,0,0]) (y := C7 [1,1,1,1,1,1,1,1,0,1]) (by kernel_rfl) ?_
    refine at_region (id := 10) 5 (by kernel_rfl) (by kernel_rfl) ?_
    refine s_pure 38 (.pointer (some ⟨b9_5, 5, none⟩)) (by kernel_rfl) (by kernel_rfl) (fun _ => by kernel_rfl) ?_
    refine s_load 39 (.slice a9_1_00 (List.length y9_1.1.data) c9_1_00) (by kernel_rfl) (by kernel_rfl) (load1 (off := 5) (fun _ => by kernel_rfl) (holds_own .here) (by kernel_rfl)) ?_
    refine s_pure 40 (.slice a4_3 (List.length l4_3) c4_3) (by kernel_rfl) (by kernel_rfl) (fun _ => by kernel_rfl) ?_
    obtain ⟨y10_3, hy10_3, H⟩ := bindE H
    refine s_call 41 19 #[.slice a9_1_00 (List.length y9_1.1.data) c9_1_00, .slice a4_3 (List.length l4_3) c4_3] (by kernel_rfl) (by kernel_rfl) (fun _ => by kernel_rfl) (KSameF_tr a9_1_00 c9_1_00 y9_1.1.data a4_3 c4_3 l4_3 (RowsA.reads (k := 1) (.there .here)) (RowsA.reads (k := 1) (.there (.there (.there (.there (.there .here)))))) y10_3 hy10_3) ?_
    rintro _ _ ⟨rfl, rfl⟩
    refine s_pure 42 (.bool !y10_3) (by kernel_rfl) (by kernel_rfl) (fun _ => by kernel_rfl) ?_
    refine ops_end ?_
    refine At.env [(0, .slice a4_3 (List.length l4_3) c4_3), (1, .int .i64 v), (5, .pointer (some ⟨b1_0, 0, none⟩)), (7, .pointer (some ⟨b9_5, 0, none⟩)), (42, .bool !y10_3)] ⟨by kernel_rfl, by kernel_rfl, by kernel_rfl, by kernel_rfl, by kernel_rfl, trivial⟩ ?_
    refine at_then_normal ?_
    rcases Bool.eq_false_or_eq_true (!y10_3) with h2 | h2
    · replace H := bifT H h2
      refine at_true (t := !y10_3) (x := C7 [1,1,1,1,1,1,1,1,0,1,0]) (y := C7 [1,1,1,1,1,1,1,1,0,1,1]) (o := .tmp 42) (by kernel_rfl) (by kernel_rfl) (by kernel_rfl) h2 ?_
      refine at_seq (x := C7 [1,1,1,1,1,1,1,1,0,1,0,0]) (y := C7 [1,1,1,1,1,1,1,1,0,1,0,1]) (by kernel_rfl) ?_
      refine at_region (id := 11) 1 (by kernel_rfl) (by kernel_rfl) ?_
      refine s_pure 4 (.bool false) (by kernel_rfl) (by kernel_rfl) (fun _ => by kernel_rfl) ?_
      refine ops_end ?_
      refine At.env [(4, .bool false)] ⟨by kernel_rfl, trivial⟩ ?_
      refine at_then_normal ?_
      refine at_ret (by kernel_rfl) ?_
      refine at_then_ret ?_
      obtain rfl := someE H
      refine at_backR [.bool false] (Γ) (rs := [.tmp 4]) (by kernel_rfl) (.cons (.tmp (by kernel_rfl)) .nil) (fun w hw => (Sat.less (.drop .here (.drop .here (.drop .here (.drop .here (.drop .here (.drop .here (.drop .here .refl))))))) hw)) ?_
      exact ⟨rfl, rfl⟩
    · replace H := bifF H h2
      refine at_false (t := !y10_3) (x := C7 [1,1,1,1,1,1,1,1,0,1,0]) (y := C7 [1,1,1,1,1,1,1,1,0,1,1]) (o := .tmp 42) (by kernel_rfl) (by kernel_rfl) (by kernel_rfl) h2 ?_
      refine at_skip (by kernel_rfl) ?_
      refine at_then_normal ?_
      refine at_seq (x := C7 [1,1,1,1,1,1,1,1,1,0]) (y := C7 [1,1,1,1,1,1,1,1,1,1]) (by kernel_rfl) ?_
      refine at_region (id := 12) 3 (by kernel_rfl) (by kernel_rfl) ?_
      refine s_pure 43 (.int .i64 v) (by kernel_rfl) (by kernel_rfl) (fun _ => by kernel_rfl) ?_
      refine s_pure 44 (.int .i64 (wr (v + (2 : Int)))) (by kernel_rfl) (by kernel_rfl) (fun _ => by kernel_rfl) ?_
      obtain ⟨y12_2, hy12_2, H⟩ := bindE H
      refine s_call 45 30 #[.pointer (some ⟨b9_5, 0, none⟩), .int .i64 (0), .int .i64 (wr (v + (2 : Int)))] (by kernel_rfl) (by kernel_rfl) (fun _ => by kernel_rfl) (Tr.conv (Γ' := (IntsA a9_1_00 c9_1_00 y9_1.1.data) :: (Asn.own b9_5 (.cells #[.int .i64 y9_1.1.fwd, .int .i64 y9_1.1.back, .int .i64 y9_1.1.line, .int .i64 y9_1.1.used, .bool y9_1.1.dirty, .slice a9_1_00 (List.length y9_1.1.data) c9_1_00] 31 (0, 0))) :: (CacheA b1_0 y6_2.2) :: (IntsA a8_2_e c8_2_e y8_2.2.data) :: (Asn.own b5_2 (.cells #[.int .i64 y8_2.2.fwd, .int .i64 y8_2.2.back, .int .i64 y8_2.2.line, .int .i64 y8_2.2.used, .bool y8_2.2.dirty, .slice a8_2_e (List.length y8_2.2.data) c8_2_e] 31 (0, 0))) :: (IntsA a4_3 c4_3 l4_3) :: (IntsA (some ⟨b4_2, 0, none⟩) 1 l4_2) :: Γ) (fun w hw => (Sat.less (.take (.there .here) (.take .here (.take .here (.take .here (.take .here (.take .here (.take .here .refl))))))) hw)) (EWriteF_tr b9_5 31 a9_1_00 c9_1_00 y9_1.1 (0 : Int) (wr (v + (2 : Int))) y12_2 hy12_2)) ?_
      rintro _ _ ⟨a12_2_e, c12_2_e, rfl, rfl⟩
      refine ops_end ?_
      refine At.env [(0, .slice a4_3 (List.length l4_3) c4_3), (1, .int .i64 v), (5, .pointer (some ⟨b1_0, 0, none⟩)), (7, .pointer (some ⟨b9_5, 0, none⟩))] ⟨by kernel_rfl, by kernel_rfl, by kernel_rfl, by kernel_rfl, trivial⟩ ?_
      refine at_then_normal ?_
      refine at_seq (x := C7 [1,1,1,1,1,1,1,1,1,1,0]) (y := C7 [1,1,1,1,1,1,1,1,1,1,1]) (by kernel_rfl) ?_
      refine at_region (id := 13) 8 (by kernel_rfl) (by kernel_rfl) ?_
      refine s_pure 47 (.pointer (some ⟨b1_0, 0, none⟩)) (by kernel_rfl) (by kernel_rfl) (fun _ => by kernel_rfl) ?_
      obtain ⟨y13_1, hy13_1, H⟩ := bindE H
      refine s_call 48 20 #[.pointer (some ⟨b1_0, 0, none⟩), .int .i64 (2)] (by kernel_rfl) (by kernel_rfl) (fun _ => by kernel_rfl) (Tr.conv (Γ' := (CacheA b1_0 y6_2.2) :: (IntsA a12_2_e c12_2_e y12_2.2.data) :: (Asn.own b9_5 (.cells #[.int .i64 y12_2.2.fwd, .int .i64 y12_2.2.back, .int .i64 y12_2.2.line, .int .i64 y12_2.2.used, .bool y12_2.2.dirty, .slice a12_2_e (List.length y12_2.2.data) c12_2_e] 31 (0, 0))) :: (IntsA a8_2_e c8_2_e y8_2.2.data) :: (Asn.own b5_2 (.cells #[.int .i64 y8_2.2.fwd, .int .i64 y8_2.2.back, .int .i64 y8_2.2.line, .int .i64 y8_2.2.used, .bool y8_2.2.dirty, .slice a8_2_e (List.length y8_2.2.data) c8_2_e] 31 (0, 0))) :: (IntsA a4_3 c4_3 l4_3) :: (IntsA (some ⟨b4_2, 0, none⟩) 1 l4_2) :: Γ) (fun w hw => (Sat.less (.take (.there (.there .here)) (.take .here (.take .here (.take .here (.take .here (.take .here (.take .here .refl))))))) hw)) (FindF_tr b1_0 y6_2.2 (2 : Int) y13_1 hy13_1)) ?_
      rintro _ _ ⟨a13_1_00, c13_1_00, rfl, rfl⟩
      refine s_pure 46 (.tuple #[.agg #[.int .i64 y13_1.1.fwd, .int .i64 y13_1.1.back, .int .i64 y13_1.1.line, .int .i64 y13_1.1.used, .bool y13_1.1.dirty, .slice a13_1_00 (List.length y13_1.1.data) c13_1_00], .bool y13_1.2]) (by kernel_rfl) (by kernel_rfl) (fun _ => by kernel_rfl) ?_
      refine s_pure 49 (.agg #[.int .i64 y13_1.1.fwd, .int .i64 y13_1.1.back, .int .i64 y13_1.1.line, .int .i64 y13_1.1.used, .bool y13_1.1.dirty, .slice a13_1_00 (List.length y13_1.1.data) c13_1_00]) (by kernel_rfl) (by kernel_rfl) (fun _ => by kernel_rfl) ?_
      refine s_pure 50 (.bool y13_1.2) (by kernel_rfl) (by kernel_rfl) (fun _ => by kernel_rfl) ?_
      refine s_step 9 (by kernel_rfl) (by kernel_rfl) (st_new (T := 31) (cells := #[.int .i64 (0), .int .i64 (0), .int .i64 (0), .int .i64 (0), .bool false, .slice none 0 0]) (fun a => .pointer (some a)) (fun _ => by kernel_rfl)) ?_
      rintro _ _ ⟨b13_5, rfl, rfl⟩
      refine s_do (by kernel_rfl) (by kernel_rfl) (st_store (off := 0) (vs := [.int .i64 y13_1.1.fwd, .int .i64 y13_1.1.back, .int .i64 y13_1.1.line, .int .i64 y13_1.1.used, .bool y13_1.1.dirty, .slice a13_1_00 (List.length y13_1.1.data) c13_1_00]) (c' := #[.int .i64 y13_1.1.fwd, .int .i64 y13_1.1.back, .int .i64 y13_1.1.line, .int .i64 y13_1.1.used, .bool y13_1.1.dirty, .slice a13_1_00 (List.length y13_1.1.data) c13_1_00]) (fun _ => by kernel_rfl) .here (by kernel_rfl) (by kernel_rfl) (by kernel_rfl)) ?_
      rintro _ _ ⟨rfl, rfl⟩
      refine s_pure 10 (.bool y13_1.2) (by kernel_rfl) (by kernel_rfl) (fun _ => by kernel_rfl) ?_
      refine ops_end ?_
      refine At.env [(0, .slice a4_3 (List.length l4_3) c4_3), (1, .int .i64 v), (5, .pointer (some ⟨b1_0, 0, none⟩)), (7, .pointer (some ⟨b9_5, 0, none⟩)), (9, .pointer (some ⟨b13_5, 0, none⟩))] ⟨by kernel_rfl, by kernel_rfl, by kernel_rfl, by kernel_rfl, by kernel_rfl, trivial⟩ ?_
      refine at_then_normal ?_
      refine at_seq (x := C7 [1,1,1,1,1,1,1,1,1,1,1,0]) (y := C7 [1,1,1,1,1,1,1,1,1,1,1,1]) (by kernel_rfl) ?_
      refine at_seq_join (x := C7 [1,1,1,1,1,1,1,1,1,1,1,0,0]) (y := C7 [1,1,1,1,1,1,1,1,1,1,1,0,1]) (fun ff ΔΔ => ∃ (e0_71 : Bool) (e0_b1_0 : CacheS), cacheMemoryS_j0 v e0_71 e0_b1_0 = some y ∧ ff = [(1, .int .i64 v), (5, .pointer (some ⟨b1_0, 0, none⟩)), (71, .bool e0_71)] ∧ (CacheA b1_0 e0_b1_0) :: Γ = ΔΔ) (by kernel_rfl) ?_ ?_
      · rintro _ _ ⟨e0_71, e0_b1_0, H, rfl, rfl⟩
        rw [cacheMemoryS_j0] at H
        rcases Bool.eq_false_or_eq_true (e0_71) with h3 | h3
        · replace H := bifT H h3
          refine at_true (t := e0_71) (x := C7 [1,1,1,1,1,1,1,1,1,1,1,0,1,0]) (y := C7 [1,1,1,1,1,1,1,1,1,1,1,0,1,1]) (o := .tmp 71) (by kernel_rfl) (by kernel_rfl) (by kernel_rfl) h3 ?_
          refine at_seq (x := C7 [1,1,1,1,1,1,1,1,1,1,1,0,1,0,0]) (y := C7 [1,1,1,1,1,1,1,1,1,1,1,0,1,0,1]) (by kernel_rfl) ?_
          refine at_region (id := 15) 1 (by kernel_rfl) (by kernel_rfl) ?_
          refine s_pure 4 (.bool false) (by kernel_rfl) (by kernel_rfl) (fun _ => by kernel_rfl) ?_
          refine ops_end ?_
          refine At.env [(4, .bool false)] ⟨by kernel_rfl, trivial⟩ ?_
          refine at_then_normal ?_
          refine at_ret (by kernel_rfl) ?_
          refine at_then_ret ?_
          obtain rfl := someE H
          refine at_backR [.bool false] (Γ) (rs := [.tmp 4]) (by kernel_rfl) (.cons (.tmp (by kernel_rfl)) .nil) (fun w hw => (Sat.less (.drop .here .refl) hw)) ?_
          exact ⟨rfl, rfl⟩
        · replace H := bifF H h3
          refine at_false (t := e0_71) (x := C7 [1,1,1,1,1,1,1,1,1,1,1,0,1,0]) (y := C7 [1,1,1,1,1,1,1,1,1,1,1,0,1,1]) (o := .tmp 71) (by kernel_rfl) (by kernel_rfl) (by kernel_rfl) h3 ?_
          refine at_skip (by kernel_rfl) ?_
          refine at_then_normal ?_
          refine at_seq (x := C7 [1,1,1,1,1,1,1,1,1,1,1,1,0]) (y := C7 [1,1,1,1,1,1,1,1,1,1,1,1,1]) (by kernel_rfl) ?_
          refine at_region (id := 16) 8 (by kernel_rfl) (by kernel_rfl) ?_
          refine s_pure 73 (.pointer (some ⟨b1_0, 0, none⟩)) (by kernel_rfl) (by kernel_rfl) (fun _ => by kernel_rfl) ?_
          obtain ⟨y16_1, hy16_1, H⟩ := bindE H
          refine s_call 74 20 #[.pointer (some ⟨b1_0, 0, none⟩), .int .i64 (2)] (by kernel_rfl) (by kernel_rfl) (fun _ => by kernel_rfl) (FindF_tr b1_0 e0_b1_0 (2 : Int) y16_1 hy16_1) ?_
          rintro _ _ ⟨a16_1_00, c16_1_00, rfl, rfl⟩
          refine s_pure 72 (.tuple #[.agg #[.int .i64 y16_1.1.fwd, .int .i64 y16_1.1.back, .int .i64 y16_1.1.line, .int .i64 y16_1.1.used, .bool y16_1.1.dirty, .slice a16_1_00 (List.length y16_1.1.data) c16_1_00], .bool y16_1.2]) (by kernel_rfl) (by kernel_rfl) (fun _ => by kernel_rfl) ?_
          refine s_pure 75 (.agg #[.int .i64 y16_1.1.fwd, .int .i64 y16_1.1.back, .int .i64 y16_1.1.line, .int .i64 y16_1.1.used, .bool y16_1.1.dirty, .slice a16_1_00 (List.length y16_1.1.data) c16_1_00]) (by kernel_rfl) (by kernel_rfl) (fun _ => by kernel_rfl) ?_
          refine s_pure 76 (.bool y16_1.2) (by kernel_rfl) (by kernel_rfl) (fun _ => by kernel_rfl) ?_
          refine s_step 11 (by kernel_rfl) (by kernel_rfl) (st_new (T := 31) (cells := #[.int .i64 (0), .int .i64 (0), .int .i64 (0), .int .i64 (0), .bool false, .slice none 0 0]) (fun a => .pointer (some a)) (fun _ => by kernel_rfl)) ?_
          rintro _ _ ⟨b16_5, rfl, rfl⟩
          refine s_do (by kernel_rfl) (by kernel_rfl) (st_store (off := 0) (vs := [.int .i64 y16_1.1.fwd, .int .i64 y16_1.1.back, .int .i64 y16_1.1.line, .int .i64 y16_1.1.used, .bool y16_1.1.dirty, .slice a16_1_00 (List.length y16_1.1.data) c16_1_00]) (c' := #[.int .i64 y16_1.1.fwd, .int .i64 y16_1.1.back, .int .i64 y16_1.1.line, .int .i64 y16_1.1.used, .bool y16_1.1.dirty, .slice a16_1_00 (List.length y16_1.1.data) c16_1_00]) (fun _ => by kernel_rfl) .here (by kernel_rfl) (by kernel_rfl) (by kernel_rfl)) ?_
          rintro _ _ ⟨rfl, rfl⟩
          refine s_pure 12 (.bool y16_1.2) (by kernel_rfl) (by kernel_rfl) (fun _ => by kernel_rfl) ?_
          refine ops_end ?_
          refine At.env [(1, .int .i64 v), (5, .pointer (some ⟨b1_0, 0, none⟩)), (11, .pointer (some ⟨b16_5, 0, none⟩))] ⟨by kernel_rfl, by kernel_rfl, by kernel_rfl, trivial⟩ ?_
          refine at_then_normal ?_
          refine at_seq (x := C7 [1,1,1,1,1,1,1,1,1,1,1,1,1,0]) (y := C7 [1,1,1,1,1,1,1,1,1,1,1,1,1,1]) (by kernel_rfl) ?_
          refine at_region (id := 17) 8 (by kernel_rfl) (by kernel_rfl) ?_
          refine s_pure 78 (.pointer (some ⟨b1_0, 0, none⟩)) (by kernel_rfl) (by kernel_rfl) (fun _ => by kernel_rfl) ?_
          obtain ⟨y17_1, hy17_1, H⟩ := bindE H
          refine s_call 79 24 #[.pointer (some ⟨b1_0, 0, none⟩), .int .i64 (2)] (by kernel_rfl) (by kernel_rfl) (fun _ => by kernel_rfl) (Tr.conv (Γ' := (CacheA b1_0 e0_b1_0) :: (Asn.own b16_5 (.cells #[.int .i64 y16_1.1.fwd, .int .i64 y16_1.1.back, .int .i64 y16_1.1.line, .int .i64 y16_1.1.used, .bool y16_1.1.dirty, .slice a16_1_00 (List.length y16_1.1.data) c16_1_00] 31 (0, 0))) :: (IntsA a16_1_00 c16_1_00 y16_1.1.data) :: Γ) (fun w hw => (Sat.less (.take (.there (.there .here)) (.take .here (.take .here .refl))) hw)) (DropF_tr b1_0 e0_b1_0 (2 : Int) y17_1 hy17_1)) ?_
          rintro _ _ ⟨a17_1_00, c17_1_00, rfl, rfl⟩
          refine s_pure 77 (.tuple #[.agg #[.int .i64 y17_1.1.fwd, .int .i64 y17_1.1.back, .int .i64 y17_1.1.line, .int .i64 y17_1.1.used, .bool y17_1.1.dirty, .slice a17_1_00 (List.length y17_1.1.data) c17_1_00], .bool y17_1.2.1]) (by kernel_rfl) (by kernel_rfl) (fun _ => by kernel_rfl) ?_
          refine s_pure 80 (.agg #[.int .i64 y17_1.1.fwd, .int .i64 y17_1.1.back, .int .i64 y17_1.1.line, .int .i64 y17_1.1.used, .bool y17_1.1.dirty, .slice a17_1_00 (List.length y17_1.1.data) c17_1_00]) (by kernel_rfl) (by kernel_rfl) (fun _ => by kernel_rfl) ?_
          refine s_pure 81 (.bool y17_1.2.1) (by kernel_rfl) (by kernel_rfl) (fun _ => by kernel_rfl) ?_
          refine s_step 13 (by kernel_rfl) (by kernel_rfl) (st_new (T := 31) (cells := #[.int .i64 (0), .int .i64 (0), .int .i64 (0), .int .i64 (0), .bool false, .slice none 0 0]) (fun a => .pointer (some a)) (fun _ => by kernel_rfl)) ?_
          rintro _ _ ⟨b17_5, rfl, rfl⟩
          refine s_do (by kernel_rfl) (by kernel_rfl) (st_store (off := 0) (vs := [.int .i64 y17_1.1.fwd, .int .i64 y17_1.1.back, .int .i64 y17_1.1.line, .int .i64 y17_1.1.used, .bool y17_1.1.dirty, .slice a17_1_00 (List.length y17_1.1.data) c17_1_00]) (c' := #[.int .i64 y17_1.1.fwd, .int .i64 y17_1.1.back, .int .i64 y17_1.1.line, .int .i64 y17_1.1.used, .bool y17_1.1.dirty, .slice a17_1_00 (List.length y17_1.1.data) c17_1_00]) (fun _ => by kernel_rfl) .here (by kernel_rfl) (by kernel_rfl) (by kernel_rfl)) ?_
          rintro _ _ ⟨rfl, rfl⟩
          refine s_pure 14 (.bool y17_1.2.1) (by kernel_rfl) (by kernel_rfl) (fun _ => by kernel_rfl) ?_
          refine ops_end ?_
          refine At.env [(1, .int .i64 v), (5, .pointer (some ⟨b1_0, 0, none⟩)), (11, .pointer (some ⟨b16_5, 0, none⟩)), (13, .pointer (some ⟨b17_5, 0, none⟩)), (14, .bool y17_1.2.1)] ⟨by kernel_rfl, by kernel_rfl, by kernel_rfl, by kernel_rfl, by kernel_rfl, trivial⟩ ?_
          refine at_then_normal ?_
          refine at_seq (x := C7 [1,1,1,1,1,1,1,1,1,1,1,1,1,1,0]) (y := C7 [1,1,1,1,1,1,1,1,1,1,1,1,1,1,1]) (by kernel_rfl) ?_
          refine at_region (id := 18) 8 (by kernel_rfl) (by kernel_rfl) ?_
          refine s_pure 83 (.pointer (some ⟨b1_0, 0, none⟩)) (by kernel_rfl) (by kernel_rfl) (fun _ => by kernel_rfl) ?_
          obtain ⟨y18_1, hy18_1, H⟩ := bindE H
          refine s_call 84 24 #[.pointer (some ⟨b1_0, 0, none⟩), .int .i64 (2)] (by kernel_rfl) (by kernel_rfl) (fun _ => by kernel_rfl) (Tr.conv (Γ' := (CacheA b1_0 y17_1.2.2) :: (Asn.own b17_5 (.cells #[.int .i64 y17_1.1.fwd, .int .i64 y17_1.1.back, .int .i64 y17_1.1.line, .int .i64 y17_1.1.used, .bool y17_1.1.dirty, .slice a17_1_00 (List.length y17_1.1.data) c17_1_00] 31 (0, 0))) :: (IntsA a17_1_00 c17_1_00 y17_1.1.data) :: (Asn.own b16_5 (.cells #[.int .i64 y16_1.1.fwd, .int .i64 y16_1.1.back, .int .i64 y16_1.1.line, .int .i64 y16_1.1.used, .bool y16_1.1.dirty, .slice a16_1_00 (List.length y16_1.1.data) c16_1_00] 31 (0, 0))) :: (IntsA a16_1_00 c16_1_00 y16_1.1.data) :: Γ) (fun w hw => (Sat.less (.take (.there (.there .here)) (.take .here (.take .here (.take .here (.take .here .refl))))) hw)) (DropF_tr b1_0 y17_1.2.2 (2 : Int) y18_1 hy18_1)) ?_
          rintro _ _ ⟨a18_1_00, c18_1_00, rfl, rfl⟩
          refine s_pure 82 (.tuple #[.agg #[.int .i64 y18_1.1.fwd, .int .i64 y18_1.1.back, .int .i64 y18_1.1.line, .int .i64 y18_1.1.used, .bool y18_1.1.dirty, .slice a18_1_00 (List.length y18_1.1.data) c18_1_00], .bool y18_1.2.1]) (by kernel_rfl) (by kernel_rfl) (fun _ => by kernel_rfl) ?_
          refine s_pure 85 (.agg #[.int .i64 y18_1.1.fwd, .int .i64 y18_1.1.back, .int .i64 y18_1.1.line, .int .i64 y18_1.1.used, .bool y18_1.1.dirty, .slice a18_1_00 (List.length y18_1.1.data) c18_1_00]) (by kernel_rfl) (by kernel_rfl) (fun _ => by kernel_rfl) ?_
          refine s_pure 86 (.bool y18_1.2.1) (by kernel_rfl) (by kernel_rfl) (fun _ => by kernel_rfl) ?_
          refine s_step 15 (by kernel_rfl) (by kernel_rfl) (st_new (T := 31) (cells := #[.int .i64 (0), .int .i64 (0), .int .i64 (0), .int .i64 (0), .bool false, .slice none 0 0]) (fun a => .pointer (some a)) (fun _ => by kernel_rfl)) ?_
          rintro _ _ ⟨b18_5, rfl, rfl⟩
          refine s_do (by kernel_rfl) (by kernel_rfl) (st_store (off := 0) (vs := [.int .i64 y18_1.1.fwd, .int .i64 y18_1.1.back, .int .i64 y18_1.1.line, .int .i64 y18_1.1.used, .bool y18_1.1.dirty, .slice a18_1_00 (List.length y18_1.1.data) c18_1_00]) (c' := #[.int .i64 y18_1.1.fwd, .int .i64 y18_1.1.back, .int .i64 y18_1.1.line, .int .i64 y18_1.1.used, .bool y18_1.1.dirty, .slice a18_1_00 (List.length y18_1.1.data) c18_1_00]) (fun _ => by kernel_rfl) .here (by kernel_rfl) (by kernel_rfl) (by kernel_rfl)) ?_
          rintro _ _ ⟨rfl, rfl⟩
          refine s_pure 16 (.bool y18_1.2.1) (by kernel_rfl) (by kernel_rfl) (fun _ => by kernel_rfl) ?_
          refine ops_end ?_
          refine At.env [(1, .int .i64 v), (5, .pointer (some ⟨b1_0, 0, none⟩)), (11, .pointer (some ⟨b16_5, 0, none⟩)), (13, .pointer (some ⟨b17_5, 0, none⟩)), (14, .bool y17_1.2.1), (16, .bool y18_1.2.1)] ⟨by kernel_rfl, by kernel_rfl, by kernel_rfl, by kernel_rfl, by kernel_rfl, by kernel_rfl, trivial⟩ ?_
          refine at_then_normal ?_
          refine at_seq (x := C7 [1,1,1,1,1,1,1,1,1,1,1,1,1,1,1,0]) (y := C7 [1,1,1,1,1,1,1,1,1,1,1,1,1,1,1,1]) (by kernel_rfl) ?_
          refine at_region (id := 19) 38 (by kernel_rfl) (by kernel_rfl) ?_
          refine s_load 87 (.agg #[.int .i64 y16_1.1.fwd, .int .i64 y16_1.1.back, .int .i64 y16_1.1.line, .int .i64 y16_1.1.used, .bool y16_1.1.dirty, .slice a16_1_00 (List.length y16_1.1.data) c16_1_00]) (by kernel_rfl) (by kernel_rfl) (loadN (off := 0) (vs := [.int .i64 y16_1.1.fwd, .int .i64 y16_1.1.back, .int .i64 y16_1.1.line, .int .i64 y16_1.1.used, .bool y16_1.1.dirty, .slice a16_1_00 (List.length y16_1.1.data) c16_1_00]) 6 (fun _ => by kernel_rfl) (holds_own (.there (.there (.there (.there (.there .here)))))) rfl (by exact ⟨rfl, rfl, rfl, rfl, rfl, rfl, trivial⟩)) ?_
          obtain ⟨y19_1, hy19_1, H⟩ := bindE H
          refine s_call 88 22 #[.agg #[.int .i64 y16_1.1.fwd, .int .i64 y16_1.1.back, .int .i64 y16_1.1.line, .int .i64 y16_1.1.used, .bool y16_1.1.dirty, .slice a16_1_00 (List.length y16_1.1.data) c16_1_00], .int .i64 (0)] (by kernel_rfl) (by kernel_rfl) (fun _ => by kernel_rfl) (EWordF_tr a16_1_00 c16_1_00 y16_1.1 (0 : Int) (RowsA.reads (k := 1) (.there (.there (.there (.there (.there (.there .here))))))) y19_1 hy19_1) ?_
          rintro _ _ ⟨rfl, rfl⟩
          refine s_pure 89 (.int .i64 v) (by kernel_rfl) (by kernel_rfl) (fun _ => by kernel_rfl) ?_
          refine s_pure 90 (.int .i64 (wr (v + (2 : Int)))) (by kernel_rfl) (by kernel_rfl) (fun _ => by kernel_rfl) ?_
          refine s_pure 91 (.bool (decide (y19_1 = (wr (v + (2 : Int)))))) (by kernel_rfl) (by kernel_rfl) (fun _ => by kernel_rfl) ?_
          rcases Bool.eq_false_or_eq_true (decide (y19_1 = (wr (v + (2 : Int))))) with h4 | h4
          · replace H := bifT H h4
            refine s_pure 92 (.bool true) (by kernel_rfl) (by kernel_rfl) (run_eq (v := .bool (decide (y19_1 = (wr (v + (2 : Int)))))) (fun _ => by kernel_rfl) (congrArg Value.bool h4)) ?_
            refine s_pure 93 (.pointer (some ⟨b16_5, 3, none⟩)) (by kernel_rfl) (by kernel_rfl) (fun _ => by kernel_rfl) ?_
            refine s_load 94 (.int .i64 y16_1.1.used) (by kernel_rfl) (by kernel_rfl) (load1 (off := 3) (fun _ => by kernel_rfl) (holds_own (.there (.there (.there (.there (.there .here)))))) (by kernel_rfl)) ?_
            refine s_pure 95 (.bool (decide (y16_1.1.used = (2 : Int)))) (by kernel_rfl) (by kernel_rfl) (fun _ => by kernel_rfl) ?_
            refine s_pure 96 (.bool (decide (y16_1.1.used = (2 : Int)))) (by kernel_rfl) (by kernel_rfl) (fun _ => by kernel_rfl) ?_
            rcases Bool.eq_false_or_eq_true (decide (y16_1.1.used = (2 : Int))) with h5 | h5
            · replace H := bifT H h5
              refine s_pure 97 (.bool true) (by kernel_rfl) (by kernel_rfl) (run_eq (v := .bool (decide (y16_1.1.used = (2 : Int)))) (fun _ => by kernel_rfl) (congrArg Value.bool h5)) ?_
              refine s_pure 98 (.bool y17_1.2.1) (by kernel_rfl) (by kernel_rfl) (fun _ => by kernel_rfl) ?_
              refine s_pure 99 (.bool y17_1.2.1) (by kernel_rfl) (by kernel_rfl) (fun _ => by kernel_rfl) ?_
              rcases Bool.eq_false_or_eq_true (y17_1.2.1) with h6 | h6
              · replace H := bifT H h6
                refine s_pure 100 (.bool true) (by kernel_rfl) (by kernel_rfl) (run_eq (v := .bool (y17_1.2.1)) (fun _ => by kernel_rfl) (congrArg Value.bool h6)) ?_
                refine s_load 101 (.agg #[.int .i64 y17_1.1.fwd, .int .i64 y17_1.1.back, .int .i64 y17_1.1.line, .int .i64 y17_1.1.used, .bool y17_1.1.dirty, .slice a17_1_00 (List.length y17_1.1.data) c17_1_00]) (by kernel_rfl) (by kernel_rfl) (loadN (off := 0) (vs := [.int .i64 y17_1.1.fwd, .int .i64 y17_1.1.back, .int .i64 y17_1.1.line, .int .i64 y17_1.1.used, .bool y17_1.1.dirty, .slice a17_1_00 (List.length y17_1.1.data) c17_1_00]) 6 (fun _ => by kernel_rfl) (holds_own (.there (.there (.there .here)))) rfl (by exact ⟨rfl, rfl, rfl, rfl, rfl, rfl, trivial⟩)) ?_
                obtain ⟨y19_15, hy19_15, H⟩ := bindE H
                refine s_call 102 22 #[.agg #[.int .i64 y17_1.1.fwd, .int .i64 y17_1.1.back, .int .i64 y17_1.1.line, .int .i64 y17_1.1.used, .bool y17_1.1.dirty, .slice a17_1_00 (List.length y17_1.1.data) c17_1_00], .int .i64 (0)] (by kernel_rfl) (by kernel_rfl) (fun _ => by kernel_rfl) (EWordF_tr a17_1_00 c17_1_00 y17_1.1 (0 : Int) (RowsA.reads (k := 1) (.there (.there (.there (.there .here))))) y19_15 hy19_15) ?_
                rintro _ _ ⟨rfl, rfl⟩
                refine s_pure 103 (.int .i64 v) (by kernel_rfl) (by kernel_rfl) (fun _ => by kernel_rfl) ?_
                refine s_pure 104 (.int .i64 (wr (v + (2 : Int)))) (by kernel_rfl) (by kernel_rfl) (fun _ => by kernel_rfl) ?_
                refine s_pure 105 (.bool (decide (y19_15 = (wr (v + (2 : Int)))))) (by kernel_rfl) (by kernel_rfl) (fun _ => by kernel_rfl) ?_
                refine s_pure 106 (.bool (decide (y19_15 = (wr (v + (2 : Int)))))) (by kernel_rfl) (by kernel_rfl) (fun _ => by kernel_rfl) ?_
                rcases Bool.eq_false_or_eq_true (decide (y19_15 = (wr (v + (2 : Int))))) with h7 | h7
                · replace H := bifT H h7
                  refine s_pure 107 (.bool true) (by kernel_rfl) (by kernel_rfl) (run_eq (v := .bool (decide (y19_15 = (wr (v + (2 : Int)))))) (fun _ => by kernel_rfl) (congrArg Value.bool h7)) ?_
                  refine s_pure 108 (.pointer (some ⟨b17_5, 3, none⟩)) (by kernel_rfl) (by kernel_rfl) (fun _ => by kernel_rfl) ?_
                  refine s_load 109 (.int .i64 y17_1.1.used) (by kernel_rfl) (by kernel_rfl) (load1 (off := 3) (fun _ => by kernel_rfl) (holds_own (.there (.there (.there .here)))) (by kernel_rfl)) ?_
                  refine s_pure 110 (.bool (decide (y17_1.1.used = (2 : Int)))) (by kernel_rfl) (by kernel_rfl) (fun _ => by kernel_rfl) ?_
                  refine s_pure 111 (.bool (decide (y17_1.1.used = (2 : Int)))) (by kernel_rfl) (by kernel_rfl) (fun _ => by kernel_rfl) ?_
                  rcases Bool.eq_false_or_eq_true (decide (y17_1.1.used = (2 : Int))) with h8 | h8
                  · replace H := bifT H h8
                    refine s_pure 112 (.bool true) (by kernel_rfl) (by kernel_rfl) (run_eq (v := .bool (decide (y17_1.1.used = (2 : Int)))) (fun _ => by kernel_rfl) (congrArg Value.bool h8)) ?_
                    refine s_pure 113 (.bool y18_1.2.1) (by kernel_rfl) (by kernel_rfl) (fun _ => by kernel_rfl) ?_
                    refine s_pure 114 (.bool !y18_1.2.1) (by kernel_rfl) (by kernel_rfl) (fun _ => by kernel_rfl) ?_
                    refine s_pure 115 (.bool !y18_1.2.1) (by kernel_rfl) (by kernel_rfl) (fun _ => by kernel_rfl) ?_
                    rcases Bool.eq_false_or_eq_true (!y18_1.2.1) with h9 | h9
                    · replace H := bifT H h9
                      refine s_pure 116 (.bool true) (by kernel_rfl) (by kernel_rfl) (run_eq (v := .bool (!y18_1.2.1)) (fun _ => by kernel_rfl) (congrArg Value.bool h9)) ?_
                      refine s_pure 117 (.pointer (some ⟨b1_0, 0, none⟩)) (by kernel_rfl) (by kernel_rfl) (fun _ => by kernel_rfl) ?_
                      obtain ⟨y19_31, hy19_31, H⟩ := letE H
                      refine s_call 118 23 #[.pointer (some ⟨b1_0, 0, none⟩)] (by kernel_rfl) (by kernel_rfl) (fun _ => by kernel_rfl) (Tr.conv (Γ' := (CacheA b1_0 y18_1.2.2) :: (Asn.own b18_5 (.cells #[.int .i64 y18_1.1.fwd, .int .i64 y18_1.1.back, .int .i64 y18_1.1.line, .int .i64 y18_1.1.used, .bool y18_1.1.dirty, .slice a18_1_00 (List.length y18_1.1.data) c18_1_00] 31 (0, 0))) :: (IntsA a18_1_00 c18_1_00 y18_1.1.data) :: (Asn.own b17_5 (.cells #[.int .i64 y17_1.1.fwd, .int .i64 y17_1.1.back, .int .i64 y17_1.1.line, .int .i64 y17_1.1.used, .bool y17_1.1.dirty, .slice a17_1_00 (List.length y17_1.1.data) c17_1_00] 31 (0, 0))) :: (IntsA a17_1_00 c17_1_00 y17_1.1.data) :: (Asn.own b16_5 (.cells #[.int .i64 y16_1.1.fwd, .int .i64 y16_1.1.back, .int .i64 y16_1.1.line, .int .i64 y16_1.1.used, .bool y16_1.1.dirty, .slice a16_1_00 (List.length y16_1.1.data) c16_1_00] 31 (0, 0))) :: (IntsA a16_1_00 c16_1_00 y16_1.1.data) :: Γ) (fun w hw => (Sat.less (.take (.there (.there .here)) (.take .here (.take .here (.take .here (.take .here (.take .here (.take .here .refl))))))) hw)) (LenF_tr b1_0 y18_1.2.2 y19_31 hy19_31)) ?_
                      rintro _ _ ⟨rfl, rfl⟩
                      refine s_pure 119 (.bool (decide (y19_31 = (0 : Int)))) (by kernel_rfl) (by kernel_rfl) (fun _ => by kernel_rfl) ?_
                      refine s_pure 120 (.bool (decide (y19_31 = (0 : Int)))) (by kernel_rfl) (by kernel_rfl) (fun _ => by kernel_rfl) ?_
                      rcases Bool.eq_false_or_eq_true (decide (y19_31 = (0 : Int))) with h10 | h10
                      · replace H := bifT H h10
                        refine s_pure 121 (.bool true) (by kernel_rfl) (by kernel_rfl) (run_eq (v := .bool (decide (y19_31 = (0 : Int)))) (fun _ => by kernel_rfl) (congrArg Value.bool h10)) ?_
                        obtain ⟨y19_35, hy19_35, H⟩ := bindE H
                        refine s_call 122 29 #[] (by kernel_rfl) (by kernel_rfl) (fun _ => by kernel_rfl) (W08F_tr  y19_35 hy19_35) ?_
                        rintro _ _ ⟨rfl, rfl⟩
                        refine s_pure 123 (.bool y19_35) (by kernel_rfl) (by kernel_rfl) (fun _ => by kernel_rfl) ?_
                        refine s_pure 4 (.bool y19_35) (by kernel_rfl) (by kernel_rfl) (fun _ => by kernel_rfl) ?_
                        refine ops_end ?_
                        refine At.env [(4, .bool y19_35)] ⟨by kernel_rfl, trivial⟩ ?_
                        refine at_then_normal ?_
                        refine at_ret (by kernel_rfl) ?_
                        obtain rfl := someE H
                        refine at_backR [.bool y19_35] (Γ) (rs := [.tmp 4]) (by kernel_rfl) (.cons (.tmp (by kernel_rfl)) .nil) (fun w hw => (Sat.less (.drop .here (.drop .here (.drop .here (.drop .here (.drop .here (.drop .here (.drop .here .refl))))))) hw)) ?_
                        exact ⟨rfl, rfl⟩
                      · replace H := bifF H h10
                        refine s_pure 121 (.bool false) (by kernel_rfl) (by kernel_rfl) (run_eq (v := .bool (decide (y19_31 = (0 : Int)))) (fun _ => by kernel_rfl) (congrArg Value.bool h10)) ?_
                        refine s_pass 122 (by kernel_rfl) (by kernel_rfl) ?_
                        refine s_pure 123 (.bool false) (by kernel_rfl) (by kernel_rfl) (fun _ => by kernel_rfl) ?_
                        refine s_pure 4 (.bool false) (by kernel_rfl) (by kernel_rfl) (fun _ => by kernel_rfl) ?_
                        refine ops_end ?_
                        refine At.env [(4, .bool false)] ⟨by kernel_rfl, trivial⟩ ?_
                        refine at_then_normal ?_
                        refine at_ret (by kernel_rfl) ?_
                        obtain rfl := someE H
                        refine at_backR [.bool false] (Γ) (rs := [.tmp 4]) (by kernel_rfl) (.cons (.tmp (by kernel_rfl)) .nil) (fun w hw => (Sat.less (.drop .here (.drop .here (.drop .here (.drop .here (.drop .here (.drop .here (.drop .here .refl))))))) hw)) ?_
                        exact ⟨rfl, rfl⟩
                    · replace H := bifF H h9
                      refine s_pure 116 (.bool false) (by kernel_rfl) (by kernel_rfl) (run_eq (v := .bool (!y18_1.2.1)) (fun _ => by kernel_rfl) (congrArg Value.bool h9)) ?_
                      refine s_pass 117 (by kernel_rfl) (by kernel_rfl) ?_
                      refine s_pass 118 (by kernel_rfl) (by kernel_rfl) ?_
                      refine s_pass 119 (by kernel_rfl) (by kernel_rfl) ?_
                      refine s_pure 120 (.bool false) (by kernel_rfl) (by kernel_rfl) (fun _ => by kernel_rfl) ?_
                      refine s_pure 121 (.bool false) (by kernel_rfl) (by kernel_rfl) (fun _ => by kernel_rfl) ?_
                      refine s_pass 122 (by kernel_rfl) (by kernel_rfl) ?_
                      refine s_pure 123 (.bool false) (by kernel_rfl) (by kernel_rfl) (fun _ => by kernel_rfl) ?_
                      refine s_pure 4 (.bool false) (by kernel_rfl) (by kernel_rfl) (fun _ => by kernel_rfl) ?_
                      refine ops_end ?_
                      refine At.env [(4, .bool false)] ⟨by kernel_rfl, trivial⟩ ?_
                      refine at_then_normal ?_
                      refine at_ret (by kernel_rfl) ?_
                      obtain rfl := someE H
                      refine at_backR [.bool false] (Γ) (rs := [.tmp 4]) (by kernel_rfl) (.cons (.tmp (by kernel_rfl)) .nil) (fun w hw => (Sat.less (.drop .here (.drop .here (.drop .here (.drop .here (.drop .here (.drop .here (.drop .here .refl))))))) hw)) ?_
                      exact ⟨rfl, rfl⟩
                  · replace H := bifF H h8
                    refine s_pure 112 (.bool false) (by kernel_rfl) (by kernel_rfl) (run_eq (v := .bool (decide (y17_1.1.used = (2 : Int)))) (fun _ => by kernel_rfl) (congrArg Value.bool h8)) ?_
                    refine s_pass 113 (by kernel_rfl) (by kernel_rfl) ?_
                    refine s_pass 114 (by kernel_rfl) (by kernel_rfl) ?_
                    refine s_pure 115 (.bool false) (by kernel_rfl) (by kernel_rfl) (fun _ => by kernel_rfl) ?_
                    refine s_pure 116 (.bool false) (by kernel_rfl) (by kernel_rfl) (fun _ => by kernel_rfl) ?_
                    refine s_pass 117 (by kernel_rfl) (by kernel_rfl) ?_
                    refine s_pass 118 (by kernel_rfl) (by kernel_rfl) ?_
                    refine s_pass 119 (by kernel_rfl) (by kernel_rfl) ?_
                    refine s_pure 120 (.bool false) (by kernel_rfl) (by kernel_rfl) (fun _ => by kernel_rfl) ?_
                    refine s_pure 121 (.bool false) (by kernel_rfl) (by kernel_rfl) (fun _ => by kernel_rfl) ?_
                    refine s_pass 122 (by kernel_rfl) (by kernel_rfl) ?_
                    refine s_pure 123 (.bool false) (by kernel_rfl) (by kernel_rfl) (fun _ => by kernel_rfl) ?_
                    refine s_pure 4 (.bool false) (by kernel_rfl) (by kernel_rfl) (fun _ => by kernel_rfl) ?_
                    refine ops_end ?_
                    refine At.env [(4, .bool false)] ⟨by kernel_rfl, trivial⟩ ?_
                    refine at_then_normal ?_
                    refine at_ret (by kernel_rfl) ?_
                    obtain rfl := someE H
                    refine at_backR [.bool false] (Γ) (rs := [.tmp 4]) (by kernel_rfl) (.cons (.tmp (by kernel_rfl)) .nil) (fun w hw => (Sat.less (.drop .here (.drop .here (.drop .here (.drop .here (.drop .here (.drop .here (.drop .here .refl))))))) hw)) ?_
                    exact ⟨rfl, rfl⟩
                · replace H := bifF H h7
                  refine s_pure 107 (.bool false) (by kernel_rfl) (by kernel_rfl) (run_eq (v := .bool (decide (y19_15 = (wr (v + (2 : Int)))))) (fun _ => by kernel_rfl) (congrArg Value.bool h7)) ?_
                  refine s_pass 108 (by kernel_rfl) (by kernel_rfl) ?_
                  refine s_pass 109 (by kernel_rfl) (by kernel_rfl) ?_
                  refine s_pass 110 (by kernel_rfl) (by kernel_rfl) ?_
                  refine s_pure 111 (.bool false) (by kernel_rfl) (by kernel_rfl) (fun _ => by kernel_rfl) ?_
                  refine s_pure 112 (.bool false) (by kernel_rfl) (by kernel_rfl) (fun _ => by kernel_rfl) ?_
                  refine s_pass 113 (by kernel_rfl) (by kernel_rfl) ?_
                  refine s_pass 114 (by kernel_rfl) (by kernel_rfl) ?_
                  refine s_pure 115 (.bool false) (by kernel_rfl) (by kernel_rfl) (fun _ => by kernel_rfl) ?_
                  refine s_pure 116 (.bool false) (by kernel_rfl) (by kernel_rfl) (fun _ => by kernel_rfl) ?_
                  refine s_pass 117 (by kernel_rfl) (by kernel_rfl) ?_
                  refine s_pass 118 (by kernel_rfl) (by kernel_rfl) ?_
                  refine s_pass 119 (by kernel_rfl) (by kernel_rfl) ?_
                  refine s_pure 120 (.bool false) (by kernel_rfl) (by kernel_rfl) (fun _ => by kernel_rfl) ?_
                  refine s_pure 121 (.bool false) (by kernel_rfl) (by kernel_rfl) (fun _ => by kernel_rfl) ?_
                  refine s_pass 122 (by kernel_rfl) (by kernel_rfl) ?_
                  refine s_pure 123 (.bool false) (by kernel_rfl) (by kernel_rfl) (fun _ => by kernel_rfl) ?_
                  refine s_pure 4 (.bool false) (by kernel_rfl) (by kernel_rfl) (fun _ => by kernel_rfl) ?_
                  refine ops_end ?_
                  refine At.env [(4, .bool false)] ⟨by kernel_rfl, trivial⟩ ?_
                  refine at_then_normal ?_
                  refine at_ret (by kernel_rfl) ?_
                  obtain rfl := someE H
                  refine at_backR [.bool false] (Γ) (rs := [.tmp 4]) (by kernel_rfl) (.cons (.tmp (by kernel_rfl)) .nil) (fun w hw => (Sat.less (.drop .here (.drop .here (.drop .here (.drop .here (.drop .here (.drop .here (.drop .here .refl))))))) hw)) ?_
                  exact ⟨rfl, rfl⟩
              · replace H := bifF H h6
                refine s_pure 100 (.bool false) (by kernel_rfl) (by kernel_rfl) (run_eq (v := .bool (y17_1.2.1)) (fun _ => by kernel_rfl) (congrArg Value.bool h6)) ?_
                refine s_pass 101 (by kernel_rfl) (by kernel_rfl) ?_
                refine s_pass 102 (by kernel_rfl) (by kernel_rfl) ?_
                refine s_pass 103 (by kernel_rfl) (by kernel_rfl) ?_
                refine s_pass 104 (by kernel_rfl) (by kernel_rfl) ?_
                refine s_pass 105 (by kernel_rfl) (by kernel_rfl) ?_
                refine s_pure 106 (.bool false) (by kernel_rfl) (by kernel_rfl) (fun _ => by kernel_rfl) ?_
                refine s_pure 107 (.bool false) (by kernel_rfl) (by kernel_rfl) (fun _ => by kernel_rfl) ?_
                refine s_pass 108 (by kernel_rfl) (by kernel_rfl) ?_
                refine s_pass 109 (by kernel_rfl) (by kernel_rfl) ?_
                refine s_pass 110 (by kernel_rfl) (by kernel_rfl) ?_
                refine s_pure 111 (.bool false) (by kernel_rfl) (by kernel_rfl) (fun _ => by kernel_rfl) ?_
                refine s_pure 112 (.bool false) (by kernel_rfl) (by kernel_rfl) (fun _ => by kernel_rfl) ?_
                refine s_pass 113 (by kernel_rfl) (by kernel_rfl) ?_
                refine s_pass 114 (by kernel_rfl) (by kernel_rfl) ?_
                refine s_pure 115 (.bool false) (by kernel_rfl) (by kernel_rfl) (fun _ => by kernel_rfl) ?_
                refine s_pure 116 (.bool false) (by kernel_rfl) (by kernel_rfl) (fun _ => by kernel_rfl) ?_
                refine s_pass 117 (by kernel_rfl) (by kernel_rfl) ?_
                refine s_pass 118 (by kernel_rfl) (by kernel_rfl) ?_
                refine s_pass 119 (by kernel_rfl) (by kernel_rfl) ?_
                refine s_pure 120 (.bool false) (by kernel_rfl) (by kernel_rfl) (fun _ => by kernel_rfl) ?_
                refine s_pure 121 (.bool false) (by kernel_rfl) (by kernel_rfl) (fun _ => by kernel_rfl) ?_
                refine s_pass 122 (by kernel_rfl) (by kernel_rfl) ?_
                refine s_pure 123 (.bool false) (by kernel_rfl) (by kernel_rfl) (fun _ => by kernel_rfl) ?_
                refine s_pure 4 (.bool false) (by kernel_rfl) (by kernel_rfl) (fun _ => by kernel_rfl) ?_
                refine ops_end ?_
                refine At.env [(4, .bool false)] ⟨by kernel_rfl, trivial⟩ ?_
                refine at_then_normal ?_
                refine at_ret (by kernel_rfl) ?_
                obtain rfl := someE H
                refine at_backR [.bool false] (Γ) (rs := [.tmp 4]) (by kernel_rfl) (.cons (.tmp (by kernel_rfl)) .nil) (fun w hw => (Sat.less (.drop .here (.drop .here (.drop .here (.drop .here (.drop .here (.drop .here (.drop .here .refl))))))) hw)) ?_
                exact ⟨rfl, rfl⟩
            · replace H := bifF H h5
              refine s_pure 97 (.bool false) (by kernel_rfl) (by kernel_rfl) (run_eq (v := .bool (decide (y16_1.1.used = (2 : Int)))) (fun _ => by kernel_rfl) (congrArg Value.bool h5)) ?_
              refine s_pass 98 (by kernel_rfl) (by kernel_rfl) ?_
              refine s_pure 99 (.bool false) (by kernel_rfl) (by kernel_rfl) (fun _ => by kernel_rfl) ?_
              refine s_pure 100 (.bool false) (by kernel_rfl) (by kernel_rfl) (fun _ => by kernel_rfl) ?_
              refine s_pass 101 (by kernel_rfl) (by kernel_rfl) ?_
              refine s_pass 102 (by kernel_rfl) (by kernel_rfl) ?_
              refine s_pass 103 (by kernel_rfl) (by kernel_rfl) ?_
              refine s_pass 104 (by kernel_rfl) (by kernel_rfl) ?_
              refine s_pass 105 (by kernel_rfl) (by kernel_rfl) ?_
              refine s_pure 106 (.bool false) (by kernel_rfl) (by kernel_rfl) (fun _ => by kernel_rfl) ?_
              refine s_pure 107 (.bool false) (by kernel_rfl) (by kernel_rfl) (fun _ => by kernel_rfl) ?_
              refine s_pass 108 (by kernel_rfl) (by kernel_rfl) ?_
              refine s_pass 109 (by kernel_rfl) (by kernel_rfl) ?_
              refine s_pass 110 (by kernel_rfl) (by kernel_rfl) ?_
              refine s_pure 111 (.bool false) (by kernel_rfl) (by kernel_rfl) (fun _ => by kernel_rfl) ?_
              refine s_pure 112 (.bool false) (by kernel_rfl) (by kernel_rfl) (fun _ => by kernel_rfl) ?_
              refine s_pass 113 (by kernel_rfl) (by kernel_rfl) ?_
              refine s_pass 114 (by kernel_rfl) (by kernel_rfl) ?_
              refine s_pure 115 (.bool false) (by kernel_rfl) (by kernel_rfl) (fun _ => by kernel_rfl) ?_
              refine s_pure 116 (.bool false) (by kernel_rfl) (by kernel_rfl) (fun _ => by kernel_rfl) ?_
              refine s_pass 117 (by kernel_rfl) (by kernel_rfl) ?_
              refine s_pass 118 (by kernel_rfl) (by kernel_rfl) ?_
              refine s_pass 119 (by kernel_rfl) (by kernel_rfl) ?_
              refine s_pure 120 (.bool false) (by kernel_rfl) (by kernel_rfl) (fun _ => by kernel_rfl) ?_
              refine s_pure 121 (.bool false) (by kernel_rfl) (by kernel_rfl) (fun _ => by kernel_rfl) ?_
              refine s_pass 122 (by kernel_rfl) (by kernel_rfl) ?_
              refine s_pure 123 (.bool false) (by kernel_rfl) (by kernel_rfl) (fun _ => by kernel_rfl) ?_
              refine s_pure 4 (.bool false) (by kernel_rfl) (by kernel_rfl) (fun _ => by kernel_rfl) ?_
              refine ops_end ?_
              refine At.env [(4, .bool false)] ⟨by kernel_rfl, trivial⟩ ?_
              refine at_then_normal ?_
              refine at_ret (by kernel_rfl) ?_
              obtain rfl := someE H
              refine at_backR [.bool false] (Γ) (rs := [.tmp 4]) (by kernel_rfl) (.cons (.tmp (by kernel_rfl)) .nil) (fun w hw => (Sat.less (.drop .here (.drop .here (.drop .here (.drop .here (.drop .here (.drop .here (.drop .here .refl))))))) hw)) ?_
              exact ⟨rfl, rfl⟩
          · replace H := bifF H h4
            refine s_pure 92 (.bool false) (by kernel_rfl) (by kernel_rfl) (run_eq (v := .bool (decide (y19_1 = (wr (v + (2 : Int)))))) (fun _ => by kernel_rfl) (congrArg Value.bool h4)) ?_
            refine s_pass 93 (by kernel_rfl) (by kernel_rfl) ?_
            refine s_pass 94 (by kernel_rfl) (by kernel_rfl) ?_
            refine s_pass 95 (by kernel_rfl) (by kernel_rfl) ?_
            refine s_pure 96 (.bool false) (by kernel_rfl) (by kernel_rfl) (fun _ => by kernel_rfl) ?_
            refine s_pure 97 (.bool false) (by kernel_rfl) (by kernel_rfl) (fun _ => by kernel_rfl) ?_
            refine s_pass 98 (by kernel_rfl) (by kernel_rfl) ?_
            refine s_pure 99 (.bool false) (by kernel_rfl) (by kernel_rfl) (fun _ => by kernel_rfl) ?_
            refine s_pure 100 (.bool false) (by kernel_rfl) (by kernel_rfl) (fun _ => by kernel_rfl) ?_
            refine s_pass 101 (by kernel_rfl) (by kernel_rfl) ?_
            refine s_pass 102 (by kernel_rfl) (by kernel_rfl) ?_
            refine s_pass 103 (by kernel_rfl) (by kernel_rfl) ?_
            refine s_pass 104 (by kernel_rfl) (by kernel_rfl) ?_
            refine s_pass 105 (by kernel_rfl) (by kernel_rfl) ?_
            refine s_pure 106 (.bool false) (by kernel_rfl) (by kernel_rfl) (fun _ => by kernel_rfl) ?_
            refine s_pure 107 (.bool false) (by kernel_rfl) (by kernel_rfl) (fun _ => by kernel_rfl) ?_
            refine s_pass 108 (by kernel_rfl) (by kernel_rfl) ?_
            refine s_pass 109 (by kernel_rfl) (by kernel_rfl) ?_
            refine s_pass 110 (by kernel_rfl) (by kernel_rfl) ?_
            refine s_pure 111 (.bool false) (by kernel_rfl) (by kernel_rfl) (fun _ => by kernel_rfl) ?_
            refine s_pure 112 (.bool false) (by kernel_rfl) (by kernel_rfl) (fun _ => by kernel_rfl) ?_
            refine s_pass 113 (by kernel_rfl) (by kernel_rfl) ?_
            refine s_pass 114 (by kernel_rfl) (by kernel_rfl) ?_
            refine s_pure 115 (.bool false) (by kernel_rfl) (by kernel_rfl) (fun _ => by kernel_rfl) ?_
            refine s_pure 116 (.bool false) (by kernel_rfl) (by kernel_rfl) (fun _ => by kernel_rfl) ?_
            refine s_pass 117 (by kernel_rfl) (by kernel_rfl) ?_
            refine s_pass 118 (by kernel_rfl) (by kernel_rfl) ?_
            refine s_pass 119 (by kernel_rfl) (by kernel_rfl) ?_
            refine s_pure 120 (.bool false) (by kernel_rfl) (by kernel_rfl) (fun _ => by kernel_rfl) ?_
            refine s_pure 121 (.bool false) (by kernel_rfl) (by kernel_rfl) (fun _ => by kernel_rfl) ?_
            refine s_pass 122 (by kernel_rfl) (by kernel_rfl) ?_
            refine s_pure 123 (.bool false) (by kernel_rfl) (by kernel_rfl) (fun _ => by kernel_rfl) ?_
            refine s_pure 4 (.bool false) (by kernel_rfl) (by kernel_rfl) (fun _ => by kernel_rfl) ?_
            refine ops_end ?_
            refine At.env [(4, .bool false)] ⟨by kernel_rfl, trivial⟩ ?_
            refine at_then_normal ?_
            refine at_ret (by kernel_rfl) ?_
            obtain rfl := someE H
            refine at_backR [.bool false] (Γ) (rs := [.tmp 4]) (by kernel_rfl) (.cons (.tmp (by kernel_rfl)) .nil) (fun w hw => (Sat.less (.drop .here (.drop .here (.drop .here (.drop .here (.drop .here (.drop .here (.drop .here .refl))))))) hw)) ?_
            exact ⟨rfl, rfl⟩
      · refine at_region (id := 14) 21 (by kernel_rfl) (by kernel_rfl) ?_
        refine s_pure 51 (.pointer (some ⟨b13_5, 5, none⟩)) (by kernel_rfl) (by kernel_rfl) (fun _ => by kernel_rfl) ?_
        refine s_load 52 (.slice a13_1_00 (List.length y13_1.1.data) c13_1_00) (by kernel_rfl) (by kernel_rfl) (load1 (off := 5) (fun _ => by kernel_rfl) (holds_own .here) (by kernel_rfl)) ?_
        refine s_pure 53 (.slice a4_3 (List.length l4_3) c4_3) (by kernel_rfl) (by kernel_rfl) (fun _ => by kernel_rfl) ?_
        obtain ⟨y14_3, hy14_3, H⟩ := bindE H
        refine s_call 54 19 #[.slice a13_1_00 (List.length y13_1.1.data) c13_1_00, .slice a4_3 (List.length l4_3) c4_3] (by kernel_rfl) (by kernel_rfl) (fun _ => by kernel_rfl) (KSameF_tr a13_1_00 c13_1_00 y13_1.1.data a4_3 c4_3 l4_3 (RowsA.reads (k := 1) (.there .here)) (RowsA.reads (k := 1) (.there (.there (.there (.there (.there (.there (.there .here)))))))) y14_3 hy14_3) ?_
        rintro _ _ ⟨rfl, rfl⟩
        refine s_pure 55 (.bool !y14_3) (by kernel_rfl) (by kernel_rfl) (fun _ => by kernel_rfl) ?_
        rcases Bool.eq_false_or_eq_true (!y14_3) with h11 | h11
        · replace H := bifT H h11
          refine s_pure 56 (.bool true) (by kernel_rfl) (by kernel_rfl) (run_eq (v := .bool (!y14_3)) (fun _ => by kernel_rfl) (congrArg Value.bool h11)) ?_
          refine s_pass 57 (by kernel_rfl) (by kernel_rfl) ?_
          refine s_pass 58 (by kernel_rfl) (by kernel_rfl) ?_
          refine s_pass 59 (by kernel_rfl) (by kernel_rfl) ?_
          refine s_pure 60 (.bool true) (by kernel_rfl) (by kernel_rfl) (fun _ => by kernel_rfl) ?_
          refine s_pure 61 (.bool true) (by kernel_rfl) (by kernel_rfl) (fun _ => by kernel_rfl) ?_
          refine s_pass 62 (by kernel_rfl) (by kernel_rfl) ?_
          refine s_pass 63 (by kernel_rfl) (by kernel_rfl) ?_
          refine s_pass 64 (by kernel_rfl) (by kernel_rfl) ?_
          refine s_pure 65 (.bool true) (by kernel_rfl) (by kernel_rfl) (fun _ => by kernel_rfl) ?_
          refine s_pure 66 (.bool true) (by kernel_rfl) (by kernel_rfl) (fun _ => by kernel_rfl) ?_
          refine s_pass 67 (by kernel_rfl) (by kernel_rfl) ?_
          refine s_pass 68 (by kernel_rfl) (by kernel_rfl) ?_
          refine s_pass 69 (by kernel_rfl) (by kernel_rfl) ?_
          refine s_pass 70 (by kernel_rfl) (by kernel_rfl) ?_
          refine s_pure 71 (.bool true) (by kernel_rfl) (by kernel_rfl) (fun _ => by kernel_rfl) ?_
          refine ops_end ?_
          refine At.env [(1, .int .i64 v), (5, .pointer (some ⟨b1_0, 0, none⟩)), (71, .bool true)] ⟨by kernel_rfl, by kernel_rfl, by kernel_rfl, trivial⟩ ?_
          refine at_round_normal ?_
          exact at_join_mk [(1, .int .i64 v), (5, .pointer (some ⟨b1_0, 0, none⟩)), (71, .bool true)] ((CacheA b1_0 y6_2.2) :: Γ) ⟨by kernel_rfl, by kernel_rfl, by kernel_rfl, trivial⟩ (fun w hw => (Sat.less (.take (.there (.there .here)) (.drop .here (.drop .here (.drop .here (.drop .here (.drop .here (.drop .here (.drop .here (.drop .here .refl))))))))) hw)) ⟨true, y6_2.2, H, rfl, rfl⟩
        · replace H := bifF H h11
          refine s_pure 56 (.bool false) (by kernel_rfl) (by kernel_rfl) (run_eq (v := .bool (!y14_3)) (fun _ => by kernel_rfl) (congrArg Value.bool h11)) ?_
          refine s_pure 57 (.pointer (some ⟨b13_5, 3, none⟩)) (by kernel_rfl) (by kernel_rfl) (fun _ => by kernel_rfl) ?_
          refine s_load 58 (.int .i64 y13_1.1.used) (by kernel_rfl) (by kernel_rfl) (load1 (off := 3) (fun _ => by kernel_rfl) (holds_own .here) (by kernel_rfl)) ?_
          refine s_pure 59 (.bool (!(decide (y13_1.1.used = (1 : Int))))) (by kernel_rfl) (by kernel_rfl) (fun _ => by kernel_rfl) ?_
          refine s_pure 60 (.bool (!(decide (y13_1.1.used = (1 : Int))))) (by kernel_rfl) (by kernel_rfl) (fun _ => by kernel_rfl) ?_
          rcases Bool.eq_false_or_eq_true (!(decide (y13_1.1.used = (1 : Int)))) with h12 | h12
          · replace H := bifT H h12
            refine s_pure 61 (.bool true) (by kernel_rfl) (by kernel_rfl) (run_eq (v := .bool (!(decide (y13_1.1.used = (1 : Int))))) (fun _ => by kernel_rfl) (congrArg Value.bool h12)) ?_
            refine s_pass 62 (by kernel_rfl) (by kernel_rfl) ?_
            refine s_pass 63 (by kernel_rfl) (by kernel_rfl) ?_
            refine s_pass 64 (by kernel_rfl) (by kernel_rfl) ?_
            refine s_pure 65 (.bool true) (by kernel_rfl) (by kernel_rfl) (fun _ => by kernel_rfl) ?_
            refine s_pure 66 (.bool true) (by kernel_rfl) (by kernel_rfl) (fun _ => by kernel_rfl) ?_
            refine s_pass 67 (by kernel_rfl) (by kernel_rfl) ?_
            refine s_pass 68 (by kernel_rfl) (by kernel_rfl) ?_
            refine s_pass 69 (by kernel_rfl) (by kernel_rfl) ?_
            refine s_pass 70 (by kernel_rfl) (by kernel_rfl) ?_
            refine s_pure 71 (.bool true) (by kernel_rfl) (by kernel_rfl) (fun _ => by kernel_rfl) ?_
            refine ops_end ?_
            refine At.env [(1, .int .i64 v), (5, .pointer (some ⟨b1_0, 0, none⟩)), (71, .bool true)] ⟨by kernel_rfl, by kernel_rfl, by kernel_rfl, trivial⟩ ?_
            refine at_round_normal ?_
            exact at_join_mk [(1, .int .i64 v), (5, .pointer (some ⟨b1_0, 0, none⟩)), (71, .bool true)] ((CacheA b1_0 y6_2.2) :: Γ) ⟨by kernel_rfl, by kernel_rfl, by kernel_rfl, trivial⟩ (fun w hw => (Sat.less (.take (.there (.there .here)) (.drop .here (.drop .here (.drop .here (.drop .here (.drop .here (.drop .here (.drop .here (.drop .here .refl))))))))) hw)) ⟨true, y6_2.2, H, rfl, rfl⟩
          · replace H := bifF H h12
            refine s_pure 61 (.bool false) (by kernel_rfl) (by kernel_rfl) (run_eq (v := .bool (!(decide (y13_1.1.used = (1 : Int))))) (fun _ => by kernel_rfl) (congrArg Value.bool h12)) ?_
            refine s_pure 62 (.pointer (some ⟨b1_0, 0, none⟩)) (by kernel_rfl) (by kernel_rfl) (fun _ => by kernel_rfl) ?_
            obtain ⟨y14_12, hy14_12, H⟩ := bindE H
            refine s_call 63 31 #[.pointer (some ⟨b1_0, 0, none⟩), .int .i64 (2)] (by kernel_rfl) (by kernel_rfl) (fun _ => by kernel_rfl) (Tr.conv (Γ' := (CacheA b1_0 y6_2.2) :: (Asn.own b13_5 (.cells #[.int .i64 y13_1.1.fwd, .int .i64 y13_1.1.back, .int .i64 y13_1.1.line, .int .i64 y13_1.1.used, .bool y13_1.1.dirty, .slice a13_1_00 (List.length y13_1.1.data) c13_1_00] 31 (0, 0))) :: (IntsA a13_1_00 c13_1_00 y13_1.1.data) :: (IntsA a12_2_e c12_2_e y12_2.2.data) :: (Asn.own b9_5 (.cells #[.int .i64 y12_2.2.fwd, .int .i64 y12_2.2.back, .int .i64 y12_2.2.line, .int .i64 y12_2.2.used, .bool y12_2.2.dirty, .slice a12_2_e (List.length y12_2.2.data) c12_2_e] 31 (0, 0))) :: (IntsA a8_2_e c8_2_e y8_2.2.data) :: (Asn.own b5_2 (.cells #[.int .i64 y8_2.2.fwd, .int .i64 y8_2.2.back, .int .i64 y8_2.2.line, .int .i64 y8_2.2.used, .bool y8_2.2.dirty, .slice a8_2_e (List.length y8_2.2.data) c8_2_e] 31 (0, 0))) :: (IntsA a4_3 c4_3 l4_3) :: (IntsA (some ⟨b4_2, 0, none⟩) 1 l4_2) :: Γ) (fun w hw => (Sat.less (.take (.there (.there .here)) (.take .here (.take .here (.take .here (.take .here (.take .here (.take .here (.take .here (.take .here .refl))))))))) hw)) (TouchF_tr b1_0 y6_2.2 (2 : Int) y14_12 hy14_12)) ?_
            rintro _ _ ⟨rfl, rfl⟩
            refine s_pure 64 (.bool !y14_12.1) (by kernel_rfl) (by kernel_rfl) (fun _ => by kernel_rfl) ?_
            refine s_pure 65 (.bool !y14_12.1) (by kernel_rfl) (by kernel_rfl) (fun _ => by kernel_rfl) ?_
            rcases Bool.eq_false_or_eq_true (!y14_12.1) with h13 | h13
            · replace H := bifT H h13
              refine s_pure 66 (.bool true) (by kernel_rfl) (by kernel_rfl) (run_eq (v := .bool (!y14_12.1)) (fun _ => by kernel_rfl) (congrArg Value.bool h13)) ?_
              refine s_pass 67 (by kernel_rfl) (by kernel_rfl) ?_
              refine s_pass 68 (by kernel_rfl) (by kernel_rfl) ?_
              refine s_pass 69 (by kernel_rfl) (by kernel_rfl) ?_
              refine s_pass 70 (by kernel_rfl) (by kernel_rfl) ?_
              refine s_pure 71 (.bool true) (by kernel_rfl) (by kernel_rfl) (fun _ => by kernel_rfl) ?_
              refine ops_end ?_
              refine At.env [(1, .int .i64 v), (5, .pointer (some ⟨b1_0, 0, none⟩)), (71, .bool true)] ⟨by kernel_rfl, by kernel_rfl, by kernel_rfl, trivial⟩ ?_
              refine at_round_normal ?_
              exact at_join_mk [(1, .int .i64 v), (5, .pointer (some ⟨b1_0, 0, none⟩)), (71, .bool true)] ((CacheA b1_0 y14_12.2) :: Γ) ⟨by kernel_rfl, by kernel_rfl, by kernel_rfl, trivial⟩ (fun w hw => (Sat.less (.take .here (.drop .here (.drop .here (.drop .here (.drop .here (.drop .here (.drop .here (.drop .here (.drop .here .refl))))))))) hw)) ⟨true, y14_12.2, H, rfl, rfl⟩
            · replace H := bifF H h13
              refine s_pure 66 (.bool false) (by kernel_rfl) (by kernel_rfl) (run_eq (v := .bool (!y14_12.1)) (fun _ => by kernel_rfl) (congrArg Value.bool h13)) ?_
              refine s_pure 67 (.pointer (some ⟨b1_0, 0, none⟩)) (by kernel_rfl) (by kernel_rfl) (fun _ => by kernel_rfl) ?_
              refine s_load 68 (.agg #[.int .i64 y12_2.2.fwd, .int .i64 y12_2.2.back, .int .i64 y12_2.2.line, .int .i64 y12_2.2.used, .bool y12_2.2.dirty, .slice a12_2_e (List.length y12_2.2.data) c12_2_e]) (by kernel_rfl) (by kernel_rfl) (loadN (off := 0) (vs := [.int .i64 y12_2.2.fwd, .int .i64 y12_2.2.back, .int .i64 y12_2.2.line, .int .i64 y12_2.2.used, .bool y12_2.2.dirty, .slice a12_2_e (List.length y12_2.2.data) c12_2_e]) 6 (fun _ => by kernel_rfl) (holds_own (.there (.there (.there (.there .here))))) rfl (by exact ⟨rfl, rfl, rfl, rfl, rfl, rfl, trivial⟩)) ?_
              obtain ⟨y14_18, hy14_18, H⟩ := bindE H
              refine s_call 69 15 #[.pointer (some ⟨b1_0, 0, none⟩), .agg #[.int .i64 y12_2.2.fwd, .int .i64 y12_2.2.back, .int .i64 y12_2.2.line, .int .i64 y12_2.2.used, .bool y12_2.2.dirty, .slice a12_2_e (List.length y12_2.2.data) c12_2_e]] (by kernel_rfl) (by kernel_rfl) (fun _ => by kernel_rfl) (PutF_tr b1_0 y14_12.2 a12_2_e c12_2_e y12_2.2 (RowsA.reads (k := 1) (.there (.there .here))) y14_18 hy14_18) ?_
              rintro _ _ ⟨rfl, rfl⟩
              refine s_pure 70 (.bool (!(decide (y14_18.1 = (0 : Int))))) (by kernel_rfl) (by kernel_rfl) (fun _ => by kernel_rfl) ?_
              refine s_pure 71 (.bool (!(decide (y14_18.1 = (0 : Int))))) (by kernel_rfl) (by kernel_rfl) (fun _ => by kernel_rfl) ?_
              refine ops_end ?_
              refine At.env [(1, .int .i64 v), (5, .pointer (some ⟨b1_0, 0, none⟩)), (71, .bool (!(decide (y14_18.1 = (0 : Int)))))] ⟨by kernel_rfl, by kernel_rfl, by kernel_rfl, trivial⟩ ?_
              refine at_round_normal ?_
              exact at_join_mk [(1, .int .i64 v), (5, .pointer (some ⟨b1_0, 0, none⟩)), (71, .bool (!(decide (y14_18.1 = (0 : Int)))))] ((CacheA b1_0 y14_18.2) :: Γ) ⟨by kernel_rfl, by kernel_rfl, by kernel_rfl, trivial⟩ (fun w hw => (Sat.less (.take .here (.drop .here (.drop .here (.drop .here (.drop .here (.drop .here (.drop .here (.drop .here (.drop .here .refl))))))))) hw)) ⟨!(decide (y14_18.1 = (0 : Int))), y14_18.2, H, rfl, rfl⟩
end Go.Proofs.Ytfpiolnbnfngkaa
