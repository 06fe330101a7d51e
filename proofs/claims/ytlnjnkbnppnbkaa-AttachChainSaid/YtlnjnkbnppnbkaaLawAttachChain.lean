/- The law AttachChain: its walk. -/
import Derived.Test.YtlnjnkbnppnbkaaBoA
import Derived.Test.YtlnjnkbnppnbkaaSvA
import Derived.Test.YtlnjnkbnppnbkaaSlPtrs
import Derived.Test.YtlnjnkbnppnbkaaAtA
namespace Go.Proofs.Ytlnjnkbnppnbkaa
open Go Go.RowKit
set_option linter.unusedVariables false
set_option linter.unusedSimpArgs false
def wakes14S_j0 (y4_4 : DealS × Bool × CacheS) (e0_37 : Bool) : Option (Bool) :=
 (bif e0_37 then some false else (anextS y4_4.1 (2 : Int) y4_4.2.2 (⟨8, 0, 0, 0, 1, 0, 0, false, ([] : List Int)⟩ : PktS)).bind fun y7_3 => (findS y7_3.2.2 (1 : Int)).bind fun y8_1 => (bif y7_3.2.1 then (bif decide (y7_3.1.step = (0 : Int)) then (bif y8_1.2 then (lonlyS (⟨y8_1.1.fwd, y8_1.1.back⟩ : LinkS)).bind fun y9_12 => (bif y9_12 then (ewordS y8_1.1 (0 : Int)).bind fun y9_16 => some (decide (y9_16 = (7 : Int))) else some false) else some false) else some false) else some false))
def wakes14S : Option (Bool) :=
 (bothS ([] : List Int) ([] : List Int) ([] : List Int)).bind fun y1_0 => (dbeginS (1 : Int) (1 : Int) (0 : Int)).bind fun y4_0 => letP ([7] : List Int) fun l4_2 => (anextS y4_0 (2 : Int) y1_0.1 (⟨7, 0, 0, 0, 1, (-1), 0, false, l4_2⟩ : PktS)).bind fun y4_4 => (bif !y4_4.2.1 then wakes14S_j0 y4_4 true else (bif !(decide (y4_4.1.step = (6 : Int))) then wakes14S_j0 y4_4 true else (bif !(decide (y4_4.1.head = (2 : Int))) then wakes14S_j0 y4_4 true else wakes14S_j0 y4_4 (!(decide (y4_4.1.state = (1 : Int)))))))
noncomputable def C28 (p : List Nat) : Code := codeAt (bodyOf Try.f28) p
set_option maxRecDepth 100000 in
set_option maxHeartbeats 8000000 in
theorem W14F_tr {W0 : World} {Γ : List Asn}   (y : Bool) (H : wakes14S = some y) : Tr Try.prog 28 #[] W0 (Γ) (fun r Δ => r = .bool y ∧ Δ = Γ) := by
 unfold wakes14S at H
 refine Tr.enter (fn := Try.f28) (c := C28 []) (args := []) 69 Try.func28 (by kernel_rfl) (by kernel_rfl) ?_
 refine At.env [] trivial ?_
 refine aq (x := C28 [0]) (y := C28 [1]) ?_
 refine ar (id := 0) 1 ?_
 refine sp 0 (.bool false) ?_
 refine ops_end ?_
 refine At.env [] trivial ?_
 refine at_then_normal ?_
 refine aq (x := C28 [1,0]) (y := C28 [1,1]) ?_
 refine ar (id := 1) 6 ?_
 obtain ⟨y1_0, hy1_0, H⟩ := bindE H
 refine s_call 8 13 #[.slice none 0 0, .slice none 0 0, .slice none 0 0] (by kernel_rfl) (by kernel_rfl) (fun _ => by kernel_rfl) (BothF_tr none 0 ([] : List Int) none 0 ([] : List Int) none 0 ([] : List Int) Reads.nil Reads.nil Reads.nil (Nat.le_refl _) y1_0 hy1_0) ?_
 rintro _ _ ⟨b1_0_0, b1_0_1, rfl, rfl⟩
 refine sp 7 (.tuple #[.pointer (some ⟨b1_0_0, 0, none⟩), .pointer (some ⟨b1_0_1, 0, none⟩)]) ?_
 refine sp 9 (.pointer (some ⟨b1_0_0, 0, none⟩)) ?_
 refine sp 10 (.pointer (some ⟨b1_0_1, 0, none⟩)) ?_
 refine sp 1 (.pointer (some ⟨b1_0_0, 0, none⟩)) ?_
 refine sp 2 (.pointer (some ⟨b1_0_1, 0, none⟩)) ?_
 refine ops_end ?_
 refine ae [(1, .pointer (some ⟨b1_0_0, 0, none⟩))] ?_
 refine at_then_normal ?_
 refine aq (x := C28 [1,1,0]) (y := C28 [1,1,1]) ?_
 refine aq (x := C28 [1,1,0,0]) (y := C28 [1,1,0,1]) ?_
 refine ar (id := 2) 2 ?_
 refine sp 11 (.pointer (some ⟨b1_0_0, 0, none⟩)) ?_
 refine sp 12 (.bool false) ?_
 refine ops_end ?_
 refine ae [(1, .pointer (some ⟨b1_0_0, 0, none⟩)), (12, .bool false)] ?_
 refine at_then_normal ?_
 refine at_false (t := false) (x := C28 [1,1,0,1,0]) (y := C28 [1,1,0,1,1]) (o := .tmp 12) (by kernel_rfl) (by kernel_rfl) (by kernel_rfl) rfl ?_
 refine at_skip (by kernel_rfl) ?_
 refine at_then_normal ?_
 refine aq (x := C28 [1,1,1,0]) (y := C28 [1,1,1,1]) ?_
 refine ar (id := 4) 11 ?_
 obtain ⟨y4_0, hy4_0, H⟩ := bindE H
 refine s_call 14 17 #[.int .i64 (1), .int .i64 (1), .int .i64 (0)] (by kernel_rfl) (by kernel_rfl) (fun _ => by kernel_rfl) (DBeginF_tr (1 : Int) (1 : Int) (0 : Int) y4_0 hy4_0) ?_
 rintro _ _ ⟨a4_0_00, c4_0_00, rfl, rfl⟩
 refine sp 15 (.pointer (some ⟨b1_0_0, 0, none⟩)) ?_
 obtain ⟨l4_2, hl4_2, H⟩ := letE H
 refine s_step 16 (by kernel_rfl) (by kernel_rfl) (st_new_ints (T := 3) (xs := l4_2) 1 hl4_2 (fun _ => by kernel_rfl) (by kernel_rfl)) ?_
 rintro _ _ ⟨b4_2, rfl, rfl⟩
 refine sp 17 (.agg #[.int .i64 (7), .int .i64 (0), .int .i64 (0), .int .i64 (0), .int .i64 (1), .int .i64 (-1), .int .i64 (0), .bool false, .slice (some ⟨b4_2, 0, none⟩) (List.length l4_2) 1]) ?_
 obtain ⟨y4_4, hy4_4, H⟩ := bindE H
 refine s_call 18 25 #[.agg #[.int .i64 y4_0.kind, .int .i64 y4_0.line, .int .i64 y4_0.id, .int .i64 y4_0.step, .int .i64 y4_0.state, .int .i64 y4_0.head, .slice a4_0_00 (List.length y4_0.data) c4_0_00, .int .i64 y4_0.next, .int .i64 y4_0.told], .int .i64 (2), .pointer (some ⟨b1_0_0, 0, none⟩), .agg #[.int .i64 (7), .int .i64 (0), .int .i64 (0), .int .i64 (0), .int .i64 (1), .int .i64 (-1), .int .i64 (0), .bool false, .slice (some ⟨b4_2, 0, none⟩) (List.length l4_2) 1]] (by kernel_rfl) (by kernel_rfl) (fun _ => by kernel_rfl) (Tr.conv (Γ' := (ImmI a4_0_00 y4_0.data) :: (CacheA b1_0_0 y1_0.1) :: (ImmI a4_0_00 y4_0.data) :: (IntsA (some ⟨b4_2, 0, none⟩) 1 l4_2) :: (RChA b1_0_1 y1_0.2) :: Γ) (fun w hw => (Sat.less (.take .here (.take (.there (.there .here)) (.take .here (.take .here (.take .here .refl))))) (ImmR.dup (Sat.less (.take (.there .here) (.take .here (.take .here (.take .here .refl)))) hw)))) (ANextF_tr a4_0_00 c4_0_00 y4_0 (2 : Int) b1_0_0 y1_0.1 (some ⟨b4_2, 0, none⟩) 1 (⟨7, 0, 0, 0, 1, (-1), 0, false, l4_2⟩ : PktS) (RowsA.reads (k := 1) (.there .here)) y4_4 hy4_4)) ?_
 rintro _ _ ⟨a4_4_00, c4_4_00, rfl, rfl⟩
 refine sp 13 (.tuple #[.agg #[.int .i64 y4_4.1.kind, .int .i64 y4_4.1.line, .int .i64 y4_4.1.id, .int .i64 y4_4.1.step, .int .i64 y4_4.1.state, .int .i64 y4_4.1.head, .slice a4_4_00 (List.length y4_4.1.data) c4_4_00, .int .i64 y4_4.1.next, .int .i64 y4_4.1.told], .bool y4_4.2.1]) ?_
 refine sp 19 (.agg #[.int .i64 y4_4.1.kind, .int .i64 y4_4.1.line, .int .i64 y4_4.1.id, .int .i64 y4_4.1.step, .int .i64 y4_4.1.state, .int .i64 y4_4.1.head, .slice a4_4_00 (List.length y4_4.1.data) c4_4_00, .int .i64 y4_4.1.next, .int .i64 y4_4.1.told]) ?_
 refine sp 20 (.bool y4_4.2.1) ?_
 refine s_step 3 (by kernel_rfl) (by kernel_rfl) (st_new (T := 35) (cells := #[.int .i64 (0), .int .i64 (0), .int .i64 (0), .int .i64 (0), .int .i64 (0), .int .i64 (0), .slice none 0 0, .int .i64 (0), .int .i64 (0)]) (fun a => .pointer (some a)) (fun _ => by kernel_rfl)) ?_
 rintro _ _ ⟨b4_8, rfl, rfl⟩
 refine s_do (by kernel_rfl) (by kernel_rfl) (st_store (off := 0) (vs := [.int .i64 y4_4.1.kind, .int .i64 y4_4.1.line, .int .i64 y4_4.1.id, .int .i64 y4_4.1.step, .int .i64 y4_4.1.state, .int .i64 y4_4.1.head, .slice a4_4_00 (List.length y4_4.1.data) c4_4_00, .int .i64 y4_4.1.next, .int .i64 y4_4.1.told]) (c' := #[.int .i64 y4_4.1.kind, .int .i64 y4_4.1.line, .int .i64 y4_4.1.id, .int .i64 y4_4.1.step, .int .i64 y4_4.1.state, .int .i64 y4_4.1.head, .slice a4_4_00 (List.length y4_4.1.data) c4_4_00, .int .i64 y4_4.1.next, .int .i64 y4_4.1.told]) (fun _ => by kernel_rfl) .here (by kernel_rfl) (by kernel_rfl) (by kernel_rfl)) ?_
 rintro _ _ ⟨rfl, rfl⟩
 refine sp 4 (.bool y4_4.2.1) ?_
 refine ops_end ?_
 refine ae [(1, .pointer (some ⟨b1_0_0, 0, none⟩)), (3, .pointer (some ⟨b4_8, 0, none⟩)), (4, .bool y4_4.2.1)] ?_
 refine at_then_normal ?_
 refine aq (x := C28 [1,1,1,1,0]) (y := C28 [1,1,1,1,1]) ?_
 refine at_seq_join (x := C28 [1,1,1,1,0,0]) (y := C28 [1,1,1,1,0,1]) (fun ff ΔΔ => ∃ (e0_37 : Bool), wakes14S_j0 y4_4 e0_37 = some y ∧ ff = [(1, .pointer (some ⟨b1_0_0, 0, none⟩)), (3, .pointer (some ⟨b4_8, 0, none⟩)), (37, .bool e0_37)] ∧ (Asn.own b4_8 (.cells #[.int .i64 y4_4.1.kind, .int .i64 y4_4.1.line, .int .i64 y4_4.1.id, .int .i64 y4_4.1.step, .int .i64 y4_4.1.state, .int .i64 y4_4.1.head, .slice a4_4_00 (List.length y4_4.1.data) c4_4_00, .int .i64 y4_4.1.next, .int .i64 y4_4.1.told] 35 (0, 0))) :: (ImmI a4_4_00 y4_4.1.data) :: (CacheA b1_0_0 y4_4.2.2) :: (RChA b1_0_1 y1_0.2) :: Γ = ΔΔ) (by kernel_rfl) ?_ ?_
 ·rintro _ _ ⟨e0_37, H, rfl, rfl⟩
  rw [wakes14S_j0] at H
  rcases Bool.eq_false_or_eq_true (e0_37) with h1 | h1
  ·replace H := bifT H h1
   refine at_true (t := e0_37) (x := C28 [1,1,1,1,0,1,0]) (y := C28 [1,1,1,1,0,1,1]) (o := .tmp 37) (by kernel_rfl) (by kernel_rfl) (by kernel_rfl) h1 ?_
   refine aq (x := C28 [1,1,1,1,0,1,0,0]) (y := C28 [1,1,1,1,0,1,0,1]) ?_
   refine ar (id := 6) 1 ?_
   refine sp 0 (.bool false) ?_
   refine ops_end ?_
   refine ae [(0, .bool false)] ?_
   refine at_then_normal ?_
   refine at_ret (by kernel_rfl) ?_
   refine at_then_ret ?_
   obtain rfl := someE H
   refine at_backR [.bool false] (Γ) (rs := [.tmp 0]) (by kernel_rfl) (.cons (.tmp (by kernel_rfl)) .nil) (fun w hw => (Sat.less (.drop .here (.drop .here (.drop .here (.drop .here .refl)))) hw)) ?_
   exact ⟨rfl, rfl⟩
  ·replace H := bifF H h1
   refine at_false (t := e0_37) (x := C28 [1,1,1,1,0,1,0]) (y := C28 [1,1,1,1,0,1,1]) (o := .tmp 37) (by kernel_rfl) (by kernel_rfl) (by kernel_rfl) h1 ?_
   refine at_skip (by kernel_rfl) ?_
   refine at_then_normal ?_
   refine aq (x := C28 [1,1,1,1,1,0]) (y := C28 [1,1,1,1,1,1]) ?_
   refine ar (id := 7) 9 ?_
   refine sl 39 (.agg #[.int .i64 y4_4.1.kind, .int .i64 y4_4.1.line, .int .i64 y4_4.1.id, .int .i64 y4_4.1.step, .int .i64 y4_4.1.state, .int .i64 y4_4.1.head, .slice a4_4_00 (List.length y4_4.1.data) c4_4_00, .int .i64 y4_4.1.next, .int .i64 y4_4.1.told]) (loadN (off := 0) (vs := [.int .i64 y4_4.1.kind, .int .i64 y4_4.1.line, .int .i64 y4_4.1.id, .int .i64 y4_4.1.step, .int .i64 y4_4.1.state, .int .i64 y4_4.1.head, .slice a4_4_00 (List.length y4_4.1.data) c4_4_00, .int .i64 y4_4.1.next, .int .i64 y4_4.1.told]) 9 (fun _ => by kernel_rfl) (holds_own .here) rfl (by exact ⟨rfl, rfl, rfl, rfl, rfl, rfl, rfl, rfl, rfl, trivial⟩)) ?_
   refine sp 40 (.pointer (some ⟨b1_0_0, 0, none⟩)) ?_
   refine sp 41 (.agg #[.int .i64 (8), .int .i64 (0), .int .i64 (0), .int .i64 (0), .int .i64 (1), .int .i64 (0), .int .i64 (0), .bool false, .slice none 0 0]) ?_
   obtain ⟨y7_3, hy7_3, H⟩ := bindE H
   refine s_call 42 25 #[.agg #[.int .i64 y4_4.1.kind, .int .i64 y4_4.1.line, .int .i64 y4_4.1.id, .int .i64 y4_4.1.step, .int .i64 y4_4.1.state, .int .i64 y4_4.1.head, .slice a4_4_00 (List.length y4_4.1.data) c4_4_00, .int .i64 y4_4.1.next, .int .i64 y4_4.1.told], .int .i64 (2), .pointer (some ⟨b1_0_0, 0, none⟩), .agg #[.int .i64 (8), .int .i64 (0), .int .i64 (0), .int .i64 (0), .int .i64 (1), .int .i64 (0), .int .i64 (0), .bool false, .slice none 0 0]] (by kernel_rfl) (by kernel_rfl) (fun _ => by kernel_rfl) (Tr.conv (Γ' := (ImmI a4_4_00 y4_4.1.data) :: (CacheA b1_0_0 y4_4.2.2) :: (ImmI a4_4_00 y4_4.1.data) :: (Asn.own b4_8 (.cells #[.int .i64 y4_4.1.kind, .int .i64 y4_4.1.line, .int .i64 y4_4.1.id, .int .i64 y4_4.1.step, .int .i64 y4_4.1.state, .int .i64 y4_4.1.head, .slice a4_4_00 (List.length y4_4.1.data) c4_4_00, .int .i64 y4_4.1.next, .int .i64 y4_4.1.told] 35 (0, 0))) :: (RChA b1_0_1 y1_0.2) :: Γ) (fun w hw => (Sat.less (.take .here (.take (.there (.there .here)) (.take .here (.take .here (.take .here .refl))))) (ImmR.dup (Sat.less (.take (.there .here) (.take .here (.take .here (.take .here .refl)))) hw)))) (ANextF_tr a4_4_00 c4_4_00 y4_4.1 (2 : Int) b1_0_0 y4_4.2.2 none 0 (⟨8, 0, 0, 0, 1, 0, 0, false, ([] : List Int)⟩ : PktS) Reads.nil y7_3 hy7_3)) ?_
   rintro _ _ ⟨a7_3_00, c7_3_00, rfl, rfl⟩
   refine sp 38 (.tuple #[.agg #[.int .i64 y7_3.1.kind, .int .i64 y7_3.1.line, .int .i64 y7_3.1.id, .int .i64 y7_3.1.step, .int .i64 y7_3.1.state, .int .i64 y7_3.1.head, .slice a7_3_00 (List.length y7_3.1.data) c7_3_00, .int .i64 y7_3.1.next, .int .i64 y7_3.1.told], .bool y7_3.2.1]) ?_
   refine sp 43 (.agg #[.int .i64 y7_3.1.kind, .int .i64 y7_3.1.line, .int .i64 y7_3.1.id, .int .i64 y7_3.1.step, .int .i64 y7_3.1.state, .int .i64 y7_3.1.head, .slice a7_3_00 (List.length y7_3.1.data) c7_3_00, .int .i64 y7_3.1.next, .int .i64 y7_3.1.told]) ?_
   refine sp 44 (.bool y7_3.2.1) ?_
   refine s_do (by kernel_rfl) (by kernel_rfl) (st_store (off := 0) (vs := [.int .i64 y7_3.1.kind, .int .i64 y7_3.1.line, .int .i64 y7_3.1.id, .int .i64 y7_3.1.step, .int .i64 y7_3.1.state, .int .i64 y7_3.1.head, .slice a7_3_00 (List.length y7_3.1.data) c7_3_00, .int .i64 y7_3.1.next, .int .i64 y7_3.1.told]) (c' := #[.int .i64 y7_3.1.kind, .int .i64 y7_3.1.line, .int .i64 y7_3.1.id, .int .i64 y7_3.1.step, .int .i64 y7_3.1.state, .int .i64 y7_3.1.head, .slice a7_3_00 (List.length y7_3.1.data) c7_3_00, .int .i64 y7_3.1.next, .int .i64 y7_3.1.told]) (fun _ => by kernel_rfl) (.there (.there (.there .here))) (by kernel_rfl) (by kernel_rfl) (by kernel_rfl)) ?_
   rintro _ _ ⟨rfl, rfl⟩
   refine sp 4 (.bool y7_3.2.1) ?_
   refine ops_end ?_
   refine ae [(1, .pointer (some ⟨b1_0_0, 0, none⟩)), (3, .pointer (some ⟨b4_8, 0, none⟩)), (4, .bool y7_3.2.1)] ?_
   refine at_then_normal ?_
   refine aq (x := C28 [1,1,1,1,1,1,0]) (y := C28 [1,1,1,1,1,1,1]) ?_
   refine ar (id := 8) 8 ?_
   refine sp 46 (.pointer (some ⟨b1_0_0, 0, none⟩)) ?_
   obtain ⟨y8_1, hy8_1, H⟩ := bindE H
   refine s_call 47 18 #[.pointer (some ⟨b1_0_0, 0, none⟩), .int .i64 (1)] (by kernel_rfl) (by kernel_rfl) (fun _ => by kernel_rfl) (Tr.conv (Γ' := (CacheA b1_0_0 y7_3.2.2) :: (Asn.own b4_8 (.cells #[.int .i64 y7_3.1.kind, .int .i64 y7_3.1.line, .int .i64 y7_3.1.id, .int .i64 y7_3.1.step, .int .i64 y7_3.1.state, .int .i64 y7_3.1.head, .slice a7_3_00 (List.length y7_3.1.data) c7_3_00, .int .i64 y7_3.1.next, .int .i64 y7_3.1.told] 35 (0, 0))) :: (ImmI a7_3_00 y7_3.1.data) :: (ImmI a4_4_00 y4_4.1.data) :: (RChA b1_0_1 y1_0.2) :: Γ) (fun w hw => (Sat.less (.take (.there (.there .here)) (.take .here (.take .here (.take .here (.take .here .refl))))) hw)) (FindF_tr b1_0_0 y7_3.2.2 (1 : Int) y8_1 hy8_1)) ?_
   rintro _ _ ⟨a8_1_00, c8_1_00, rfl, rfl⟩
   refine sp 45 (.tuple #[.agg #[.int .i64 y8_1.1.fwd, .int .i64 y8_1.1.back, .int .i64 y8_1.1.line, .int .i64 y8_1.1.used, .bool y8_1.1.dirty, .slice a8_1_00 (List.length y8_1.1.data) c8_1_00], .bool y8_1.2]) ?_
   refine sp 48 (.agg #[.int .i64 y8_1.1.fwd, .int .i64 y8_1.1.back, .int .i64 y8_1.1.line, .int .i64 y8_1.1.used, .bool y8_1.1.dirty, .slice a8_1_00 (List.length y8_1.1.data) c8_1_00]) ?_
   refine sp 49 (.bool y8_1.2) ?_
   refine s_step 5 (by kernel_rfl) (by kernel_rfl) (st_new (T := 32) (cells := #[.int .i64 (0), .int .i64 (0), .int .i64 (0), .int .i64 (0), .bool false, .slice none 0 0]) (fun a => .pointer (some a)) (fun _ => by kernel_rfl)) ?_
   rintro _ _ ⟨b8_5, rfl, rfl⟩
   refine s_do (by kernel_rfl) (by kernel_rfl) (st_store (off := 0) (vs := [.int .i64 y8_1.1.fwd, .int .i64 y8_1.1.back, .int .i64 y8_1.1.line, .int .i64 y8_1.1.used, .bool y8_1.1.dirty, .slice a8_1_00 (List.length y8_1.1.data) c8_1_00]) (c' := #[.int .i64 y8_1.1.fwd, .int .i64 y8_1.1.back, .int .i64 y8_1.1.line, .int .i64 y8_1.1.used, .bool y8_1.1.dirty, .slice a8_1_00 (List.length y8_1.1.data) c8_1_00]) (fun _ => by kernel_rfl) .here (by kernel_rfl) (by kernel_rfl) (by kernel_rfl)) ?_
   rintro _ _ ⟨rfl, rfl⟩
   refine sp 6 (.bool y8_1.2) ?_
   refine ops_end ?_
   refine ae [(3, .pointer (some ⟨b4_8, 0, none⟩)), (4, .bool y7_3.2.1), (5, .pointer (some ⟨b8_5, 0, none⟩)), (6, .bool y8_1.2)] ?_
   refine at_then_normal ?_
   refine aq (x := C28 [1,1,1,1,1,1,1,0]) (y := C28 [1,1,1,1,1,1,1,1]) ?_
   refine ar (id := 9) 20 ?_
   refine sp 50 (.bool y7_3.2.1) ?_
   rcases Bool.eq_false_or_eq_true (y7_3.2.1) with h2 | h2
   ·replace H := bifT H h2
    refine sr 51 (.bool true) (run_eq (v := .bool (y7_3.2.1)) (fun _ => by kernel_rfl) (congrArg Value.bool h2)) ?_
    refine sp 52 (.pointer (some ⟨b4_8, 3, none⟩)) ?_
    refine sl 53 (.int .i64 y7_3.1.step) (load1 (off := 3) (fun _ => by kernel_rfl) (holds_own (.there (.there (.there .here)))) (by kernel_rfl)) ?_
    refine sp 54 (.bool (decide (y7_3.1.step = (0 : Int)))) ?_
    refine sp 55 (.bool (decide (y7_3.1.step = (0 : Int)))) ?_
    rcases Bool.eq_false_or_eq_true (decide (y7_3.1.step = (0 : Int))) with h3 | h3
    ·replace H := bifT H h3
     refine sr 56 (.bool true) (run_eq (v := .bool (decide (y7_3.1.step = (0 : Int)))) (fun _ => by kernel_rfl) (congrArg Value.bool h3)) ?_
     refine sp 57 (.bool y8_1.2) ?_
     refine sp 58 (.bool y8_1.2) ?_
     rcases Bool.eq_false_or_eq_true (y8_1.2) with h4 | h4
     ·replace H := bifT H h4
      refine sr 59 (.bool true) (run_eq (v := .bool (y8_1.2)) (fun _ => by kernel_rfl) (congrArg Value.bool h4)) ?_
      refine sp 60 (.pointer (some ⟨b8_5, 0, none⟩)) ?_
      refine sl 61 (.agg #[.int .i64 y8_1.1.fwd, .int .i64 y8_1.1.back]) (loadN (off := 0) (vs := [.int .i64 y8_1.1.fwd, .int .i64 y8_1.1.back]) 2 (fun _ => by kernel_rfl) (holds_own .here) rfl (by exact ⟨rfl, rfl, trivial⟩)) ?_
      obtain ⟨y9_12, hy9_12, H⟩ := bindE H
      refine s_quiet 62 (.bool y9_12) 19 #[.agg #[.int .i64 y8_1.1.fwd, .int .i64 y8_1.1.back]] (by kernel_rfl) (by kernel_rfl) (fun _ => by kernel_rfl) (LOnlyF_tr (⟨y8_1.1.fwd, y8_1.1.back⟩ : LinkS) y9_12 hy9_12) ?_
      refine sp 63 (.bool y9_12) ?_
      rcases Bool.eq_false_or_eq_true (y9_12) with h5 | h5
      ·replace H := bifT H h5
       refine sr 64 (.bool true) (run_eq (v := .bool (y9_12)) (fun _ => by kernel_rfl) (congrArg Value.bool h5)) ?_
       refine sl 65 (.agg #[.int .i64 y8_1.1.fwd, .int .i64 y8_1.1.back, .int .i64 y8_1.1.line, .int .i64 y8_1.1.used, .bool y8_1.1.dirty, .slice a8_1_00 (List.length y8_1.1.data) c8_1_00]) (loadN (off := 0) (vs := [.int .i64 y8_1.1.fwd, .int .i64 y8_1.1.back, .int .i64 y8_1.1.line, .int .i64 y8_1.1.used, .bool y8_1.1.dirty, .slice a8_1_00 (List.length y8_1.1.data) c8_1_00]) 6 (fun _ => by kernel_rfl) (holds_own .here) rfl (by exact ⟨rfl, rfl, rfl, rfl, rfl, rfl, trivial⟩)) ?_
       obtain ⟨y9_16, hy9_16, H⟩ := bindE H
       refine s_call 66 20 #[.agg #[.int .i64 y8_1.1.fwd, .int .i64 y8_1.1.back, .int .i64 y8_1.1.line, .int .i64 y8_1.1.used, .bool y8_1.1.dirty, .slice a8_1_00 (List.length y8_1.1.data) c8_1_00], .int .i64 (0)] (by kernel_rfl) (by kernel_rfl) (fun _ => by kernel_rfl) (EWordF_tr a8_1_00 c8_1_00 y8_1.1 (0 : Int) (RowsA.reads (k := 1) (.there .here)) y9_16 hy9_16) ?_
       rintro _ _ ⟨rfl, rfl⟩
       refine sp 67 (.bool (decide (y9_16 = (7 : Int)))) ?_
       refine sp 68 (.bool (decide (y9_16 = (7 : Int)))) ?_
       refine sp 0 (.bool (decide (y9_16 = (7 : Int)))) ?_
       refine ops_end ?_
       refine ae [(0, .bool (decide (y9_16 = (7 : Int))))] ?_
       refine at_then_normal ?_
       refine at_ret (by kernel_rfl) ?_
       obtain rfl := someE H
       refine at_backR [.bool (decide (y9_16 = (7 : Int)))] (Γ) (rs := [.tmp 0]) (by kernel_rfl) (.cons (.tmp (by kernel_rfl)) .nil) (fun w hw => (Sat.less (.drop .here (.drop .here (.drop .here (.drop .here (.drop .here (.drop .here (.drop .here .refl))))))) hw)) ?_
       exact ⟨rfl, rfl⟩
      ·replace H := bifF H h5
       refine sr 64 (.bool false) (run_eq (v := .bool (y9_12)) (fun _ => by kernel_rfl) (congrArg Value.bool h5)) ?_
       refine sa 65 ?_
       refine sa 66 ?_
       refine sa 67 ?_
       refine sp 68 (.bool false) ?_
       refine sp 0 (.bool false) ?_
       refine ops_end ?_
       refine ae [(0, .bool false)] ?_
       refine at_then_normal ?_
       refine at_ret (by kernel_rfl) ?_
       obtain rfl := someE H
       refine at_backR [.bool false] (Γ) (rs := [.tmp 0]) (by kernel_rfl) (.cons (.tmp (by kernel_rfl)) .nil) (fun w hw => (Sat.less (.drop .here (.drop .here (.drop .here (.drop .here (.drop .here (.drop .here (.drop .here .refl))))))) hw)) ?_
       exact ⟨rfl, rfl⟩
     ·replace H := bifF H h4
      refine sr 59 (.bool false) (run_eq (v := .bool (y8_1.2)) (fun _ => by kernel_rfl) (congrArg Value.bool h4)) ?_
      refine sa 60 ?_
      refine sa 61 ?_
      refine sa 62 ?_
      refine sp 63 (.bool false) ?_
      refine sp 64 (.bool false) ?_
      refine sa 65 ?_
      refine sa 66 ?_
      refine sa 67 ?_
      refine sp 68 (.bool false) ?_
      refine sp 0 (.bool false) ?_
      refine ops_end ?_
      refine ae [(0, .bool false)] ?_
      refine at_then_normal ?_
      refine at_ret (by kernel_rfl) ?_
      obtain rfl := someE H
      refine at_backR [.bool false] (Γ) (rs := [.tmp 0]) (by kernel_rfl) (.cons (.tmp (by kernel_rfl)) .nil) (fun w hw => (Sat.less (.drop .here (.drop .here (.drop .here (.drop .here (.drop .here (.drop .here (.drop .here .refl))))))) hw)) ?_
      exact ⟨rfl, rfl⟩
    ·replace H := bifF H h3
     refine sr 56 (.bool false) (run_eq (v := .bool (decide (y7_3.1.step = (0 : Int)))) (fun _ => by kernel_rfl) (congrArg Value.bool h3)) ?_
     refine sa 57 ?_
     refine sp 58 (.bool false) ?_
     refine sp 59 (.bool false) ?_
     refine sa 60 ?_
     refine sa 61 ?_
     refine sa 62 ?_
     refine sp 63 (.bool false) ?_
     refine sp 64 (.bool false) ?_
     refine sa 65 ?_
     refine sa 66 ?_
     refine sa 67 ?_
     refine sp 68 (.bool false) ?_
     refine sp 0 (.bool false) ?_
     refine ops_end ?_
     refine ae [(0, .bool false)] ?_
     refine at_then_normal ?_
     refine at_ret (by kernel_rfl) ?_
     obtain rfl := someE H
     refine at_backR [.bool false] (Γ) (rs := [.tmp 0]) (by kernel_rfl) (.cons (.tmp (by kernel_rfl)) .nil) (fun w hw => (Sat.less (.drop .here (.drop .here (.drop .here (.drop .here (.drop .here (.drop .here (.drop .here .refl))))))) hw)) ?_
     exact ⟨rfl, rfl⟩
   ·replace H := bifF H h2
    refine sr 51 (.bool false) (run_eq (v := .bool (y7_3.2.1)) (fun _ => by kernel_rfl) (congrArg Value.bool h2)) ?_
    refine sa 52 ?_
    refine sa 53 ?_
    refine sa 54 ?_
    refine sp 55 (.bool false) ?_
    refine sp 56 (.bool false) ?_
    refine sa 57 ?_
    refine sp 58 (.bool false) ?_
    refine sp 59 (.bool false) ?_
    refine sa 60 ?_
    refine sa 61 ?_
    refine sa 62 ?_
    refine sp 63 (.bool false) ?_
    refine sp 64 (.bool false) ?_
    refine sa 65 ?_
    refine sa 66 ?_
    refine sa 67 ?_
    refine sp 68 (.bool false) ?_
    refine sp 0 (.bool false) ?_
    refine ops_end ?_
    refine ae [(0, .bool false)] ?_
    refine at_then_normal ?_
    refine at_ret (by kernel_rfl) ?_
    obtain rfl := someE H
    refine at_backR [.bool false] (Γ) (rs := [.tmp 0]) (by kernel_rfl) (.cons (.tmp (by kernel_rfl)) .nil) (fun w hw => (Sat.less (.drop .here (.drop .here (.drop .here (.drop .here (.drop .here (.drop .here (.drop .here .refl))))))) hw)) ?_
    exact ⟨rfl, rfl⟩
 ·refine ar (id := 5) 17 ?_
  refine sp 21 (.bool y4_4.2.1) ?_
  refine sp 22 (.bool !y4_4.2.1) ?_
  rcases Bool.eq_false_or_eq_true (!y4_4.2.1) with h6 | h6
  ·replace H := bifT H h6
   refine sr 23 (.bool true) (run_eq (v := .bool (!y4_4.2.1)) (fun _ => by kernel_rfl) (congrArg Value.bool h6)) ?_
   refine sa 24 ?_
   refine sa 25 ?_
   refine sa 26 ?_
   refine sp 27 (.bool true) ?_
   refine sp 28 (.bool true) ?_
   refine sa 29 ?_
   refine sa 30 ?_
   refine sa 31 ?_
   refine sp 32 (.bool true) ?_
   refine sp 33 (.bool true) ?_
   refine sa 34 ?_
   refine sa 35 ?_
   refine sa 36 ?_
   refine sp 37 (.bool true) ?_
   refine ops_end ?_
   refine ae [(1, .pointer (some ⟨b1_0_0, 0, none⟩)), (3, .pointer (some ⟨b4_8, 0, none⟩)), (37, .bool true)] ?_
   refine at_round_normal ?_
   exact at_join_mk [(1, .pointer (some ⟨b1_0_0, 0, none⟩)), (3, .pointer (some ⟨b4_8, 0, none⟩)), (37, .bool true)] ((Asn.own b4_8 (.cells #[.int .i64 y4_4.1.kind, .int .i64 y4_4.1.line, .int .i64 y4_4.1.id, .int .i64 y4_4.1.step, .int .i64 y4_4.1.state, .int .i64 y4_4.1.head, .slice a4_4_00 (List.length y4_4.1.data) c4_4_00, .int .i64 y4_4.1.next, .int .i64 y4_4.1.told] 35 (0, 0))) :: (ImmI a4_4_00 y4_4.1.data) :: (CacheA b1_0_0 y4_4.2.2) :: (RChA b1_0_1 y1_0.2) :: Γ) ⟨by kernel_rfl, by kernel_rfl, by kernel_rfl, trivial⟩ (fun w hw => (Sat.less (.take .here (.take .here (.take .here (.take (.there (.there .here)) (.drop .here (.drop .here .refl)))))) hw)) ⟨true, H, rfl, rfl⟩
  ·replace H := bifF H h6
   refine sr 23 (.bool false) (run_eq (v := .bool (!y4_4.2.1)) (fun _ => by kernel_rfl) (congrArg Value.bool h6)) ?_
   refine sp 24 (.pointer (some ⟨b4_8, 3, none⟩)) ?_
   refine sl 25 (.int .i64 y4_4.1.step) (load1 (off := 3) (fun _ => by kernel_rfl) (holds_own .here) (by kernel_rfl)) ?_
   refine sp 26 (.bool (!(decide (y4_4.1.step = (6 : Int))))) ?_
   refine sp 27 (.bool (!(decide (y4_4.1.step = (6 : Int))))) ?_
   rcases Bool.eq_false_or_eq_true (!(decide (y4_4.1.step = (6 : Int)))) with h7 | h7
   ·replace H := bifT H h7
    refine sr 28 (.bool true) (run_eq (v := .bool (!(decide (y4_4.1.step = (6 : Int))))) (fun _ => by kernel_rfl) (congrArg Value.bool h7)) ?_
    refine sa 29 ?_
    refine sa 30 ?_
    refine sa 31 ?_
    refine sp 32 (.bool true) ?_
    refine sp 33 (.bool true) ?_
    refine sa 34 ?_
    refine sa 35 ?_
    refine sa 36 ?_
    refine sp 37 (.bool true) ?_
    refine ops_end ?_
    refine ae [(1, .pointer (some ⟨b1_0_0, 0, none⟩)), (3, .pointer (some ⟨b4_8, 0, none⟩)), (37, .bool true)] ?_
    refine at_round_normal ?_
    exact at_join_mk [(1, .pointer (some ⟨b1_0_0, 0, none⟩)), (3, .pointer (some ⟨b4_8, 0, none⟩)), (37, .bool true)] ((Asn.own b4_8 (.cells #[.int .i64 y4_4.1.kind, .int .i64 y4_4.1.line, .int .i64 y4_4.1.id, .int .i64 y4_4.1.step, .int .i64 y4_4.1.state, .int .i64 y4_4.1.head, .slice a4_4_00 (List.length y4_4.1.data) c4_4_00, .int .i64 y4_4.1.next, .int .i64 y4_4.1.told] 35 (0, 0))) :: (ImmI a4_4_00 y4_4.1.data) :: (CacheA b1_0_0 y4_4.2.2) :: (RChA b1_0_1 y1_0.2) :: Γ) ⟨by kernel_rfl, by kernel_rfl, by kernel_rfl, trivial⟩ (fun w hw => (Sat.less (.take .here (.take .here (.take .here (.take (.there (.there .here)) (.drop .here (.drop .here .refl)))))) hw)) ⟨true, H, rfl, rfl⟩
   ·replace H := bifF H h7
    refine sr 28 (.bool false) (run_eq (v := .bool (!(decide (y4_4.1.step = (6 : Int))))) (fun _ => by kernel_rfl) (congrArg Value.bool h7)) ?_
    refine sp 29 (.pointer (some ⟨b4_8, 5, none⟩)) ?_
    refine sl 30 (.int .i64 y4_4.1.head) (load1 (off := 5) (fun _ => by kernel_rfl) (holds_own .here) (by kernel_rfl)) ?_
    refine sp 31 (.bool (!(decide (y4_4.1.head = (2 : Int))))) ?_
    refine sp 32 (.bool (!(decide (y4_4.1.head = (2 : Int))))) ?_
    rcases Bool.eq_false_or_eq_true (!(decide (y4_4.1.head = (2 : Int)))) with h8 | h8
    ·replace H := bifT H h8
     refine sr 33 (.bool true) (run_eq (v := .bool (!(decide (y4_4.1.head = (2 : Int))))) (fun _ => by kernel_rfl) (congrArg Value.bool h8)) ?_
     refine sa 34 ?_
     refine sa 35 ?_
     refine sa 36 ?_
     refine sp 37 (.bool true) ?_
     refine ops_end ?_
     refine ae [(1, .pointer (some ⟨b1_0_0, 0, none⟩)), (3, .pointer (some ⟨b4_8, 0, none⟩)), (37, .bool true)] ?_
     refine at_round_normal ?_
     exact at_join_mk [(1, .pointer (some ⟨b1_0_0, 0, none⟩)), (3, .pointer (some ⟨b4_8, 0, none⟩)), (37, .bool true)] ((Asn.own b4_8 (.cells #[.int .i64 y4_4.1.kind, .int .i64 y4_4.1.line, .int .i64 y4_4.1.id, .int .i64 y4_4.1.step, .int .i64 y4_4.1.state, .int .i64 y4_4.1.head, .slice a4_4_00 (List.length y4_4.1.data) c4_4_00, .int .i64 y4_4.1.next, .int .i64 y4_4.1.told] 35 (0, 0))) :: (ImmI a4_4_00 y4_4.1.data) :: (CacheA b1_0_0 y4_4.2.2) :: (RChA b1_0_1 y1_0.2) :: Γ) ⟨by kernel_rfl, by kernel_rfl, by kernel_rfl, trivial⟩ (fun w hw => (Sat.less (.take .here (.take .here (.take .here (.take (.there (.there .here)) (.drop .here (.drop .here .refl)))))) hw)) ⟨true, H, rfl, rfl⟩
    ·replace H := bifF H h8
     refine sr 33 (.bool false) (run_eq (v := .bool (!(decide (y4_4.1.head = (2 : Int))))) (fun _ => by kernel_rfl) (congrArg Value.bool h8)) ?_
     refine sp 34 (.pointer (some ⟨b4_8, 4, none⟩)) ?_
     refine sl 35 (.int .i64 y4_4.1.state) (load1 (off := 4) (fun _ => by kernel_rfl) (holds_own .here) (by kernel_rfl)) ?_
     refine sp 36 (.bool (!(decide (y4_4.1.state = (1 : Int))))) ?_
     refine sp 37 (.bool (!(decide (y4_4.1.state = (1 : Int))))) ?_
     refine ops_end ?_
     refine ae [(1, .pointer (some ⟨b1_0_0, 0, none⟩)), (3, .pointer (some ⟨b4_8, 0, none⟩)), (37, .bool (!(decide (y4_4.1.state = (1 : Int)))))] ?_
     refine at_round_normal ?_
     exact at_join_mk [(1, .pointer (some ⟨b1_0_0, 0, none⟩)), (3, .pointer (some ⟨b4_8, 0, none⟩)), (37, .bool (!(decide (y4_4.1.state = (1 : Int)))))] ((Asn.own b4_8 (.cells #[.int .i64 y4_4.1.kind, .int .i64 y4_4.1.line, .int .i64 y4_4.1.id, .int .i64 y4_4.1.step, .int .i64 y4_4.1.state, .int .i64 y4_4.1.head, .slice a4_4_00 (List.length y4_4.1.data) c4_4_00, .int .i64 y4_4.1.next, .int .i64 y4_4.1.told] 35 (0, 0))) :: (ImmI a4_4_00 y4_4.1.data) :: (CacheA b1_0_0 y4_4.2.2) :: (RChA b1_0_1 y1_0.2) :: Γ) ⟨by kernel_rfl, by kernel_rfl, by kernel_rfl, trivial⟩ (fun w hw => (Sat.less (.take .here (.take .here (.take .here (.take (.there (.there .here)) (.drop .here (.drop .here .refl)))))) hw)) ⟨!(decide (y4_4.1.state = (1 : Int))), H, rfl, rfl⟩
def attachChainS_k3 (e3_18 : Int) : Option (Bool) :=
 (wakes14S).bind fun y41_0 => some y41_0
def attachChainS_l3 (y1_1 : Int) (e2_7x : List CacheS) (v : Int) (k3 : Int → Option (Bool)) : Nat → Int → Option (Bool)
 | 0 => fun _ => none
 | m + 1 => fun v3_18 => (bif decide (v3_18 ≤ (wr ((1 : Int) + y1_1))) then chk (0 ≤ v3_18 ∧ v3_18 < ((List.length e2_7x : Nat) : Int)) ((findS (nthC e2_7x v3_18) (2 : Int)).bind fun y38_4 => (bif !y38_4.2 then some false else (bif y38_4.1.dirty then some false else (ewordS y38_4.1 (0 : Int)).bind fun y39_8 => (bif !(decide (y39_8 = v)) then some false else chk (inR (v3_18 - (1 : Int))) ((bif !(decide (y38_4.1.fwd = (v3_18 - (1 : Int)))) then some false else (bif decide (v3_18 < (wr ((1 : Int) + y1_1))) then chk (inR (v3_18 + (1 : Int))) ((bif !(decide (y38_4.1.back = (v3_18 + (1 : Int)))) then some false else (bif decide (v3_18 = (wr ((1 : Int) + y1_1))) then (lheadS (⟨y38_4.1.fwd, y38_4.1.back⟩ : LinkS)).bind fun y39_40 => (bif !y39_40 then some false else chk (inR (v3_18 + (1 : Int))) ((attachChainS_l3 y1_1 e2_7x v k3 m) (v3_18 + (1 : Int)))) else chk (inR (v3_18 + (1 : Int))) ((attachChainS_l3 y1_1 e2_7x v k3 m) (v3_18 + (1 : Int)))))) else (bif decide (v3_18 = (wr ((1 : Int) + y1_1))) then (lheadS (⟨y38_4.1.fwd, y38_4.1.back⟩ : LinkS)).bind fun y39_40 => (bif !y39_40 then some false else chk (inR (v3_18 + (1 : Int))) ((attachChainS_l3 y1_1 e2_7x v k3 m) (v3_18 + (1 : Int)))) else chk (inR (v3_18 + (1 : Int))) ((attachChainS_l3 y1_1 e2_7x v k3 m) (v3_18 + (1 : Int))))))))))) else k3 v3_18)
def attachChainS_j4 (v2_12 : Int) (r2 : (List CacheS) → Int → Int → Int → Option (Bool)) (e4_7x : List CacheS) (e4_10 : Int) (e4_11 : Int) : Option (Bool) :=
 chk (inR (v2_12 + (1 : Int))) (r2 e4_7x e4_10 e4_11 (v2_12 + (1 : Int)))
def attachChainS_j9 (v2_12 : Int) (r2 : (List CacheS) → Int → Int → Int → Option (Bool)) (cs24_7 : List CacheS) (e9_11 : Int) : Option (Bool) :=
 attachChainS_j4 v2_12 r2 cs24_7 1 e9_11
def attachChainS_j8 (y25_2 : PktS) (v2_12 : Int) (r2 : (List CacheS) → Int → Int → Int → Option (Bool)) (cs24_7 : List CacheS) (v2_11 : Int) (e8_138 : Bool) : Option (Bool) :=
 (bif e8_138 then some false else (bif y25_2.flag then (bif !(decide ((((List.length y25_2.data) : Nat) : Int) = (1 : Int))) then some false else chk (0 ≤ (0 : Int) ∧ (0 : Int) < ((y25_2.data.length : Nat) : Int)) (attachChainS_j9 v2_12 r2 cs24_7 (nth y25_2.data (0 : Int)))) else attachChainS_j9 v2_12 r2 cs24_7 v2_11))
def attachChainS_j7 (y21_6 : PktS × Int × CacheS) (v2_12 : Int) (y17_14 : DealS × Bool × CacheS) (r2 : (List CacheS) → Int → Int → Int → Option (Bool)) (v2_11 : Int) (v2_10 : Int) (e7_7x : List CacheS) : Option (Bool) :=
 (bif !(decide (y21_6.2.1 = (0 : Int))) then some false else chk (0 ≤ v2_12 ∧ v2_12 < ((List.length e7_7x : Nat) : Int)) ((anextS y17_14.1 v2_12 (nthC e7_7x v2_12) y21_6.1).bind fun y24_7 => letP (setC e7_7x v2_12 y24_7.2.2) fun cs24_7 => (daskS y24_7.1 v2_12 (0 : Int)).bind fun y25_2 => (bif !y24_7.2.1 then attachChainS_j8 y25_2 v2_12 r2 cs24_7 v2_11 true else (bif !(decide (y25_2.kind = (2 : Int))) then attachChainS_j8 y25_2 v2_12 r2 cs24_7 v2_11 true else (bif !(decide (y25_2.state = (1 : Int))) then attachChainS_j8 y25_2 v2_12 r2 cs24_7 v2_11 true else (bif !(decide (y25_2.ptr = v2_12)) then attachChainS_j8 y25_2 v2_12 r2 cs24_7 v2_11 true else attachChainS_j8 y25_2 v2_12 r2 cs24_7 v2_11 (!(y25_2.flag == (decide (v2_10 = (2 : Int)))))))))))
def attachChainS_j6 (v2_12 : Int) (e5_7x : List CacheS) (y18_2 : PktS) (y17_14 : DealS × Bool × CacheS) (r2 : (List CacheS) → Int → Int → Int → Option (Bool)) (v2_11 : Int) (v2_10 : Int) (e6_87 : Bool) : Option (Bool) :=
 (bif e6_87 then some false else chk (inR (v2_12 - (1 : Int))) (chk (0 ≤ (v2_12 - (1 : Int)) ∧ (v2_12 - (1 : Int)) < ((List.length e5_7x : Nat) : Int)) ((shandleS (nthC e5_7x (v2_12 - (1 : Int))) y18_2).bind fun y21_6 => letP (setC e5_7x (v2_12 - (1 : Int)) y21_6.2.2) fun cs21_6 => attachChainS_j7 y21_6 v2_12 y17_14 r2 v2_11 v2_10 cs21_6)))
def attachChainS_j5 (y17_14 : DealS × Bool × CacheS) (v2_12 : Int) (r2 : (List CacheS) → Int → Int → Int → Option (Bool)) (v2_11 : Int) (v2_10 : Int) (e5_7x : List CacheS) : Option (Bool) :=
 (daskS y17_14.1 v2_12 (0 : Int)).bind fun y18_2 => (bif !y17_14.2.1 then attachChainS_j6 v2_12 e5_7x y18_2 y17_14 r2 v2_11 v2_10 true else (bif !(decide (y18_2.kind = (3 : Int))) then attachChainS_j6 v2_12 e5_7x y18_2 y17_14 r2 v2_11 v2_10 true else chk (inR (v2_12 - (1 : Int))) (attachChainS_j6 v2_12 e5_7x y18_2 y17_14 r2 v2_11 v2_10 (!(decide (y18_2.dst = (v2_12 - (1 : Int))))))))
def attachChainS_k2 (v : Int) (y1_1 : Int) (e2_7x : List CacheS) (e2_10 : Int) (e2_11 : Int) (e2_12 : Int) : Option (Bool) :=
 (bif !(decide (e2_11 = v)) then some false else attachChainS_l3 y1_1 e2_7x v (attachChainS_k3 ) 64 0)
def attachChainS_l2 (y1_1 : Int) (k2 : (List CacheS) → Int → Int → Int → Option (Bool)) : Nat → (List CacheS) → Int → Int → Int → Option (Bool)
 | 0 => fun _ _ _ _ => none
 | m + 1 => fun v2_7x v2_10 v2_11 v2_12 => (bif decide (v2_12 ≤ (wr ((1 : Int) + y1_1))) then chk (0 ≤ v2_12 ∧ v2_12 < ((List.length v2_7x : Nat) : Int)) (chk (inR (v2_12 - (1 : Int))) ((dbeginS (1 : Int) (2 : Int) v2_12).bind fun y17_1 => letP ([v2_11] : List Int) fun l17_12 => (anextS y17_1 v2_12 (nthC v2_7x v2_12) (⟨7, 0, 0, v2_12, 2, v2_12 - (1 : Int), v2_10, false, l17_12⟩ : PktS)).bind fun y17_14 => letP (setC v2_7x v2_12 y17_14.2.2) fun cs17_14 => attachChainS_j5 y17_14 v2_12 (attachChainS_l2 y1_1 k2 m) v2_11 v2_10 cs17_14)) else k2 v2_7x v2_10 v2_11 v2_12)
def attachChainS_j1 (y1_1 : Int) (v : Int) (cs10_7 : List CacheS) (e1_10 : Int) (e1_11 : Int) : Option (Bool) :=
 attachChainS_l2 y1_1 (attachChainS_k2 v y1_1) 64 cs10_7 e1_10 e1_11 1
def attachChainS_k0 (v : Int) (dirty : Bool) (y1_1 : Int) (e0_7x : List CacheS) (e0_8 : Int) : Option (Bool) :=
 chk (0 ≤ (0 : Int) ∧ (0 : Int) < ((List.length e0_7x : Nat) : Int)) (letP ([v] : List Int) fun l10_5 => (enewS (2 : Int) ((-1) : Int) ((-1) : Int) dirty l10_5).bind fun y10_6 => (putS (nthC e0_7x (0 : Int)) y10_6).bind fun y10_7 => letP (setC e0_7x (0 : Int) y10_7.2) fun cs10_7 => (bif dirty then attachChainS_j1 y1_1 v cs10_7 2 (wr (v + (1 : Int))) else attachChainS_j1 y1_1 v cs10_7 1 v))
def attachChainS_l0 (y1_1 : Int) (k0 : (List CacheS) → Int → Option (Bool)) : Nat → (List CacheS) → Int → Option (Bool)
 | 0 => fun _ _ => none
 | m + 1 => fun v0_7x v0_8 => (bif decide (v0_8 ≤ (wr ((1 : Int) + y1_1))) then letP (newC (1 : Int) (1 : Int)) fun y6_0 => chk ((v0_7x ++ [y6_0]).length ≤ 1099511627776) (letP (v0_7x ++ [y6_0]) fun l9_3 => chk (inR (v0_8 + (1 : Int))) ((attachChainS_l0 y1_1 k0 m) l9_3 (v0_8 + (1 : Int)))) else k0 v0_7x v0_8)
def attachChainS (n : Int) (v : Int) (dirty : Bool) : Option (Bool) :=
 (withinS n (5 : Int)).bind fun y1_1 => attachChainS_l0 y1_1 (attachChainS_k0 v dirty y1_1) 64 ([] : List CacheS) 0
noncomputable def C11 (p : List Nat) : Code := codeAt (bodyOf Try.f11) p
set_option maxRecDepth 100000 in
set_option maxHeartbeats 8000000 in
theorem AttachChainF_tr {W0 : World} {Γ : List Asn} (n : Int) (v : Int) (dirty : Bool)  (y : Bool) (H : attachChainS n v dirty = some y) : Tr Try.prog 11 #[.int .i64 n, .int .i64 v, .bool dirty] W0 (Γ) (fun r Δ => r = .bool y ∧ Δ = Γ) := by
 unfold attachChainS at H
 refine Tr.enter (fn := Try.f11) (c := C11 []) (args := [.int .i64 n, .int .i64 v, .bool dirty]) 210 Try.func11 (by kernel_rfl) (by kernel_rfl) ?_
 refine ae [(0, .int .i64 n), (1, .int .i64 v), (2, .bool dirty)] ?_
 refine aq (x := C11 [0]) (y := C11 [1]) ?_
 refine ar (id := 0) 1 ?_
 refine sp 6 (.bool false) ?_
 refine ops_end ?_
 refine ae [(0, .int .i64 n), (1, .int .i64 v), (2, .bool dirty)] ?_
 refine at_then_normal ?_
 refine aq (x := C11 [1,0]) (y := C11 [1,1]) ?_
 refine ar (id := 1) 4 ?_
 refine sp 21 (.int .i64 n) ?_
 obtain ⟨y1_1, hy1_1, H⟩ := bindE H
 refine s_quiet 22 (.int .i64 y1_1) 22 #[.int .i64 n, .int .i64 (5)] (by kernel_rfl) (by kernel_rfl) (fun _ => by kernel_rfl) (WithinF_tr n (5 : Int) y1_1 hy1_1) ?_
 refine sp 23 (.int .i64 (wr ((1 : Int) + y1_1))) ?_
 refine sp 0 (.int .i64 (wr ((1 : Int) + y1_1))) ?_
 refine ops_end ?_
 refine ae [(0, .int .i64 (wr ((1 : Int) + y1_1))), (1, .int .i64 v), (2, .bool dirty)] ?_
 refine at_then_normal ?_
 refine aq (x := C11 [1,1,0]) (y := C11 [1,1,1]) ?_
 refine ar (id := 2) 1 ?_
 refine sp 7 (.slice none 0 0) ?_
 refine ops_end ?_
 refine ae [(0, .int .i64 (wr ((1 : Int) + y1_1))), (1, .int .i64 v), (2, .bool dirty), (7, .slice none 0 0)] ?_
 refine at_then_normal ?_
 refine aq (x := C11 [1,1,1,0]) (y := C11 [1,1,1,1]) ?_
 refine aq (x := C11 [1,1,1,0,0]) (y := C11 [1,1,1,0,1]) ?_
 refine ar (id := 3) 1 ?_
 refine sp 8 (.int .i64 (0)) ?_
 refine ops_end ?_
 refine ae [(0, .int .i64 (wr ((1 : Int) + y1_1))), (1, .int .i64 v), (2, .bool dirty), (7, .slice none 0 0), (8, .int .i64 (0))] ?_
 refine at_then_normal ?_
 refine at_block (i := 0) (x := C11 [1,1,1,0,1,0]) (by kernel_rfl) ?_
 refine At.conv (Γ' := (PtrsX ([] : List (List Value)) none 0 ([] : List CacheS)) :: Γ) (fun w hw => (Sat.less (.take .here .refl) (PtrsX.nil (a := none) hw))) ?_
 refine at_loopR (x := C11 [1,1,1,0,1,0,0]) (fun mm ff ΔΔ => ∃ (fuel : Nat) (v0_7x : List CacheS) (v0_8 : Int) (v0_7a : Option Addr) (v0_7c : Nat) (v0_7r : List (List Value)), attachChainS_l0 y1_1 (attachChainS_k0 v dirty y1_1) fuel v0_7x v0_8 = some y ∧ fuel = mm ∧ ff = [(0, .int .i64 (wr ((1 : Int) + y1_1))), (1, .int .i64 v), (2, .bool dirty), (7, .slice v0_7a (List.length v0_7x) v0_7c), (8, .int .i64 v0_8)] ∧ (PtrsX v0_7r v0_7a v0_7c v0_7x) :: Γ = ΔΔ) (64) (by kernel_rfl) [(0, .int .i64 (wr ((1 : Int) + y1_1))), (1, .int .i64 v), (2, .bool dirty), (7, .slice none (List.length ([] : List CacheS)) 0), (8, .int .i64 0)] ⟨by kernel_rfl, by kernel_rfl, by kernel_rfl, by kernel_rfl, by kernel_rfl, trivial⟩ ⟨64, ([] : List CacheS), 0, none, 0, ([] : List (List Value)), H, rfl, rfl, rfl⟩ ?_
 rintro _ _ _ ⟨fuel1, v0_7x, v0_8, v0_7a, v0_7c, v0_7r, H, rfl, rfl, rfl⟩
 rcases fuel1 with _ | fuel1
 ·exact (noneE H).elim
 rw [attachChainS_l0] at H
 refine aq (x := C11 [1,1,1,0,1,0,0,0]) (y := C11 [1,1,1,0,1,0,0,1]) ?_
 refine aq (x := C11 [1,1,1,0,1,0,0,0,0]) (y := C11 [1,1,1,0,1,0,0,0,1]) ?_
 refine ar (id := 4) 3 ?_
 refine sp 24 (.int .i64 v0_8) ?_
 refine sp 25 (.int .i64 (wr ((1 : Int) + y1_1))) ?_
 refine sp 26 (.bool (decide (v0_8 ≤ (wr ((1 : Int) + y1_1))))) ?_
 refine ops_end ?_
 refine ae [(0, .int .i64 (wr ((1 : Int) + y1_1))), (1, .int .i64 v), (2, .bool dirty), (7, .slice v0_7a (List.length v0_7x) v0_7c), (8, .int .i64 v0_8), (26, .bool (decide (v0_8 ≤ (wr ((1 : Int) + y1_1)))))] ?_
 refine at_then_normal ?_
 rcases Bool.eq_false_or_eq_true (decide (v0_8 ≤ (wr ((1 : Int) + y1_1)))) with h1 | h1
 ·replace H := bifT H h1
  refine at_true (t := decide (v0_8 ≤ (wr ((1 : Int) + y1_1)))) (x := C11 [1,1,1,0,1,0,0,0,1,0]) (y := C11 [1,1,1,0,1,0,0,0,1,1]) (o := .tmp 26) (by kernel_rfl) (by kernel_rfl) (by kernel_rfl) h1 ?_
  refine at_skip (by kernel_rfl) ?_
  refine at_then_normal ?_
  refine aq (x := C11 [1,1,1,0,1,0,0,1,0]) (y := C11 [1,1,1,0,1,0,0,1,1]) ?_
  refine at_block (i := 1) (x := C11 [1,1,1,0,1,0,0,1,0,0]) (by kernel_rfl) ?_
  refine aq (x := C11 [1,1,1,0,1,0,0,1,0,0,0]) (y := C11 [1,1,1,0,1,0,0,1,0,0,1]) ?_
  refine ar (id := 6) 2 ?_
  obtain ⟨y6_0, hy6_0, H⟩ := letE H
  refine s_call 29 32 #[.int .i64 (1), .int .i64 (1)] (by kernel_rfl) (by kernel_rfl) (fun _ => by kernel_rfl) (NewF_tr (1 : Int) (1 : Int) y6_0 hy6_0) ?_
  rintro _ _ ⟨b6_0, rfl, rfl⟩
  refine sp 9 (.pointer (some ⟨b6_0, 0, none⟩)) ?_
  refine ops_end ?_
  refine ae [(0, .int .i64 (wr ((1 : Int) + y1_1))), (1, .int .i64 v), (2, .bool dirty), (7, .slice v0_7a (List.length v0_7x) v0_7c), (8, .int .i64 v0_8), (9, .pointer (some ⟨b6_0, 0, none⟩))] ?_
  refine at_then_normal ?_
  refine aq (x := C11 [1,1,1,0,1,0,0,1,0,0,1,0]) (y := C11 [1,1,1,0,1,0,0,1,0,0,1,1]) ?_
  refine aq (x := C11 [1,1,1,0,1,0,0,1,0,0,1,0,0]) (y := C11 [1,1,1,0,1,0,0,1,0,0,1,0,1]) ?_
  refine ar (id := 7) 2 ?_
  refine sp 30 (.pointer (some ⟨b6_0, 0, none⟩)) ?_
  refine sp 31 (.bool false) ?_
  refine ops_end ?_
  refine ae [(0, .int .i64 (wr ((1 : Int) + y1_1))), (1, .int .i64 v), (2, .bool dirty), (7, .slice v0_7a (List.length v0_7x) v0_7c), (8, .int .i64 v0_8), (9, .pointer (some ⟨b6_0, 0, none⟩)), (31, .bool false)] ?_
  refine at_then_normal ?_
  refine at_false (t := false) (x := C11 [1,1,1,0,1,0,0,1,0,0,1,0,1,0]) (y := C11 [1,1,1,0,1,0,0,1,0,0,1,0,1,1]) (o := .tmp 31) (by kernel_rfl) (by kernel_rfl) (by kernel_rfl) rfl ?_
  refine at_skip (by kernel_rfl) ?_
  refine at_then_normal ?_
  refine ar (id := 9) 5 ?_
  refine sp 32 (.slice v0_7a (List.length v0_7x) v0_7c) ?_
  refine sp 33 (.pointer (some ⟨b6_0, 0, none⟩)) ?_
  refine s_step 34 (by kernel_rfl) (by kernel_rfl) (st_new (T := 22) (cells := #[.pointer (some ⟨b6_0, 0, none⟩)]) (fun a => .slice (some a) 1 1) (fun _ => by kernel_rfl)) ?_
  rintro _ _ ⟨b9_2, rfl, rfl⟩
  obtain ⟨hc9_3_0, H⟩ := chkE H
  obtain ⟨l9_3, hl9_3, H⟩ := letE H
  refine s_step 35 (by kernel_rfl) (by kernel_rfl) (st_append_ptr (m1 := (List.length v0_7x)) (cap2 := 1) (cs := v0_7x) (zs := l9_3) (c := y6_0) (pb := b6_0) (info := tinfo 22) 8 (.pointer none) (m := List.length l9_3) 60 60 22 (fun _ => by kernel_rfl) (by kernel_rfl) (by kernel_rfl) (by kernel_rfl) (by kernel_rfl) (by kernel_rfl) (by kernel_rfl) (by kernel_rfl) (by kernel_rfl) (.there (.there .here)) (.there .here) (Reads.own (rows := [ptrV b6_0]) .here (by rfl)) (by first | rfl | simp) rfl hl9_3 (by rw [← hl9_3]; exact hc9_3_0)) ?_
  rintro _ _ ⟨a9_3, c9_3, rw9_3, rfl, rfl⟩
  refine sp 7 (.slice a9_3 (List.length l9_3) c9_3) ?_
  refine ops_end ?_
  refine ae [(0, .int .i64 (wr ((1 : Int) + y1_1))), (1, .int .i64 v), (2, .bool dirty), (7, .slice a9_3 (List.length l9_3) c9_3), (8, .int .i64 v0_8)] ?_
  refine at_in_normal ?_
  refine at_then_normal ?_
  refine ar (id := 5) 3 ?_
  refine sp 27 (.int .i64 v0_8) ?_
  obtain ⟨hc5_1_0, H⟩ := chkE H
  refine sr 28 (.int .i64 (v0_8 + (1 : Int))) (run_eq (v := .int .i64 (IntKind.i64.wrap (v0_8 + (1 : Int)))) (fun _ => by kernel_rfl) (by rw [inR.wrap hc5_1_0])) ?_
  refine sp 8 (.int .i64 (v0_8 + (1 : Int))) ?_
  refine ops_end ?_
  refine ae [(0, .int .i64 (wr ((1 : Int) + y1_1))), (1, .int .i64 v), (2, .bool dirty), (7, .slice a9_3 (List.length l9_3) c9_3), (8, .int .i64 (v0_8 + (1 : Int)))] ?_
  refine at_round_normal ?_
  exact at_roundR fuel1 [(0, .int .i64 (wr ((1 : Int) + y1_1))), (1, .int .i64 v), (2, .bool dirty), (7, .slice a9_3 (List.length l9_3) c9_3), (8, .int .i64 (v0_8 + (1 : Int)))] ((PtrsX rw9_3 a9_3 c9_3 l9_3) :: Γ) (Nat.lt_succ_self _) ⟨by kernel_rfl, by kernel_rfl, by kernel_rfl, by kernel_rfl, by kernel_rfl, trivial⟩ (fun w hw => (Sat.less (.take .here (.drop .here .refl)) hw)) ⟨fuel1, l9_3, v0_8 + (1 : Int), a9_3, c9_3, rw9_3, H, rfl, rfl, rfl⟩
 ·replace H := bifF H h1
  refine at_false (t := decide (v0_8 ≤ (wr ((1 : Int) + y1_1)))) (x := C11 [1,1,1,0,1,0,0,0,1,0]) (y := C11 [1,1,1,0,1,0,0,0,1,1]) (o := .tmp 26) (by kernel_rfl) (by kernel_rfl) (by kernel_rfl) h1 ?_
  refine at_exit (i := 0) (by kernel_rfl) ?_
  refine at_then_exit ?_
  refine at_then_exit ?_
  rw [attachChainS_k0] at H
  refine ae [(0, .int .i64 (wr ((1 : Int) + y1_1))), (1, .int .i64 v), (2, .bool dirty), (7, .slice v0_7a (List.length v0_7x) v0_7c), (8, .int .i64 v0_8)] ?_
  refine At.conv (Γ' := (PtrsX v0_7r v0_7a v0_7c v0_7x) :: Γ) (fun w hw => (Sat.less (.take .here .refl) hw)) ?_
  refine at_in_here ?_
  refine at_then_normal ?_
  refine aq (x := C11 [1,1,1,1,0]) (y := C11 [1,1,1,1,1]) ?_
  refine at_region_draw (id := 10) (by kernel_rfl) (by kernel_rfl) ?_
  refine dp 0 36 (.slice v0_7a (List.length v0_7x) v0_7c) ?_
  obtain ⟨hc10_1_0, H⟩ := chkE H
  refine ptr_at_draw .here (by have := hc10_1_0; omega) ?_
  intro bb1 oo1 ha1
  refine d_pure 1 37 (.pointer (some ⟨bb1, oo1 + ((((0 : Int)).toNat) * 1 + 0), none⟩)) (by kernel_rfl) (by kernel_rfl) (by kernel_rfl) (index_at (t := 60) (sz := 1) (E := 22) (a := v0_7a) (m := (List.length v0_7x)) (c := v0_7c) (b := bb1) (off := oo1) (i := ((0 : Int)).toNat) (tinfo 22) (fun _ => by kernel_rfl) (by kernel_rfl) (by kernel_rfl) (by kernel_rfl) ha1 (idx_cast hc10_1_0) (idx_nat hc10_1_0) rfl) ?_
  refine ptr_get_draw .here hc10_1_0 ?_
  intro pb10_2 hr10_2
  refine dl 2 38 (.pointer (some ⟨pb10_2, 0, none⟩)) (load1_at (off := oo1 + (((0 : Int)).toNat * 1 + 0)) (v := .pointer (some ⟨pb10_2, 0, none⟩)) (fun _ => by kernel_rfl) rfl (ptr_cell (i := (0 : Int)) .here ha1 hr10_2)) ?_
  refine dp 3 39 (.bool dirty) ?_
  refine dp 4 40 (.int .i64 v) ?_
  obtain ⟨l10_5, hl10_5, H⟩ := letE H
  refine d_step 5 41 [4] [3, 1, 0] [2] (by kernel_rfl) (by kernel_rfl) (by kernel_rfl) (st_new_ints (T := 3) (xs := l10_5) 1 hl10_5 (fun _ => by kernel_rfl) (by kernel_rfl)) ?_
  rintro _ _ ⟨b10_5, rfl, rfl⟩
  refine ⟨(stable_cons 2 38 (.pointer (some ⟨pb10_2, 0, none⟩)) (by kernel_rfl) (by kernel_rfl) (by kernel_rfl) (load1_at (off := oo1 + (((0 : Int)).toNat * 1 + 0)) (v := .pointer (some ⟨pb10_2, 0, none⟩)) (fun _ => by kernel_rfl) rfl (ptr_cell (i := (0 : Int)) (.there .here) ha1 hr10_2)) stable_nil), ?_⟩
  obtain ⟨y10_6, hy10_6, H⟩ := bindE H
  refine d_call 6 42 [3, 5, 4] [1, 0] [2] 15 #[.int .i64 (2), .int .i64 (-1), .int .i64 (-1), .bool dirty, .slice (some ⟨b10_5, 0, none⟩) (List.length l10_5) 1] (by kernel_rfl) (by kernel_rfl) (by kernel_rfl) (fun _ => by kernel_rfl) (ENewF_tr (2 : Int) ((-1) : Int) ((-1) : Int) dirty (some ⟨b10_5, 0, none⟩) 1 l10_5 (RowsA.reads (k := 1) .here) y10_6 hy10_6) ?_
  rintro _ _ ⟨a10_6_00, c10_6_00, rfl, rfl⟩
  refine ⟨(stable_cons 2 38 (.pointer (some ⟨pb10_2, 0, none⟩)) (by kernel_rfl) (by kernel_rfl) (by kernel_rfl) (load1_at (off := oo1 + (((0 : Int)).toNat * 1 + 0)) (v := .pointer (some ⟨pb10_2, 0, none⟩)) (fun _ => by kernel_rfl) rfl (ptr_cell (i := (0 : Int)) (.there (.there .here)) ha1 hr10_2)) stable_nil), ?_⟩
  refine Draw.convS (Γ' := (CacheA pb10_2 (nthC v0_7x (0 : Int))) :: (HoleX v0_7r v0_7a v0_7c v0_7x (0 : Int)) :: (IntsA a10_6_00 c10_6_00 y10_6.data) :: (IntsA (some ⟨b10_5, 0, none⟩) 1 l10_5) :: Γ) (fun w hw => PtrsX.take (i := (0 : Int)) (.there (.there .here)) hr10_2 hw) (stable_cons 2 38 (.pointer (some ⟨pb10_2, 0, none⟩)) (by kernel_rfl) (by kernel_rfl) (by kernel_rfl) (load1_at (off := oo1 + (((0 : Int)).toNat * 1 + 0)) (v := .pointer (some ⟨pb10_2, 0, none⟩)) (fun _ => by kernel_rfl) rfl (hole_cell (i := (0 : Int)) (.there .here) ha1 hr10_2)) stable_nil) ?_
  obtain ⟨y10_7, hy10_7, H⟩ := bindE H
  refine d_call 7 43 [2, 6, 1, 3, 5, 0, 4] [] [] 14 #[.pointer (some ⟨pb10_2, 0, none⟩), .agg #[.int .i64 y10_6.fwd, .int .i64 y10_6.back, .int .i64 y10_6.line, .int .i64 y10_6.used, .bool y10_6.dirty, .slice a10_6_00 (List.length y10_6.data) c10_6_00]] (by kernel_rfl) (by kernel_rfl) (by kernel_rfl) (fun _ => by kernel_rfl) (PutF_tr pb10_2 (nthC v0_7x (0 : Int)) a10_6_00 c10_6_00 y10_6 (RowsA.reads (k := 1) (.there .here)) y10_7 hy10_7) ?_
  rintro _ _ ⟨rfl, rfl⟩
  refine ⟨stable_nil, ?_⟩
  obtain ⟨cs10_7, hcs10_7, H⟩ := letE H
  refine Draw.convS (Γ' := (PtrsX v0_7r v0_7a v0_7c cs10_7) :: (IntsA a10_6_00 c10_6_00 y10_6.data) :: (IntsA (some ⟨b10_5, 0, none⟩) 1 l10_5) :: Γ) (fun w hw => by rw [← hcs10_7]; exact PtrsX.put (i := (0 : Int)) hr10_2 (Sat.less (.take .here (.take .here (.take .here (.take .here .refl)))) hw)) stable_nil ?_
  have hncs10_7 : List.length v0_7x = List.length cs10_7 := by rw [← hcs10_7, setC_len]
  try rw [hncs10_7]
  refine draw_end (by kernel_rfl) ?_
  refine ae [(0, .int .i64 (wr ((1 : Int) + y1_1))), (1, .int .i64 v), (2, .bool dirty), (7, .slice v0_7a (List.length cs10_7) v0_7c)] ?_
  refine at_then_normal ?_
  refine aq (x := C11 [1,1,1,1,1,0]) (y := C11 [1,1,1,1,1,1]) ?_
  refine ar (id := 11) 3 ?_
  refine sp 44 (.int .i64 v) ?_
  refine sp 10 (.int .i64 (1)) ?_
  refine sp 11 (.int .i64 v) ?_
  refine ops_end ?_
  refine ae [(0, .int .i64 (wr ((1 : Int) + y1_1))), (1, .int .i64 v), (2, .bool dirty), (7, .slice v0_7a (List.length cs10_7) v0_7c), (10, .int .i64 (1)), (11, .int .i64 v)] ?_
  refine at_then_normal ?_
  refine at_seq_join (x := C11 [1,1,1,1,1,1,0]) (y := C11 [1,1,1,1,1,1,1]) (fun ff ΔΔ => ∃ (e1_10 : Int) (e1_11 : Int), attachChainS_j1 y1_1 v cs10_7 e1_10 e1_11 = some y ∧ ff = [(0, .int .i64 (wr ((1 : Int) + y1_1))), (1, .int .i64 v), (7, .slice v0_7a (List.length cs10_7) v0_7c), (10, .int .i64 e1_10), (11, .int .i64 e1_11)] ∧ (PtrsX v0_7r v0_7a v0_7c cs10_7) :: Γ = ΔΔ) (by kernel_rfl) ?_ ?_
  ·rintro _ _ ⟨e1_10, e1_11, H, rfl, rfl⟩
   rw [attachChainS_j1] at H
   refine aq (x := C11 [1,1,1,1,1,1,1,0]) (y := C11 [1,1,1,1,1,1,1,1]) ?_
   refine aq (x := C11 [1,1,1,1,1,1,1,0,0]) (y := C11 [1,1,1,1,1,1,1,0,1]) ?_
   refine ar (id := 14) 1 ?_
   refine sp 12 (.int .i64 (1)) ?_
   refine ops_end ?_
   refine ae [(0, .int .i64 (wr ((1 : Int) + y1_1))), (1, .int .i64 v), (7, .slice v0_7a (List.length cs10_7) v0_7c), (10, .int .i64 e1_10), (11, .int .i64 e1_11), (12, .int .i64 (1))] ?_
   refine at_then_normal ?_
   refine at_block (i := 2) (x := C11 [1,1,1,1,1,1,1,0,1,0]) (by kernel_rfl) ?_
   refine At.conv (Γ' := (PtrsX v0_7r v0_7a v0_7c cs10_7) :: Γ) (fun w hw => (Sat.less (.take .here .refl) hw)) ?_
   refine at_loopR (x := C11 [1,1,1,1,1,1,1,0,1,0,0]) (fun mm ff ΔΔ => ∃ (fuel : Nat) (v2_7x : List CacheS) (v2_10 : Int) (v2_11 : Int) (v2_12 : Int) (v2_7a : Option Addr) (v2_7c : Nat) (v2_7r : List (List Value)), attachChainS_l2 y1_1 (attachChainS_k2 v y1_1) fuel v2_7x v2_10 v2_11 v2_12 = some y ∧ fuel = mm ∧ ff = [(0, .int .i64 (wr ((1 : Int) + y1_1))), (1, .int .i64 v), (7, .slice v2_7a (List.length v2_7x) v2_7c), (10, .int .i64 v2_10), (11, .int .i64 v2_11), (12, .int .i64 v2_12)] ∧ (PtrsX v2_7r v2_7a v2_7c v2_7x) :: Γ = ΔΔ) (64) (by kernel_rfl) [(0, .int .i64 (wr ((1 : Int) + y1_1))), (1, .int .i64 v), (7, .slice v0_7a (List.length cs10_7) v0_7c), (10, .int .i64 e1_10), (11, .int .i64 e1_11), (12, .int .i64 1)] ⟨by kernel_rfl, by kernel_rfl, by kernel_rfl, by kernel_rfl, by kernel_rfl, by kernel_rfl, trivial⟩ ⟨64, cs10_7, e1_10, e1_11, 1, v0_7a, v0_7c, v0_7r, H, rfl, rfl, rfl⟩ ?_
   rintro _ _ _ ⟨fuel2, v2_7x, v2_10, v2_11, v2_12, v2_7a, v2_7c, v2_7r, H, rfl, rfl, rfl⟩
   rcases fuel2 with _ | fuel2
   ·exact (noneE H).elim
   rw [attachChainS_l2] at H
   refine aq (x := C11 [1,1,1,1,1,1,1,0,1,0,0,0]) (y := C11 [1,1,1,1,1,1,1,0,1,0,0,1]) ?_
   refine aq (x := C11 [1,1,1,1,1,1,1,0,1,0,0,0,0]) (y := C11 [1,1,1,1,1,1,1,0,1,0,0,0,1]) ?_
   refine ar (id := 15) 3 ?_
   refine sp 48 (.int .i64 v2_12) ?_
   refine sp 49 (.int .i64 (wr ((1 : Int) + y1_1))) ?_
   refine sp 50 (.bool (decide (v2_12 ≤ (wr ((1 : Int) + y1_1))))) ?_
   refine ops_end ?_
   refine ae [(0, .int .i64 (wr ((1 : Int) + y1_1))), (1, .int .i64 v), (7, .slice v2_7a (List.length v2_7x) v2_7c), (10, .int .i64 v2_10), (11, .int .i64 v2_11), (12, .int .i64 v2_12), (50, .bool (decide (v2_12 ≤ (wr ((1 : Int) + y1_1)))))] ?_
   refine at_then_normal ?_
   rcases Bool.eq_false_or_eq_true (decide (v2_12 ≤ (wr ((1 : Int) + y1_1)))) with h2 | h2
   ·replace H := bifT H h2
    refine at_true (t := decide (v2_12 ≤ (wr ((1 : Int) + y1_1)))) (x := C11 [1,1,1,1,1,1,1,0,1,0,0,0,1,0]) (y := C11 [1,1,1,1,1,1,1,0,1,0,0,0,1,1]) (o := .tmp 50) (by kernel_rfl) (by kernel_rfl) (by kernel_rfl) h2 ?_
    refine at_skip (by kernel_rfl) ?_
    refine at_then_normal ?_
    refine at_seq_join (x := C11 [1,1,1,1,1,1,1,0,1,0,0,1,0]) (y := C11 [1,1,1,1,1,1,1,0,1,0,0,1,1]) (fun ff ΔΔ => ∃ (e4_7x : List CacheS) (e4_10 : Int) (e4_11 : Int) (e4_7a : Option Addr) (e4_7c : Nat) (e4_7r : List (List Value)), attachChainS_j4 v2_12 (attachChainS_l2 y1_1 (attachChainS_k2 v y1_1) fuel2) e4_7x e4_10 e4_11 = some y ∧ ff = [(0, .int .i64 (wr ((1 : Int) + y1_1))), (1, .int .i64 v), (7, .slice e4_7a (List.length e4_7x) e4_7c), (10, .int .i64 e4_10), (11, .int .i64 e4_11), (12, .int .i64 v2_12)] ∧ (PtrsX e4_7r e4_7a e4_7c e4_7x) :: Γ = ΔΔ) (by kernel_rfl) ?_ ?_
    ·rintro _ _ ⟨e4_7x, e4_10, e4_11, e4_7a, e4_7c, e4_7r, H, rfl, rfl⟩
     rw [attachChainS_j4] at H
     refine ar (id := 16) 3 ?_
     refine sp 51 (.int .i64 v2_12) ?_
     obtain ⟨hc16_1_0, H⟩ := chkE H
     refine sr 52 (.int .i64 (v2_12 + (1 : Int))) (run_eq (v := .int .i64 (IntKind.i64.wrap (v2_12 + (1 : Int)))) (fun _ => by kernel_rfl) (by rw [inR.wrap hc16_1_0])) ?_
     refine sp 12 (.int .i64 (v2_12 + (1 : Int))) ?_
     refine ops_end ?_
     refine ae [(0, .int .i64 (wr ((1 : Int) + y1_1))), (1, .int .i64 v), (7, .slice e4_7a (List.length e4_7x) e4_7c), (10, .int .i64 e4_10), (11, .int .i64 e4_11), (12, .int .i64 (v2_12 + (1 : Int)))] ?_
     refine at_round_normal ?_
     exact at_roundR fuel2 [(0, .int .i64 (wr ((1 : Int) + y1_1))), (1, .int .i64 v), (7, .slice e4_7a (List.length e4_7x) e4_7c), (10, .int .i64 e4_10), (11, .int .i64 e4_11), (12, .int .i64 (v2_12 + (1 : Int)))] ((PtrsX e4_7r e4_7a e4_7c e4_7x) :: Γ) (Nat.lt_succ_self _) ⟨by kernel_rfl, by kernel_rfl, by kernel_rfl, by kernel_rfl, by kernel_rfl, by kernel_rfl, trivial⟩ (fun w hw => (Sat.less (.take .here .refl) hw)) ⟨fuel2, e4_7x, e4_10, e4_11, v2_12 + (1 : Int), e4_7a, e4_7c, e4_7r, H, rfl, rfl, rfl⟩
    ·refine at_block (i := 3) (x := C11 [1,1,1,1,1,1,1,0,1,0,0,1,0,0]) (by kernel_rfl) ?_
     refine at_seq_join (x := C11 [1,1,1,1,1,1,1,0,1,0,0,1,0,0,0]) (y := C11 [1,1,1,1,1,1,1,0,1,0,0,1,0,0,1]) (fun ff ΔΔ => ∃ (e5_7x : List CacheS) (e5_7a : Option Addr) (e5_7c : Nat) (e5_7r : List (List Value)) (b17_18 : Nat) (y17_14 : DealS × Bool × CacheS) (a17_14_00 : Option Addr) (c17_14_00 : Nat), attachChainS_j5 y17_14 v2_12 (attachChainS_l2 y1_1 (attachChainS_k2 v y1_1) fuel2) v2_11 v2_10 e5_7x = some y ∧ ff = [(0, .int .i64 (wr ((1 : Int) + y1_1))), (1, .int .i64 v), (7, .slice e5_7a (List.length e5_7x) e5_7c), (10, .int .i64 v2_10), (11, .int .i64 v2_11), (12, .int .i64 v2_12), (13, .pointer (some ⟨b17_18, 0, none⟩)), (14, .bool y17_14.2.1)] ∧ (PtrsX e5_7r e5_7a e5_7c e5_7x) :: (Asn.own b17_18 (.cells #[.int .i64 y17_14.1.kind, .int .i64 y17_14.1.line, .int .i64 y17_14.1.id, .int .i64 y17_14.1.step, .int .i64 y17_14.1.state, .int .i64 y17_14.1.head, .slice a17_14_00 (List.length y17_14.1.data) c17_14_00, .int .i64 y17_14.1.next, .int .i64 y17_14.1.told] 35 (0, 0))) :: (ImmI a17_14_00 y17_14.1.data) :: Γ = ΔΔ) (by kernel_rfl) ?_ ?_
     ·rintro _ _ ⟨e5_7x, e5_7a, e5_7c, e5_7r, b17_18, y17_14, a17_14_00, c17_14_00, H, rfl, rfl⟩
      rw [attachChainS_j5] at H
      refine aq (x := C11 [1,1,1,1,1,1,1,0,1,0,0,1,0,0,1,0]) (y := C11 [1,1,1,1,1,1,1,0,1,0,0,1,0,0,1,1]) ?_
      refine ar (id := 18) 5 ?_
      refine sl 71 (.agg #[.int .i64 y17_14.1.kind, .int .i64 y17_14.1.line, .int .i64 y17_14.1.id, .int .i64 y17_14.1.step, .int .i64 y17_14.1.state, .int .i64 y17_14.1.head, .slice a17_14_00 (List.length y17_14.1.data) c17_14_00, .int .i64 y17_14.1.next, .int .i64 y17_14.1.told]) (loadN (off := 0) (vs := [.int .i64 y17_14.1.kind, .int .i64 y17_14.1.line, .int .i64 y17_14.1.id, .int .i64 y17_14.1.step, .int .i64 y17_14.1.state, .int .i64 y17_14.1.head, .slice a17_14_00 (List.length y17_14.1.data) c17_14_00, .int .i64 y17_14.1.next, .int .i64 y17_14.1.told]) 9 (fun _ => by kernel_rfl) (holds_own (.there .here)) rfl (by exact ⟨rfl, rfl, rfl, rfl, rfl, rfl, rfl, rfl, rfl, trivial⟩)) ?_
      refine sp 72 (.int .i64 v2_12) ?_
      obtain ⟨y18_2, hy18_2, H⟩ := bindE H
      refine s_call 73 26 #[.agg #[.int .i64 y17_14.1.kind, .int .i64 y17_14.1.line, .int .i64 y17_14.1.id, .int .i64 y17_14.1.step, .int .i64 y17_14.1.state, .int .i64 y17_14.1.head, .slice a17_14_00 (List.length y17_14.1.data) c17_14_00, .int .i64 y17_14.1.next, .int .i64 y17_14.1.told], .int .i64 v2_12, .int .i64 (0)] (by kernel_rfl) (by kernel_rfl) (fun _ => by kernel_rfl) (DAskF_tr a17_14_00 c17_14_00 y17_14.1 v2_12 (0 : Int) (ImmR.reads (k := 1) (.there (.there .here))) y18_2 hy18_2) ?_
      rintro _ _ ⟨a18_2_00, c18_2_00, rfl, rfl⟩
      refine s_step 15 (by kernel_rfl) (by kernel_rfl) (st_new (T := 40) (cells := #[.int .i64 (0), .int .i64 (0), .int .i64 (0), .int .i64 (0), .int .i64 (0), .int .i64 (0), .int .i64 (0), .bool false, .slice none 0 0]) (fun a => .pointer (some a)) (fun _ => by kernel_rfl)) ?_
      rintro _ _ ⟨b18_3, rfl, rfl⟩
      refine s_do (by kernel_rfl) (by kernel_rfl) (st_store (off := 0) (vs := [.int .i64 y18_2.kind, .int .i64 y18_2.src, .int .i64 y18_2.dst, .int .i64 y18_2.id, .int .i64 y18_2.line, .int .i64 y18_2.ptr, .int .i64 y18_2.state, .bool y18_2.flag, .slice a18_2_00 (List.length y18_2.data) c18_2_00]) (c' := #[.int .i64 y18_2.kind, .int .i64 y18_2.src, .int .i64 y18_2.dst, .int .i64 y18_2.id, .int .i64 y18_2.line, .int .i64 y18_2.ptr, .int .i64 y18_2.state, .bool y18_2.flag, .slice a18_2_00 (List.length y18_2.data) c18_2_00]) (fun _ => by kernel_rfl) .here (by kernel_rfl) (by kernel_rfl) (by kernel_rfl)) ?_
      rintro _ _ ⟨rfl, rfl⟩
      refine ops_end ?_
      refine ae [(0, .int .i64 (wr ((1 : Int) + y1_1))), (1, .int .i64 v), (7, .slice e5_7a (List.length e5_7x) e5_7c), (10, .int .i64 v2_10), (11, .int .i64 v2_11), (12, .int .i64 v2_12), (13, .pointer (some ⟨b17_18, 0, none⟩)), (14, .bool y17_14.2.1), (15, .pointer (some ⟨b18_3, 0, none⟩))] ?_
      refine at_then_normal ?_
      refine aq (x := C11 [1,1,1,1,1,1,1,0,1,0,0,1,0,0,1,1,0]) (y := C11 [1,1,1,1,1,1,1,0,1,0,0,1,0,0,1,1,1]) ?_
      refine at_seq_join (x := C11 [1,1,1,1,1,1,1,0,1,0,0,1,0,0,1,1,0,0]) (y := C11 [1,1,1,1,1,1,1,0,1,0,0,1,0,0,1,1,0,1]) (fun ff ΔΔ => ∃ (e6_87 : Bool), attachChainS_j6 v2_12 e5_7x y18_2 y17_14 (attachChainS_l2 y1_1 (attachChainS_k2 v y1_1) fuel2) v2_11 v2_10 e6_87 = some y ∧ ff = [(0, .int .i64 (wr ((1 : Int) + y1_1))), (1, .int .i64 v), (7, .slice e5_7a (List.length e5_7x) e5_7c), (10, .int .i64 v2_10), (11, .int .i64 v2_11), (12, .int .i64 v2_12), (13, .pointer (some ⟨b17_18, 0, none⟩)), (15, .pointer (some ⟨b18_3, 0, none⟩)), (87, .bool e6_87)] ∧ (Asn.own b18_3 (.cells #[.int .i64 y18_2.kind, .int .i64 y18_2.src, .int .i64 y18_2.dst, .int .i64 y18_2.id, .int .i64 y18_2.line, .int .i64 y18_2.ptr, .int .i64 y18_2.state, .bool y18_2.flag, .slice a18_2_00 (List.length y18_2.data) c18_2_00] 40 (0, 0))) :: (IntsA a18_2_00 c18_2_00 y18_2.data) :: (PtrsX e5_7r e5_7a e5_7c e5_7x) :: (Asn.own b17_18 (.cells #[.int .i64 y17_14.1.kind, .int .i64 y17_14.1.line, .int .i64 y17_14.1.id, .int .i64 y17_14.1.step, .int .i64 y17_14.1.state, .int .i64 y17_14.1.head, .slice a17_14_00 (List.length y17_14.1.data) c17_14_00, .int .i64 y17_14.1.next, .int .i64 y17_14.1.told] 35 (0, 0))) :: (ImmI a17_14_00 y17_14.1.data) :: Γ = ΔΔ) (by kernel_rfl) ?_ ?_
      ·rintro _ _ ⟨e6_87, H, rfl, rfl⟩
       rw [attachChainS_j6] at H
       rcases Bool.eq_false_or_eq_true (e6_87) with h3 | h3
       ·replace H := bifT H h3
        refine at_true (t := e6_87) (x := C11 [1,1,1,1,1,1,1,0,1,0,0,1,0,0,1,1,0,1,0]) (y := C11 [1,1,1,1,1,1,1,0,1,0,0,1,0,0,1,1,0,1,1]) (o := .tmp 87) (by kernel_rfl) (by kernel_rfl) (by kernel_rfl) h3 ?_
        refine aq (x := C11 [1,1,1,1,1,1,1,0,1,0,0,1,0,0,1,1,0,1,0,0]) (y := C11 [1,1,1,1,1,1,1,0,1,0,0,1,0,0,1,1,0,1,0,1]) ?_
        refine ar (id := 20) 1 ?_
        refine sp 6 (.bool false) ?_
        refine ops_end ?_
        refine ae [(6, .bool false)] ?_
        refine at_then_normal ?_
        refine at_ret (by kernel_rfl) ?_
        refine at_then_ret ?_
        refine at_in_ret ?_
        refine at_then_ret ?_
        refine at_then_ret ?_
        refine at_in_ret ?_
        refine at_then_ret ?_
        obtain rfl := someE H
        refine at_backR [.bool false] (Γ) (rs := [.tmp 6]) (by kernel_rfl) (.cons (.tmp (by kernel_rfl)) .nil) (fun w hw => (Sat.less (.drop .here (.drop .here (.drop .here (.drop .here (.drop .here .refl))))) hw)) ?_
        exact ⟨rfl, rfl⟩
       ·replace H := bifF H h3
        refine at_false (t := e6_87) (x := C11 [1,1,1,1,1,1,1,0,1,0,0,1,0,0,1,1,0,1,0]) (y := C11 [1,1,1,1,1,1,1,0,1,0,0,1,0,0,1,1,0,1,1]) (o := .tmp 87) (by kernel_rfl) (by kernel_rfl) (by kernel_rfl) h3 ?_
        refine at_skip (by kernel_rfl) ?_
        refine at_then_normal ?_
        refine at_seq_join (x := C11 [1,1,1,1,1,1,1,0,1,0,0,1,0,0,1,1,1,0]) (y := C11 [1,1,1,1,1,1,1,0,1,0,0,1,0,0,1,1,1,1]) (fun ff ΔΔ => ∃ (e7_7x : List CacheS) (e7_7a : Option Addr) (e7_7c : Nat) (e7_7r : List (List Value)) (b21_10 : Nat) (y21_6 : PktS × Int × CacheS) (a21_6_00 : Option Addr) (c21_6_00 : Nat), attachChainS_j7 y21_6 v2_12 y17_14 (attachChainS_l2 y1_1 (attachChainS_k2 v y1_1) fuel2) v2_11 v2_10 e7_7x = some y ∧ ff = [(0, .int .i64 (wr ((1 : Int) + y1_1))), (1, .int .i64 v), (7, .slice e7_7a (List.length e7_7x) e7_7c), (10, .int .i64 v2_10), (11, .int .i64 v2_11), (12, .int .i64 v2_12), (13, .pointer (some ⟨b17_18, 0, none⟩)), (15, .pointer (some ⟨b18_3, 0, none⟩)), (16, .pointer (some ⟨b21_10, 0, none⟩)), (17, .int .i64 y21_6.2.1)] ∧ (PtrsX e7_7r e7_7a e7_7c e7_7x) :: (Asn.own b21_10 (.cells #[.int .i64 y21_6.1.kind, .int .i64 y21_6.1.src, .int .i64 y21_6.1.dst, .int .i64 y21_6.1.id, .int .i64 y21_6.1.line, .int .i64 y21_6.1.ptr, .int .i64 y21_6.1.state, .bool y21_6.1.flag, .slice a21_6_00 (List.length y21_6.1.data) c21_6_00] 40 (0, 0))) :: (IntsA a21_6_00 c21_6_00 y21_6.1.data) :: (Asn.own b18_3 (.cells #[.int .i64 y18_2.kind, .int .i64 y18_2.src, .int .i64 y18_2.dst, .int .i64 y18_2.id, .int .i64 y18_2.line, .int .i64 y18_2.ptr, .int .i64 y18_2.state, .bool y18_2.flag, .slice a18_2_00 (List.length y18_2.data) c18_2_00] 40 (0, 0))) :: (IntsA a18_2_00 c18_2_00 y18_2.data) :: (Asn.own b17_18 (.cells #[.int .i64 y17_14.1.kind, .int .i64 y17_14.1.line, .int .i64 y17_14.1.id, .int .i64 y17_14.1.step, .int .i64 y17_14.1.state, .int .i64 y17_14.1.head, .slice a17_14_00 (List.length y17_14.1.data) c17_14_00, .int .i64 y17_14.1.next, .int .i64 y17_14.1.told] 35 (0, 0))) :: (ImmI a17_14_00 y17_14.1.data) :: Γ = ΔΔ) (by kernel_rfl) ?_ ?_
        ·rintro _ _ ⟨e7_7x, e7_7a, e7_7c, e7_7r, b21_10, y21_6, a21_6_00, c21_6_00, H, rfl, rfl⟩
         rw [attachChainS_j7] at H
         refine aq (x := C11 [1,1,1,1,1,1,1,0,1,0,0,1,0,0,1,1,1,1,0]) (y := C11 [1,1,1,1,1,1,1,0,1,0,0,1,0,0,1,1,1,1,1]) ?_
         refine aq (x := C11 [1,1,1,1,1,1,1,0,1,0,0,1,0,0,1,1,1,1,0,0]) (y := C11 [1,1,1,1,1,1,1,0,1,0,0,1,0,0,1,1,1,1,0,1]) ?_
         refine ar (id := 22) 2 ?_
         refine sp 98 (.int .i64 y21_6.2.1) ?_
         refine sp 99 (.bool (!(decide (y21_6.2.1 = (0 : Int))))) ?_
         refine ops_end ?_
         refine ae [(0, .int .i64 (wr ((1 : Int) + y1_1))), (1, .int .i64 v), (7, .slice e7_7a (List.length e7_7x) e7_7c), (10, .int .i64 v2_10), (11, .int .i64 v2_11), (12, .int .i64 v2_12), (13, .pointer (some ⟨b17_18, 0, none⟩)), (15, .pointer (some ⟨b18_3, 0, none⟩)), (16, .pointer (some ⟨b21_10, 0, none⟩)), (99, .bool (!(decide (y21_6.2.1 = (0 : Int)))))] ?_
         refine at_then_normal ?_
         rcases Bool.eq_false_or_eq_true (!(decide (y21_6.2.1 = (0 : Int)))) with h4 | h4
         ·replace H := bifT H h4
          refine at_true (t := !(decide (y21_6.2.1 = (0 : Int)))) (x := C11 [1,1,1,1,1,1,1,0,1,0,0,1,0,0,1,1,1,1,0,1,0]) (y := C11 [1,1,1,1,1,1,1,0,1,0,0,1,0,0,1,1,1,1,0,1,1]) (o := .tmp 99) (by kernel_rfl) (by kernel_rfl) (by kernel_rfl) h4 ?_
          refine aq (x := C11 [1,1,1,1,1,1,1,0,1,0,0,1,0,0,1,1,1,1,0,1,0,0]) (y := C11 [1,1,1,1,1,1,1,0,1,0,0,1,0,0,1,1,1,1,0,1,0,1]) ?_
          refine ar (id := 23) 1 ?_
          refine sp 6 (.bool false) ?_
          refine ops_end ?_
          refine ae [(6, .bool false)] ?_
          refine at_then_normal ?_
          refine at_ret (by kernel_rfl) ?_
          refine at_then_ret ?_
          refine at_in_ret ?_
          refine at_then_ret ?_
          refine at_then_ret ?_
          refine at_in_ret ?_
          refine at_then_ret ?_
          obtain rfl := someE H
          refine at_backR [.bool false] (Γ) (rs := [.tmp 6]) (by kernel_rfl) (.cons (.tmp (by kernel_rfl)) .nil) (fun w hw => (Sat.less (.drop .here (.drop .here (.drop .here (.drop .here (.drop .here (.drop .here (.drop .here .refl))))))) hw)) ?_
          exact ⟨rfl, rfl⟩
         ·replace H := bifF H h4
          refine at_false (t := !(decide (y21_6.2.1 = (0 : Int)))) (x := C11 [1,1,1,1,1,1,1,0,1,0,0,1,0,0,1,1,1,1,0,1,0]) (y := C11 [1,1,1,1,1,1,1,0,1,0,0,1,0,0,1,1,1,1,0,1,1]) (o := .tmp 99) (by kernel_rfl) (by kernel_rfl) (by kernel_rfl) h4 ?_
          refine at_skip (by kernel_rfl) ?_
          refine at_then_normal ?_
          refine aq (x := C11 [1,1,1,1,1,1,1,0,1,0,0,1,0,0,1,1,1,1,1,0]) (y := C11 [1,1,1,1,1,1,1,0,1,0,0,1,0,0,1,1,1,1,1,1]) ?_
          refine at_region_draw (id := 24) (by kernel_rfl) (by kernel_rfl) ?_
          refine dl 0 101 (.agg #[.int .i64 y17_14.1.kind, .int .i64 y17_14.1.line, .int .i64 y17_14.1.id, .int .i64 y17_14.1.step, .int .i64 y17_14.1.state, .int .i64 y17_14.1.head, .slice a17_14_00 (List.length y17_14.1.data) c17_14_00, .int .i64 y17_14.1.next, .int .i64 y17_14.1.told]) (loadN (off := 0) (vs := [.int .i64 y17_14.1.kind, .int .i64 y17_14.1.line, .int .i64 y17_14.1.id, .int .i64 y17_14.1.step, .int .i64 y17_14.1.state, .int .i64 y17_14.1.head, .slice a17_14_00 (List.length y17_14.1.data) c17_14_00, .int .i64 y17_14.1.next, .int .i64 y17_14.1.told]) 9 (fun _ => by kernel_rfl) (holds_own (.there (.there (.there (.there (.there .here)))))) rfl (by exact ⟨rfl, rfl, rfl, rfl, rfl, rfl, rfl, rfl, rfl, trivial⟩)) ?_
          refine dp 1 102 (.int .i64 v2_12) ?_
          refine dp 2 103 (.slice e7_7a (List.length e7_7x) e7_7c) ?_
          refine dp 3 104 (.int .i64 v2_12) ?_
          obtain ⟨hc24_4_0, H⟩ := chkE H
          refine ptr_at_draw .here (by have := hc24_4_0; omega) ?_
          intro bb2 oo2 ha2
          refine d_pure 4 105 (.pointer (some ⟨bb2, oo2 + (((v2_12).toNat) * 1 + 0), none⟩)) (by kernel_rfl) (by kernel_rfl) (by kernel_rfl) (index_at (t := 60) (sz := 1) (E := 22) (a := e7_7a) (m := (List.length e7_7x)) (c := e7_7c) (b := bb2) (off := oo2) (i := (v2_12).toNat) (tinfo 22) (fun _ => by kernel_rfl) (by kernel_rfl) (by kernel_rfl) (by kernel_rfl) ha2 (idx_cast hc24_4_0) (idx_nat hc24_4_0) rfl) ?_
          refine ptr_get_draw .here hc24_4_0 ?_
          intro pb24_5 hr24_5
          refine dl 5 106 (.pointer (some ⟨pb24_5, 0, none⟩)) (load1_at (off := oo2 + ((v2_12).toNat * 1 + 0)) (v := .pointer (some ⟨pb24_5, 0, none⟩)) (fun _ => by kernel_rfl) rfl (ptr_cell (i := v2_12) .here ha2 hr24_5)) ?_
          refine dl 6 107 (.agg #[.int .i64 y21_6.1.kind, .int .i64 y21_6.1.src, .int .i64 y21_6.1.dst, .int .i64 y21_6.1.id, .int .i64 y21_6.1.line, .int .i64 y21_6.1.ptr, .int .i64 y21_6.1.state, .bool y21_6.1.flag, .slice a21_6_00 (List.length y21_6.1.data) c21_6_00]) (loadN (off := 0) (vs := [.int .i64 y21_6.1.kind, .int .i64 y21_6.1.src, .int .i64 y21_6.1.dst, .int .i64 y21_6.1.id, .int .i64 y21_6.1.line, .int .i64 y21_6.1.ptr, .int .i64 y21_6.1.state, .bool y21_6.1.flag, .slice a21_6_00 (List.length y21_6.1.data) c21_6_00]) 9 (fun _ => by kernel_rfl) (holds_own (.there .here)) rfl (by exact ⟨rfl, rfl, rfl, rfl, rfl, rfl, rfl, rfl, rfl, trivial⟩)) ?_
          refine Draw.convS (Γ' := (CacheA pb24_5 (nthC e7_7x v2_12)) :: (HoleX e7_7r e7_7a e7_7c e7_7x v2_12) :: (Asn.own b21_10 (.cells #[.int .i64 y21_6.1.kind, .int .i64 y21_6.1.src, .int .i64 y21_6.1.dst, .int .i64 y21_6.1.id, .int .i64 y21_6.1.line, .int .i64 y21_6.1.ptr, .int .i64 y21_6.1.state, .bool y21_6.1.flag, .slice a21_6_00 (List.length y21_6.1.data) c21_6_00] 40 (0, 0))) :: (IntsA a21_6_00 c21_6_00 y21_6.1.data) :: (Asn.own b18_3 (.cells #[.int .i64 y18_2.kind, .int .i64 y18_2.src, .int .i64 y18_2.dst, .int .i64 y18_2.id, .int .i64 y18_2.line, .int .i64 y18_2.ptr, .int .i64 y18_2.state, .bool y18_2.flag, .slice a18_2_00 (List.length y18_2.data) c18_2_00] 40 (0, 0))) :: (IntsA a18_2_00 c18_2_00 y18_2.data) :: (Asn.own b17_18 (.cells #[.int .i64 y17_14.1.kind, .int .i64 y17_14.1.line, .int .i64 y17_14.1.id, .int .i64 y17_14.1.step, .int .i64 y17_14.1.state, .int .i64 y17_14.1.head, .slice a17_14_00 (List.length y17_14.1.data) c17_14_00, .int .i64 y17_14.1.next, .int .i64 y17_14.1.told] 35 (0, 0))) :: (ImmI a17_14_00 y17_14.1.data) :: Γ) (fun w hw => PtrsX.take (i := v2_12) .here hr24_5 hw) (stable_cons 6 107 (.agg #[.int .i64 y21_6.1.kind, .int .i64 y21_6.1.src, .int .i64 y21_6.1.dst, .int .i64 y21_6.1.id, .int .i64 y21_6.1.line, .int .i64 y21_6.1.ptr, .int .i64 y21_6.1.state, .bool y21_6.1.flag, .slice a21_6_00 (List.length y21_6.1.data) c21_6_00]) (by kernel_rfl) (by kernel_rfl) (by kernel_rfl) (loadN (off := 0) (vs := [.int .i64 y21_6.1.kind, .int .i64 y21_6.1.src, .int .i64 y21_6.1.dst, .int .i64 y21_6.1.id, .int .i64 y21_6.1.line, .int .i64 y21_6.1.ptr, .int .i64 y21_6.1.state, .bool y21_6.1.flag, .slice a21_6_00 (List.length y21_6.1.data) c21_6_00]) 9 (fun _ => by kernel_rfl) (holds_own (.there (.there .here))) rfl (by exact ⟨rfl, rfl, rfl, rfl, rfl, rfl, rfl, rfl, rfl, trivial⟩)) (stable_cons 5 106 (.pointer (some ⟨pb24_5, 0, none⟩)) (by kernel_rfl) (by kernel_rfl) (by kernel_rfl) (load1_at (off := oo2 + ((v2_12).toNat * 1 + 0)) (v := .pointer (some ⟨pb24_5, 0, none⟩)) (fun _ => by kernel_rfl) rfl (hole_cell (i := v2_12) (.there .here) ha2 hr24_5)) (stable_cons 0 101 (.agg #[.int .i64 y17_14.1.kind, .int .i64 y17_14.1.line, .int .i64 y17_14.1.id, .int .i64 y17_14.1.step, .int .i64 y17_14.1.state, .int .i64 y17_14.1.head, .slice a17_14_00 (List.length y17_14.1.data) c17_14_00, .int .i64 y17_14.1.next, .int .i64 y17_14.1.told]) (by kernel_rfl) (by kernel_rfl) (by kernel_rfl) (loadN (off := 0) (vs := [.int .i64 y17_14.1.kind, .int .i64 y17_14.1.line, .int .i64 y17_14.1.id, .int .i64 y17_14.1.step, .int .i64 y17_14.1.state, .int .i64 y17_14.1.head, .slice a17_14_00 (List.length y17_14.1.data) c17_14_00, .int .i64 y17_14.1.next, .int .i64 y17_14.1.told]) 9 (fun _ => by kernel_rfl) (holds_own (.there (.there (.there (.there (.there (.there .here))))))) rfl (by exact ⟨rfl, rfl, rfl, rfl, rfl, rfl, rfl, rfl, rfl, trivial⟩)) stable_nil))) ?_
          obtain ⟨y24_7, hy24_7, H⟩ := bindE H
          refine d_call 7 108 [0, 1, 5, 6, 4, 2, 3] [] [] 25 #[.agg #[.int .i64 y17_14.1.kind, .int .i64 y17_14.1.line, .int .i64 y17_14.1.id, .int .i64 y17_14.1.step, .int .i64 y17_14.1.state, .int .i64 y17_14.1.head, .slice a17_14_00 (List.length y17_14.1.data) c17_14_00, .int .i64 y17_14.1.next, .int .i64 y17_14.1.told], .int .i64 v2_12, .pointer (some ⟨pb24_5, 0, none⟩), .agg #[.int .i64 y21_6.1.kind, .int .i64 y21_6.1.src, .int .i64 y21_6.1.dst, .int .i64 y21_6.1.id, .int .i64 y21_6.1.line, .int .i64 y21_6.1.ptr, .int .i64 y21_6.1.state, .bool y21_6.1.flag, .slice a21_6_00 (List.length y21_6.1.data) c21_6_00]] (by kernel_rfl) (by kernel_rfl) (by kernel_rfl) (fun _ => by kernel_rfl) (Tr.conv (Γ' := (ImmI a17_14_00 y17_14.1.data) :: (CacheA pb24_5 (nthC e7_7x v2_12)) :: (ImmI a17_14_00 y17_14.1.data) :: (HoleX e7_7r e7_7a e7_7c e7_7x v2_12) :: (Asn.own b21_10 (.cells #[.int .i64 y21_6.1.kind, .int .i64 y21_6.1.src, .int .i64 y21_6.1.dst, .int .i64 y21_6.1.id, .int .i64 y21_6.1.line, .int .i64 y21_6.1.ptr, .int .i64 y21_6.1.state, .bool y21_6.1.flag, .slice a21_6_00 (List.length y21_6.1.data) c21_6_00] 40 (0, 0))) :: (IntsA a21_6_00 c21_6_00 y21_6.1.data) :: (Asn.own b18_3 (.cells #[.int .i64 y18_2.kind, .int .i64 y18_2.src, .int .i64 y18_2.dst, .int .i64 y18_2.id, .int .i64 y18_2.line, .int .i64 y18_2.ptr, .int .i64 y18_2.state, .bool y18_2.flag, .slice a18_2_00 (List.length y18_2.data) c18_2_00] 40 (0, 0))) :: (IntsA a18_2_00 c18_2_00 y18_2.data) :: (Asn.own b17_18 (.cells #[.int .i64 y17_14.1.kind, .int .i64 y17_14.1.line, .int .i64 y17_14.1.id, .int .i64 y17_14.1.step, .int .i64 y17_14.1.state, .int .i64 y17_14.1.head, .slice a17_14_00 (List.length y17_14.1.data) c17_14_00, .int .i64 y17_14.1.next, .int .i64 y17_14.1.told] 35 (0, 0))) :: Γ) (fun w hw => (Sat.less (.take .here (.take (.there .here) (.take .here (.take .here (.take .here (.take .here (.take .here (.take .here (.take .here .refl))))))))) (ImmR.dup (Sat.less (.take (.there (.there (.there (.there (.there (.there (.there .here))))))) (.take .here (.take .here (.take .here (.take .here (.take .here (.take .here (.take .here .refl)))))))) hw)))) (ANextF_tr a17_14_00 c17_14_00 y17_14.1 v2_12 pb24_5 (nthC e7_7x v2_12) a21_6_00 c21_6_00 y21_6.1 (RowsA.reads (k := 1) (.there (.there (.there .here)))) y24_7 hy24_7)) ?_
          rintro _ _ ⟨a24_7_00, c24_7_00, rfl, rfl⟩
          refine ⟨stable_nil, ?_⟩
          obtain ⟨cs24_7, hcs24_7, H⟩ := letE H
          refine Draw.convS (Γ' := (PtrsX e7_7r e7_7a e7_7c cs24_7) :: (ImmI a24_7_00 y24_7.1.data) :: (ImmI a17_14_00 y17_14.1.data) :: (Asn.own b21_10 (.cells #[.int .i64 y21_6.1.kind, .int .i64 y21_6.1.src, .int .i64 y21_6.1.dst, .int .i64 y21_6.1.id, .int .i64 y21_6.1.line, .int .i64 y21_6.1.ptr, .int .i64 y21_6.1.state, .bool y21_6.1.flag, .slice a21_6_00 (List.length y21_6.1.data) c21_6_00] 40 (0, 0))) :: (IntsA a21_6_00 c21_6_00 y21_6.1.data) :: (Asn.own b18_3 (.cells #[.int .i64 y18_2.kind, .int .i64 y18_2.src, .int .i64 y18_2.dst, .int .i64 y18_2.id, .int .i64 y18_2.line, .int .i64 y18_2.ptr, .int .i64 y18_2.state, .bool y18_2.flag, .slice a18_2_00 (List.length y18_2.data) c18_2_00] 40 (0, 0))) :: (IntsA a18_2_00 c18_2_00 y18_2.data) :: (Asn.own b17_18 (.cells #[.int .i64 y17_14.1.kind, .int .i64 y17_14.1.line, .int .i64 y17_14.1.id, .int .i64 y17_14.1.step, .int .i64 y17_14.1.state, .int .i64 y17_14.1.head, .slice a17_14_00 (List.length y17_14.1.data) c17_14_00, .int .i64 y17_14.1.next, .int .i64 y17_14.1.told] 35 (0, 0))) :: Γ) (fun w hw => by rw [← hcs24_7]; exact PtrsX.put (i := v2_12) hr24_5 (Sat.less (.take (.there .here) (.take (.there (.there .here)) (.take .here (.take .here (.take .here (.take .here (.take .here (.take .here (.take .here .refl))))))))) hw)) stable_nil ?_
          have hncs24_7 : List.length e7_7x = List.length cs24_7 := by rw [← hcs24_7, setC_len]
          try rw [hncs24_7]
          refine dp 8 100 (.tuple #[.agg #[.int .i64 y24_7.1.kind, .int .i64 y24_7.1.line, .int .i64 y24_7.1.id, .int .i64 y24_7.1.step, .int .i64 y24_7.1.state, .int .i64 y24_7.1.head, .slice a24_7_00 (List.length y24_7.1.data) c24_7_00, .int .i64 y24_7.1.next, .int .i64 y24_7.1.told], .bool y24_7.2.1]) ?_
          refine dp 9 109 (.agg #[.int .i64 y24_7.1.kind, .int .i64 y24_7.1.line, .int .i64 y24_7.1.id, .int .i64 y24_7.1.step, .int .i64 y24_7.1.state, .int .i64 y24_7.1.head, .slice a24_7_00 (List.length y24_7.1.data) c24_7_00, .int .i64 y24_7.1.next, .int .i64 y24_7.1.told]) ?_
          refine dp 10 110 (.bool y24_7.2.1) ?_
          refine d_do 11 [9, 7, 0, 1, 2, 3, 4, 5, 6, 8] [10] [] (by kernel_rfl) (by kernel_rfl) (by kernel_rfl) (st_store (off := 0) (vs := [.int .i64 y24_7.1.kind, .int .i64 y24_7.1.line, .int .i64 y24_7.1.id, .int .i64 y24_7.1.step, .int .i64 y24_7.1.state, .int .i64 y24_7.1.head, .slice a24_7_00 (List.length y24_7.1.data) c24_7_00, .int .i64 y24_7.1.next, .int .i64 y24_7.1.told]) (c' := #[.int .i64 y24_7.1.kind, .int .i64 y24_7.1.line, .int .i64 y24_7.1.id, .int .i64 y24_7.1.step, .int .i64 y24_7.1.state, .int .i64 y24_7.1.head, .slice a24_7_00 (List.length y24_7.1.data) c24_7_00, .int .i64 y24_7.1.next, .int .i64 y24_7.1.told]) (fun _ => by kernel_rfl) (.there (.there (.there (.there (.there (.there (.there .here))))))) (by kernel_rfl) (by kernel_rfl) (by kernel_rfl)) ?_
          rintro _ _ ⟨rfl, rfl⟩
          refine ⟨stable_nil, ?_⟩
          refine dp 12 14 (.bool y24_7.2.1) ?_
          refine draw_end (by kernel_rfl) ?_
          refine ae [(0, .int .i64 (wr ((1 : Int) + y1_1))), (1, .int .i64 v), (7, .slice e7_7a (List.length cs24_7) e7_7c), (10, .int .i64 v2_10), (11, .int .i64 v2_11), (12, .int .i64 v2_12), (13, .pointer (some ⟨b17_18, 0, none⟩)), (14, .bool y24_7.2.1), (15, .pointer (some ⟨b18_3, 0, none⟩))] ?_
          refine at_then_normal ?_
          refine aq (x := C11 [1,1,1,1,1,1,1,0,1,0,0,1,0,0,1,1,1,1,1,1,0]) (y := C11 [1,1,1,1,1,1,1,0,1,0,0,1,0,0,1,1,1,1,1,1,1]) ?_
          refine ar (id := 25) 4 ?_
          refine sl 111 (.agg #[.int .i64 y24_7.1.kind, .int .i64 y24_7.1.line, .int .i64 y24_7.1.id, .int .i64 y24_7.1.step, .int .i64 y24_7.1.state, .int .i64 y24_7.1.head, .slice a24_7_00 (List.length y24_7.1.data) c24_7_00, .int .i64 y24_7.1.next, .int .i64 y24_7.1.told]) (loadN (off := 0) (vs := [.int .i64 y24_7.1.kind, .int .i64 y24_7.1.line, .int .i64 y24_7.1.id, .int .i64 y24_7.1.step, .int .i64 y24_7.1.state, .int .i64 y24_7.1.head, .slice a24_7_00 (List.length y24_7.1.data) c24_7_00, .int .i64 y24_7.1.next, .int .i64 y24_7.1.told]) 9 (fun _ => by kernel_rfl) (holds_own .here) rfl (by exact ⟨rfl, rfl, rfl, rfl, rfl, rfl, rfl, rfl, rfl, trivial⟩)) ?_
          refine sp 112 (.int .i64 v2_12) ?_
          obtain ⟨y25_2, hy25_2, H⟩ := bindE H
          refine s_call 113 26 #[.agg #[.int .i64 y24_7.1.kind, .int .i64 y24_7.1.line, .int .i64 y24_7.1.id, .int .i64 y24_7.1.step, .int .i64 y24_7.1.state, .int .i64 y24_7.1.head, .slice a24_7_00 (List.length y24_7.1.data) c24_7_00, .int .i64 y24_7.1.next, .int .i64 y24_7.1.told], .int .i64 v2_12, .int .i64 (0)] (by kernel_rfl) (by kernel_rfl) (fun _ => by kernel_rfl) (DAskF_tr a24_7_00 c24_7_00 y24_7.1 v2_12 (0 : Int) (ImmR.reads (k := 1) (.there (.there .here))) y25_2 hy25_2) ?_
          rintro _ _ ⟨a25_2_00, c25_2_00, rfl, rfl⟩
          refine s_do (by kernel_rfl) (by kernel_rfl) (st_store (off := 0) (vs := [.int .i64 y25_2.kind, .int .i64 y25_2.src, .int .i64 y25_2.dst, .int .i64 y25_2.id, .int .i64 y25_2.line, .int .i64 y25_2.ptr, .int .i64 y25_2.state, .bool y25_2.flag, .slice a25_2_00 (List.length y25_2.data) c25_2_00]) (c' := #[.int .i64 y25_2.kind, .int .i64 y25_2.src, .int .i64 y25_2.dst, .int .i64 y25_2.id, .int .i64 y25_2.line, .int .i64 y25_2.ptr, .int .i64 y25_2.state, .bool y25_2.flag, .slice a25_2_00 (List.length y25_2.data) c25_2_00]) (fun _ => by kernel_rfl) (.there (.there (.there (.there (.there (.there (.there .here))))))) (by kernel_rfl) (by kernel_rfl) (by kernel_rfl)) ?_
          rintro _ _ ⟨rfl, rfl⟩
          refine ops_end ?_
          refine ae [(0, .int .i64 (wr ((1 : Int) + y1_1))), (1, .int .i64 v), (7, .slice e7_7a (List.length cs24_7) e7_7c), (10, .int .i64 v2_10), (11, .int .i64 v2_11), (12, .int .i64 v2_12), (14, .bool y24_7.2.1), (15, .pointer (some ⟨b18_3, 0, none⟩))] ?_
          refine at_then_normal ?_
          refine aq (x := C11 [1,1,1,1,1,1,1,0,1,0,0,1,0,0,1,1,1,1,1,1,1,0]) (y := C11 [1,1,1,1,1,1,1,0,1,0,0,1,0,0,1,1,1,1,1,1,1,1]) ?_
          refine at_seq_join (x := C11 [1,1,1,1,1,1,1,0,1,0,0,1,0,0,1,1,1,1,1,1,1,0,0]) (y := C11 [1,1,1,1,1,1,1,0,1,0,0,1,0,0,1,1,1,1,1,1,1,0,1]) (fun ff ΔΔ => ∃ (e8_138 : Bool), attachChainS_j8 y25_2 v2_12 (attachChainS_l2 y1_1 (attachChainS_k2 v y1_1) fuel2) cs24_7 v2_11 e8_138 = some y ∧ ff = [(0, .int .i64 (wr ((1 : Int) + y1_1))), (1, .int .i64 v), (7, .slice e7_7a (List.length cs24_7) e7_7c), (11, .int .i64 v2_11), (12, .int .i64 v2_12), (15, .pointer (some ⟨b18_3, 0, none⟩)), (138, .bool e8_138)] ∧ (Asn.own b18_3 (.cells #[.int .i64 y25_2.kind, .int .i64 y25_2.src, .int .i64 y25_2.dst, .int .i64 y25_2.id, .int .i64 y25_2.line, .int .i64 y25_2.ptr, .int .i64 y25_2.state, .bool y25_2.flag, .slice a25_2_00 (List.length y25_2.data) c25_2_00] 40 (0, 0))) :: (IntsA a25_2_00 c25_2_00 y25_2.data) :: (PtrsX e7_7r e7_7a e7_7c cs24_7) :: Γ = ΔΔ) (by kernel_rfl) ?_ ?_
          ·rintro _ _ ⟨e8_138, H, rfl, rfl⟩
           rw [attachChainS_j8] at H
           rcases Bool.eq_false_or_eq_true (e8_138) with h5 | h5
           ·replace H := bifT H h5
            refine at_true (t := e8_138) (x := C11 [1,1,1,1,1,1,1,0,1,0,0,1,0,0,1,1,1,1,1,1,1,0,1,0]) (y := C11 [1,1,1,1,1,1,1,0,1,0,0,1,0,0,1,1,1,1,1,1,1,0,1,1]) (o := .tmp 138) (by kernel_rfl) (by kernel_rfl) (by kernel_rfl) h5 ?_
            refine aq (x := C11 [1,1,1,1,1,1,1,0,1,0,0,1,0,0,1,1,1,1,1,1,1,0,1,0,0]) (y := C11 [1,1,1,1,1,1,1,0,1,0,0,1,0,0,1,1,1,1,1,1,1,0,1,0,1]) ?_
            refine ar (id := 27) 1 ?_
            refine sp 6 (.bool false) ?_
            refine ops_end ?_
            refine ae [(6, .bool false)] ?_
            refine at_then_normal ?_
            refine at_ret (by kernel_rfl) ?_
            refine at_then_ret ?_
            refine at_in_ret ?_
            refine at_then_ret ?_
            refine at_then_ret ?_
            refine at_in_ret ?_
            refine at_then_ret ?_
            obtain rfl := someE H
            refine at_backR [.bool false] (Γ) (rs := [.tmp 6]) (by kernel_rfl) (.cons (.tmp (by kernel_rfl)) .nil) (fun w hw => (Sat.less (.drop .here (.drop .here (.drop .here .refl))) hw)) ?_
            exact ⟨rfl, rfl⟩
           ·replace H := bifF H h5
            refine at_false (t := e8_138) (x := C11 [1,1,1,1,1,1,1,0,1,0,0,1,0,0,1,1,1,1,1,1,1,0,1,0]) (y := C11 [1,1,1,1,1,1,1,0,1,0,0,1,0,0,1,1,1,1,1,1,1,0,1,1]) (o := .tmp 138) (by kernel_rfl) (by kernel_rfl) (by kernel_rfl) h5 ?_
            refine at_skip (by kernel_rfl) ?_
            refine at_then_normal ?_
            refine at_seq_join (x := C11 [1,1,1,1,1,1,1,0,1,0,0,1,0,0,1,1,1,1,1,1,1,1,0]) (y := C11 [1,1,1,1,1,1,1,0,1,0,0,1,0,0,1,1,1,1,1,1,1,1,1]) (fun ff ΔΔ => ∃ (e9_11 : Int), attachChainS_j9 v2_12 (attachChainS_l2 y1_1 (attachChainS_k2 v y1_1) fuel2) cs24_7 e9_11 = some y ∧ ff = [(0, .int .i64 (wr ((1 : Int) + y1_1))), (1, .int .i64 v), (7, .slice e7_7a (List.length cs24_7) e7_7c), (11, .int .i64 e9_11), (12, .int .i64 v2_12)] ∧ (PtrsX e7_7r e7_7a e7_7c cs24_7) :: Γ = ΔΔ) (by kernel_rfl) ?_ ?_
            ·rintro _ _ ⟨e9_11, H, rfl, rfl⟩
             rw [attachChainS_j9] at H
             refine ar (id := 32) 1 ?_
             refine sp 10 (.int .i64 (1)) ?_
             refine ops_end ?_
             refine ae [(0, .int .i64 (wr ((1 : Int) + y1_1))), (1, .int .i64 v), (7, .slice e7_7a (List.length cs24_7) e7_7c), (10, .int .i64 (1)), (11, .int .i64 e9_11), (12, .int .i64 v2_12)] ?_
             refine at_in_normal ?_
             refine at_round_normal ?_
             exact at_join_mk [(0, .int .i64 (wr ((1 : Int) + y1_1))), (1, .int .i64 v), (7, .slice e7_7a (List.length cs24_7) e7_7c), (10, .int .i64 1), (11, .int .i64 e9_11), (12, .int .i64 v2_12)] ((PtrsX e7_7r e7_7a e7_7c cs24_7) :: Γ) ⟨by kernel_rfl, by kernel_rfl, by kernel_rfl, by kernel_rfl, by kernel_rfl, by kernel_rfl, trivial⟩ (fun w hw => (Sat.less (.take .here .refl) hw)) ⟨cs24_7, 1, e9_11, e7_7a, e7_7c, e7_7r, H, rfl, rfl⟩
            ·refine aq (x := C11 [1,1,1,1,1,1,1,0,1,0,0,1,0,0,1,1,1,1,1,1,1,1,0,0]) (y := C11 [1,1,1,1,1,1,1,0,1,0,0,1,0,0,1,1,1,1,1,1,1,1,0,1]) ?_
             refine ar (id := 28) 2 ?_
             refine sp 139 (.pointer (some ⟨b18_3, 7, none⟩)) ?_
             refine sl 140 (.bool y25_2.flag) (load1 (off := 7) (fun _ => by kernel_rfl) (holds_own .here) (by kernel_rfl)) ?_
             refine ops_end ?_
             refine ae [(0, .int .i64 (wr ((1 : Int) + y1_1))), (1, .int .i64 v), (7, .slice e7_7a (List.length cs24_7) e7_7c), (11, .int .i64 v2_11), (12, .int .i64 v2_12), (15, .pointer (some ⟨b18_3, 0, none⟩)), (140, .bool y25_2.flag)] ?_
             refine at_then_normal ?_
             rcases Bool.eq_false_or_eq_true (y25_2.flag) with h6 | h6
             ·replace H := bifT H h6
              refine at_true (t := y25_2.flag) (x := C11 [1,1,1,1,1,1,1,0,1,0,0,1,0,0,1,1,1,1,1,1,1,1,0,1,0]) (y := C11 [1,1,1,1,1,1,1,0,1,0,0,1,0,0,1,1,1,1,1,1,1,1,0,1,1]) (o := .tmp 140) (by kernel_rfl) (by kernel_rfl) (by kernel_rfl) h6 ?_
              refine aq (x := C11 [1,1,1,1,1,1,1,0,1,0,0,1,0,0,1,1,1,1,1,1,1,1,0,1,0,0]) (y := C11 [1,1,1,1,1,1,1,0,1,0,0,1,0,0,1,1,1,1,1,1,1,1,0,1,0,1]) ?_
              refine aq (x := C11 [1,1,1,1,1,1,1,0,1,0,0,1,0,0,1,1,1,1,1,1,1,1,0,1,0,0,0]) (y := C11 [1,1,1,1,1,1,1,0,1,0,0,1,0,0,1,1,1,1,1,1,1,1,0,1,0,0,1]) ?_
              refine ar (id := 29) 4 ?_
              refine sp 141 (.pointer (some ⟨b18_3, 8, none⟩)) ?_
              refine sl 142 (.slice a25_2_00 (List.length y25_2.data) c25_2_00) (load1 (off := 8) (fun _ => by kernel_rfl) (holds_own .here) (by kernel_rfl)) ?_
              refine sp 143 (.int .i64 (((List.length y25_2.data) : Nat) : Int)) ?_
              refine sp 144 (.bool (!(decide ((((List.length y25_2.data) : Nat) : Int) = (1 : Int))))) ?_
              refine ops_end ?_
              refine ae [(0, .int .i64 (wr ((1 : Int) + y1_1))), (1, .int .i64 v), (7, .slice e7_7a (List.length cs24_7) e7_7c), (12, .int .i64 v2_12), (15, .pointer (some ⟨b18_3, 0, none⟩)), (144, .bool (!(decide ((((List.length y25_2.data) : Nat) : Int) = (1 : Int)))))] ?_
              refine at_then_normal ?_
              rcases Bool.eq_false_or_eq_true (!(decide ((((List.length y25_2.data) : Nat) : Int) = (1 : Int)))) with h7 | h7
              ·replace H := bifT H h7
               refine at_true (t := !(decide ((((List.length y25_2.data) : Nat) : Int) = (1 : Int)))) (x := C11 [1,1,1,1,1,1,1,0,1,0,0,1,0,0,1,1,1,1,1,1,1,1,0,1,0,0,1,0]) (y := C11 [1,1,1,1,1,1,1,0,1,0,0,1,0,0,1,1,1,1,1,1,1,1,0,1,0,0,1,1]) (o := .tmp 144) (by kernel_rfl) (by kernel_rfl) (by kernel_rfl) h7 ?_
               refine aq (x := C11 [1,1,1,1,1,1,1,0,1,0,0,1,0,0,1,1,1,1,1,1,1,1,0,1,0,0,1,0,0]) (y := C11 [1,1,1,1,1,1,1,0,1,0,0,1,0,0,1,1,1,1,1,1,1,1,0,1,0,0,1,0,1]) ?_
               refine ar (id := 30) 1 ?_
               refine sp 6 (.bool false) ?_
               refine ops_end ?_
               refine ae [(6, .bool false)] ?_
               refine at_then_normal ?_
               refine at_ret (by kernel_rfl) ?_
               refine at_then_ret ?_
               refine at_then_ret ?_
               refine at_in_ret ?_
               refine at_then_ret ?_
               refine at_then_ret ?_
               refine at_in_ret ?_
               refine at_then_ret ?_
               obtain rfl := someE H
               refine at_backR [.bool false] (Γ) (rs := [.tmp 6]) (by kernel_rfl) (.cons (.tmp (by kernel_rfl)) .nil) (fun w hw => (Sat.less (.drop .here (.drop .here (.drop .here .refl))) hw)) ?_
               exact ⟨rfl, rfl⟩
              ·replace H := bifF H h7
               refine at_false (t := !(decide ((((List.length y25_2.data) : Nat) : Int) = (1 : Int)))) (x := C11 [1,1,1,1,1,1,1,0,1,0,0,1,0,0,1,1,1,1,1,1,1,1,0,1,0,0,1,0]) (y := C11 [1,1,1,1,1,1,1,0,1,0,0,1,0,0,1,1,1,1,1,1,1,1,0,1,0,0,1,1]) (o := .tmp 144) (by kernel_rfl) (by kernel_rfl) (by kernel_rfl) h7 ?_
               refine at_skip (by kernel_rfl) ?_
               refine at_then_normal ?_
               refine ar (id := 31) 5 ?_
               refine sp 145 (.pointer (some ⟨b18_3, 8, none⟩)) ?_
               refine sl 146 (.slice a25_2_00 (List.length y25_2.data) c25_2_00) (load1 (off := 8) (fun _ => by kernel_rfl) (holds_own .here) (by kernel_rfl)) ?_
               obtain ⟨hc31_2_0, H⟩ := chkE H
               refine rows_at (.there .here) (by have := hc31_2_0; simp only [ints_length]; omega) ?_
               intro bb3 oo3 ha3
               refine sr 147 (.pointer (some ⟨bb3, oo3 + (((0 : Int)).toNat * 1 + 0), none⟩)) (index_at (t := 30) (sz := 1) (E := 3) (a := a25_2_00) (m := (List.length y25_2.data)) (c := c25_2_00) (b := bb3) (off := oo3) (i := ((0 : Int)).toNat) (tinfo 3) (fun _ => by kernel_rfl) (by kernel_rfl) (by kernel_rfl) (by kernel_rfl) ha3 (idx_cast hc31_2_0) (idx_nat hc31_2_0) rfl) ?_
               refine sl 148 (.int .i64 (nth y25_2.data (0 : Int))) (load1_at (off := oo3 + (((0 : Int)).toNat * 1 + 0)) (v := .int .i64 (nth y25_2.data (0 : Int))) (fun _ => by kernel_rfl) rfl (reads_cell (k := 1) (RowsA.reads (k := 1) (.there .here)) (ints_rows _) ha3 (nth_row hc31_2_0) (show [(.int .i64 (nth y25_2.data (0 : Int)) : Value)][0]? = some _ from rfl))) ?_
               refine sp 11 (.int .i64 (nth y25_2.data (0 : Int))) ?_
               refine ops_end ?_
               refine ae [(0, .int .i64 (wr ((1 : Int) + y1_1))), (1, .int .i64 v), (7, .slice e7_7a (List.length cs24_7) e7_7c), (11, .int .i64 (nth y25_2.data (0 : Int))), (12, .int .i64 v2_12)] ?_
               refine at_round_normal ?_
               exact at_join_mk [(0, .int .i64 (wr ((1 : Int) + y1_1))), (1, .int .i64 v), (7, .slice e7_7a (List.length cs24_7) e7_7c), (11, .int .i64 (nth y25_2.data (0 : Int))), (12, .int .i64 v2_12)] ((PtrsX e7_7r e7_7a e7_7c cs24_7) :: Γ) ⟨by kernel_rfl, by kernel_rfl, by kernel_rfl, by kernel_rfl, by kernel_rfl, trivial⟩ (fun w hw => (Sat.less (.take (.there (.there .here)) (.drop .here (.drop .here .refl))) hw)) ⟨nth y25_2.data (0 : Int), H, rfl, rfl⟩
             ·replace H := bifF H h6
              refine at_false (t := y25_2.flag) (x := C11 [1,1,1,1,1,1,1,0,1,0,0,1,0,0,1,1,1,1,1,1,1,1,0,1,0]) (y := C11 [1,1,1,1,1,1,1,0,1,0,0,1,0,0,1,1,1,1,1,1,1,1,0,1,1]) (o := .tmp 140) (by kernel_rfl) (by kernel_rfl) (by kernel_rfl) h6 ?_
              refine at_skip (by kernel_rfl) ?_
              refine at_round_normal ?_
              exact at_join_mk [(0, .int .i64 (wr ((1 : Int) + y1_1))), (1, .int .i64 v), (7, .slice e7_7a (List.length cs24_7) e7_7c), (11, .int .i64 v2_11), (12, .int .i64 v2_12)] ((PtrsX e7_7r e7_7a e7_7c cs24_7) :: Γ) ⟨by kernel_rfl, by kernel_rfl, by kernel_rfl, by kernel_rfl, by kernel_rfl, trivial⟩ (fun w hw => (Sat.less (.take (.there (.there .here)) (.drop .here (.drop .here .refl))) hw)) ⟨v2_11, H, rfl, rfl⟩
          ·refine ar (id := 26) 25 ?_
           refine sp 114 (.bool y24_7.2.1) ?_
           refine sp 115 (.bool !y24_7.2.1) ?_
           rcases Bool.eq_false_or_eq_true (!y24_7.2.1) with h8 | h8
           ·replace H := bifT H h8
            refine sr 116 (.bool true) (run_eq (v := .bool (!y24_7.2.1)) (fun _ => by kernel_rfl) (congrArg Value.bool h8)) ?_
            refine sa 117 ?_
            refine sa 118 ?_
            refine sa 119 ?_
            refine sp 120 (.bool true) ?_
            refine sp 121 (.bool true) ?_
            refine sa 122 ?_
            refine sa 123 ?_
            refine sa 124 ?_
            refine sp 125 (.bool true) ?_
            refine sp 126 (.bool true) ?_
            refine sa 127 ?_
            refine sa 128 ?_
            refine sa 129 ?_
            refine sa 130 ?_
            refine sp 131 (.bool true) ?_
            refine sp 132 (.bool true) ?_
            refine sa 133 ?_
            refine sa 134 ?_
            refine sa 135 ?_
            refine sa 136 ?_
            refine sa 137 ?_
            refine sp 138 (.bool true) ?_
            refine ops_end ?_
            refine ae [(0, .int .i64 (wr ((1 : Int) + y1_1))), (1, .int .i64 v), (7, .slice e7_7a (List.length cs24_7) e7_7c), (11, .int .i64 v2_11), (12, .int .i64 v2_12), (15, .pointer (some ⟨b18_3, 0, none⟩)), (138, .bool true)] ?_
            refine at_round_normal ?_
            exact at_join_mk [(0, .int .i64 (wr ((1 : Int) + y1_1))), (1, .int .i64 v), (7, .slice e7_7a (List.length cs24_7) e7_7c), (11, .int .i64 v2_11), (12, .int .i64 v2_12), (15, .pointer (some ⟨b18_3, 0, none⟩)), (138, .bool true)] ((Asn.own b18_3 (.cells #[.int .i64 y25_2.kind, .int .i64 y25_2.src, .int .i64 y25_2.dst, .int .i64 y25_2.id, .int .i64 y25_2.line, .int .i64 y25_2.ptr, .int .i64 y25_2.state, .bool y25_2.flag, .slice a25_2_00 (List.length y25_2.data) c25_2_00] 40 (0, 0))) :: (IntsA a25_2_00 c25_2_00 y25_2.data) :: (PtrsX e7_7r e7_7a e7_7c cs24_7) :: Γ) ⟨by kernel_rfl, by kernel_rfl, by kernel_rfl, by kernel_rfl, by kernel_rfl, by kernel_rfl, by kernel_rfl, trivial⟩ (fun w hw => (Sat.less (.take .here (.take .here (.take (.there .here) (.drop .here (.drop .here (.drop .here (.drop .here (.drop .here (.drop .here .refl))))))))) hw)) ⟨true, H, rfl, rfl⟩
           ·replace H := bifF H h8
            refine sr 116 (.bool false) (run_eq (v := .bool (!y24_7.2.1)) (fun _ => by kernel_rfl) (congrArg Value.bool h8)) ?_
            refine sp 117 (.pointer (some ⟨b18_3, 0, none⟩)) ?_
            refine sl 118 (.int .i64 y25_2.kind) (load1 (off := 0) (fun _ => by kernel_rfl) (holds_own .here) (by kernel_rfl)) ?_
            refine sp 119 (.bool (!(decide (y25_2.kind = (2 : Int))))) ?_
            refine sp 120 (.bool (!(decide (y25_2.kind = (2 : Int))))) ?_
            rcases Bool.eq_false_or_eq_true (!(decide (y25_2.kind = (2 : Int)))) with h9 | h9
            ·replace H := bifT H h9
             refine sr 121 (.bool true) (run_eq (v := .bool (!(decide (y25_2.kind = (2 : Int))))) (fun _ => by kernel_rfl) (congrArg Value.bool h9)) ?_
             refine sa 122 ?_
             refine sa 123 ?_
             refine sa 124 ?_
             refine sp 125 (.bool true) ?_
             refine sp 126 (.bool true) ?_
             refine sa 127 ?_
             refine sa 128 ?_
             refine sa 129 ?_
             refine sa 130 ?_
             refine sp 131 (.bool true) ?_
             refine sp 132 (.bool true) ?_
             refine sa 133 ?_
             refine sa 134 ?_
             refine sa 135 ?_
             refine sa 136 ?_
             refine sa 137 ?_
             refine sp 138 (.bool true) ?_
             refine ops_end ?_
             refine ae [(0, .int .i64 (wr ((1 : Int) + y1_1))), (1, .int .i64 v), (7, .slice e7_7a (List.length cs24_7) e7_7c), (11, .int .i64 v2_11), (12, .int .i64 v2_12), (15, .pointer (some ⟨b18_3, 0, none⟩)), (138, .bool true)] ?_
             refine at_round_normal ?_
             exact at_join_mk [(0, .int .i64 (wr ((1 : Int) + y1_1))), (1, .int .i64 v), (7, .slice e7_7a (List.length cs24_7) e7_7c), (11, .int .i64 v2_11), (12, .int .i64 v2_12), (15, .pointer (some ⟨b18_3, 0, none⟩)), (138, .bool true)] ((Asn.own b18_3 (.cells #[.int .i64 y25_2.kind, .int .i64 y25_2.src, .int .i64 y25_2.dst, .int .i64 y25_2.id, .int .i64 y25_2.line, .int .i64 y25_2.ptr, .int .i64 y25_2.state, .bool y25_2.flag, .slice a25_2_00 (List.length y25_2.data) c25_2_00] 40 (0, 0))) :: (IntsA a25_2_00 c25_2_00 y25_2.data) :: (PtrsX e7_7r e7_7a e7_7c cs24_7) :: Γ) ⟨by kernel_rfl, by kernel_rfl, by kernel_rfl, by kernel_rfl, by kernel_rfl, by kernel_rfl, by kernel_rfl, trivial⟩ (fun w hw => (Sat.less (.take .here (.take .here (.take (.there .here) (.drop .here (.drop .here (.drop .here (.drop .here (.drop .here (.drop .here .refl))))))))) hw)) ⟨true, H, rfl, rfl⟩
            ·replace H := bifF H h9
             refine sr 121 (.bool false) (run_eq (v := .bool (!(decide (y25_2.kind = (2 : Int))))) (fun _ => by kernel_rfl) (congrArg Value.bool h9)) ?_
             refine sp 122 (.pointer (some ⟨b18_3, 6, none⟩)) ?_
             refine sl 123 (.int .i64 y25_2.state) (load1 (off := 6) (fun _ => by kernel_rfl) (holds_own .here) (by kernel_rfl)) ?_
             refine sp 124 (.bool (!(decide (y25_2.state = (1 : Int))))) ?_
             refine sp 125 (.bool (!(decide (y25_2.state = (1 : Int))))) ?_
             rcases Bool.eq_false_or_eq_true (!(decide (y25_2.state = (1 : Int)))) with h10 | h10
             ·replace H := bifT H h10
              refine sr 126 (.bool true) (run_eq (v := .bool (!(decide (y25_2.state = (1 : Int))))) (fun _ => by kernel_rfl) (congrArg Value.bool h10)) ?_
              refine sa 127 ?_
              refine sa 128 ?_
              refine sa 129 ?_
              refine sa 130 ?_
              refine sp 131 (.bool true) ?_
              refine sp 132 (.bool true) ?_
              refine sa 133 ?_
              refine sa 134 ?_
              refine sa 135 ?_
              refine sa 136 ?_
              refine sa 137 ?_
              refine sp 138 (.bool true) ?_
              refine ops_end ?_
              refine ae [(0, .int .i64 (wr ((1 : Int) + y1_1))), (1, .int .i64 v), (7, .slice e7_7a (List.length cs24_7) e7_7c), (11, .int .i64 v2_11), (12, .int .i64 v2_12), (15, .pointer (some ⟨b18_3, 0, none⟩)), (138, .bool true)] ?_
              refine at_round_normal ?_
              exact at_join_mk [(0, .int .i64 (wr ((1 : Int) + y1_1))), (1, .int .i64 v), (7, .slice e7_7a (List.length cs24_7) e7_7c), (11, .int .i64 v2_11), (12, .int .i64 v2_12), (15, .pointer (some ⟨b18_3, 0, none⟩)), (138, .bool true)] ((Asn.own b18_3 (.cells #[.int .i64 y25_2.kind, .int .i64 y25_2.src, .int .i64 y25_2.dst, .int .i64 y25_2.id, .int .i64 y25_2.line, .int .i64 y25_2.ptr, .int .i64 y25_2.state, .bool y25_2.flag, .slice a25_2_00 (List.length y25_2.data) c25_2_00] 40 (0, 0))) :: (IntsA a25_2_00 c25_2_00 y25_2.data) :: (PtrsX e7_7r e7_7a e7_7c cs24_7) :: Γ) ⟨by kernel_rfl, by kernel_rfl, by kernel_rfl, by kernel_rfl, by kernel_rfl, by kernel_rfl, by kernel_rfl, trivial⟩ (fun w hw => (Sat.less (.take .here (.take .here (.take (.there .here) (.drop .here (.drop .here (.drop .here (.drop .here (.drop .here (.drop .here .refl))))))))) hw)) ⟨true, H, rfl, rfl⟩
             ·replace H := bifF H h10
              refine sr 126 (.bool false) (run_eq (v := .bool (!(decide (y25_2.state = (1 : Int))))) (fun _ => by kernel_rfl) (congrArg Value.bool h10)) ?_
              refine sp 127 (.pointer (some ⟨b18_3, 5, none⟩)) ?_
              refine sl 128 (.int .i64 y25_2.ptr) (load1 (off := 5) (fun _ => by kernel_rfl) (holds_own .here) (by kernel_rfl)) ?_
              refine sp 129 (.int .i64 v2_12) ?_
              refine sp 130 (.bool (!(decide (y25_2.ptr = v2_12)))) ?_
              refine sp 131 (.bool (!(decide (y25_2.ptr = v2_12)))) ?_
              rcases Bool.eq_false_or_eq_true (!(decide (y25_2.ptr = v2_12))) with h11 | h11
              ·replace H := bifT H h11
               refine sr 132 (.bool true) (run_eq (v := .bool (!(decide (y25_2.ptr = v2_12)))) (fun _ => by kernel_rfl) (congrArg Value.bool h11)) ?_
               refine sa 133 ?_
               refine sa 134 ?_
               refine sa 135 ?_
               refine sa 136 ?_
               refine sa 137 ?_
               refine sp 138 (.bool true) ?_
               refine ops_end ?_
               refine ae [(0, .int .i64 (wr ((1 : Int) + y1_1))), (1, .int .i64 v), (7, .slice e7_7a (List.length cs24_7) e7_7c), (11, .int .i64 v2_11), (12, .int .i64 v2_12), (15, .pointer (some ⟨b18_3, 0, none⟩)), (138, .bool true)] ?_
               refine at_round_normal ?_
               exact at_join_mk [(0, .int .i64 (wr ((1 : Int) + y1_1))), (1, .int .i64 v), (7, .slice e7_7a (List.length cs24_7) e7_7c), (11, .int .i64 v2_11), (12, .int .i64 v2_12), (15, .pointer (some ⟨b18_3, 0, none⟩)), (138, .bool true)] ((Asn.own b18_3 (.cells #[.int .i64 y25_2.kind, .int .i64 y25_2.src, .int .i64 y25_2.dst, .int .i64 y25_2.id, .int .i64 y25_2.line, .int .i64 y25_2.ptr, .int .i64 y25_2.state, .bool y25_2.flag, .slice a25_2_00 (List.length y25_2.data) c25_2_00] 40 (0, 0))) :: (IntsA a25_2_00 c25_2_00 y25_2.data) :: (PtrsX e7_7r e7_7a e7_7c cs24_7) :: Γ) ⟨by kernel_rfl, by kernel_rfl, by kernel_rfl, by kernel_rfl, by kernel_rfl, by kernel_rfl, by kernel_rfl, trivial⟩ (fun w hw => (Sat.less (.take .here (.take .here (.take (.there .here) (.drop .here (.drop .here (.drop .here (.drop .here (.drop .here (.drop .here .refl))))))))) hw)) ⟨true, H, rfl, rfl⟩
              ·replace H := bifF H h11
               refine sr 132 (.bool false) (run_eq (v := .bool (!(decide (y25_2.ptr = v2_12)))) (fun _ => by kernel_rfl) (congrArg Value.bool h11)) ?_
               refine sp 133 (.pointer (some ⟨b18_3, 7, none⟩)) ?_
               refine sl 134 (.bool y25_2.flag) (load1 (off := 7) (fun _ => by kernel_rfl) (holds_own .here) (by kernel_rfl)) ?_
               refine sp 135 (.int .i64 v2_10) ?_
               refine sp 136 (.bool (decide (v2_10 = (2 : Int)))) ?_
               refine sp 137 (.bool (!(y25_2.flag == (decide (v2_10 = (2 : Int)))))) ?_
               refine sp 138 (.bool (!(y25_2.flag == (decide (v2_10 = (2 : Int)))))) ?_
               refine ops_end ?_
               refine ae [(0, .int .i64 (wr ((1 : Int) + y1_1))), (1, .int .i64 v), (7, .slice e7_7a (List.length cs24_7) e7_7c), (11, .int .i64 v2_11), (12, .int .i64 v2_12), (15, .pointer (some ⟨b18_3, 0, none⟩)), (138, .bool (!(y25_2.flag == (decide (v2_10 = (2 : Int))))))] ?_
               refine at_round_normal ?_
               exact at_join_mk [(0, .int .i64 (wr ((1 : Int) + y1_1))), (1, .int .i64 v), (7, .slice e7_7a (List.length cs24_7) e7_7c), (11, .int .i64 v2_11), (12, .int .i64 v2_12), (15, .pointer (some ⟨b18_3, 0, none⟩)), (138, .bool (!(y25_2.flag == (decide (v2_10 = (2 : Int))))))] ((Asn.own b18_3 (.cells #[.int .i64 y25_2.kind, .int .i64 y25_2.src, .int .i64 y25_2.dst, .int .i64 y25_2.id, .int .i64 y25_2.line, .int .i64 y25_2.ptr, .int .i64 y25_2.state, .bool y25_2.flag, .slice a25_2_00 (List.length y25_2.data) c25_2_00] 40 (0, 0))) :: (IntsA a25_2_00 c25_2_00 y25_2.data) :: (PtrsX e7_7r e7_7a e7_7c cs24_7) :: Γ) ⟨by kernel_rfl, by kernel_rfl, by kernel_rfl, by kernel_rfl, by kernel_rfl, by kernel_rfl, by kernel_rfl, trivial⟩ (fun w hw => (Sat.less (.take .here (.take .here (.take (.there .here) (.drop .here (.drop .here (.drop .here (.drop .here (.drop .here (.drop .here .refl))))))))) hw)) ⟨!(y25_2.flag == (decide (v2_10 = (2 : Int)))), H, rfl, rfl⟩
        ·refine at_region_draw (id := 21) (by kernel_rfl) (by kernel_rfl) ?_
         refine dp 0 89 (.slice e5_7a (List.length e5_7x) e5_7c) ?_
         refine dp 1 90 (.int .i64 v2_12) ?_
         obtain ⟨hc21_2_0, H⟩ := chkE H
         refine d_pure 2 91 (.int .i64 (v2_12 - (1 : Int))) (by kernel_rfl) (by kernel_rfl) (by kernel_rfl) (run_eq (v := .int .i64 (IntKind.i64.wrap (v2_12 - (1 : Int)))) (fun _ => by kernel_rfl) (by rw [inR.wrap hc21_2_0])) ?_
         obtain ⟨hc21_3_0, H⟩ := chkE H
         refine ptr_at_draw (.there (.there .here)) (by have := hc21_3_0; omega) ?_
         intro bb4 oo4 ha4
         refine d_pure 3 92 (.pointer (some ⟨bb4, oo4 + ((((v2_12 - (1 : Int))).toNat) * 1 + 0), none⟩)) (by kernel_rfl) (by kernel_rfl) (by kernel_rfl) (index_at (t := 60) (sz := 1) (E := 22) (a := e5_7a) (m := (List.length e5_7x)) (c := e5_7c) (b := bb4) (off := oo4) (i := ((v2_12 - (1 : Int))).toNat) (tinfo 22) (fun _ => by kernel_rfl) (by kernel_rfl) (by kernel_rfl) (by kernel_rfl) ha4 (idx_cast hc21_3_0) (idx_nat hc21_3_0) rfl) ?_
         refine ptr_get_draw (.there (.there .here)) hc21_3_0 ?_
         intro pb21_4 hr21_4
         refine dl 4 93 (.pointer (some ⟨pb21_4, 0, none⟩)) (load1_at (off := oo4 + (((v2_12 - (1 : Int))).toNat * 1 + 0)) (v := .pointer (some ⟨pb21_4, 0, none⟩)) (fun _ => by kernel_rfl) rfl (ptr_cell (i := (v2_12 - (1 : Int))) (.there (.there .here)) ha4 hr21_4)) ?_
         refine dl 5 94 (.agg #[.int .i64 y18_2.kind, .int .i64 y18_2.src, .int .i64 y18_2.dst, .int .i64 y18_2.id, .int .i64 y18_2.line, .int .i64 y18_2.ptr, .int .i64 y18_2.state, .bool y18_2.flag, .slice a18_2_00 (List.length y18_2.data) c18_2_00]) (loadN (off := 0) (vs := [.int .i64 y18_2.kind, .int .i64 y18_2.src, .int .i64 y18_2.dst, .int .i64 y18_2.id, .int .i64 y18_2.line, .int .i64 y18_2.ptr, .int .i64 y18_2.state, .bool y18_2.flag, .slice a18_2_00 (List.length y18_2.data) c18_2_00]) 9 (fun _ => by kernel_rfl) (holds_own .here) rfl (by exact ⟨rfl, rfl, rfl, rfl, rfl, rfl, rfl, rfl, rfl, trivial⟩)) ?_
         refine draw_turns 6 [10] (by kernel_rfl) (turns_cons ?_ (turns_cons ?_ turns_nil))
         ·obtain ⟨y21_6, hy21_6, H⟩ := bindE H
          refine t_call 6 95 [4, 5, 3, 0, 2, 1] [] [] 33 #[.pointer (some ⟨pb21_4, 0, none⟩), .agg #[.int .i64 y18_2.kind, .int .i64 y18_2.src, .int .i64 y18_2.dst, .int .i64 y18_2.id, .int .i64 y18_2.line, .int .i64 y18_2.ptr, .int .i64 y18_2.state, .bool y18_2.flag, .slice a18_2_00 (List.length y18_2.data) c18_2_00]] (by kernel_rfl) (by kernel_rfl) (by kernel_rfl) (fun _ => by kernel_rfl) (Tr.conv (Γ' := (CacheA pb21_4 (nthC e5_7x (v2_12 - (1 : Int)))) :: (HoleX e5_7r e5_7a e5_7c e5_7x (v2_12 - (1 : Int))) :: (Asn.own b18_3 (.cells #[.int .i64 y18_2.kind, .int .i64 y18_2.src, .int .i64 y18_2.dst, .int .i64 y18_2.id, .int .i64 y18_2.line, .int .i64 y18_2.ptr, .int .i64 y18_2.state, .bool y18_2.flag, .slice a18_2_00 (List.length y18_2.data) c18_2_00] 40 (0, 0))) :: (IntsA a18_2_00 c18_2_00 y18_2.data) :: (Asn.own b17_18 (.cells #[.int .i64 y17_14.1.kind, .int .i64 y17_14.1.line, .int .i64 y17_14.1.id, .int .i64 y17_14.1.step, .int .i64 y17_14.1.state, .int .i64 y17_14.1.head, .slice a17_14_00 (List.length y17_14.1.data) c17_14_00, .int .i64 y17_14.1.next, .int .i64 y17_14.1.told] 35 (0, 0))) :: (ImmI a17_14_00 y17_14.1.data) :: Γ) (fun w hw => PtrsX.take (i := (v2_12 - (1 : Int))) (.there (.there .here)) hr21_4 hw) (SHandleF_tr pb21_4 (nthC e5_7x (v2_12 - (1 : Int))) a18_2_00 c18_2_00 y18_2 (RowsA.reads (k := 1) (.there (.there .here))) y21_6 hy21_6)) ?_
          rintro _ _ ⟨a21_6_00, c21_6_00, rfl, rfl⟩
          refine ⟨stable_nil, ?_⟩
          obtain ⟨cs21_6, hcs21_6, H⟩ := letE H
          refine Draw.convS (Γ' := (PtrsX e5_7r e5_7a e5_7c cs21_6) :: (IntsA a21_6_00 c21_6_00 y21_6.1.data) :: (Asn.own b18_3 (.cells #[.int .i64 y18_2.kind, .int .i64 y18_2.src, .int .i64 y18_2.dst, .int .i64 y18_2.id, .int .i64 y18_2.line, .int .i64 y18_2.ptr, .int .i64 y18_2.state, .bool y18_2.flag, .slice a18_2_00 (List.length y18_2.data) c18_2_00] 40 (0, 0))) :: (IntsA a18_2_00 c18_2_00 y18_2.data) :: (Asn.own b17_18 (.cells #[.int .i64 y17_14.1.kind, .int .i64 y17_14.1.line, .int .i64 y17_14.1.id, .int .i64 y17_14.1.step, .int .i64 y17_14.1.state, .int .i64 y17_14.1.head, .slice a17_14_00 (List.length y17_14.1.data) c17_14_00, .int .i64 y17_14.1.next, .int .i64 y17_14.1.told] 35 (0, 0))) :: (ImmI a17_14_00 y17_14.1.data) :: Γ) (fun w hw => by rw [← hcs21_6]; exact PtrsX.put (i := (v2_12 - (1 : Int))) hr21_4 (Sat.less (.take (.there .here) (.take (.there .here) (.take .here (.take .here (.take .here (.take .here (.take .here .refl))))))) hw)) stable_nil ?_
          have hncs21_6 : List.length e5_7x = List.length cs21_6 := by rw [← hcs21_6, setC_len]
          try rw [hncs21_6]
          refine dp 7 88 (.tuple #[.agg #[.int .i64 y21_6.1.kind, .int .i64 y21_6.1.src, .int .i64 y21_6.1.dst, .int .i64 y21_6.1.id, .int .i64 y21_6.1.line, .int .i64 y21_6.1.ptr, .int .i64 y21_6.1.state, .bool y21_6.1.flag, .slice a21_6_00 (List.length y21_6.1.data) c21_6_00], .int .i64 y21_6.2.1]) ?_
          refine dp 8 96 (.agg #[.int .i64 y21_6.1.kind, .int .i64 y21_6.1.src, .int .i64 y21_6.1.dst, .int .i64 y21_6.1.id, .int .i64 y21_6.1.line, .int .i64 y21_6.1.ptr, .int .i64 y21_6.1.state, .bool y21_6.1.flag, .slice a21_6_00 (List.length y21_6.1.data) c21_6_00]) ?_
          refine dp 9 97 (.int .i64 y21_6.2.1) ?_
          refine d_step 10 16 [] [9, 8, 7] [] (by kernel_rfl) (by kernel_rfl) (by kernel_rfl) (st_new (T := 40) (cells := #[.int .i64 (0), .int .i64 (0), .int .i64 (0), .int .i64 (0), .int .i64 (0), .int .i64 (0), .int .i64 (0), .bool false, .slice none 0 0]) (fun a => .pointer (some a)) (fun _ => by kernel_rfl)) ?_
          rintro _ _ ⟨b21_10, rfl, rfl⟩
          refine ⟨stable_nil, ?_⟩
          refine d_do 11 [10, 8, 6, 0, 1, 2, 3, 4, 5, 7] [9] [] (by kernel_rfl) (by kernel_rfl) (by kernel_rfl) (st_store (off := 0) (vs := [.int .i64 y21_6.1.kind, .int .i64 y21_6.1.src, .int .i64 y21_6.1.dst, .int .i64 y21_6.1.id, .int .i64 y21_6.1.line, .int .i64 y21_6.1.ptr, .int .i64 y21_6.1.state, .bool y21_6.1.flag, .slice a21_6_00 (List.length y21_6.1.data) c21_6_00]) (c' := #[.int .i64 y21_6.1.kind, .int .i64 y21_6.1.src, .int .i64 y21_6.1.dst, .int .i64 y21_6.1.id, .int .i64 y21_6.1.line, .int .i64 y21_6.1.ptr, .int .i64 y21_6.1.state, .bool y21_6.1.flag, .slice a21_6_00 (List.length y21_6.1.data) c21_6_00]) (fun _ => by kernel_rfl) .here (by kernel_rfl) (by kernel_rfl) (by kernel_rfl)) ?_
          rintro _ _ ⟨rfl, rfl⟩
          refine ⟨stable_nil, ?_⟩
          refine dp 12 17 (.int .i64 y21_6.2.1) ?_
          refine draw_end (by kernel_rfl) ?_
          refine ae [(0, .int .i64 (wr ((1 : Int) + y1_1))), (1, .int .i64 v), (7, .slice e5_7a (List.length cs21_6) e5_7c), (10, .int .i64 v2_10), (11, .int .i64 v2_11), (12, .int .i64 v2_12), (13, .pointer (some ⟨b17_18, 0, none⟩)), (15, .pointer (some ⟨b18_3, 0, none⟩)), (16, .pointer (some ⟨b21_10, 0, none⟩)), (17, .int .i64 y21_6.2.1)] ?_
          refine at_round_normal ?_
          exact at_join_mk [(0, .int .i64 (wr ((1 : Int) + y1_1))), (1, .int .i64 v), (7, .slice e5_7a (List.length cs21_6) e5_7c), (10, .int .i64 v2_10), (11, .int .i64 v2_11), (12, .int .i64 v2_12), (13, .pointer (some ⟨b17_18, 0, none⟩)), (15, .pointer (some ⟨b18_3, 0, none⟩)), (16, .pointer (some ⟨b21_10, 0, none⟩)), (17, .int .i64 y21_6.2.1)] ((PtrsX e5_7r e5_7a e5_7c cs21_6) :: (Asn.own b21_10 (.cells #[.int .i64 y21_6.1.kind, .int .i64 y21_6.1.src, .int .i64 y21_6.1.dst, .int .i64 y21_6.1.id, .int .i64 y21_6.1.line, .int .i64 y21_6.1.ptr, .int .i64 y21_6.1.state, .bool y21_6.1.flag, .slice a21_6_00 (List.length y21_6.1.data) c21_6_00] 40 (0, 0))) :: (IntsA a21_6_00 c21_6_00 y21_6.1.data) :: (Asn.own b18_3 (.cells #[.int .i64 y18_2.kind, .int .i64 y18_2.src, .int .i64 y18_2.dst, .int .i64 y18_2.id, .int .i64 y18_2.line, .int .i64 y18_2.ptr, .int .i64 y18_2.state, .bool y18_2.flag, .slice a18_2_00 (List.length y18_2.data) c18_2_00] 40 (0, 0))) :: (IntsA a18_2_00 c18_2_00 y18_2.data) :: (Asn.own b17_18 (.cells #[.int .i64 y17_14.1.kind, .int .i64 y17_14.1.line, .int .i64 y17_14.1.id, .int .i64 y17_14.1.step, .int .i64 y17_14.1.state, .int .i64 y17_14.1.head, .slice a17_14_00 (List.length y17_14.1.data) c17_14_00, .int .i64 y17_14.1.next, .int .i64 y17_14.1.told] 35 (0, 0))) :: (ImmI a17_14_00 y17_14.1.data) :: Γ) ⟨by kernel_rfl, by kernel_rfl, by kernel_rfl, by kernel_rfl, by kernel_rfl, by kernel_rfl, by kernel_rfl, by kernel_rfl, by kernel_rfl, by kernel_rfl, trivial⟩ (fun w hw => (Sat.less (.take (.there .here) (.take .here (.take .here (.take .here (.take .here (.take .here (.take .here .refl))))))) hw)) ⟨cs21_6, e5_7a, e5_7c, e5_7r, b21_10, y21_6, a21_6_00, c21_6_00, H, rfl, rfl⟩
         ·refine t_step 10 16 [] [3, 2, 1, 0] [5, 4] (by kernel_rfl) (by kernel_rfl) (by kernel_rfl) (st_new (T := 40) (cells := #[.int .i64 (0), .int .i64 (0), .int .i64 (0), .int .i64 (0), .int .i64 (0), .int .i64 (0), .int .i64 (0), .bool false, .slice none 0 0]) (fun a => .pointer (some a)) (fun _ => by kernel_rfl)) ?_
          rintro _ _ ⟨b21_10, rfl, rfl⟩
          refine ⟨(stable_cons 5 94 (.agg #[.int .i64 y18_2.kind, .int .i64 y18_2.src, .int .i64 y18_2.dst, .int .i64 y18_2.id, .int .i64 y18_2.line, .int .i64 y18_2.ptr, .int .i64 y18_2.state, .bool y18_2.flag, .slice a18_2_00 (List.length y18_2.data) c18_2_00]) (by kernel_rfl) (by kernel_rfl) (by kernel_rfl) (loadN (off := 0) (vs := [.int .i64 y18_2.kind, .int .i64 y18_2.src, .int .i64 y18_2.dst, .int .i64 y18_2.id, .int .i64 y18_2.line, .int .i64 y18_2.ptr, .int .i64 y18_2.state, .bool y18_2.flag, .slice a18_2_00 (List.length y18_2.data) c18_2_00]) 9 (fun _ => by kernel_rfl) (holds_own (.there .here)) rfl (by exact ⟨rfl, rfl, rfl, rfl, rfl, rfl, rfl, rfl, rfl, trivial⟩)) (stable_cons 4 93 (.pointer (some ⟨pb21_4, 0, none⟩)) (by kernel_rfl) (by kernel_rfl) (by kernel_rfl) (load1_at (off := oo4 + (((v2_12 - (1 : Int))).toNat * 1 + 0)) (v := .pointer (some ⟨pb21_4, 0, none⟩)) (fun _ => by kernel_rfl) rfl (ptr_cell (i := (v2_12 - (1 : Int))) (.there (.there (.there .here))) ha4 hr21_4)) stable_nil)), ?_⟩
          refine Draw.convS (Γ' := (CacheA pb21_4 (nthC e5_7x (v2_12 - (1 : Int)))) :: (HoleX e5_7r e5_7a e5_7c e5_7x (v2_12 - (1 : Int))) :: (Asn.own b21_10 (.cells #[.int .i64 (0), .int .i64 (0), .int .i64 (0), .int .i64 (0), .int .i64 (0), .int .i64 (0), .int .i64 (0), .bool false, .slice none 0 0] 40 (0, 0))) :: (Asn.own b18_3 (.cells #[.int .i64 y18_2.kind, .int .i64 y18_2.src, .int .i64 y18_2.dst, .int .i64 y18_2.id, .int .i64 y18_2.line, .int .i64 y18_2.ptr, .int .i64 y18_2.state, .bool y18_2.flag, .slice a18_2_00 (List.length y18_2.data) c18_2_00] 40 (0, 0))) :: (IntsA a18_2_00 c18_2_00 y18_2.data) :: (Asn.own b17_18 (.cells #[.int .i64 y17_14.1.kind, .int .i64 y17_14.1.line, .int .i64 y17_14.1.id, .int .i64 y17_14.1.step, .int .i64 y17_14.1.state, .int .i64 y17_14.1.head, .slice a17_14_00 (List.length y17_14.1.data) c17_14_00, .int .i64 y17_14.1.next, .int .i64 y17_14.1.told] 35 (0, 0))) :: (ImmI a17_14_00 y17_14.1.data) :: Γ) (fun w hw => PtrsX.take (i := (v2_12 - (1 : Int))) (.there (.there (.there .here))) hr21_4 hw) (stable_cons 5 94 (.agg #[.int .i64 y18_2.kind, .int .i64 y18_2.src, .int .i64 y18_2.dst, .int .i64 y18_2.id, .int .i64 y18_2.line, .int .i64 y18_2.ptr, .int .i64 y18_2.state, .bool y18_2.flag, .slice a18_2_00 (List.length y18_2.data) c18_2_00]) (by kernel_rfl) (by kernel_rfl) (by kernel_rfl) (loadN (off := 0) (vs := [.int .i64 y18_2.kind, .int .i64 y18_2.src, .int .i64 y18_2.dst, .int .i64 y18_2.id, .int .i64 y18_2.line, .int .i64 y18_2.ptr, .int .i64 y18_2.state, .bool y18_2.flag, .slice a18_2_00 (List.length y18_2.data) c18_2_00]) 9 (fun _ => by kernel_rfl) (holds_own (.there (.there (.there .here)))) rfl (by exact ⟨rfl, rfl, rfl, rfl, rfl, rfl, rfl, rfl, rfl, trivial⟩)) (stable_cons 4 93 (.pointer (some ⟨pb21_4, 0, none⟩)) (by kernel_rfl) (by kernel_rfl) (by kernel_rfl) (load1_at (off := oo4 + (((v2_12 - (1 : Int))).toNat * 1 + 0)) (v := .pointer (some ⟨pb21_4, 0, none⟩)) (fun _ => by kernel_rfl) rfl (hole_cell (i := (v2_12 - (1 : Int))) (.there .here) ha4 hr21_4)) stable_nil)) ?_
          obtain ⟨y21_6, hy21_6, H⟩ := bindE H
          refine d_call 6 95 [4, 5, 3, 0, 2, 1] [] [] 33 #[.pointer (some ⟨pb21_4, 0, none⟩), .agg #[.int .i64 y18_2.kind, .int .i64 y18_2.src, .int .i64 y18_2.dst, .int .i64 y18_2.id, .int .i64 y18_2.line, .int .i64 y18_2.ptr, .int .i64 y18_2.state, .bool y18_2.flag, .slice a18_2_00 (List.length y18_2.data) c18_2_00]] (by kernel_rfl) (by kernel_rfl) (by kernel_rfl) (fun _ => by kernel_rfl) (SHandleF_tr pb21_4 (nthC e5_7x (v2_12 - (1 : Int))) a18_2_00 c18_2_00 y18_2 (RowsA.reads (k := 1) (.there (.there (.there .here)))) y21_6 hy21_6) ?_
          rintro _ _ ⟨a21_6_00, c21_6_00, rfl, rfl⟩
          refine ⟨stable_nil, ?_⟩
          obtain ⟨cs21_6, hcs21_6, H⟩ := letE H
          refine Draw.convS (Γ' := (PtrsX e5_7r e5_7a e5_7c cs21_6) :: (IntsA a21_6_00 c21_6_00 y21_6.1.data) :: (Asn.own b21_10 (.cells #[.int .i64 (0), .int .i64 (0), .int .i64 (0), .int .i64 (0), .int .i64 (0), .int .i64 (0), .int .i64 (0), .bool false, .slice none 0 0] 40 (0, 0))) :: (Asn.own b18_3 (.cells #[.int .i64 y18_2.kind, .int .i64 y18_2.src, .int .i64 y18_2.dst, .int .i64 y18_2.id, .int .i64 y18_2.line, .int .i64 y18_2.ptr, .int .i64 y18_2.state, .bool y18_2.flag, .slice a18_2_00 (List.length y18_2.data) c18_2_00] 40 (0, 0))) :: (IntsA a18_2_00 c18_2_00 y18_2.data) :: (Asn.own b17_18 (.cells #[.int .i64 y17_14.1.kind, .int .i64 y17_14.1.line, .int .i64 y17_14.1.id, .int .i64 y17_14.1.step, .int .i64 y17_14.1.state, .int .i64 y17_14.1.head, .slice a17_14_00 (List.length y17_14.1.data) c17_14_00, .int .i64 y17_14.1.next, .int .i64 y17_14.1.told] 35 (0, 0))) :: (ImmI a17_14_00 y17_14.1.data) :: Γ) (fun w hw => by rw [← hcs21_6]; exact PtrsX.put (i := (v2_12 - (1 : Int))) hr21_4 (Sat.less (.take (.there .here) (.take (.there .here) (.take .here (.take .here (.take .here (.take .here (.take .here (.take .here .refl)))))))) hw)) stable_nil ?_
          have hncs21_6 : List.length e5_7x = List.length cs21_6 := by rw [← hcs21_6, setC_len]
          try rw [hncs21_6]
          refine dp 7 88 (.tuple #[.agg #[.int .i64 y21_6.1.kind, .int .i64 y21_6.1.src, .int .i64 y21_6.1.dst, .int .i64 y21_6.1.id, .int .i64 y21_6.1.line, .int .i64 y21_6.1.ptr, .int .i64 y21_6.1.state, .bool y21_6.1.flag, .slice a21_6_00 (List.length y21_6.1.data) c21_6_00], .int .i64 y21_6.2.1]) ?_
          refine dp 8 96 (.agg #[.int .i64 y21_6.1.kind, .int .i64 y21_6.1.src, .int .i64 y21_6.1.dst, .int .i64 y21_6.1.id, .int .i64 y21_6.1.line, .int .i64 y21_6.1.ptr, .int .i64 y21_6.1.state, .bool y21_6.1.flag, .slice a21_6_00 (List.length y21_6.1.data) c21_6_00]) ?_
          refine dp 9 97 (.int .i64 y21_6.2.1) ?_
          refine d_do 11 [10, 8, 6, 0, 1, 2, 3, 4, 5, 7] [9] [] (by kernel_rfl) (by kernel_rfl) (by kernel_rfl) (st_store (off := 0) (vs := [.int .i64 y21_6.1.kind, .int .i64 y21_6.1.src, .int .i64 y21_6.1.dst, .int .i64 y21_6.1.id, .int .i64 y21_6.1.line, .int .i64 y21_6.1.ptr, .int .i64 y21_6.1.state, .bool y21_6.1.flag, .slice a21_6_00 (List.length y21_6.1.data) c21_6_00]) (c' := #[.int .i64 y21_6.1.kind, .int .i64 y21_6.1.src, .int .i64 y21_6.1.dst, .int .i64 y21_6.1.id, .int .i64 y21_6.1.line, .int .i64 y21_6.1.ptr, .int .i64 y21_6.1.state, .bool y21_6.1.flag, .slice a21_6_00 (List.length y21_6.1.data) c21_6_00]) (fun _ => by kernel_rfl) (.there (.there .here)) (by kernel_rfl) (by kernel_rfl) (by kernel_rfl)) ?_
          rintro _ _ ⟨rfl, rfl⟩
          refine ⟨stable_nil, ?_⟩
          refine dp 12 17 (.int .i64 y21_6.2.1) ?_
          refine draw_end (by kernel_rfl) ?_
          refine ae [(0, .int .i64 (wr ((1 : Int) + y1_1))), (1, .int .i64 v), (7, .slice e5_7a (List.length cs21_6) e5_7c), (10, .int .i64 v2_10), (11, .int .i64 v2_11), (12, .int .i64 v2_12), (13, .pointer (some ⟨b17_18, 0, none⟩)), (15, .pointer (some ⟨b18_3, 0, none⟩)), (16, .pointer (some ⟨b21_10, 0, none⟩)), (17, .int .i64 y21_6.2.1)] ?_
          refine at_round_normal ?_
          exact at_join_mk [(0, .int .i64 (wr ((1 : Int) + y1_1))), (1, .int .i64 v), (7, .slice e5_7a (List.length cs21_6) e5_7c), (10, .int .i64 v2_10), (11, .int .i64 v2_11), (12, .int .i64 v2_12), (13, .pointer (some ⟨b17_18, 0, none⟩)), (15, .pointer (some ⟨b18_3, 0, none⟩)), (16, .pointer (some ⟨b21_10, 0, none⟩)), (17, .int .i64 y21_6.2.1)] ((PtrsX e5_7r e5_7a e5_7c cs21_6) :: (Asn.own b21_10 (.cells #[.int .i64 y21_6.1.kind, .int .i64 y21_6.1.src, .int .i64 y21_6.1.dst, .int .i64 y21_6.1.id, .int .i64 y21_6.1.line, .int .i64 y21_6.1.ptr, .int .i64 y21_6.1.state, .bool y21_6.1.flag, .slice a21_6_00 (List.length y21_6.1.data) c21_6_00] 40 (0, 0))) :: (IntsA a21_6_00 c21_6_00 y21_6.1.data) :: (Asn.own b18_3 (.cells #[.int .i64 y18_2.kind, .int .i64 y18_2.src, .int .i64 y18_2.dst, .int .i64 y18_2.id, .int .i64 y18_2.line, .int .i64 y18_2.ptr, .int .i64 y18_2.state, .bool y18_2.flag, .slice a18_2_00 (List.length y18_2.data) c18_2_00] 40 (0, 0))) :: (IntsA a18_2_00 c18_2_00 y18_2.data) :: (Asn.own b17_18 (.cells #[.int .i64 y17_14.1.kind, .int .i64 y17_14.1.line, .int .i64 y17_14.1.id, .int .i64 y17_14.1.step, .int .i64 y17_14.1.state, .int .i64 y17_14.1.head, .slice a17_14_00 (List.length y17_14.1.data) c17_14_00, .int .i64 y17_14.1.next, .int .i64 y17_14.1.told] 35 (0, 0))) :: (ImmI a17_14_00 y17_14.1.data) :: Γ) ⟨by kernel_rfl, by kernel_rfl, by kernel_rfl, by kernel_rfl, by kernel_rfl, by kernel_rfl, by kernel_rfl, by kernel_rfl, by kernel_rfl, by kernel_rfl, trivial⟩ (fun w hw => (Sat.less (.take (.there .here) (.take .here (.take .here (.take .here (.take .here (.take .here (.take .here .refl))))))) hw)) ⟨cs21_6, e5_7a, e5_7c, e5_7r, b21_10, y21_6, a21_6_00, c21_6_00, H, rfl, rfl⟩
      ·refine ar (id := 19) 14 ?_
       refine sp 74 (.bool y17_14.2.1) ?_
       refine sp 75 (.bool !y17_14.2.1) ?_
       rcases Bool.eq_false_or_eq_true (!y17_14.2.1) with h12 | h12
       ·replace H := bifT H h12
        refine sr 76 (.bool true) (run_eq (v := .bool (!y17_14.2.1)) (fun _ => by kernel_rfl) (congrArg Value.bool h12)) ?_
        refine sa 77 ?_
        refine sa 78 ?_
        refine sa 79 ?_
        refine sp 80 (.bool true) ?_
        refine sp 81 (.bool true) ?_
        refine sa 82 ?_
        refine sa 83 ?_
        refine sa 84 ?_
        refine sa 85 ?_
        refine sa 86 ?_
        refine sp 87 (.bool true) ?_
        refine ops_end ?_
        refine ae [(0, .int .i64 (wr ((1 : Int) + y1_1))), (1, .int .i64 v), (7, .slice e5_7a (List.length e5_7x) e5_7c), (10, .int .i64 v2_10), (11, .int .i64 v2_11), (12, .int .i64 v2_12), (13, .pointer (some ⟨b17_18, 0, none⟩)), (15, .pointer (some ⟨b18_3, 0, none⟩)), (87, .bool true)] ?_
        refine at_round_normal ?_
        exact at_join_mk [(0, .int .i64 (wr ((1 : Int) + y1_1))), (1, .int .i64 v), (7, .slice e5_7a (List.length e5_7x) e5_7c), (10, .int .i64 v2_10), (11, .int .i64 v2_11), (12, .int .i64 v2_12), (13, .pointer (some ⟨b17_18, 0, none⟩)), (15, .pointer (some ⟨b18_3, 0, none⟩)), (87, .bool true)] ((Asn.own b18_3 (.cells #[.int .i64 y18_2.kind, .int .i64 y18_2.src, .int .i64 y18_2.dst, .int .i64 y18_2.id, .int .i64 y18_2.line, .int .i64 y18_2.ptr, .int .i64 y18_2.state, .bool y18_2.flag, .slice a18_2_00 (List.length y18_2.data) c18_2_00] 40 (0, 0))) :: (IntsA a18_2_00 c18_2_00 y18_2.data) :: (PtrsX e5_7r e5_7a e5_7c e5_7x) :: (Asn.own b17_18 (.cells #[.int .i64 y17_14.1.kind, .int .i64 y17_14.1.line, .int .i64 y17_14.1.id, .int .i64 y17_14.1.step, .int .i64 y17_14.1.state, .int .i64 y17_14.1.head, .slice a17_14_00 (List.length y17_14.1.data) c17_14_00, .int .i64 y17_14.1.next, .int .i64 y17_14.1.told] 35 (0, 0))) :: (ImmI a17_14_00 y17_14.1.data) :: Γ) ⟨by kernel_rfl, by kernel_rfl, by kernel_rfl, by kernel_rfl, by kernel_rfl, by kernel_rfl, by kernel_rfl, by kernel_rfl, by kernel_rfl, trivial⟩ (fun w hw => (Sat.less (.take .here (.take .here (.take .here (.take .here (.take .here .refl))))) hw)) ⟨true, H, rfl, rfl⟩
       ·replace H := bifF H h12
        refine sr 76 (.bool false) (run_eq (v := .bool (!y17_14.2.1)) (fun _ => by kernel_rfl) (congrArg Value.bool h12)) ?_
        refine sp 77 (.pointer (some ⟨b18_3, 0, none⟩)) ?_
        refine sl 78 (.int .i64 y18_2.kind) (load1 (off := 0) (fun _ => by kernel_rfl) (holds_own .here) (by kernel_rfl)) ?_
        refine sp 79 (.bool (!(decide (y18_2.kind = (3 : Int))))) ?_
        refine sp 80 (.bool (!(decide (y18_2.kind = (3 : Int))))) ?_
        rcases Bool.eq_false_or_eq_true (!(decide (y18_2.kind = (3 : Int)))) with h13 | h13
        ·replace H := bifT H h13
         refine sr 81 (.bool true) (run_eq (v := .bool (!(decide (y18_2.kind = (3 : Int))))) (fun _ => by kernel_rfl) (congrArg Value.bool h13)) ?_
         refine sa 82 ?_
         refine sa 83 ?_
         refine sa 84 ?_
         refine sa 85 ?_
         refine sa 86 ?_
         refine sp 87 (.bool true) ?_
         refine ops_end ?_
         refine ae [(0, .int .i64 (wr ((1 : Int) + y1_1))), (1, .int .i64 v), (7, .slice e5_7a (List.length e5_7x) e5_7c), (10, .int .i64 v2_10), (11, .int .i64 v2_11), (12, .int .i64 v2_12), (13, .pointer (some ⟨b17_18, 0, none⟩)), (15, .pointer (some ⟨b18_3, 0, none⟩)), (87, .bool true)] ?_
         refine at_round_normal ?_
         exact at_join_mk [(0, .int .i64 (wr ((1 : Int) + y1_1))), (1, .int .i64 v), (7, .slice e5_7a (List.length e5_7x) e5_7c), (10, .int .i64 v2_10), (11, .int .i64 v2_11), (12, .int .i64 v2_12), (13, .pointer (some ⟨b17_18, 0, none⟩)), (15, .pointer (some ⟨b18_3, 0, none⟩)), (87, .bool true)] ((Asn.own b18_3 (.cells #[.int .i64 y18_2.kind, .int .i64 y18_2.src, .int .i64 y18_2.dst, .int .i64 y18_2.id, .int .i64 y18_2.line, .int .i64 y18_2.ptr, .int .i64 y18_2.state, .bool y18_2.flag, .slice a18_2_00 (List.length y18_2.data) c18_2_00] 40 (0, 0))) :: (IntsA a18_2_00 c18_2_00 y18_2.data) :: (PtrsX e5_7r e5_7a e5_7c e5_7x) :: (Asn.own b17_18 (.cells #[.int .i64 y17_14.1.kind, .int .i64 y17_14.1.line, .int .i64 y17_14.1.id, .int .i64 y17_14.1.step, .int .i64 y17_14.1.state, .int .i64 y17_14.1.head, .slice a17_14_00 (List.length y17_14.1.data) c17_14_00, .int .i64 y17_14.1.next, .int .i64 y17_14.1.told] 35 (0, 0))) :: (ImmI a17_14_00 y17_14.1.data) :: Γ) ⟨by kernel_rfl, by kernel_rfl, by kernel_rfl, by kernel_rfl, by kernel_rfl, by kernel_rfl, by kernel_rfl, by kernel_rfl, by kernel_rfl, trivial⟩ (fun w hw => (Sat.less (.take .here (.take .here (.take .here (.take .here (.take .here .refl))))) hw)) ⟨true, H, rfl, rfl⟩
        ·replace H := bifF H h13
         refine sr 81 (.bool false) (run_eq (v := .bool (!(decide (y18_2.kind = (3 : Int))))) (fun _ => by kernel_rfl) (congrArg Value.bool h13)) ?_
         refine sp 82 (.pointer (some ⟨b18_3, 2, none⟩)) ?_
         refine sl 83 (.int .i64 y18_2.dst) (load1 (off := 2) (fun _ => by kernel_rfl) (holds_own .here) (by kernel_rfl)) ?_
         refine sp 84 (.int .i64 v2_12) ?_
         obtain ⟨hc19_11_0, H⟩ := chkE H
         refine sr 85 (.int .i64 (v2_12 - (1 : Int))) (run_eq (v := .int .i64 (IntKind.i64.wrap (v2_12 - (1 : Int)))) (fun _ => by kernel_rfl) (by rw [inR.wrap hc19_11_0])) ?_
         refine sp 86 (.bool (!(decide (y18_2.dst = (v2_12 - (1 : Int)))))) ?_
         refine sp 87 (.bool (!(decide (y18_2.dst = (v2_12 - (1 : Int)))))) ?_
         refine ops_end ?_
         refine ae [(0, .int .i64 (wr ((1 : Int) + y1_1))), (1, .int .i64 v), (7, .slice e5_7a (List.length e5_7x) e5_7c), (10, .int .i64 v2_10), (11, .int .i64 v2_11), (12, .int .i64 v2_12), (13, .pointer (some ⟨b17_18, 0, none⟩)), (15, .pointer (some ⟨b18_3, 0, none⟩)), (87, .bool (!(decide (y18_2.dst = (v2_12 - (1 : Int))))))] ?_
         refine at_round_normal ?_
         exact at_join_mk [(0, .int .i64 (wr ((1 : Int) + y1_1))), (1, .int .i64 v), (7, .slice e5_7a (List.length e5_7x) e5_7c), (10, .int .i64 v2_10), (11, .int .i64 v2_11), (12, .int .i64 v2_12), (13, .pointer (some ⟨b17_18, 0, none⟩)), (15, .pointer (some ⟨b18_3, 0, none⟩)), (87, .bool (!(decide (y18_2.dst = (v2_12 - (1 : Int))))))] ((Asn.own b18_3 (.cells #[.int .i64 y18_2.kind, .int .i64 y18_2.src, .int .i64 y18_2.dst, .int .i64 y18_2.id, .int .i64 y18_2.line, .int .i64 y18_2.ptr, .int .i64 y18_2.state, .bool y18_2.flag, .slice a18_2_00 (List.length y18_2.data) c18_2_00] 40 (0, 0))) :: (IntsA a18_2_00 c18_2_00 y18_2.data) :: (PtrsX e5_7r e5_7a e5_7c e5_7x) :: (Asn.own b17_18 (.cells #[.int .i64 y17_14.1.kind, .int .i64 y17_14.1.line, .int .i64 y17_14.1.id, .int .i64 y17_14.1.step, .int .i64 y17_14.1.state, .int .i64 y17_14.1.head, .slice a17_14_00 (List.length y17_14.1.data) c17_14_00, .int .i64 y17_14.1.next, .int .i64 y17_14.1.told] 35 (0, 0))) :: (ImmI a17_14_00 y17_14.1.data) :: Γ) ⟨by kernel_rfl, by kernel_rfl, by kernel_rfl, by kernel_rfl, by kernel_rfl, by kernel_rfl, by kernel_rfl, by kernel_rfl, by kernel_rfl, trivial⟩ (fun w hw => (Sat.less (.take .here (.take .here (.take .here (.take .here (.take .here .refl))))) hw)) ⟨!(decide (y18_2.dst = (v2_12 - (1 : Int)))), H, rfl, rfl⟩
     ·refine at_region_draw (id := 17) (by kernel_rfl) (by kernel_rfl) ?_
      refine dp 0 54 (.int .i64 v2_12) ?_
      refine dp 2 56 (.int .i64 v2_12) ?_
      refine dp 3 57 (.slice v2_7a (List.length v2_7x) v2_7c) ?_
      refine dp 4 58 (.int .i64 v2_12) ?_
      obtain ⟨hc17_5_0, H⟩ := chkE H
      refine ptr_at_draw .here (by have := hc17_5_0; omega) ?_
      intro bb5 oo5 ha5
      refine d_pure 5 59 (.pointer (some ⟨bb5, oo5 + (((v2_12).toNat) * 1 + 0), none⟩)) (by kernel_rfl) (by kernel_rfl) (by kernel_rfl) (index_at (t := 60) (sz := 1) (E := 22) (a := v2_7a) (m := (List.length v2_7x)) (c := v2_7c) (b := bb5) (off := oo5) (i := (v2_12).toNat) (tinfo 22) (fun _ => by kernel_rfl) (by kernel_rfl) (by kernel_rfl) (by kernel_rfl) ha5 (idx_cast hc17_5_0) (idx_nat hc17_5_0) rfl) ?_
      refine ptr_get_draw .here hc17_5_0 ?_
      intro pb17_6 hr17_6
      refine dl 6 60 (.pointer (some ⟨pb17_6, 0, none⟩)) (load1_at (off := oo5 + ((v2_12).toNat * 1 + 0)) (v := .pointer (some ⟨pb17_6, 0, none⟩)) (fun _ => by kernel_rfl) rfl (ptr_cell (i := v2_12) .here ha5 hr17_6)) ?_
      refine dp 7 61 (.int .i64 v2_12) ?_
      refine dp 8 62 (.int .i64 v2_12) ?_
      obtain ⟨hc17_9_0, H⟩ := chkE H
      refine d_pure 9 63 (.int .i64 (v2_12 - (1 : Int))) (by kernel_rfl) (by kernel_rfl) (by kernel_rfl) (run_eq (v := .int .i64 (IntKind.i64.wrap (v2_12 - (1 : Int)))) (fun _ => by kernel_rfl) (by rw [inR.wrap hc17_9_0])) ?_
      refine dp 10 64 (.int .i64 v2_10) ?_
      refine dp 11 65 (.int .i64 v2_11) ?_
      refine draw_turns 1 [12, 18] (by kernel_rfl) (turns_cons ?_ (turns_cons ?_ (turns_cons ?_ turns_nil)))
      ·obtain ⟨y17_1, hy17_1, H⟩ := bindE H
       refine t_call 1 55 [0] [11, 10, 9, 8, 7, 5, 4, 3, 2] [6] 17 #[.int .i64 (1), .int .i64 (2), .int .i64 v2_12] (by kernel_rfl) (by kernel_rfl) (by kernel_rfl) (fun _ => by kernel_rfl) (DBeginF_tr (1 : Int) (2 : Int) v2_12 y17_1 hy17_1) ?_
       rintro _ _ ⟨a17_1_00, c17_1_00, rfl, rfl⟩
       refine ⟨(stable_cons 6 60 (.pointer (some ⟨pb17_6, 0, none⟩)) (by kernel_rfl) (by kernel_rfl) (by kernel_rfl) (load1_at (off := oo5 + ((v2_12).toNat * 1 + 0)) (v := .pointer (some ⟨pb17_6, 0, none⟩)) (fun _ => by kernel_rfl) rfl (ptr_cell (i := v2_12) (.there .here) ha5 hr17_6)) stable_nil), ?_⟩
       refine draw_turns 12 [18] (by kernel_rfl) (turns_cons ?_ (turns_cons ?_ turns_nil))
       ·obtain ⟨l17_12, hl17_12, H⟩ := letE H
        refine t_step 12 66 [11] [10, 9, 8, 7, 5, 4, 3, 2] [6] (by kernel_rfl) (by kernel_rfl) (by kernel_rfl) (st_new_ints (T := 3) (xs := l17_12) 1 hl17_12 (fun _ => by kernel_rfl) (by kernel_rfl)) ?_
        rintro _ _ ⟨b17_12, rfl, rfl⟩
        refine ⟨(stable_cons 6 60 (.pointer (some ⟨pb17_6, 0, none⟩)) (by kernel_rfl) (by kernel_rfl) (by kernel_rfl) (load1_at (off := oo5 + ((v2_12).toNat * 1 + 0)) (v := .pointer (some ⟨pb17_6, 0, none⟩)) (fun _ => by kernel_rfl) rfl (ptr_cell (i := v2_12) (.there (.there .here)) ha5 hr17_6)) stable_nil), ?_⟩
        refine dp 13 67 (.agg #[.int .i64 (7), .int .i64 (0), .int .i64 (0), .int .i64 v2_12, .int .i64 (2), .int .i64 (v2_12 - (1 : Int)), .int .i64 v2_10, .bool false, .slice (some ⟨b17_12, 0, none⟩) (List.length l17_12) 1]) ?_
        refine draw_turns 14 [18] (by kernel_rfl) (turns_cons ?_ (turns_cons ?_ turns_nil))
        ·obtain ⟨y17_14, hy17_14, H⟩ := bindE H
         refine t_call 14 68 [1, 2, 6, 13, 0, 5, 7, 9, 10, 12, 3, 4, 8, 11] [] [] 25 #[.agg #[.int .i64 y17_1.kind, .int .i64 y17_1.line, .int .i64 y17_1.id, .int .i64 y17_1.step, .int .i64 y17_1.state, .int .i64 y17_1.head, .slice a17_1_00 (List.length y17_1.data) c17_1_00, .int .i64 y17_1.next, .int .i64 y17_1.told], .int .i64 v2_12, .pointer (some ⟨pb17_6, 0, none⟩), .agg #[.int .i64 (7), .int .i64 (0), .int .i64 (0), .int .i64 v2_12, .int .i64 (2), .int .i64 (v2_12 - (1 : Int)), .int .i64 v2_10, .bool false, .slice (some ⟨b17_12, 0, none⟩) (List.length l17_12) 1]] (by kernel_rfl) (by kernel_rfl) (by kernel_rfl) (fun _ => by kernel_rfl) (Tr.conv (Γ' := (CacheA pb17_6 (nthC v2_7x v2_12)) :: (HoleX v2_7r v2_7a v2_7c v2_7x v2_12) :: (IntsA (some ⟨b17_12, 0, none⟩) 1 l17_12) :: (ImmI a17_1_00 y17_1.data) :: Γ) (fun w hw => PtrsX.take (i := v2_12) (.there (.there .here)) hr17_6 hw) (Tr.conv (Γ' := (ImmI a17_1_00 y17_1.data) :: (CacheA pb17_6 (nthC v2_7x v2_12)) :: (ImmI a17_1_00 y17_1.data) :: (HoleX v2_7r v2_7a v2_7c v2_7x v2_12) :: (IntsA (some ⟨b17_12, 0, none⟩) 1 l17_12) :: Γ) (fun w hw => (Sat.less (.take .here (.take (.there .here) (.take .here (.take .here (.take .here .refl))))) (ImmR.dup (Sat.less (.take (.there (.there (.there .here))) (.take .here (.take .here (.take .here .refl)))) hw)))) (ANextF_tr a17_1_00 c17_1_00 y17_1 v2_12 pb17_6 (nthC v2_7x v2_12) (some ⟨b17_12, 0, none⟩) 1 (⟨7, 0, 0, v2_12, 2, v2_12 - (1 : Int), v2_10, false, l17_12⟩ : PktS) (RowsA.reads (k := 1) (.there (.there .here))) y17_14 hy17_14))) ?_
         rintro _ _ ⟨a17_14_00, c17_14_00, rfl, rfl⟩
         refine ⟨stable_nil, ?_⟩
         obtain ⟨cs17_14, hcs17_14, H⟩ := letE H
         refine Draw.convS (Γ' := (PtrsX v2_7r v2_7a v2_7c cs17_14) :: (ImmI a17_14_00 y17_14.1.data) :: (ImmI a17_1_00 y17_1.data) :: (IntsA (some ⟨b17_12, 0, none⟩) 1 l17_12) :: Γ) (fun w hw => by rw [← hcs17_14]; exact PtrsX.put (i := v2_12) hr17_6 (Sat.less (.take (.there .here) (.take (.there (.there .here)) (.take .here (.take .here (.take .here .refl))))) hw)) stable_nil ?_
         have hncs17_14 : List.length v2_7x = List.length cs17_14 := by rw [← hcs17_14, setC_len]
         try rw [hncs17_14]
         refine dp 15 53 (.tuple #[.agg #[.int .i64 y17_14.1.kind, .int .i64 y17_14.1.line, .int .i64 y17_14.1.id, .int .i64 y17_14.1.step, .int .i64 y17_14.1.state, .int .i64 y17_14.1.head, .slice a17_14_00 (List.length y17_14.1.data) c17_14_00, .int .i64 y17_14.1.next, .int .i64 y17_14.1.told], .bool y17_14.2.1]) ?_
         refine dp 16 69 (.agg #[.int .i64 y17_14.1.kind, .int .i64 y17_14.1.line, .int .i64 y17_14.1.id, .int .i64 y17_14.1.step, .int .i64 y17_14.1.state, .int .i64 y17_14.1.head, .slice a17_14_00 (List.length y17_14.1.data) c17_14_00, .int .i64 y17_14.1.next, .int .i64 y17_14.1.told]) ?_
         refine dp 17 70 (.bool y17_14.2.1) ?_
         refine d_step 18 13 [] [17, 16, 15] [] (by kernel_rfl) (by kernel_rfl) (by kernel_rfl) (st_new (T := 35) (cells := #[.int .i64 (0), .int .i64 (0), .int .i64 (0), .int .i64 (0), .int .i64 (0), .int .i64 (0), .slice none 0 0, .int .i64 (0), .int .i64 (0)]) (fun a => .pointer (some a)) (fun _ => by kernel_rfl)) ?_
         rintro _ _ ⟨b17_18, rfl, rfl⟩
         refine ⟨stable_nil, ?_⟩
         refine d_do 19 [18, 16, 14, 0, 1, 2, 3, 4, 5, 6, 7, 8, 9, 10, 11, 12, 13, 15] [17] [] (by kernel_rfl) (by kernel_rfl) (by kernel_rfl) (st_store (off := 0) (vs := [.int .i64 y17_14.1.kind, .int .i64 y17_14.1.line, .int .i64 y17_14.1.id, .int .i64 y17_14.1.step, .int .i64 y17_14.1.state, .int .i64 y17_14.1.head, .slice a17_14_00 (List.length y17_14.1.data) c17_14_00, .int .i64 y17_14.1.next, .int .i64 y17_14.1.told]) (c' := #[.int .i64 y17_14.1.kind, .int .i64 y17_14.1.line, .int .i64 y17_14.1.id, .int .i64 y17_14.1.step, .int .i64 y17_14.1.state, .int .i64 y17_14.1.head, .slice a17_14_00 (List.length y17_14.1.data) c17_14_00, .int .i64 y17_14.1.next, .int .i64 y17_14.1.told]) (fun _ => by kernel_rfl) .here (by kernel_rfl) (by kernel_rfl) (by kernel_rfl)) ?_
         rintro _ _ ⟨rfl, rfl⟩
         refine ⟨stable_nil, ?_⟩
         refine dp 20 14 (.bool y17_14.2.1) ?_
         refine draw_end (by kernel_rfl) ?_
         refine ae [(0, .int .i64 (wr ((1 : Int) + y1_1))), (1, .int .i64 v), (7, .slice v2_7a (List.length cs17_14) v2_7c), (10, .int .i64 v2_10), (11, .int .i64 v2_11), (12, .int .i64 v2_12), (13, .pointer (some ⟨b17_18, 0, none⟩)), (14, .bool y17_14.2.1)] ?_
         refine at_round_normal ?_
         exact at_join_mk [(0, .int .i64 (wr ((1 : Int) + y1_1))), (1, .int .i64 v), (7, .slice v2_7a (List.length cs17_14) v2_7c), (10, .int .i64 v2_10), (11, .int .i64 v2_11), (12, .int .i64 v2_12), (13, .pointer (some ⟨b17_18, 0, none⟩)), (14, .bool y17_14.2.1)] ((PtrsX v2_7r v2_7a v2_7c cs17_14) :: (Asn.own b17_18 (.cells #[.int .i64 y17_14.1.kind, .int .i64 y17_14.1.line, .int .i64 y17_14.1.id, .int .i64 y17_14.1.step, .int .i64 y17_14.1.state, .int .i64 y17_14.1.head, .slice a17_14_00 (List.length y17_14.1.data) c17_14_00, .int .i64 y17_14.1.next, .int .i64 y17_14.1.told] 35 (0, 0))) :: (ImmI a17_14_00 y17_14.1.data) :: Γ) ⟨by kernel_rfl, by kernel_rfl, by kernel_rfl, by kernel_rfl, by kernel_rfl, by kernel_rfl, by kernel_rfl, by kernel_rfl, trivial⟩ (fun w hw => (Sat.less (.take (.there .here) (.take .here (.take .here (.drop .here (.drop .here .refl))))) hw)) ⟨cs17_14, v2_7a, v2_7c, v2_7r, b17_18, y17_14, a17_14_00, c17_14_00, H, rfl, rfl⟩
        ·refine t_step 18 13 [] [13, 10, 9, 8, 7, 5, 4, 3, 2] [6] (by kernel_rfl) (by kernel_rfl) (by kernel_rfl) (st_new (T := 35) (cells := #[.int .i64 (0), .int .i64 (0), .int .i64 (0), .int .i64 (0), .int .i64 (0), .int .i64 (0), .slice none 0 0, .int .i64 (0), .int .i64 (0)]) (fun a => .pointer (some a)) (fun _ => by kernel_rfl)) ?_
         rintro _ _ ⟨b17_18, rfl, rfl⟩
         refine ⟨(stable_cons 6 60 (.pointer (some ⟨pb17_6, 0, none⟩)) (by kernel_rfl) (by kernel_rfl) (by kernel_rfl) (load1_at (off := oo5 + ((v2_12).toNat * 1 + 0)) (v := .pointer (some ⟨pb17_6, 0, none⟩)) (fun _ => by kernel_rfl) rfl (ptr_cell (i := v2_12) (.there (.there (.there .here))) ha5 hr17_6)) stable_nil), ?_⟩
         refine Draw.convS (Γ' := (CacheA pb17_6 (nthC v2_7x v2_12)) :: (HoleX v2_7r v2_7a v2_7c v2_7x v2_12) :: (Asn.own b17_18 (.cells #[.int .i64 (0), .int .i64 (0), .int .i64 (0), .int .i64 (0), .int .i64 (0), .int .i64 (0), .slice none 0 0, .int .i64 (0), .int .i64 (0)] 35 (0, 0))) :: (IntsA (some ⟨b17_12, 0, none⟩) 1 l17_12) :: (ImmI a17_1_00 y17_1.data) :: Γ) (fun w hw => PtrsX.take (i := v2_12) (.there (.there (.there .here))) hr17_6 hw) (stable_cons 6 60 (.pointer (some ⟨pb17_6, 0, none⟩)) (by kernel_rfl) (by kernel_rfl) (by kernel_rfl) (load1_at (off := oo5 + ((v2_12).toNat * 1 + 0)) (v := .pointer (some ⟨pb17_6, 0, none⟩)) (fun _ => by kernel_rfl) rfl (hole_cell (i := v2_12) (.there .here) ha5 hr17_6)) stable_nil) ?_
         obtain ⟨y17_14, hy17_14, H⟩ := bindE H
         refine d_call 14 68 [1, 2, 6, 13, 0, 5, 7, 9, 10, 12, 3, 4, 8, 11] [] [] 25 #[.agg #[.int .i64 y17_1.kind, .int .i64 y17_1.line, .int .i64 y17_1.id, .int .i64 y17_1.step, .int .i64 y17_1.state, .int .i64 y17_1.head, .slice a17_1_00 (List.length y17_1.data) c17_1_00, .int .i64 y17_1.next, .int .i64 y17_1.told], .int .i64 v2_12, .pointer (some ⟨pb17_6, 0, none⟩), .agg #[.int .i64 (7), .int .i64 (0), .int .i64 (0), .int .i64 v2_12, .int .i64 (2), .int .i64 (v2_12 - (1 : Int)), .int .i64 v2_10, .bool false, .slice (some ⟨b17_12, 0, none⟩) (List.length l17_12) 1]] (by kernel_rfl) (by kernel_rfl) (by kernel_rfl) (fun _ => by kernel_rfl) (Tr.conv (Γ' := (ImmI a17_1_00 y17_1.data) :: (CacheA pb17_6 (nthC v2_7x v2_12)) :: (ImmI a17_1_00 y17_1.data) :: (HoleX v2_7r v2_7a v2_7c v2_7x v2_12) :: (Asn.own b17_18 (.cells #[.int .i64 (0), .int .i64 (0), .int .i64 (0), .int .i64 (0), .int .i64 (0), .int .i64 (0), .slice none 0 0, .int .i64 (0), .int .i64 (0)] 35 (0, 0))) :: (IntsA (some ⟨b17_12, 0, none⟩) 1 l17_12) :: Γ) (fun w hw => (Sat.less (.take .here (.take (.there .here) (.take .here (.take .here (.take .here (.take .here .refl)))))) (ImmR.dup (Sat.less (.take (.there (.there (.there (.there .here)))) (.take .here (.take .here (.take .here (.take .here .refl))))) hw)))) (ANextF_tr a17_1_00 c17_1_00 y17_1 v2_12 pb17_6 (nthC v2_7x v2_12) (some ⟨b17_12, 0, none⟩) 1 (⟨7, 0, 0, v2_12, 2, v2_12 - (1 : Int), v2_10, false, l17_12⟩ : PktS) (RowsA.reads (k := 1) (.there (.there (.there .here)))) y17_14 hy17_14)) ?_
         rintro _ _ ⟨a17_14_00, c17_14_00, rfl, rfl⟩
         refine ⟨stable_nil, ?_⟩
         obtain ⟨cs17_14, hcs17_14, H⟩ := letE H
         refine Draw.convS (Γ' := (PtrsX v2_7r v2_7a v2_7c cs17_14) :: (ImmI a17_14_00 y17_14.1.data) :: (ImmI a17_1_00 y17_1.data) :: (Asn.own b17_18 (.cells #[.int .i64 (0), .int .i64 (0), .int .i64 (0), .int .i64 (0), .int .i64 (0), .int .i64 (0), .slice none 0 0, .int .i64 (0), .int .i64 (0)] 35 (0, 0))) :: (IntsA (some ⟨b17_12, 0, none⟩) 1 l17_12) :: Γ) (fun w hw => by rw [← hcs17_14]; exact PtrsX.put (i := v2_12) hr17_6 (Sat.less (.take (.there .here) (.take (.there (.there .here)) (.take .here (.take .here (.take .here (.take .here .refl)))))) hw)) stable_nil ?_
         have hncs17_14 : List.length v2_7x = List.length cs17_14 := by rw [← hcs17_14, setC_len]
         try rw [hncs17_14]
         refine dp 15 53 (.tuple #[.agg #[.int .i64 y17_14.1.kind, .int .i64 y17_14.1.line, .int .i64 y17_14.1.id, .int .i64 y17_14.1.step, .int .i64 y17_14.1.state, .int .i64 y17_14.1.head, .slice a17_14_00 (List.length y17_14.1.data) c17_14_00, .int .i64 y17_14.1.next, .int .i64 y17_14.1.told], .bool y17_14.2.1]) ?_
         refine dp 16 69 (.agg #[.int .i64 y17_14.1.kind, .int .i64 y17_14.1.line, .int .i64 y17_14.1.id, .int .i64 y17_14.1.step, .int .i64 y17_14.1.state, .int .i64 y17_14.1.head, .slice a17_14_00 (List.length y17_14.1.data) c17_14_00, .int .i64 y17_14.1.next, .int .i64 y17_14.1.told]) ?_
         refine dp 17 70 (.bool y17_14.2.1) ?_
         refine d_do 19 [18, 16, 14, 0, 1, 2, 3, 4, 5, 6, 7, 8, 9, 10, 11, 12, 13, 15] [17] [] (by kernel_rfl) (by kernel_rfl) (by kernel_rfl) (st_store (off := 0) (vs := [.int .i64 y17_14.1.kind, .int .i64 y17_14.1.line, .int .i64 y17_14.1.id, .int .i64 y17_14.1.step, .int .i64 y17_14.1.state, .int .i64 y17_14.1.head, .slice a17_14_00 (List.length y17_14.1.data) c17_14_00, .int .i64 y17_14.1.next, .int .i64 y17_14.1.told]) (c' := #[.int .i64 y17_14.1.kind, .int .i64 y17_14.1.line, .int .i64 y17_14.1.id, .int .i64 y17_14.1.step, .int .i64 y17_14.1.state, .int .i64 y17_14.1.head, .slice a17_14_00 (List.length y17_14.1.data) c17_14_00, .int .i64 y17_14.1.next, .int .i64 y17_14.1.told]) (fun _ => by kernel_rfl) (.there (.there (.there .here))) (by kernel_rfl) (by kernel_rfl) (by kernel_rfl)) ?_
         rintro _ _ ⟨rfl, rfl⟩
         refine ⟨stable_nil, ?_⟩
         refine dp 20 14 (.bool y17_14.2.1) ?_
         refine draw_end (by kernel_rfl) ?_
         refine ae [(0, .int .i64 (wr ((1 : Int) + y1_1))), (1, .int .i64 v), (7, .slice v2_7a (List.length cs17_14) v2_7c), (10, .int .i64 v2_10), (11, .int .i64 v2_11), (12, .int .i64 v2_12), (13, .pointer (some ⟨b17_18, 0, none⟩)), (14, .bool y17_14.2.1)] ?_
         refine at_round_normal ?_
         exact at_join_mk [(0, .int .i64 (wr ((1 : Int) + y1_1))), (1, .int .i64 v), (7, .slice v2_7a (List.length cs17_14) v2_7c), (10, .int .i64 v2_10), (11, .int .i64 v2_11), (12, .int .i64 v2_12), (13, .pointer (some ⟨b17_18, 0, none⟩)), (14, .bool y17_14.2.1)] ((PtrsX v2_7r v2_7a v2_7c cs17_14) :: (Asn.own b17_18 (.cells #[.int .i64 y17_14.1.kind, .int .i64 y17_14.1.line, .int .i64 y17_14.1.id, .int .i64 y17_14.1.step, .int .i64 y17_14.1.state, .int .i64 y17_14.1.head, .slice a17_14_00 (List.length y17_14.1.data) c17_14_00, .int .i64 y17_14.1.next, .int .i64 y17_14.1.told] 35 (0, 0))) :: (ImmI a17_14_00 y17_14.1.data) :: Γ) ⟨by kernel_rfl, by kernel_rfl, by kernel_rfl, by kernel_rfl, by kernel_rfl, by kernel_rfl, by kernel_rfl, by kernel_rfl, trivial⟩ (fun w hw => (Sat.less (.take (.there .here) (.take .here (.take .here (.drop .here (.drop .here .refl))))) hw)) ⟨cs17_14, v2_7a, v2_7c, v2_7r, b17_18, y17_14, a17_14_00, c17_14_00, H, rfl, rfl⟩
       ·refine t_step 18 13 [] [11, 10, 9, 8, 7, 5, 4, 3, 2] [6] (by kernel_rfl) (by kernel_rfl) (by kernel_rfl) (st_new (T := 35) (cells := #[.int .i64 (0), .int .i64 (0), .int .i64 (0), .int .i64 (0), .int .i64 (0), .int .i64 (0), .slice none 0 0, .int .i64 (0), .int .i64 (0)]) (fun a => .pointer (some a)) (fun _ => by kernel_rfl)) ?_
        rintro _ _ ⟨b17_18, rfl, rfl⟩
        refine ⟨(stable_cons 6 60 (.pointer (some ⟨pb17_6, 0, none⟩)) (by kernel_rfl) (by kernel_rfl) (by kernel_rfl) (load1_at (off := oo5 + ((v2_12).toNat * 1 + 0)) (v := .pointer (some ⟨pb17_6, 0, none⟩)) (fun _ => by kernel_rfl) rfl (ptr_cell (i := v2_12) (.there (.there .here)) ha5 hr17_6)) stable_nil), ?_⟩
        obtain ⟨l17_12, hl17_12, H⟩ := letE H
        refine d_step 12 66 [11] [10, 9, 8, 7, 5, 4, 3, 2] [6] (by kernel_rfl) (by kernel_rfl) (by kernel_rfl) (st_new_ints (T := 3) (xs := l17_12) 1 hl17_12 (fun _ => by kernel_rfl) (by kernel_rfl)) ?_
        rintro _ _ ⟨b17_12, rfl, rfl⟩
        refine ⟨(stable_cons 6 60 (.pointer (some ⟨pb17_6, 0, none⟩)) (by kernel_rfl) (by kernel_rfl) (by kernel_rfl) (load1_at (off := oo5 + ((v2_12).toNat * 1 + 0)) (v := .pointer (some ⟨pb17_6, 0, none⟩)) (fun _ => by kernel_rfl) rfl (ptr_cell (i := v2_12) (.there (.there (.there .here))) ha5 hr17_6)) stable_nil), ?_⟩
        refine dp 13 67 (.agg #[.int .i64 (7), .int .i64 (0), .int .i64 (0), .int .i64 v2_12, .int .i64 (2), .int .i64 (v2_12 - (1 : Int)), .int .i64 v2_10, .bool false, .slice (some ⟨b17_12, 0, none⟩) (List.length l17_12) 1]) ?_
        refine Draw.convS (Γ' := (CacheA pb17_6 (nthC v2_7x v2_12)) :: (HoleX v2_7r v2_7a v2_7c v2_7x v2_12) :: (IntsA (some ⟨b17_12, 0, none⟩) 1 l17_12) :: (Asn.own b17_18 (.cells #[.int .i64 (0), .int .i64 (0), .int .i64 (0), .int .i64 (0), .int .i64 (0), .int .i64 (0), .slice none 0 0, .int .i64 (0), .int .i64 (0)] 35 (0, 0))) :: (ImmI a17_1_00 y17_1.data) :: Γ) (fun w hw => PtrsX.take (i := v2_12) (.there (.there (.there .here))) hr17_6 hw) (stable_cons 6 60 (.pointer (some ⟨pb17_6, 0, none⟩)) (by kernel_rfl) (by kernel_rfl) (by kernel_rfl) (load1_at (off := oo5 + ((v2_12).toNat * 1 + 0)) (v := .pointer (some ⟨pb17_6, 0, none⟩)) (fun _ => by kernel_rfl) rfl (hole_cell (i := v2_12) (.there .here) ha5 hr17_6)) stable_nil) ?_
        obtain ⟨y17_14, hy17_14, H⟩ := bindE H
        refine d_call 14 68 [1, 2, 6, 13, 0, 5, 7, 9, 10, 12, 3, 4, 8, 11] [] [] 25 #[.agg #[.int .i64 y17_1.kind, .int .i64 y17_1.line, .int .i64 y17_1.id, .int .i64 y17_1.step, .int .i64 y17_1.state, .int .i64 y17_1.head, .slice a17_1_00 (List.length y17_1.data) c17_1_00, .int .i64 y17_1.next, .int .i64 y17_1.told], .int .i64 v2_12, .pointer (some ⟨pb17_6, 0, none⟩), .agg #[.int .i64 (7), .int .i64 (0), .int .i64 (0), .int .i64 v2_12, .int .i64 (2), .int .i64 (v2_12 - (1 : Int)), .int .i64 v2_10, .bool false, .slice (some ⟨b17_12, 0, none⟩) (List.length l17_12) 1]] (by kernel_rfl) (by kernel_rfl) (by kernel_rfl) (fun _ => by kernel_rfl) (Tr.conv (Γ' := (ImmI a17_1_00 y17_1.data) :: (CacheA pb17_6 (nthC v2_7x v2_12)) :: (ImmI a17_1_00 y17_1.data) :: (HoleX v2_7r v2_7a v2_7c v2_7x v2_12) :: (IntsA (some ⟨b17_12, 0, none⟩) 1 l17_12) :: (Asn.own b17_18 (.cells #[.int .i64 (0), .int .i64 (0), .int .i64 (0), .int .i64 (0), .int .i64 (0), .int .i64 (0), .slice none 0 0, .int .i64 (0), .int .i64 (0)] 35 (0, 0))) :: Γ) (fun w hw => (Sat.less (.take .here (.take (.there .here) (.take .here (.take .here (.take .here (.take .here .refl)))))) (ImmR.dup (Sat.less (.take (.there (.there (.there (.there .here)))) (.take .here (.take .here (.take .here (.take .here .refl))))) hw)))) (ANextF_tr a17_1_00 c17_1_00 y17_1 v2_12 pb17_6 (nthC v2_7x v2_12) (some ⟨b17_12, 0, none⟩) 1 (⟨7, 0, 0, v2_12, 2, v2_12 - (1 : Int), v2_10, false, l17_12⟩ : PktS) (RowsA.reads (k := 1) (.there (.there .here))) y17_14 hy17_14)) ?_
        rintro _ _ ⟨a17_14_00, c17_14_00, rfl, rfl⟩
        refine ⟨stable_nil, ?_⟩
        obtain ⟨cs17_14, hcs17_14, H⟩ := letE H
        refine Draw.convS (Γ' := (PtrsX v2_7r v2_7a v2_7c cs17_14) :: (ImmI a17_14_00 y17_14.1.data) :: (ImmI a17_1_00 y17_1.data) :: (IntsA (some ⟨b17_12, 0, none⟩) 1 l17_12) :: (Asn.own b17_18 (.cells #[.int .i64 (0), .int .i64 (0), .int .i64 (0), .int .i64 (0), .int .i64 (0), .int .i64 (0), .slice none 0 0, .int .i64 (0), .int .i64 (0)] 35 (0, 0))) :: Γ) (fun w hw => by rw [← hcs17_14]; exact PtrsX.put (i := v2_12) hr17_6 (Sat.less (.take (.there .here) (.take (.there (.there .here)) (.take .here (.take .here (.take .here (.take .here .refl)))))) hw)) stable_nil ?_
        have hncs17_14 : List.length v2_7x = List.length cs17_14 := by rw [← hcs17_14, setC_len]
        try rw [hncs17_14]
        refine dp 15 53 (.tuple #[.agg #[.int .i64 y17_14.1.kind, .int .i64 y17_14.1.line, .int .i64 y17_14.1.id, .int .i64 y17_14.1.step, .int .i64 y17_14.1.state, .int .i64 y17_14.1.head, .slice a17_14_00 (List.length y17_14.1.data) c17_14_00, .int .i64 y17_14.1.next, .int .i64 y17_14.1.told], .bool y17_14.2.1]) ?_
        refine dp 16 69 (.agg #[.int .i64 y17_14.1.kind, .int .i64 y17_14.1.line, .int .i64 y17_14.1.id, .int .i64 y17_14.1.step, .int .i64 y17_14.1.state, .int .i64 y17_14.1.head, .slice a17_14_00 (List.length y17_14.1.data) c17_14_00, .int .i64 y17_14.1.next, .int .i64 y17_14.1.told]) ?_
        refine dp 17 70 (.bool y17_14.2.1) ?_
        refine d_do 19 [18, 16, 14, 0, 1, 2, 3, 4, 5, 6, 7, 8, 9, 10, 11, 12, 13, 15] [17] [] (by kernel_rfl) (by kernel_rfl) (by kernel_rfl) (st_store (off := 0) (vs := [.int .i64 y17_14.1.kind, .int .i64 y17_14.1.line, .int .i64 y17_14.1.id, .int .i64 y17_14.1.step, .int .i64 y17_14.1.state, .int .i64 y17_14.1.head, .slice a17_14_00 (List.length y17_14.1.data) c17_14_00, .int .i64 y17_14.1.next, .int .i64 y17_14.1.told]) (c' := #[.int .i64 y17_14.1.kind, .int .i64 y17_14.1.line, .int .i64 y17_14.1.id, .int .i64 y17_14.1.step, .int .i64 y17_14.1.state, .int .i64 y17_14.1.head, .slice a17_14_00 (List.length y17_14.1.data) c17_14_00, .int .i64 y17_14.1.next, .int .i64 y17_14.1.told]) (fun _ => by kernel_rfl) (.there (.there (.there (.there .here)))) (by kernel_rfl) (by kernel_rfl) (by kernel_rfl)) ?_
        rintro _ _ ⟨rfl, rfl⟩
        refine ⟨stable_nil, ?_⟩
        refine dp 20 14 (.bool y17_14.2.1) ?_
        refine draw_end (by kernel_rfl) ?_
        refine ae [(0, .int .i64 (wr ((1 : Int) + y1_1))), (1, .int .i64 v), (7, .slice v2_7a (List.length cs17_14) v2_7c), (10, .int .i64 v2_10), (11, .int .i64 v2_11), (12, .int .i64 v2_12), (13, .pointer (some ⟨b17_18, 0, none⟩)), (14, .bool y17_14.2.1)] ?_
        refine at_round_normal ?_
        exact at_join_mk [(0, .int .i64 (wr ((1 : Int) + y1_1))), (1, .int .i64 v), (7, .slice v2_7a (List.length cs17_14) v2_7c), (10, .int .i64 v2_10), (11, .int .i64 v2_11), (12, .int .i64 v2_12), (13, .pointer (some ⟨b17_18, 0, none⟩)), (14, .bool y17_14.2.1)] ((PtrsX v2_7r v2_7a v2_7c cs17_14) :: (Asn.own b17_18 (.cells #[.int .i64 y17_14.1.kind, .int .i64 y17_14.1.line, .int .i64 y17_14.1.id, .int .i64 y17_14.1.step, .int .i64 y17_14.1.state, .int .i64 y17_14.1.head, .slice a17_14_00 (List.length y17_14.1.data) c17_14_00, .int .i64 y17_14.1.next, .int .i64 y17_14.1.told] 35 (0, 0))) :: (ImmI a17_14_00 y17_14.1.data) :: Γ) ⟨by kernel_rfl, by kernel_rfl, by kernel_rfl, by kernel_rfl, by kernel_rfl, by kernel_rfl, by kernel_rfl, by kernel_rfl, trivial⟩ (fun w hw => (Sat.less (.take (.there .here) (.take .here (.take .here (.drop .here (.drop .here .refl))))) hw)) ⟨cs17_14, v2_7a, v2_7c, v2_7r, b17_18, y17_14, a17_14_00, c17_14_00, H, rfl, rfl⟩
      ·obtain ⟨y17_1, hy17_1, H⟩ := bindE H
       obtain ⟨l17_12, hl17_12, H⟩ := letE H
       refine t_step 12 66 [11] [10, 9, 8, 7, 5, 4, 3, 2, 0] [6] (by kernel_rfl) (by kernel_rfl) (by kernel_rfl) (st_new_ints (T := 3) (xs := l17_12) 1 hl17_12 (fun _ => by kernel_rfl) (by kernel_rfl)) ?_
       rintro _ _ ⟨b17_12, rfl, rfl⟩
       refine ⟨(stable_cons 6 60 (.pointer (some ⟨pb17_6, 0, none⟩)) (by kernel_rfl) (by kernel_rfl) (by kernel_rfl) (load1_at (off := oo5 + ((v2_12).toNat * 1 + 0)) (v := .pointer (some ⟨pb17_6, 0, none⟩)) (fun _ => by kernel_rfl) rfl (ptr_cell (i := v2_12) (.there .here) ha5 hr17_6)) stable_nil), ?_⟩
       refine dp 13 67 (.agg #[.int .i64 (7), .int .i64 (0), .int .i64 (0), .int .i64 v2_12, .int .i64 (2), .int .i64 (v2_12 - (1 : Int)), .int .i64 v2_10, .bool false, .slice (some ⟨b17_12, 0, none⟩) (List.length l17_12) 1]) ?_
       refine draw_turns 1 [18] (by kernel_rfl) (turns_cons ?_ (turns_cons ?_ turns_nil))
       ·refine t_call 1 55 [0] [13, 10, 9, 8, 7, 5, 4, 3, 2] [6] 17 #[.int .i64 (1), .int .i64 (2), .int .i64 v2_12] (by kernel_rfl) (by kernel_rfl) (by kernel_rfl) (fun _ => by kernel_rfl) (DBeginF_tr (1 : Int) (2 : Int) v2_12 y17_1 hy17_1) ?_
        rintro _ _ ⟨a17_1_00, c17_1_00, rfl, rfl⟩
        refine ⟨(stable_cons 6 60 (.pointer (some ⟨pb17_6, 0, none⟩)) (by kernel_rfl) (by kernel_rfl) (by kernel_rfl) (load1_at (off := oo5 + ((v2_12).toNat * 1 + 0)) (v := .pointer (some ⟨pb17_6, 0, none⟩)) (fun _ => by kernel_rfl) rfl (ptr_cell (i := v2_12) (.there (.there .here)) ha5 hr17_6)) stable_nil), ?_⟩
        refine draw_turns 14 [18] (by kernel_rfl) (turns_cons ?_ (turns_cons ?_ turns_nil))
        ·obtain ⟨y17_14, hy17_14, H⟩ := bindE H
         refine t_call 14 68 [1, 2, 6, 13, 0, 5, 7, 9, 10, 12, 3, 4, 8, 11] [] [] 25 #[.agg #[.int .i64 y17_1.kind, .int .i64 y17_1.line, .int .i64 y17_1.id, .int .i64 y17_1.step, .int .i64 y17_1.state, .int .i64 y17_1.head, .slice a17_1_00 (List.length y17_1.data) c17_1_00, .int .i64 y17_1.next, .int .i64 y17_1.told], .int .i64 v2_12, .pointer (some ⟨pb17_6, 0, none⟩), .agg #[.int .i64 (7), .int .i64 (0), .int .i64 (0), .int .i64 v2_12, .int .i64 (2), .int .i64 (v2_12 - (1 : Int)), .int .i64 v2_10, .bool false, .slice (some ⟨b17_12, 0, none⟩) (List.length l17_12) 1]] (by kernel_rfl) (by kernel_rfl) (by kernel_rfl) (fun _ => by kernel_rfl) (Tr.conv (Γ' := (CacheA pb17_6 (nthC v2_7x v2_12)) :: (HoleX v2_7r v2_7a v2_7c v2_7x v2_12) :: (ImmI a17_1_00 y17_1.data) :: (IntsA (some ⟨b17_12, 0, none⟩) 1 l17_12) :: Γ) (fun w hw => PtrsX.take (i := v2_12) (.there (.there .here)) hr17_6 hw) (Tr.conv (Γ' := (ImmI a17_1_00 y17_1.data) :: (CacheA pb17_6 (nthC v2_7x v2_12)) :: (ImmI a17_1_00 y17_1.data) :: (HoleX v2_7r v2_7a v2_7c v2_7x v2_12) :: (IntsA (some ⟨b17_12, 0, none⟩) 1 l17_12) :: Γ) (fun w hw => (Sat.less (.take .here (.take (.there .here) (.take .here (.take .here (.take .here .refl))))) (ImmR.dup (Sat.less (.take (.there (.there .here)) (.take .here (.take .here (.take .here .refl)))) hw)))) (ANextF_tr a17_1_00 c17_1_00 y17_1 v2_12 pb17_6 (nthC v2_7x v2_12) (some ⟨b17_12, 0, none⟩) 1 (⟨7, 0, 0, v2_12, 2, v2_12 - (1 : Int), v2_10, false, l17_12⟩ : PktS) (RowsA.reads (k := 1) (.there (.there .here))) y17_14 hy17_14))) ?_
         rintro _ _ ⟨a17_14_00, c17_14_00, rfl, rfl⟩
         refine ⟨stable_nil, ?_⟩
         obtain ⟨cs17_14, hcs17_14, H⟩ := letE H
         refine Draw.convS (Γ' := (PtrsX v2_7r v2_7a v2_7c cs17_14) :: (ImmI a17_14_00 y17_14.1.data) :: (ImmI a17_1_00 y17_1.data) :: (IntsA (some ⟨b17_12, 0, none⟩) 1 l17_12) :: Γ) (fun w hw => by rw [← hcs17_14]; exact PtrsX.put (i := v2_12) hr17_6 (Sat.less (.take (.there .here) (.take (.there (.there .here)) (.take .here (.take .here (.take .here .refl))))) hw)) stable_nil ?_
         have hncs17_14 : List.length v2_7x = List.length cs17_14 := by rw [← hcs17_14, setC_len]
         try rw [hncs17_14]
         refine dp 15 53 (.tuple #[.agg #[.int .i64 y17_14.1.kind, .int .i64 y17_14.1.line, .int .i64 y17_14.1.id, .int .i64 y17_14.1.step, .int .i64 y17_14.1.state, .int .i64 y17_14.1.head, .slice a17_14_00 (List.length y17_14.1.data) c17_14_00, .int .i64 y17_14.1.next, .int .i64 y17_14.1.told], .bool y17_14.2.1]) ?_
         refine dp 16 69 (.agg #[.int .i64 y17_14.1.kind, .int .i64 y17_14.1.line, .int .i64 y17_14.1.id, .int .i64 y17_14.1.step, .int .i64 y17_14.1.state, .int .i64 y17_14.1.head, .slice a17_14_00 (List.length y17_14.1.data) c17_14_00, .int .i64 y17_14.1.next, .int .i64 y17_14.1.told]) ?_
         refine dp 17 70 (.bool y17_14.2.1) ?_
         refine d_step 18 13 [] [17, 16, 15] [] (by kernel_rfl) (by kernel_rfl) (by kernel_rfl) (st_new (T := 35) (cells := #[.int .i64 (0), .int .i64 (0), .int .i64 (0), .int .i64 (0), .int .i64 (0), .int .i64 (0), .slice none 0 0, .int .i64 (0), .int .i64 (0)]) (fun a => .pointer (some a)) (fun _ => by kernel_rfl)) ?_
         rintro _ _ ⟨b17_18, rfl, rfl⟩
         refine ⟨stable_nil, ?_⟩
         refine d_do 19 [18, 16, 14, 0, 1, 2, 3, 4, 5, 6, 7, 8, 9, 10, 11, 12, 13, 15] [17] [] (by kernel_rfl) (by kernel_rfl) (by kernel_rfl) (st_store (off := 0) (vs := [.int .i64 y17_14.1.kind, .int .i64 y17_14.1.line, .int .i64 y17_14.1.id, .int .i64 y17_14.1.step, .int .i64 y17_14.1.state, .int .i64 y17_14.1.head, .slice a17_14_00 (List.length y17_14.1.data) c17_14_00, .int .i64 y17_14.1.next, .int .i64 y17_14.1.told]) (c' := #[.int .i64 y17_14.1.kind, .int .i64 y17_14.1.line, .int .i64 y17_14.1.id, .int .i64 y17_14.1.step, .int .i64 y17_14.1.state, .int .i64 y17_14.1.head, .slice a17_14_00 (List.length y17_14.1.data) c17_14_00, .int .i64 y17_14.1.next, .int .i64 y17_14.1.told]) (fun _ => by kernel_rfl) .here (by kernel_rfl) (by kernel_rfl) (by kernel_rfl)) ?_
         rintro _ _ ⟨rfl, rfl⟩
         refine ⟨stable_nil, ?_⟩
         refine dp 20 14 (.bool y17_14.2.1) ?_
         refine draw_end (by kernel_rfl) ?_
         refine ae [(0, .int .i64 (wr ((1 : Int) + y1_1))), (1, .int .i64 v), (7, .slice v2_7a (List.length cs17_14) v2_7c), (10, .int .i64 v2_10), (11, .int .i64 v2_11), (12, .int .i64 v2_12), (13, .pointer (some ⟨b17_18, 0, none⟩)), (14, .bool y17_14.2.1)] ?_
         refine at_round_normal ?_
         exact at_join_mk [(0, .int .i64 (wr ((1 : Int) + y1_1))), (1, .int .i64 v), (7, .slice v2_7a (List.length cs17_14) v2_7c), (10, .int .i64 v2_10), (11, .int .i64 v2_11), (12, .int .i64 v2_12), (13, .pointer (some ⟨b17_18, 0, none⟩)), (14, .bool y17_14.2.1)] ((PtrsX v2_7r v2_7a v2_7c cs17_14) :: (Asn.own b17_18 (.cells #[.int .i64 y17_14.1.kind, .int .i64 y17_14.1.line, .int .i64 y17_14.1.id, .int .i64 y17_14.1.step, .int .i64 y17_14.1.state, .int .i64 y17_14.1.head, .slice a17_14_00 (List.length y17_14.1.data) c17_14_00, .int .i64 y17_14.1.next, .int .i64 y17_14.1.told] 35 (0, 0))) :: (ImmI a17_14_00 y17_14.1.data) :: Γ) ⟨by kernel_rfl, by kernel_rfl, by kernel_rfl, by kernel_rfl, by kernel_rfl, by kernel_rfl, by kernel_rfl, by kernel_rfl, trivial⟩ (fun w hw => (Sat.less (.take (.there .here) (.take .here (.take .here (.drop .here (.drop .here .refl))))) hw)) ⟨cs17_14, v2_7a, v2_7c, v2_7r, b17_18, y17_14, a17_14_00, c17_14_00, H, rfl, rfl⟩
        ·refine t_step 18 13 [] [13, 10, 9, 8, 7, 5, 4, 3, 2] [6] (by kernel_rfl) (by kernel_rfl) (by kernel_rfl) (st_new (T := 35) (cells := #[.int .i64 (0), .int .i64 (0), .int .i64 (0), .int .i64 (0), .int .i64 (0), .int .i64 (0), .slice none 0 0, .int .i64 (0), .int .i64 (0)]) (fun a => .pointer (some a)) (fun _ => by kernel_rfl)) ?_
         rintro _ _ ⟨b17_18, rfl, rfl⟩
         refine ⟨(stable_cons 6 60 (.pointer (some ⟨pb17_6, 0, none⟩)) (by kernel_rfl) (by kernel_rfl) (by kernel_rfl) (load1_at (off := oo5 + ((v2_12).toNat * 1 + 0)) (v := .pointer (some ⟨pb17_6, 0, none⟩)) (fun _ => by kernel_rfl) rfl (ptr_cell (i := v2_12) (.there (.there (.there .here))) ha5 hr17_6)) stable_nil), ?_⟩
         refine Draw.convS (Γ' := (CacheA pb17_6 (nthC v2_7x v2_12)) :: (HoleX v2_7r v2_7a v2_7c v2_7x v2_12) :: (Asn.own b17_18 (.cells #[.int .i64 (0), .int .i64 (0), .int .i64 (0), .int .i64 (0), .int .i64 (0), .int .i64 (0), .slice none 0 0, .int .i64 (0), .int .i64 (0)] 35 (0, 0))) :: (ImmI a17_1_00 y17_1.data) :: (IntsA (some ⟨b17_12, 0, none⟩) 1 l17_12) :: Γ) (fun w hw => PtrsX.take (i := v2_12) (.there (.there (.there .here))) hr17_6 hw) (stable_cons 6 60 (.pointer (some ⟨pb17_6, 0, none⟩)) (by kernel_rfl) (by kernel_rfl) (by kernel_rfl) (load1_at (off := oo5 + ((v2_12).toNat * 1 + 0)) (v := .pointer (some ⟨pb17_6, 0, none⟩)) (fun _ => by kernel_rfl) rfl (hole_cell (i := v2_12) (.there .here) ha5 hr17_6)) stable_nil) ?_
         obtain ⟨y17_14, hy17_14, H⟩ := bindE H
         refine d_call 14 68 [1, 2, 6, 13, 0, 5, 7, 9, 10, 12, 3, 4, 8, 11] [] [] 25 #[.agg #[.int .i64 y17_1.kind, .int .i64 y17_1.line, .int .i64 y17_1.id, .int .i64 y17_1.step, .int .i64 y17_1.state, .int .i64 y17_1.head, .slice a17_1_00 (List.length y17_1.data) c17_1_00, .int .i64 y17_1.next, .int .i64 y17_1.told], .int .i64 v2_12, .pointer (some ⟨pb17_6, 0, none⟩), .agg #[.int .i64 (7), .int .i64 (0), .int .i64 (0), .int .i64 v2_12, .int .i64 (2), .int .i64 (v2_12 - (1 : Int)), .int .i64 v2_10, .bool false, .slice (some ⟨b17_12, 0, none⟩) (List.length l17_12) 1]] (by kernel_rfl) (by kernel_rfl) (by kernel_rfl) (fun _ => by kernel_rfl) (Tr.conv (Γ' := (ImmI a17_1_00 y17_1.data) :: (CacheA pb17_6 (nthC v2_7x v2_12)) :: (ImmI a17_1_00 y17_1.data) :: (HoleX v2_7r v2_7a v2_7c v2_7x v2_12) :: (Asn.own b17_18 (.cells #[.int .i64 (0), .int .i64 (0), .int .i64 (0), .int .i64 (0), .int .i64 (0), .int .i64 (0), .slice none 0 0, .int .i64 (0), .int .i64 (0)] 35 (0, 0))) :: (IntsA (some ⟨b17_12, 0, none⟩) 1 l17_12) :: Γ) (fun w hw => (Sat.less (.take .here (.take (.there .here) (.take .here (.take .here (.take .here (.take .here .refl)))))) (ImmR.dup (Sat.less (.take (.there (.there (.there .here))) (.take .here (.take .here (.take .here (.take .here .refl))))) hw)))) (ANextF_tr a17_1_00 c17_1_00 y17_1 v2_12 pb17_6 (nthC v2_7x v2_12) (some ⟨b17_12, 0, none⟩) 1 (⟨7, 0, 0, v2_12, 2, v2_12 - (1 : Int), v2_10, false, l17_12⟩ : PktS) (RowsA.reads (k := 1) (.there (.there (.there .here)))) y17_14 hy17_14)) ?_
         rintro _ _ ⟨a17_14_00, c17_14_00, rfl, rfl⟩
         refine ⟨stable_nil, ?_⟩
         obtain ⟨cs17_14, hcs17_14, H⟩ := letE H
         refine Draw.convS (Γ' := (PtrsX v2_7r v2_7a v2_7c cs17_14) :: (ImmI a17_14_00 y17_14.1.data) :: (ImmI a17_1_00 y17_1.data) :: (Asn.own b17_18 (.cells #[.int .i64 (0), .int .i64 (0), .int .i64 (0), .int .i64 (0), .int .i64 (0), .int .i64 (0), .slice none 0 0, .int .i64 (0), .int .i64 (0)] 35 (0, 0))) :: (IntsA (some ⟨b17_12, 0, none⟩) 1 l17_12) :: Γ) (fun w hw => by rw [← hcs17_14]; exact PtrsX.put (i := v2_12) hr17_6 (Sat.less (.take (.there .here) (.take (.there (.there .here)) (.take .here (.take .here (.take .here (.take .here .refl)))))) hw)) stable_nil ?_
         have hncs17_14 : List.length v2_7x = List.length cs17_14 := by rw [← hcs17_14, setC_len]
         try rw [hncs17_14]
         refine dp 15 53 (.tuple #[.agg #[.int .i64 y17_14.1.kind, .int .i64 y17_14.1.line, .int .i64 y17_14.1.id, .int .i64 y17_14.1.step, .int .i64 y17_14.1.state, .int .i64 y17_14.1.head, .slice a17_14_00 (List.length y17_14.1.data) c17_14_00, .int .i64 y17_14.1.next, .int .i64 y17_14.1.told], .bool y17_14.2.1]) ?_
         refine dp 16 69 (.agg #[.int .i64 y17_14.1.kind, .int .i64 y17_14.1.line, .int .i64 y17_14.1.id, .int .i64 y17_14.1.step, .int .i64 y17_14.1.state, .int .i64 y17_14.1.head, .slice a17_14_00 (List.length y17_14.1.data) c17_14_00, .int .i64 y17_14.1.next, .int .i64 y17_14.1.told]) ?_
         refine dp 17 70 (.bool y17_14.2.1) ?_
         refine d_do 19 [18, 16, 14, 0, 1, 2, 3, 4, 5, 6, 7, 8, 9, 10, 11, 12, 13, 15] [17] [] (by kernel_rfl) (by kernel_rfl) (by kernel_rfl) (st_store (off := 0) (vs := [.int .i64 y17_14.1.kind, .int .i64 y17_14.1.line, .int .i64 y17_14.1.id, .int .i64 y17_14.1.step, .int .i64 y17_14.1.state, .int .i64 y17_14.1.head, .slice a17_14_00 (List.length y17_14.1.data) c17_14_00, .int .i64 y17_14.1.next, .int .i64 y17_14.1.told]) (c' := #[.int .i64 y17_14.1.kind, .int .i64 y17_14.1.line, .int .i64 y17_14.1.id, .int .i64 y17_14.1.step, .int .i64 y17_14.1.state, .int .i64 y17_14.1.head, .slice a17_14_00 (List.length y17_14.1.data) c17_14_00, .int .i64 y17_14.1.next, .int .i64 y17_14.1.told]) (fun _ => by kernel_rfl) (.there (.there (.there .here))) (by kernel_rfl) (by kernel_rfl) (by kernel_rfl)) ?_
         rintro _ _ ⟨rfl, rfl⟩
         refine ⟨stable_nil, ?_⟩
         refine dp 20 14 (.bool y17_14.2.1) ?_
         refine draw_end (by kernel_rfl) ?_
         refine ae [(0, .int .i64 (wr ((1 : Int) + y1_1))), (1, .int .i64 v), (7, .slice v2_7a (List.length cs17_14) v2_7c), (10, .int .i64 v2_10), (11, .int .i64 v2_11), (12, .int .i64 v2_12), (13, .pointer (some ⟨b17_18, 0, none⟩)), (14, .bool y17_14.2.1)] ?_
         refine at_round_normal ?_
         exact at_join_mk [(0, .int .i64 (wr ((1 : Int) + y1_1))), (1, .int .i64 v), (7, .slice v2_7a (List.length cs17_14) v2_7c), (10, .int .i64 v2_10), (11, .int .i64 v2_11), (12, .int .i64 v2_12), (13, .pointer (some ⟨b17_18, 0, none⟩)), (14, .bool y17_14.2.1)] ((PtrsX v2_7r v2_7a v2_7c cs17_14) :: (Asn.own b17_18 (.cells #[.int .i64 y17_14.1.kind, .int .i64 y17_14.1.line, .int .i64 y17_14.1.id, .int .i64 y17_14.1.step, .int .i64 y17_14.1.state, .int .i64 y17_14.1.head, .slice a17_14_00 (List.length y17_14.1.data) c17_14_00, .int .i64 y17_14.1.next, .int .i64 y17_14.1.told] 35 (0, 0))) :: (ImmI a17_14_00 y17_14.1.data) :: Γ) ⟨by kernel_rfl, by kernel_rfl, by kernel_rfl, by kernel_rfl, by kernel_rfl, by kernel_rfl, by kernel_rfl, by kernel_rfl, trivial⟩ (fun w hw => (Sat.less (.take (.there .here) (.take .here (.take .here (.drop .here (.drop .here .refl))))) hw)) ⟨cs17_14, v2_7a, v2_7c, v2_7r, b17_18, y17_14, a17_14_00, c17_14_00, H, rfl, rfl⟩
       ·refine t_step 18 13 [] [13, 10, 9, 8, 7, 5, 4, 3, 2, 0] [6] (by kernel_rfl) (by kernel_rfl) (by kernel_rfl) (st_new (T := 35) (cells := #[.int .i64 (0), .int .i64 (0), .int .i64 (0), .int .i64 (0), .int .i64 (0), .int .i64 (0), .slice none 0 0, .int .i64 (0), .int .i64 (0)]) (fun a => .pointer (some a)) (fun _ => by kernel_rfl)) ?_
        rintro _ _ ⟨b17_18, rfl, rfl⟩
        refine ⟨(stable_cons 6 60 (.pointer (some ⟨pb17_6, 0, none⟩)) (by kernel_rfl) (by kernel_rfl) (by kernel_rfl) (load1_at (off := oo5 + ((v2_12).toNat * 1 + 0)) (v := .pointer (some ⟨pb17_6, 0, none⟩)) (fun _ => by kernel_rfl) rfl (ptr_cell (i := v2_12) (.there (.there .here)) ha5 hr17_6)) stable_nil), ?_⟩
        refine d_call 1 55 [0] [13, 10, 9, 8, 7, 5, 4, 3, 2] [6] 17 #[.int .i64 (1), .int .i64 (2), .int .i64 v2_12] (by kernel_rfl) (by kernel_rfl) (by kernel_rfl) (fun _ => by kernel_rfl) (DBeginF_tr (1 : Int) (2 : Int) v2_12 y17_1 hy17_1) ?_
        rintro _ _ ⟨a17_1_00, c17_1_00, rfl, rfl⟩
        refine ⟨(stable_cons 6 60 (.pointer (some ⟨pb17_6, 0, none⟩)) (by kernel_rfl) (by kernel_rfl) (by kernel_rfl) (load1_at (off := oo5 + ((v2_12).toNat * 1 + 0)) (v := .pointer (some ⟨pb17_6, 0, none⟩)) (fun _ => by kernel_rfl) rfl (ptr_cell (i := v2_12) (.there (.there (.there .here))) ha5 hr17_6)) stable_nil), ?_⟩
        refine Draw.convS (Γ' := (CacheA pb17_6 (nthC v2_7x v2_12)) :: (HoleX v2_7r v2_7a v2_7c v2_7x v2_12) :: (ImmI a17_1_00 y17_1.data) :: (Asn.own b17_18 (.cells #[.int .i64 (0), .int .i64 (0), .int .i64 (0), .int .i64 (0), .int .i64 (0), .int .i64 (0), .slice none 0 0, .int .i64 (0), .int .i64 (0)] 35 (0, 0))) :: (IntsA (some ⟨b17_12, 0, none⟩) 1 l17_12) :: Γ) (fun w hw => PtrsX.take (i := v2_12) (.there (.there (.there .here))) hr17_6 hw) (stable_cons 6 60 (.pointer (some ⟨pb17_6, 0, none⟩)) (by kernel_rfl) (by kernel_rfl) (by kernel_rfl) (load1_at (off := oo5 + ((v2_12).toNat * 1 + 0)) (v := .pointer (some ⟨pb17_6, 0, none⟩)) (fun _ => by kernel_rfl) rfl (hole_cell (i := v2_12) (.there .here) ha5 hr17_6)) stable_nil) ?_
        obtain ⟨y17_14, hy17_14, H⟩ := bindE H
        refine d_call 14 68 [1, 2, 6, 13, 0, 5, 7, 9, 10, 12, 3, 4, 8, 11] [] [] 25 #[.agg #[.int .i64 y17_1.kind, .int .i64 y17_1.line, .int .i64 y17_1.id, .int .i64 y17_1.step, .int .i64 y17_1.state, .int .i64 y17_1.head, .slice a17_1_00 (List.length y17_1.data) c17_1_00, .int .i64 y17_1.next, .int .i64 y17_1.told], .int .i64 v2_12, .pointer (some ⟨pb17_6, 0, none⟩), .agg #[.int .i64 (7), .int .i64 (0), .int .i64 (0), .int .i64 v2_12, .int .i64 (2), .int .i64 (v2_12 - (1 : Int)), .int .i64 v2_10, .bool false, .slice (some ⟨b17_12, 0, none⟩) (List.length l17_12) 1]] (by kernel_rfl) (by kernel_rfl) (by kernel_rfl) (fun _ => by kernel_rfl) (Tr.conv (Γ' := (ImmI a17_1_00 y17_1.data) :: (CacheA pb17_6 (nthC v2_7x v2_12)) :: (ImmI a17_1_00 y17_1.data) :: (HoleX v2_7r v2_7a v2_7c v2_7x v2_12) :: (Asn.own b17_18 (.cells #[.int .i64 (0), .int .i64 (0), .int .i64 (0), .int .i64 (0), .int .i64 (0), .int .i64 (0), .slice none 0 0, .int .i64 (0), .int .i64 (0)] 35 (0, 0))) :: (IntsA (some ⟨b17_12, 0, none⟩) 1 l17_12) :: Γ) (fun w hw => (Sat.less (.take .here (.take (.there .here) (.take .here (.take .here (.take .here (.take .here .refl)))))) (ImmR.dup (Sat.less (.take (.there (.there .here)) (.take .here (.take .here (.take .here (.take .here .refl))))) hw)))) (ANextF_tr a17_1_00 c17_1_00 y17_1 v2_12 pb17_6 (nthC v2_7x v2_12) (some ⟨b17_12, 0, none⟩) 1 (⟨7, 0, 0, v2_12, 2, v2_12 - (1 : Int), v2_10, false, l17_12⟩ : PktS) (RowsA.reads (k := 1) (.there (.there (.there .here)))) y17_14 hy17_14)) ?_
        rintro _ _ ⟨a17_14_00, c17_14_00, rfl, rfl⟩
        refine ⟨stable_nil, ?_⟩
        obtain ⟨cs17_14, hcs17_14, H⟩ := letE H
        refine Draw.convS (Γ' := (PtrsX v2_7r v2_7a v2_7c cs17_14) :: (ImmI a17_14_00 y17_14.1.data) :: (ImmI a17_1_00 y17_1.data) :: (Asn.own b17_18 (.cells #[.int .i64 (0), .int .i64 (0), .int .i64 (0), .int .i64 (0), .int .i64 (0), .int .i64 (0), .slice none 0 0, .int .i64 (0), .int .i64 (0)] 35 (0, 0))) :: (IntsA (some ⟨b17_12, 0, none⟩) 1 l17_12) :: Γ) (fun w hw => by rw [← hcs17_14]; exact PtrsX.put (i := v2_12) hr17_6 (Sat.less (.take (.there .here) (.take (.there (.there .here)) (.take .here (.take .here (.take .here (.take .here .refl)))))) hw)) stable_nil ?_
        have hncs17_14 : List.length v2_7x = List.length cs17_14 := by rw [← hcs17_14, setC_len]
        try rw [hncs17_14]
        refine dp 15 53 (.tuple #[.agg #[.int .i64 y17_14.1.kind, .int .i64 y17_14.1.line, .int .i64 y17_14.1.id, .int .i64 y17_14.1.step, .int .i64 y17_14.1.state, .int .i64 y17_14.1.head, .slice a17_14_00 (List.length y17_14.1.data) c17_14_00, .int .i64 y17_14.1.next, .int .i64 y17_14.1.told], .bool y17_14.2.1]) ?_
        refine dp 16 69 (.agg #[.int .i64 y17_14.1.kind, .int .i64 y17_14.1.line, .int .i64 y17_14.1.id, .int .i64 y17_14.1.step, .int .i64 y17_14.1.state, .int .i64 y17_14.1.head, .slice a17_14_00 (List.length y17_14.1.data) c17_14_00, .int .i64 y17_14.1.next, .int .i64 y17_14.1.told]) ?_
        refine dp 17 70 (.bool y17_14.2.1) ?_
        refine d_do 19 [18, 16, 14, 0, 1, 2, 3, 4, 5, 6, 7, 8, 9, 10, 11, 12, 13, 15] [17] [] (by kernel_rfl) (by kernel_rfl) (by kernel_rfl) (st_store (off := 0) (vs := [.int .i64 y17_14.1.kind, .int .i64 y17_14.1.line, .int .i64 y17_14.1.id, .int .i64 y17_14.1.step, .int .i64 y17_14.1.state, .int .i64 y17_14.1.head, .slice a17_14_00 (List.length y17_14.1.data) c17_14_00, .int .i64 y17_14.1.next, .int .i64 y17_14.1.told]) (c' := #[.int .i64 y17_14.1.kind, .int .i64 y17_14.1.line, .int .i64 y17_14.1.id, .int .i64 y17_14.1.step, .int .i64 y17_14.1.state, .int .i64 y17_14.1.head, .slice a17_14_00 (List.length y17_14.1.data) c17_14_00, .int .i64 y17_14.1.next, .int .i64 y17_14.1.told]) (fun _ => by kernel_rfl) (.there (.there (.there .here))) (by kernel_rfl) (by kernel_rfl) (by kernel_rfl)) ?_
        rintro _ _ ⟨rfl, rfl⟩
        refine ⟨stable_nil, ?_⟩
        refine dp 20 14 (.bool y17_14.2.1) ?_
        refine draw_end (by kernel_rfl) ?_
        refine ae [(0, .int .i64 (wr ((1 : Int) + y1_1))), (1, .int .i64 v), (7, .slice v2_7a (List.length cs17_14) v2_7c), (10, .int .i64 v2_10), (11, .int .i64 v2_11), (12, .int .i64 v2_12), (13, .pointer (some ⟨b17_18, 0, none⟩)), (14, .bool y17_14.2.1)] ?_
        refine at_round_normal ?_
        exact at_join_mk [(0, .int .i64 (wr ((1 : Int) + y1_1))), (1, .int .i64 v), (7, .slice v2_7a (List.length cs17_14) v2_7c), (10, .int .i64 v2_10), (11, .int .i64 v2_11), (12, .int .i64 v2_12), (13, .pointer (some ⟨b17_18, 0, none⟩)), (14, .bool y17_14.2.1)] ((PtrsX v2_7r v2_7a v2_7c cs17_14) :: (Asn.own b17_18 (.cells #[.int .i64 y17_14.1.kind, .int .i64 y17_14.1.line, .int .i64 y17_14.1.id, .int .i64 y17_14.1.step, .int .i64 y17_14.1.state, .int .i64 y17_14.1.head, .slice a17_14_00 (List.length y17_14.1.data) c17_14_00, .int .i64 y17_14.1.next, .int .i64 y17_14.1.told] 35 (0, 0))) :: (ImmI a17_14_00 y17_14.1.data) :: Γ) ⟨by kernel_rfl, by kernel_rfl, by kernel_rfl, by kernel_rfl, by kernel_rfl, by kernel_rfl, by kernel_rfl, by kernel_rfl, trivial⟩ (fun w hw => (Sat.less (.take (.there .here) (.take .here (.take .here (.drop .here (.drop .here .refl))))) hw)) ⟨cs17_14, v2_7a, v2_7c, v2_7r, b17_18, y17_14, a17_14_00, c17_14_00, H, rfl, rfl⟩
      ·refine t_step 18 13 [] [11, 10, 9, 8, 7, 5, 4, 3, 2, 0] [6] (by kernel_rfl) (by kernel_rfl) (by kernel_rfl) (st_new (T := 35) (cells := #[.int .i64 (0), .int .i64 (0), .int .i64 (0), .int .i64 (0), .int .i64 (0), .int .i64 (0), .slice none 0 0, .int .i64 (0), .int .i64 (0)]) (fun a => .pointer (some a)) (fun _ => by kernel_rfl)) ?_
       rintro _ _ ⟨b17_18, rfl, rfl⟩
       refine ⟨(stable_cons 6 60 (.pointer (some ⟨pb17_6, 0, none⟩)) (by kernel_rfl) (by kernel_rfl) (by kernel_rfl) (load1_at (off := oo5 + ((v2_12).toNat * 1 + 0)) (v := .pointer (some ⟨pb17_6, 0, none⟩)) (fun _ => by kernel_rfl) rfl (ptr_cell (i := v2_12) (.there .here) ha5 hr17_6)) stable_nil), ?_⟩
       refine draw_turns 1 [12] (by kernel_rfl) (turns_cons ?_ (turns_cons ?_ turns_nil))
       ·obtain ⟨y17_1, hy17_1, H⟩ := bindE H
        refine t_call 1 55 [0] [11, 10, 9, 8, 7, 5, 4, 3, 2] [6] 17 #[.int .i64 (1), .int .i64 (2), .int .i64 v2_12] (by kernel_rfl) (by kernel_rfl) (by kernel_rfl) (fun _ => by kernel_rfl) (DBeginF_tr (1 : Int) (2 : Int) v2_12 y17_1 hy17_1) ?_
        rintro _ _ ⟨a17_1_00, c17_1_00, rfl, rfl⟩
        refine ⟨(stable_cons 6 60 (.pointer (some ⟨pb17_6, 0, none⟩)) (by kernel_rfl) (by kernel_rfl) (by kernel_rfl) (load1_at (off := oo5 + ((v2_12).toNat * 1 + 0)) (v := .pointer (some ⟨pb17_6, 0, none⟩)) (fun _ => by kernel_rfl) rfl (ptr_cell (i := v2_12) (.there (.there .here)) ha5 hr17_6)) stable_nil), ?_⟩
        obtain ⟨l17_12, hl17_12, H⟩ := letE H
        refine d_step 12 66 [11] [10, 9, 8, 7, 5, 4, 3, 2] [6] (by kernel_rfl) (by kernel_rfl) (by kernel_rfl) (st_new_ints (T := 3) (xs := l17_12) 1 hl17_12 (fun _ => by kernel_rfl) (by kernel_rfl)) ?_
        rintro _ _ ⟨b17_12, rfl, rfl⟩
        refine ⟨(stable_cons 6 60 (.pointer (some ⟨pb17_6, 0, none⟩)) (by kernel_rfl) (by kernel_rfl) (by kernel_rfl) (load1_at (off := oo5 + ((v2_12).toNat * 1 + 0)) (v := .pointer (some ⟨pb17_6, 0, none⟩)) (fun _ => by kernel_rfl) rfl (ptr_cell (i := v2_12) (.there (.there (.there .here))) ha5 hr17_6)) stable_nil), ?_⟩
        refine dp 13 67 (.agg #[.int .i64 (7), .int .i64 (0), .int .i64 (0), .int .i64 v2_12, .int .i64 (2), .int .i64 (v2_12 - (1 : Int)), .int .i64 v2_10, .bool false, .slice (some ⟨b17_12, 0, none⟩) (List.length l17_12) 1]) ?_
        refine Draw.convS (Γ' := (CacheA pb17_6 (nthC v2_7x v2_12)) :: (HoleX v2_7r v2_7a v2_7c v2_7x v2_12) :: (IntsA (some ⟨b17_12, 0, none⟩) 1 l17_12) :: (ImmI a17_1_00 y17_1.data) :: (Asn.own b17_18 (.cells #[.int .i64 (0), .int .i64 (0), .int .i64 (0), .int .i64 (0), .int .i64 (0), .int .i64 (0), .slice none 0 0, .int .i64 (0), .int .i64 (0)] 35 (0, 0))) :: Γ) (fun w hw => PtrsX.take (i := v2_12) (.there (.there (.there .here))) hr17_6 hw) (stable_cons 6 60 (.pointer (some ⟨pb17_6, 0, none⟩)) (by kernel_rfl) (by kernel_rfl) (by kernel_rfl) (load1_at (off := oo5 + ((v2_12).toNat * 1 + 0)) (v := .pointer (some ⟨pb17_6, 0, none⟩)) (fun _ => by kernel_rfl) rfl (hole_cell (i := v2_12) (.there .here) ha5 hr17_6)) stable_nil) ?_
        obtain ⟨y17_14, hy17_14, H⟩ := bindE H
        refine d_call 14 68 [1, 2, 6, 13, 0, 5, 7, 9, 10, 12, 3, 4, 8, 11] [] [] 25 #[.agg #[.int .i64 y17_1.kind, .int .i64 y17_1.line, .int .i64 y17_1.id, .int .i64 y17_1.step, .int .i64 y17_1.state, .int .i64 y17_1.head, .slice a17_1_00 (List.length y17_1.data) c17_1_00, .int .i64 y17_1.next, .int .i64 y17_1.told], .int .i64 v2_12, .pointer (some ⟨pb17_6, 0, none⟩), .agg #[.int .i64 (7), .int .i64 (0), .int .i64 (0), .int .i64 v2_12, .int .i64 (2), .int .i64 (v2_12 - (1 : Int)), .int .i64 v2_10, .bool false, .slice (some ⟨b17_12, 0, none⟩) (List.length l17_12) 1]] (by kernel_rfl) (by kernel_rfl) (by kernel_rfl) (fun _ => by kernel_rfl) (Tr.conv (Γ' := (ImmI a17_1_00 y17_1.data) :: (CacheA pb17_6 (nthC v2_7x v2_12)) :: (ImmI a17_1_00 y17_1.data) :: (HoleX v2_7r v2_7a v2_7c v2_7x v2_12) :: (IntsA (some ⟨b17_12, 0, none⟩) 1 l17_12) :: (Asn.own b17_18 (.cells #[.int .i64 (0), .int .i64 (0), .int .i64 (0), .int .i64 (0), .int .i64 (0), .int .i64 (0), .slice none 0 0, .int .i64 (0), .int .i64 (0)] 35 (0, 0))) :: Γ) (fun w hw => (Sat.less (.take .here (.take (.there .here) (.take .here (.take .here (.take .here (.take .here .refl)))))) (ImmR.dup (Sat.less (.take (.there (.there (.there .here))) (.take .here (.take .here (.take .here (.take .here .refl))))) hw)))) (ANextF_tr a17_1_00 c17_1_00 y17_1 v2_12 pb17_6 (nthC v2_7x v2_12) (some ⟨b17_12, 0, none⟩) 1 (⟨7, 0, 0, v2_12, 2, v2_12 - (1 : Int), v2_10, false, l17_12⟩ : PktS) (RowsA.reads (k := 1) (.there (.there .here))) y17_14 hy17_14)) ?_
        rintro _ _ ⟨a17_14_00, c17_14_00, rfl, rfl⟩
        refine ⟨stable_nil, ?_⟩
        obtain ⟨cs17_14, hcs17_14, H⟩ := letE H
        refine Draw.convS (Γ' := (PtrsX v2_7r v2_7a v2_7c cs17_14) :: (ImmI a17_14_00 y17_14.1.data) :: (ImmI a17_1_00 y17_1.data) :: (IntsA (some ⟨b17_12, 0, none⟩) 1 l17_12) :: (Asn.own b17_18 (.cells #[.int .i64 (0), .int .i64 (0), .int .i64 (0), .int .i64 (0), .int .i64 (0), .int .i64 (0), .slice none 0 0, .int .i64 (0), .int .i64 (0)] 35 (0, 0))) :: Γ) (fun w hw => by rw [← hcs17_14]; exact PtrsX.put (i := v2_12) hr17_6 (Sat.less (.take (.there .here) (.take (.there (.there .here)) (.take .here (.take .here (.take .here (.take .here .refl)))))) hw)) stable_nil ?_
        have hncs17_14 : List.length v2_7x = List.length cs17_14 := by rw [← hcs17_14, setC_len]
        try rw [hncs17_14]
        refine dp 15 53 (.tuple #[.agg #[.int .i64 y17_14.1.kind, .int .i64 y17_14.1.line, .int .i64 y17_14.1.id, .int .i64 y17_14.1.step, .int .i64 y17_14.1.state, .int .i64 y17_14.1.head, .slice a17_14_00 (List.length y17_14.1.data) c17_14_00, .int .i64 y17_14.1.next, .int .i64 y17_14.1.told], .bool y17_14.2.1]) ?_
        refine dp 16 69 (.agg #[.int .i64 y17_14.1.kind, .int .i64 y17_14.1.line, .int .i64 y17_14.1.id, .int .i64 y17_14.1.step, .int .i64 y17_14.1.state, .int .i64 y17_14.1.head, .slice a17_14_00 (List.length y17_14.1.data) c17_14_00, .int .i64 y17_14.1.next, .int .i64 y17_14.1.told]) ?_
        refine dp 17 70 (.bool y17_14.2.1) ?_
        refine d_do 19 [18, 16, 14, 0, 1, 2, 3, 4, 5, 6, 7, 8, 9, 10, 11, 12, 13, 15] [17] [] (by kernel_rfl) (by kernel_rfl) (by kernel_rfl) (st_store (off := 0) (vs := [.int .i64 y17_14.1.kind, .int .i64 y17_14.1.line, .int .i64 y17_14.1.id, .int .i64 y17_14.1.step, .int .i64 y17_14.1.state, .int .i64 y17_14.1.head, .slice a17_14_00 (List.length y17_14.1.data) c17_14_00, .int .i64 y17_14.1.next, .int .i64 y17_14.1.told]) (c' := #[.int .i64 y17_14.1.kind, .int .i64 y17_14.1.line, .int .i64 y17_14.1.id, .int .i64 y17_14.1.step, .int .i64 y17_14.1.state, .int .i64 y17_14.1.head, .slice a17_14_00 (List.length y17_14.1.data) c17_14_00, .int .i64 y17_14.1.next, .int .i64 y17_14.1.told]) (fun _ => by kernel_rfl) (.there (.there (.there (.there .here)))) (by kernel_rfl) (by kernel_rfl) (by kernel_rfl)) ?_
        rintro _ _ ⟨rfl, rfl⟩
        refine ⟨stable_nil, ?_⟩
        refine dp 20 14 (.bool y17_14.2.1) ?_
        refine draw_end (by kernel_rfl) ?_
        refine ae [(0, .int .i64 (wr ((1 : Int) + y1_1))), (1, .int .i64 v), (7, .slice v2_7a (List.length cs17_14) v2_7c), (10, .int .i64 v2_10), (11, .int .i64 v2_11), (12, .int .i64 v2_12), (13, .pointer (some ⟨b17_18, 0, none⟩)), (14, .bool y17_14.2.1)] ?_
        refine at_round_normal ?_
        exact at_join_mk [(0, .int .i64 (wr ((1 : Int) + y1_1))), (1, .int .i64 v), (7, .slice v2_7a (List.length cs17_14) v2_7c), (10, .int .i64 v2_10), (11, .int .i64 v2_11), (12, .int .i64 v2_12), (13, .pointer (some ⟨b17_18, 0, none⟩)), (14, .bool y17_14.2.1)] ((PtrsX v2_7r v2_7a v2_7c cs17_14) :: (Asn.own b17_18 (.cells #[.int .i64 y17_14.1.kind, .int .i64 y17_14.1.line, .int .i64 y17_14.1.id, .int .i64 y17_14.1.step, .int .i64 y17_14.1.state, .int .i64 y17_14.1.head, .slice a17_14_00 (List.length y17_14.1.data) c17_14_00, .int .i64 y17_14.1.next, .int .i64 y17_14.1.told] 35 (0, 0))) :: (ImmI a17_14_00 y17_14.1.data) :: Γ) ⟨by kernel_rfl, by kernel_rfl, by kernel_rfl, by kernel_rfl, by kernel_rfl, by kernel_rfl, by kernel_rfl, by kernel_rfl, trivial⟩ (fun w hw => (Sat.less (.take (.there .here) (.take .here (.take .here (.drop .here (.drop .here .refl))))) hw)) ⟨cs17_14, v2_7a, v2_7c, v2_7r, b17_18, y17_14, a17_14_00, c17_14_00, H, rfl, rfl⟩
       ·obtain ⟨y17_1, hy17_1, H⟩ := bindE H
        obtain ⟨l17_12, hl17_12, H⟩ := letE H
        refine t_step 12 66 [11] [10, 9, 8, 7, 5, 4, 3, 2, 0] [6] (by kernel_rfl) (by kernel_rfl) (by kernel_rfl) (st_new_ints (T := 3) (xs := l17_12) 1 hl17_12 (fun _ => by kernel_rfl) (by kernel_rfl)) ?_
        rintro _ _ ⟨b17_12, rfl, rfl⟩
        refine ⟨(stable_cons 6 60 (.pointer (some ⟨pb17_6, 0, none⟩)) (by kernel_rfl) (by kernel_rfl) (by kernel_rfl) (load1_at (off := oo5 + ((v2_12).toNat * 1 + 0)) (v := .pointer (some ⟨pb17_6, 0, none⟩)) (fun _ => by kernel_rfl) rfl (ptr_cell (i := v2_12) (.there (.there .here)) ha5 hr17_6)) stable_nil), ?_⟩
        refine dp 13 67 (.agg #[.int .i64 (7), .int .i64 (0), .int .i64 (0), .int .i64 v2_12, .int .i64 (2), .int .i64 (v2_12 - (1 : Int)), .int .i64 v2_10, .bool false, .slice (some ⟨b17_12, 0, none⟩) (List.length l17_12) 1]) ?_
        refine d_call 1 55 [0] [13, 10, 9, 8, 7, 5, 4, 3, 2] [6] 17 #[.int .i64 (1), .int .i64 (2), .int .i64 v2_12] (by kernel_rfl) (by kernel_rfl) (by kernel_rfl) (fun _ => by kernel_rfl) (DBeginF_tr (1 : Int) (2 : Int) v2_12 y17_1 hy17_1) ?_
        rintro _ _ ⟨a17_1_00, c17_1_00, rfl, rfl⟩
        refine ⟨(stable_cons 6 60 (.pointer (some ⟨pb17_6, 0, none⟩)) (by kernel_rfl) (by kernel_rfl) (by kernel_rfl) (load1_at (off := oo5 + ((v2_12).toNat * 1 + 0)) (v := .pointer (some ⟨pb17_6, 0, none⟩)) (fun _ => by kernel_rfl) rfl (ptr_cell (i := v2_12) (.there (.there (.there .here))) ha5 hr17_6)) stable_nil), ?_⟩
        refine Draw.convS (Γ' := (CacheA pb17_6 (nthC v2_7x v2_12)) :: (HoleX v2_7r v2_7a v2_7c v2_7x v2_12) :: (ImmI a17_1_00 y17_1.data) :: (IntsA (some ⟨b17_12, 0, none⟩) 1 l17_12) :: (Asn.own b17_18 (.cells #[.int .i64 (0), .int .i64 (0), .int .i64 (0), .int .i64 (0), .int .i64 (0), .int .i64 (0), .slice none 0 0, .int .i64 (0), .int .i64 (0)] 35 (0, 0))) :: Γ) (fun w hw => PtrsX.take (i := v2_12) (.there (.there (.there .here))) hr17_6 hw) (stable_cons 6 60 (.pointer (some ⟨pb17_6, 0, none⟩)) (by kernel_rfl) (by kernel_rfl) (by kernel_rfl) (load1_at (off := oo5 + ((v2_12).toNat * 1 + 0)) (v := .pointer (some ⟨pb17_6, 0, none⟩)) (fun _ => by kernel_rfl) rfl (hole_cell (i := v2_12) (.there .here) ha5 hr17_6)) stable_nil) ?_
        obtain ⟨y17_14, hy17_14, H⟩ := bindE H
        refine d_call 14 68 [1, 2, 6, 13, 0, 5, 7, 9, 10, 12, 3, 4, 8, 11] [] [] 25 #[.agg #[.int .i64 y17_1.kind, .int .i64 y17_1.line, .int .i64 y17_1.id, .int .i64 y17_1.step, .int .i64 y17_1.state, .int .i64 y17_1.head, .slice a17_1_00 (List.length y17_1.data) c17_1_00, .int .i64 y17_1.next, .int .i64 y17_1.told], .int .i64 v2_12, .pointer (some ⟨pb17_6, 0, none⟩), .agg #[.int .i64 (7), .int .i64 (0), .int .i64 (0), .int .i64 v2_12, .int .i64 (2), .int .i64 (v2_12 - (1 : Int)), .int .i64 v2_10, .bool false, .slice (some ⟨b17_12, 0, none⟩) (List.length l17_12) 1]] (by kernel_rfl) (by kernel_rfl) (by kernel_rfl) (fun _ => by kernel_rfl) (Tr.conv (Γ' := (ImmI a17_1_00 y17_1.data) :: (CacheA pb17_6 (nthC v2_7x v2_12)) :: (ImmI a17_1_00 y17_1.data) :: (HoleX v2_7r v2_7a v2_7c v2_7x v2_12) :: (IntsA (some ⟨b17_12, 0, none⟩) 1 l17_12) :: (Asn.own b17_18 (.cells #[.int .i64 (0), .int .i64 (0), .int .i64 (0), .int .i64 (0), .int .i64 (0), .int .i64 (0), .slice none 0 0, .int .i64 (0), .int .i64 (0)] 35 (0, 0))) :: Γ) (fun w hw => (Sat.less (.take .here (.take (.there .here) (.take .here (.take .here (.take .here (.take .here .refl)))))) (ImmR.dup (Sat.less (.take (.there (.there .here)) (.take .here (.take .here (.take .here (.take .here .refl))))) hw)))) (ANextF_tr a17_1_00 c17_1_00 y17_1 v2_12 pb17_6 (nthC v2_7x v2_12) (some ⟨b17_12, 0, none⟩) 1 (⟨7, 0, 0, v2_12, 2, v2_12 - (1 : Int), v2_10, false, l17_12⟩ : PktS) (RowsA.reads (k := 1) (.there (.there .here))) y17_14 hy17_14)) ?_
        rintro _ _ ⟨a17_14_00, c17_14_00, rfl, rfl⟩
        refine ⟨stable_nil, ?_⟩
        obtain ⟨cs17_14, hcs17_14, H⟩ := letE H
        refine Draw.convS (Γ' := (PtrsX v2_7r v2_7a v2_7c cs17_14) :: (ImmI a17_14_00 y17_14.1.data) :: (ImmI a17_1_00 y17_1.data) :: (IntsA (some ⟨b17_12, 0, none⟩) 1 l17_12) :: (Asn.own b17_18 (.cells #[.int .i64 (0), .int .i64 (0), .int .i64 (0), .int .i64 (0), .int .i64 (0), .int .i64 (0), .slice none 0 0, .int .i64 (0), .int .i64 (0)] 35 (0, 0))) :: Γ) (fun w hw => by rw [← hcs17_14]; exact PtrsX.put (i := v2_12) hr17_6 (Sat.less (.take (.there .here) (.take (.there (.there .here)) (.take .here (.take .here (.take .here (.take .here .refl)))))) hw)) stable_nil ?_
        have hncs17_14 : List.length v2_7x = List.length cs17_14 := by rw [← hcs17_14, setC_len]
        try rw [hncs17_14]
        refine dp 15 53 (.tuple #[.agg #[.int .i64 y17_14.1.kind, .int .i64 y17_14.1.line, .int .i64 y17_14.1.id, .int .i64 y17_14.1.step, .int .i64 y17_14.1.state, .int .i64 y17_14.1.head, .slice a17_14_00 (List.length y17_14.1.data) c17_14_00, .int .i64 y17_14.1.next, .int .i64 y17_14.1.told], .bool y17_14.2.1]) ?_
        refine dp 16 69 (.agg #[.int .i64 y17_14.1.kind, .int .i64 y17_14.1.line, .int .i64 y17_14.1.id, .int .i64 y17_14.1.step, .int .i64 y17_14.1.state, .int .i64 y17_14.1.head, .slice a17_14_00 (List.length y17_14.1.data) c17_14_00, .int .i64 y17_14.1.next, .int .i64 y17_14.1.told]) ?_
        refine dp 17 70 (.bool y17_14.2.1) ?_
        refine d_do 19 [18, 16, 14, 0, 1, 2, 3, 4, 5, 6, 7, 8, 9, 10, 11, 12, 13, 15] [17] [] (by kernel_rfl) (by kernel_rfl) (by kernel_rfl) (st_store (off := 0) (vs := [.int .i64 y17_14.1.kind, .int .i64 y17_14.1.line, .int .i64 y17_14.1.id, .int .i64 y17_14.1.step, .int .i64 y17_14.1.state, .int .i64 y17_14.1.head, .slice a17_14_00 (List.length y17_14.1.data) c17_14_00, .int .i64 y17_14.1.next, .int .i64 y17_14.1.told]) (c' := #[.int .i64 y17_14.1.kind, .int .i64 y17_14.1.line, .int .i64 y17_14.1.id, .int .i64 y17_14.1.step, .int .i64 y17_14.1.state, .int .i64 y17_14.1.head, .slice a17_14_00 (List.length y17_14.1.data) c17_14_00, .int .i64 y17_14.1.next, .int .i64 y17_14.1.told]) (fun _ => by kernel_rfl) (.there (.there (.there (.there .here)))) (by kernel_rfl) (by kernel_rfl) (by kernel_rfl)) ?_
        rintro _ _ ⟨rfl, rfl⟩
        refine ⟨stable_nil, ?_⟩
        refine dp 20 14 (.bool y17_14.2.1) ?_
        refine draw_end (by kernel_rfl) ?_
        refine ae [(0, .int .i64 (wr ((1 : Int) + y1_1))), (1, .int .i64 v), (7, .slice v2_7a (List.length cs17_14) v2_7c), (10, .int .i64 v2_10), (11, .int .i64 v2_11), (12, .int .i64 v2_12), (13, .pointer (some ⟨b17_18, 0, none⟩)), (14, .bool y17_14.2.1)] ?_
        refine at_round_normal ?_
        exact at_join_mk [(0, .int .i64 (wr ((1 : Int) + y1_1))), (1, .int .i64 v), (7, .slice v2_7a (List.length cs17_14) v2_7c), (10, .int .i64 v2_10), (11, .int .i64 v2_11), (12, .int .i64 v2_12), (13, .pointer (some ⟨b17_18, 0, none⟩)), (14, .bool y17_14.2.1)] ((PtrsX v2_7r v2_7a v2_7c cs17_14) :: (Asn.own b17_18 (.cells #[.int .i64 y17_14.1.kind, .int .i64 y17_14.1.line, .int .i64 y17_14.1.id, .int .i64 y17_14.1.step, .int .i64 y17_14.1.state, .int .i64 y17_14.1.head, .slice a17_14_00 (List.length y17_14.1.data) c17_14_00, .int .i64 y17_14.1.next, .int .i64 y17_14.1.told] 35 (0, 0))) :: (ImmI a17_14_00 y17_14.1.data) :: Γ) ⟨by kernel_rfl, by kernel_rfl, by kernel_rfl, by kernel_rfl, by kernel_rfl, by kernel_rfl, by kernel_rfl, by kernel_rfl, trivial⟩ (fun w hw => (Sat.less (.take (.there .here) (.take .here (.take .here (.drop .here (.drop .here .refl))))) hw)) ⟨cs17_14, v2_7a, v2_7c, v2_7r, b17_18, y17_14, a17_14_00, c17_14_00, H, rfl, rfl⟩
   ·replace H := bifF H h2
    refine at_false (t := decide (v2_12 ≤ (wr ((1 : Int) + y1_1)))) (x := C11 [1,1,1,1,1,1,1,0,1,0,0,0,1,0]) (y := C11 [1,1,1,1,1,1,1,0,1,0,0,0,1,1]) (o := .tmp 50) (by kernel_rfl) (by kernel_rfl) (by kernel_rfl) h2 ?_
    refine at_exit (i := 2) (by kernel_rfl) ?_
    refine at_then_exit ?_
    refine at_then_exit ?_
    rw [attachChainS_k2] at H
    refine ae [(0, .int .i64 (wr ((1 : Int) + y1_1))), (1, .int .i64 v), (7, .slice v2_7a (List.length v2_7x) v2_7c), (10, .int .i64 v2_10), (11, .int .i64 v2_11), (12, .int .i64 v2_12)] ?_
    refine At.conv (Γ' := (PtrsX v2_7r v2_7a v2_7c v2_7x) :: Γ) (fun w hw => (Sat.less (.take .here .refl) hw)) ?_
    refine at_in_here ?_
    refine at_then_normal ?_
    refine aq (x := C11 [1,1,1,1,1,1,1,1,0]) (y := C11 [1,1,1,1,1,1,1,1,1]) ?_
    refine aq (x := C11 [1,1,1,1,1,1,1,1,0,0]) (y := C11 [1,1,1,1,1,1,1,1,0,1]) ?_
    refine ar (id := 33) 3 ?_
    refine sp 149 (.int .i64 v2_11) ?_
    refine sp 150 (.int .i64 v) ?_
    refine sp 151 (.bool (!(decide (v2_11 = v)))) ?_
    refine ops_end ?_
    refine ae [(0, .int .i64 (wr ((1 : Int) + y1_1))), (1, .int .i64 v), (7, .slice v2_7a (List.length v2_7x) v2_7c), (151, .bool (!(decide (v2_11 = v))))] ?_
    refine at_then_normal ?_
    rcases Bool.eq_false_or_eq_true (!(decide (v2_11 = v))) with h14 | h14
    ·replace H := bifT H h14
     refine at_true (t := !(decide (v2_11 = v))) (x := C11 [1,1,1,1,1,1,1,1,0,1,0]) (y := C11 [1,1,1,1,1,1,1,1,0,1,1]) (o := .tmp 151) (by kernel_rfl) (by kernel_rfl) (by kernel_rfl) h14 ?_
     refine aq (x := C11 [1,1,1,1,1,1,1,1,0,1,0,0]) (y := C11 [1,1,1,1,1,1,1,1,0,1,0,1]) ?_
     refine ar (id := 34) 1 ?_
     refine sp 6 (.bool false) ?_
     refine ops_end ?_
     refine ae [(6, .bool false)] ?_
     refine at_then_normal ?_
     refine at_ret (by kernel_rfl) ?_
     refine at_then_ret ?_
     obtain rfl := someE H
     refine at_backR [.bool false] (Γ) (rs := [.tmp 6]) (by kernel_rfl) (.cons (.tmp (by kernel_rfl)) .nil) (fun w hw => (Sat.less (.drop .here .refl) hw)) ?_
     exact ⟨rfl, rfl⟩
    ·replace H := bifF H h14
     refine at_false (t := !(decide (v2_11 = v))) (x := C11 [1,1,1,1,1,1,1,1,0,1,0]) (y := C11 [1,1,1,1,1,1,1,1,0,1,1]) (o := .tmp 151) (by kernel_rfl) (by kernel_rfl) (by kernel_rfl) h14 ?_
     refine at_skip (by kernel_rfl) ?_
     refine at_then_normal ?_
     refine aq (x := C11 [1,1,1,1,1,1,1,1,1,0]) (y := C11 [1,1,1,1,1,1,1,1,1,1]) ?_
     refine aq (x := C11 [1,1,1,1,1,1,1,1,1,0,0]) (y := C11 [1,1,1,1,1,1,1,1,1,0,1]) ?_
     refine ar (id := 35) 1 ?_
     refine sp 18 (.int .i64 (0)) ?_
     refine ops_end ?_
     refine ae [(0, .int .i64 (wr ((1 : Int) + y1_1))), (1, .int .i64 v), (7, .slice v2_7a (List.length v2_7x) v2_7c), (18, .int .i64 (0))] ?_
     refine at_then_normal ?_
     refine at_block (i := 4) (x := C11 [1,1,1,1,1,1,1,1,1,0,1,0]) (by kernel_rfl) ?_
     refine At.conv (Γ' := (PtrsX v2_7r v2_7a v2_7c v2_7x) :: Γ) (fun w hw => (Sat.less (.take .here .refl) hw)) ?_
     refine at_loopR (x := C11 [1,1,1,1,1,1,1,1,1,0,1,0,0]) (fun mm ff ΔΔ => ∃ (fuel : Nat) (v3_18 : Int), attachChainS_l3 y1_1 v2_7x v (attachChainS_k3 ) fuel v3_18 = some y ∧ fuel = mm ∧ ff = [(0, .int .i64 (wr ((1 : Int) + y1_1))), (1, .int .i64 v), (7, .slice v2_7a (List.length v2_7x) v2_7c), (18, .int .i64 v3_18)] ∧ (PtrsX v2_7r v2_7a v2_7c v2_7x) :: Γ = ΔΔ) (64) (by kernel_rfl) [(0, .int .i64 (wr ((1 : Int) + y1_1))), (1, .int .i64 v), (7, .slice v2_7a (List.length v2_7x) v2_7c), (18, .int .i64 0)] ⟨by kernel_rfl, by kernel_rfl, by kernel_rfl, by kernel_rfl, trivial⟩ ⟨64, 0, H, rfl, rfl, rfl⟩ ?_
     rintro _ _ _ ⟨fuel3, v3_18, H, rfl, rfl, rfl⟩
     rcases fuel3 with _ | fuel3
     ·exact (noneE H).elim
     rw [attachChainS_l3] at H
     refine aq (x := C11 [1,1,1,1,1,1,1,1,1,0,1,0,0,0]) (y := C11 [1,1,1,1,1,1,1,1,1,0,1,0,0,1]) ?_
     refine aq (x := C11 [1,1,1,1,1,1,1,1,1,0,1,0,0,0,0]) (y := C11 [1,1,1,1,1,1,1,1,1,0,1,0,0,0,1]) ?_
     refine ar (id := 36) 3 ?_
     refine sp 152 (.int .i64 v3_18) ?_
     refine sp 153 (.int .i64 (wr ((1 : Int) + y1_1))) ?_
     refine sp 154 (.bool (decide (v3_18 ≤ (wr ((1 : Int) + y1_1))))) ?_
     refine ops_end ?_
     refine ae [(0, .int .i64 (wr ((1 : Int) + y1_1))), (1, .int .i64 v), (7, .slice v2_7a (List.length v2_7x) v2_7c), (18, .int .i64 v3_18), (154, .bool (decide (v3_18 ≤ (wr ((1 : Int) + y1_1)))))] ?_
     refine at_then_normal ?_
     rcases Bool.eq_false_or_eq_true (decide (v3_18 ≤ (wr ((1 : Int) + y1_1)))) with h15 | h15
     ·replace H := bifT H h15
      refine at_true (t := decide (v3_18 ≤ (wr ((1 : Int) + y1_1)))) (x := C11 [1,1,1,1,1,1,1,1,1,0,1,0,0,0,1,0]) (y := C11 [1,1,1,1,1,1,1,1,1,0,1,0,0,0,1,1]) (o := .tmp 154) (by kernel_rfl) (by kernel_rfl) (by kernel_rfl) h15 ?_
      refine at_skip (by kernel_rfl) ?_
      refine at_then_normal ?_
      refine aq (x := C11 [1,1,1,1,1,1,1,1,1,0,1,0,0,1,0]) (y := C11 [1,1,1,1,1,1,1,1,1,0,1,0,0,1,1]) ?_
      refine at_block (i := 5) (x := C11 [1,1,1,1,1,1,1,1,1,0,1,0,0,1,0,0]) (by kernel_rfl) ?_
      refine aq (x := C11 [1,1,1,1,1,1,1,1,1,0,1,0,0,1,0,0,0]) (y := C11 [1,1,1,1,1,1,1,1,1,0,1,0,0,1,0,0,1]) ?_
      refine ar (id := 38) 11 ?_
      refine sp 158 (.slice v2_7a (List.length v2_7x) v2_7c) ?_
      refine sp 159 (.int .i64 v3_18) ?_
      obtain ⟨hc38_2_0, H⟩ := chkE H
      refine ptr_at .here (by have := hc38_2_0; omega) ?_
      intro bb6 oo6 ha6
      refine sr 160 (.pointer (some ⟨bb6, oo6 + (((v3_18).toNat) * 1 + 0), none⟩)) (index_at (t := 60) (sz := 1) (E := 22) (a := v2_7a) (m := (List.length v2_7x)) (c := v2_7c) (b := bb6) (off := oo6) (i := (v3_18).toNat) (tinfo 22) (fun _ => by kernel_rfl) (by kernel_rfl) (by kernel_rfl) (by kernel_rfl) ha6 (idx_cast hc38_2_0) (idx_nat hc38_2_0) rfl) ?_
      refine ptr_get .here hc38_2_0 ?_
      intro pb38_3 hr38_3
      refine sl 161 (.pointer (some ⟨pb38_3, 0, none⟩)) (load1_at (off := oo6 + ((v3_18).toNat * 1 + 0)) (v := .pointer (some ⟨pb38_3, 0, none⟩)) (fun _ => by kernel_rfl) rfl (ptr_cell (i := v3_18) .here ha6 hr38_3)) ?_
      refine At.conv (Γ' := (CacheA pb38_3 (nthC v2_7x v3_18)) :: (HoleX v2_7r v2_7a v2_7c v2_7x v3_18) :: Γ) (fun w hw => PtrsX.take (i := v3_18) .here hr38_3 hw) ?_
      obtain ⟨y38_4, hy38_4, H⟩ := bindE H
      refine s_call 162 18 #[.pointer (some ⟨pb38_3, 0, none⟩), .int .i64 (2)] (by kernel_rfl) (by kernel_rfl) (fun _ => by kernel_rfl) (FindF_tr pb38_3 (nthC v2_7x v3_18) (2 : Int) y38_4 hy38_4) ?_
      rintro _ _ ⟨a38_4_00, c38_4_00, rfl, rfl⟩
      refine At.conv (Γ' := (PtrsX v2_7r v2_7a v2_7c v2_7x) :: (IntsA a38_4_00 c38_4_00 y38_4.1.data) :: Γ) (fun w hw => PtrsX.back (i := v3_18) hr38_3 (Sat.less (.take (.there .here) (.take (.there .here) (.take .here .refl))) hw)) ?_
      refine sp 157 (.tuple #[.agg #[.int .i64 y38_4.1.fwd, .int .i64 y38_4.1.back, .int .i64 y38_4.1.line, .int .i64 y38_4.1.used, .bool y38_4.1.dirty, .slice a38_4_00 (List.length y38_4.1.data) c38_4_00], .bool y38_4.2]) ?_
      refine sp 163 (.agg #[.int .i64 y38_4.1.fwd, .int .i64 y38_4.1.back, .int .i64 y38_4.1.line, .int .i64 y38_4.1.used, .bool y38_4.1.dirty, .slice a38_4_00 (List.length y38_4.1.data) c38_4_00]) ?_
      refine sp 164 (.bool y38_4.2) ?_
      refine s_step 19 (by kernel_rfl) (by kernel_rfl) (st_new (T := 32) (cells := #[.int .i64 (0), .int .i64 (0), .int .i64 (0), .int .i64 (0), .bool false, .slice none 0 0]) (fun a => .pointer (some a)) (fun _ => by kernel_rfl)) ?_
      rintro _ _ ⟨b38_8, rfl, rfl⟩
      refine s_do (by kernel_rfl) (by kernel_rfl) (st_store (off := 0) (vs := [.int .i64 y38_4.1.fwd, .int .i64 y38_4.1.back, .int .i64 y38_4.1.line, .int .i64 y38_4.1.used, .bool y38_4.1.dirty, .slice a38_4_00 (List.length y38_4.1.data) c38_4_00]) (c' := #[.int .i64 y38_4.1.fwd, .int .i64 y38_4.1.back, .int .i64 y38_4.1.line, .int .i64 y38_4.1.used, .bool y38_4.1.dirty, .slice a38_4_00 (List.length y38_4.1.data) c38_4_00]) (fun _ => by kernel_rfl) .here (by kernel_rfl) (by kernel_rfl) (by kernel_rfl)) ?_
      rintro _ _ ⟨rfl, rfl⟩
      refine sp 20 (.bool y38_4.2) ?_
      refine ops_end ?_
      refine ae [(0, .int .i64 (wr ((1 : Int) + y1_1))), (1, .int .i64 v), (7, .slice v2_7a (List.length v2_7x) v2_7c), (18, .int .i64 v3_18), (19, .pointer (some ⟨b38_8, 0, none⟩)), (20, .bool y38_4.2)] ?_
      refine at_then_normal ?_
      refine aq (x := C11 [1,1,1,1,1,1,1,1,1,0,1,0,0,1,0,0,1,0]) (y := C11 [1,1,1,1,1,1,1,1,1,0,1,0,0,1,0,0,1,1]) ?_
      refine ar (id := 39) 44 ?_
      refine sp 165 (.bool y38_4.2) ?_
      refine sp 166 (.bool !y38_4.2) ?_
      rcases Bool.eq_false_or_eq_true (!y38_4.2) with h16 | h16
      ·replace H := bifT H h16
       refine sr 167 (.bool true) (run_eq (v := .bool (!y38_4.2)) (fun _ => by kernel_rfl) (congrArg Value.bool h16)) ?_
       refine sa 168 ?_
       refine sa 169 ?_
       refine sp 170 (.bool true) ?_
       refine sp 171 (.bool true) ?_
       refine sa 172 ?_
       refine sa 173 ?_
       refine sa 174 ?_
       refine sa 175 ?_
       refine sp 176 (.bool true) ?_
       refine sp 177 (.bool true) ?_
       refine sa 178 ?_
       refine sa 179 ?_
       refine sa 180 ?_
       refine sa 181 ?_
       refine sa 182 ?_
       refine sa 183 ?_
       refine sp 184 (.bool true) ?_
       refine sp 185 (.bool true) ?_
       refine sa 186 ?_
       refine sa 187 ?_
       refine sa 188 ?_
       refine sa 189 ?_
       refine sa 190 ?_
       refine sa 191 ?_
       refine sa 192 ?_
       refine sa 193 ?_
       refine sa 194 ?_
       refine sa 195 ?_
       refine sa 196 ?_
       refine sp 197 (.bool true) ?_
       refine sp 198 (.bool true) ?_
       refine sa 199 ?_
       refine sa 200 ?_
       refine sa 201 ?_
       refine sa 202 ?_
       refine sa 203 ?_
       refine sa 204 ?_
       refine sa 205 ?_
       refine sa 206 ?_
       refine sa 207 ?_
       refine sp 208 (.bool true) ?_
       refine ops_end ?_
       refine ae [(0, .int .i64 (wr ((1 : Int) + y1_1))), (1, .int .i64 v), (7, .slice v2_7a (List.length v2_7x) v2_7c), (18, .int .i64 v3_18), (208, .bool true)] ?_
       refine at_then_normal ?_
       refine at_true (t := true) (x := C11 [1,1,1,1,1,1,1,1,1,0,1,0,0,1,0,0,1,1,0]) (y := C11 [1,1,1,1,1,1,1,1,1,0,1,0,0,1,0,0,1,1,1]) (o := .tmp 208) (by kernel_rfl) (by kernel_rfl) (by kernel_rfl) rfl ?_
       refine aq (x := C11 [1,1,1,1,1,1,1,1,1,0,1,0,0,1,0,0,1,1,0,0]) (y := C11 [1,1,1,1,1,1,1,1,1,0,1,0,0,1,0,0,1,1,0,1]) ?_
       refine ar (id := 40) 1 ?_
       refine sp 6 (.bool false) ?_
       refine ops_end ?_
       refine ae [(6, .bool false)] ?_
       refine at_then_normal ?_
       refine at_ret (by kernel_rfl) ?_
       refine at_in_ret ?_
       refine at_then_ret ?_
       refine at_then_ret ?_
       refine at_in_ret ?_
       refine at_then_ret ?_
       obtain rfl := someE H
       refine at_backR [.bool false] (Γ) (rs := [.tmp 6]) (by kernel_rfl) (.cons (.tmp (by kernel_rfl)) .nil) (fun w hw => (Sat.less (.drop .here (.drop .here (.drop .here .refl))) hw)) ?_
       exact ⟨rfl, rfl⟩
      ·replace H := bifF H h16
       refine sr 167 (.bool false) (run_eq (v := .bool (!y38_4.2)) (fun _ => by kernel_rfl) (congrArg Value.bool h16)) ?_
       refine sp 168 (.pointer (some ⟨b38_8, 4, none⟩)) ?_
       refine sl 169 (.bool y38_4.1.dirty) (load1 (off := 4) (fun _ => by kernel_rfl) (holds_own .here) (by kernel_rfl)) ?_
       refine sp 170 (.bool y38_4.1.dirty) ?_
       rcases Bool.eq_false_or_eq_true (y38_4.1.dirty) with h17 | h17
       ·replace H := bifT H h17
        refine sr 171 (.bool true) (run_eq (v := .bool (y38_4.1.dirty)) (fun _ => by kernel_rfl) (congrArg Value.bool h17)) ?_
        refine sa 172 ?_
        refine sa 173 ?_
        refine sa 174 ?_
        refine sa 175 ?_
        refine sp 176 (.bool true) ?_
        refine sp 177 (.bool true) ?_
        refine sa 178 ?_
        refine sa 179 ?_
        refine sa 180 ?_
        refine sa 181 ?_
        refine sa 182 ?_
        refine sa 183 ?_
        refine sp 184 (.bool true) ?_
        refine sp 185 (.bool true) ?_
        refine sa 186 ?_
        refine sa 187 ?_
        refine sa 188 ?_
        refine sa 189 ?_
        refine sa 190 ?_
        refine sa 191 ?_
        refine sa 192 ?_
        refine sa 193 ?_
        refine sa 194 ?_
        refine sa 195 ?_
        refine sa 196 ?_
        refine sp 197 (.bool true) ?_
        refine sp 198 (.bool true) ?_
        refine sa 199 ?_
        refine sa 200 ?_
        refine sa 201 ?_
        refine sa 202 ?_
        refine sa 203 ?_
        refine sa 204 ?_
        refine sa 205 ?_
        refine sa 206 ?_
        refine sa 207 ?_
        refine sp 208 (.bool true) ?_
        refine ops_end ?_
        refine ae [(0, .int .i64 (wr ((1 : Int) + y1_1))), (1, .int .i64 v), (7, .slice v2_7a (List.length v2_7x) v2_7c), (18, .int .i64 v3_18), (208, .bool true)] ?_
        refine at_then_normal ?_
        refine at_true (t := true) (x := C11 [1,1,1,1,1,1,1,1,1,0,1,0,0,1,0,0,1,1,0]) (y := C11 [1,1,1,1,1,1,1,1,1,0,1,0,0,1,0,0,1,1,1]) (o := .tmp 208) (by kernel_rfl) (by kernel_rfl) (by kernel_rfl) rfl ?_
        refine aq (x := C11 [1,1,1,1,1,1,1,1,1,0,1,0,0,1,0,0,1,1,0,0]) (y := C11 [1,1,1,1,1,1,1,1,1,0,1,0,0,1,0,0,1,1,0,1]) ?_
        refine ar (id := 40) 1 ?_
        refine sp 6 (.bool false) ?_
        refine ops_end ?_
        refine ae [(6, .bool false)] ?_
        refine at_then_normal ?_
        refine at_ret (by kernel_rfl) ?_
        refine at_in_ret ?_
        refine at_then_ret ?_
        refine at_then_ret ?_
        refine at_in_ret ?_
        refine at_then_ret ?_
        obtain rfl := someE H
        refine at_backR [.bool false] (Γ) (rs := [.tmp 6]) (by kernel_rfl) (.cons (.tmp (by kernel_rfl)) .nil) (fun w hw => (Sat.less (.drop .here (.drop .here (.drop .here .refl))) hw)) ?_
        exact ⟨rfl, rfl⟩
       ·replace H := bifF H h17
        refine sr 171 (.bool false) (run_eq (v := .bool (y38_4.1.dirty)) (fun _ => by kernel_rfl) (congrArg Value.bool h17)) ?_
        refine sl 172 (.agg #[.int .i64 y38_4.1.fwd, .int .i64 y38_4.1.back, .int .i64 y38_4.1.line, .int .i64 y38_4.1.used, .bool y38_4.1.dirty, .slice a38_4_00 (List.length y38_4.1.data) c38_4_00]) (loadN (off := 0) (vs := [.int .i64 y38_4.1.fwd, .int .i64 y38_4.1.back, .int .i64 y38_4.1.line, .int .i64 y38_4.1.used, .bool y38_4.1.dirty, .slice a38_4_00 (List.length y38_4.1.data) c38_4_00]) 6 (fun _ => by kernel_rfl) (holds_own .here) rfl (by exact ⟨rfl, rfl, rfl, rfl, rfl, rfl, trivial⟩)) ?_
        obtain ⟨y39_8, hy39_8, H⟩ := bindE H
        refine s_call 173 20 #[.agg #[.int .i64 y38_4.1.fwd, .int .i64 y38_4.1.back, .int .i64 y38_4.1.line, .int .i64 y38_4.1.used, .bool y38_4.1.dirty, .slice a38_4_00 (List.length y38_4.1.data) c38_4_00], .int .i64 (0)] (by kernel_rfl) (by kernel_rfl) (fun _ => by kernel_rfl) (EWordF_tr a38_4_00 c38_4_00 y38_4.1 (0 : Int) (RowsA.reads (k := 1) (.there (.there .here))) y39_8 hy39_8) ?_
        rintro _ _ ⟨rfl, rfl⟩
        refine sp 174 (.int .i64 v) ?_
        refine sp 175 (.bool (!(decide (y39_8 = v)))) ?_
        refine sp 176 (.bool (!(decide (y39_8 = v)))) ?_
        rcases Bool.eq_false_or_eq_true (!(decide (y39_8 = v))) with h18 | h18
        ·replace H := bifT H h18
         refine sr 177 (.bool true) (run_eq (v := .bool (!(decide (y39_8 = v)))) (fun _ => by kernel_rfl) (congrArg Value.bool h18)) ?_
         refine sa 178 ?_
         refine sa 179 ?_
         refine sa 180 ?_
         refine sa 181 ?_
         refine sa 182 ?_
         refine sa 183 ?_
         refine sp 184 (.bool true) ?_
         refine sp 185 (.bool true) ?_
         refine sa 186 ?_
         refine sa 187 ?_
         refine sa 188 ?_
         refine sa 189 ?_
         refine sa 190 ?_
         refine sa 191 ?_
         refine sa 192 ?_
         refine sa 193 ?_
         refine sa 194 ?_
         refine sa 195 ?_
         refine sa 196 ?_
         refine sp 197 (.bool true) ?_
         refine sp 198 (.bool true) ?_
         refine sa 199 ?_
         refine sa 200 ?_
         refine sa 201 ?_
         refine sa 202 ?_
         refine sa 203 ?_
         refine sa 204 ?_
         refine sa 205 ?_
         refine sa 206 ?_
         refine sa 207 ?_
         refine sp 208 (.bool true) ?_
         refine ops_end ?_
         refine ae [(0, .int .i64 (wr ((1 : Int) + y1_1))), (1, .int .i64 v), (7, .slice v2_7a (List.length v2_7x) v2_7c), (18, .int .i64 v3_18), (208, .bool true)] ?_
         refine at_then_normal ?_
         refine at_true (t := true) (x := C11 [1,1,1,1,1,1,1,1,1,0,1,0,0,1,0,0,1,1,0]) (y := C11 [1,1,1,1,1,1,1,1,1,0,1,0,0,1,0,0,1,1,1]) (o := .tmp 208) (by kernel_rfl) (by kernel_rfl) (by kernel_rfl) rfl ?_
         refine aq (x := C11 [1,1,1,1,1,1,1,1,1,0,1,0,0,1,0,0,1,1,0,0]) (y := C11 [1,1,1,1,1,1,1,1,1,0,1,0,0,1,0,0,1,1,0,1]) ?_
         refine ar (id := 40) 1 ?_
         refine sp 6 (.bool false) ?_
         refine ops_end ?_
         refine ae [(6, .bool false)] ?_
         refine at_then_normal ?_
         refine at_ret (by kernel_rfl) ?_
         refine at_in_ret ?_
         refine at_then_ret ?_
         refine at_then_ret ?_
         refine at_in_ret ?_
         refine at_then_ret ?_
         obtain rfl := someE H
         refine at_backR [.bool false] (Γ) (rs := [.tmp 6]) (by kernel_rfl) (.cons (.tmp (by kernel_rfl)) .nil) (fun w hw => (Sat.less (.drop .here (.drop .here (.drop .here .refl))) hw)) ?_
         exact ⟨rfl, rfl⟩
        ·replace H := bifF H h18
         refine sr 177 (.bool false) (run_eq (v := .bool (!(decide (y39_8 = v)))) (fun _ => by kernel_rfl) (congrArg Value.bool h18)) ?_
         refine sp 178 (.pointer (some ⟨b38_8, 0, none⟩)) ?_
         refine sp 179 (.pointer (some ⟨b38_8, 0, none⟩)) ?_
         refine sl 180 (.int .i64 y38_4.1.fwd) (load1 (off := 0) (fun _ => by kernel_rfl) (holds_own .here) (by kernel_rfl)) ?_
         refine sp 181 (.int .i64 v3_18) ?_
         obtain ⟨hc39_17_0, H⟩ := chkE H
         refine sr 182 (.int .i64 (v3_18 - (1 : Int))) (run_eq (v := .int .i64 (IntKind.i64.wrap (v3_18 - (1 : Int)))) (fun _ => by kernel_rfl) (by rw [inR.wrap hc39_17_0])) ?_
         refine sp 183 (.bool (!(decide (y38_4.1.fwd = (v3_18 - (1 : Int)))))) ?_
         refine sp 184 (.bool (!(decide (y38_4.1.fwd = (v3_18 - (1 : Int)))))) ?_
         rcases Bool.eq_false_or_eq_true (!(decide (y38_4.1.fwd = (v3_18 - (1 : Int))))) with h19 | h19
         ·replace H := bifT H h19
          refine sr 185 (.bool true) (run_eq (v := .bool (!(decide (y38_4.1.fwd = (v3_18 - (1 : Int)))))) (fun _ => by kernel_rfl) (congrArg Value.bool h19)) ?_
          refine sa 186 ?_
          refine sa 187 ?_
          refine sa 188 ?_
          refine sa 189 ?_
          refine sa 190 ?_
          refine sa 191 ?_
          refine sa 192 ?_
          refine sa 193 ?_
          refine sa 194 ?_
          refine sa 195 ?_
          refine sa 196 ?_
          refine sp 197 (.bool true) ?_
          refine sp 198 (.bool true) ?_
          refine sa 199 ?_
          refine sa 200 ?_
          refine sa 201 ?_
          refine sa 202 ?_
          refine sa 203 ?_
          refine sa 204 ?_
          refine sa 205 ?_
          refine sa 206 ?_
          refine sa 207 ?_
          refine sp 208 (.bool true) ?_
          refine ops_end ?_
          refine ae [(0, .int .i64 (wr ((1 : Int) + y1_1))), (1, .int .i64 v), (7, .slice v2_7a (List.length v2_7x) v2_7c), (18, .int .i64 v3_18), (208, .bool true)] ?_
          refine at_then_normal ?_
          refine at_true (t := true) (x := C11 [1,1,1,1,1,1,1,1,1,0,1,0,0,1,0,0,1,1,0]) (y := C11 [1,1,1,1,1,1,1,1,1,0,1,0,0,1,0,0,1,1,1]) (o := .tmp 208) (by kernel_rfl) (by kernel_rfl) (by kernel_rfl) rfl ?_
          refine aq (x := C11 [1,1,1,1,1,1,1,1,1,0,1,0,0,1,0,0,1,1,0,0]) (y := C11 [1,1,1,1,1,1,1,1,1,0,1,0,0,1,0,0,1,1,0,1]) ?_
          refine ar (id := 40) 1 ?_
          refine sp 6 (.bool false) ?_
          refine ops_end ?_
          refine ae [(6, .bool false)] ?_
          refine at_then_normal ?_
          refine at_ret (by kernel_rfl) ?_
          refine at_in_ret ?_
          refine at_then_ret ?_
          refine at_then_ret ?_
          refine at_in_ret ?_
          refine at_then_ret ?_
          obtain rfl := someE H
          refine at_backR [.bool false] (Γ) (rs := [.tmp 6]) (by kernel_rfl) (.cons (.tmp (by kernel_rfl)) .nil) (fun w hw => (Sat.less (.drop .here (.drop .here (.drop .here .refl))) hw)) ?_
          exact ⟨rfl, rfl⟩
         ·replace H := bifF H h19
          refine sr 185 (.bool false) (run_eq (v := .bool (!(decide (y38_4.1.fwd = (v3_18 - (1 : Int)))))) (fun _ => by kernel_rfl) (congrArg Value.bool h19)) ?_
          refine sp 186 (.int .i64 v3_18) ?_
          refine sp 187 (.int .i64 (wr ((1 : Int) + y1_1))) ?_
          refine sp 188 (.bool (decide (v3_18 < (wr ((1 : Int) + y1_1))))) ?_
          rcases Bool.eq_false_or_eq_true (decide (v3_18 < (wr ((1 : Int) + y1_1)))) with h20 | h20
          ·replace H := bifT H h20
           refine sr 189 (.bool true) (run_eq (v := .bool (decide (v3_18 < (wr ((1 : Int) + y1_1))))) (fun _ => by kernel_rfl) (congrArg Value.bool h20)) ?_
           refine sp 190 (.pointer (some ⟨b38_8, 0, none⟩)) ?_
           refine sp 191 (.pointer (some ⟨b38_8, 1, none⟩)) ?_
           refine sl 192 (.int .i64 y38_4.1.back) (load1 (off := 1) (fun _ => by kernel_rfl) (holds_own .here) (by kernel_rfl)) ?_
           refine sp 193 (.int .i64 v3_18) ?_
           obtain ⟨hc39_29_0, H⟩ := chkE H
           refine sr 194 (.int .i64 (v3_18 + (1 : Int))) (run_eq (v := .int .i64 (IntKind.i64.wrap (v3_18 + (1 : Int)))) (fun _ => by kernel_rfl) (by rw [inR.wrap hc39_29_0])) ?_
           refine sp 195 (.bool (!(decide (y38_4.1.back = (v3_18 + (1 : Int)))))) ?_
           refine sp 196 (.bool (!(decide (y38_4.1.back = (v3_18 + (1 : Int)))))) ?_
           refine sp 197 (.bool (!(decide (y38_4.1.back = (v3_18 + (1 : Int)))))) ?_
           rcases Bool.eq_false_or_eq_true (!(decide (y38_4.1.back = (v3_18 + (1 : Int))))) with h21 | h21
           ·replace H := bifT H h21
            refine sr 198 (.bool true) (run_eq (v := .bool (!(decide (y38_4.1.back = (v3_18 + (1 : Int)))))) (fun _ => by kernel_rfl) (congrArg Value.bool h21)) ?_
            refine sa 199 ?_
            refine sa 200 ?_
            refine sa 201 ?_
            refine sa 202 ?_
            refine sa 203 ?_
            refine sa 204 ?_
            refine sa 205 ?_
            refine sa 206 ?_
            refine sa 207 ?_
            refine sp 208 (.bool true) ?_
            refine ops_end ?_
            refine ae [(0, .int .i64 (wr ((1 : Int) + y1_1))), (1, .int .i64 v), (7, .slice v2_7a (List.length v2_7x) v2_7c), (18, .int .i64 v3_18), (208, .bool true)] ?_
            refine at_then_normal ?_
            refine at_true (t := true) (x := C11 [1,1,1,1,1,1,1,1,1,0,1,0,0,1,0,0,1,1,0]) (y := C11 [1,1,1,1,1,1,1,1,1,0,1,0,0,1,0,0,1,1,1]) (o := .tmp 208) (by kernel_rfl) (by kernel_rfl) (by kernel_rfl) rfl ?_
            refine aq (x := C11 [1,1,1,1,1,1,1,1,1,0,1,0,0,1,0,0,1,1,0,0]) (y := C11 [1,1,1,1,1,1,1,1,1,0,1,0,0,1,0,0,1,1,0,1]) ?_
            refine ar (id := 40) 1 ?_
            refine sp 6 (.bool false) ?_
            refine ops_end ?_
            refine ae [(6, .bool false)] ?_
            refine at_then_normal ?_
            refine at_ret (by kernel_rfl) ?_
            refine at_in_ret ?_
            refine at_then_ret ?_
            refine at_then_ret ?_
            refine at_in_ret ?_
            refine at_then_ret ?_
            obtain rfl := someE H
            refine at_backR [.bool false] (Γ) (rs := [.tmp 6]) (by kernel_rfl) (.cons (.tmp (by kernel_rfl)) .nil) (fun w hw => (Sat.less (.drop .here (.drop .here (.drop .here .refl))) hw)) ?_
            exact ⟨rfl, rfl⟩
           ·replace H := bifF H h21
            refine sr 198 (.bool false) (run_eq (v := .bool (!(decide (y38_4.1.back = (v3_18 + (1 : Int)))))) (fun _ => by kernel_rfl) (congrArg Value.bool h21)) ?_
            refine sp 199 (.int .i64 v3_18) ?_
            refine sp 200 (.int .i64 (wr ((1 : Int) + y1_1))) ?_
            refine sp 201 (.bool (decide (v3_18 = (wr ((1 : Int) + y1_1))))) ?_
            rcases Bool.eq_false_or_eq_true (decide (v3_18 = (wr ((1 : Int) + y1_1)))) with h22 | h22
            ·replace H := bifT H h22
             refine sr 202 (.bool true) (run_eq (v := .bool (decide (v3_18 = (wr ((1 : Int) + y1_1))))) (fun _ => by kernel_rfl) (congrArg Value.bool h22)) ?_
             refine sp 203 (.pointer (some ⟨b38_8, 0, none⟩)) ?_
             refine sl 204 (.agg #[.int .i64 y38_4.1.fwd, .int .i64 y38_4.1.back]) (loadN (off := 0) (vs := [.int .i64 y38_4.1.fwd, .int .i64 y38_4.1.back]) 2 (fun _ => by kernel_rfl) (holds_own .here) rfl (by exact ⟨rfl, rfl, trivial⟩)) ?_
             obtain ⟨y39_40, hy39_40, H⟩ := bindE H
             refine s_quiet 205 (.bool y39_40) 34 #[.agg #[.int .i64 y38_4.1.fwd, .int .i64 y38_4.1.back]] (by kernel_rfl) (by kernel_rfl) (fun _ => by kernel_rfl) (LHeadF_tr (⟨y38_4.1.fwd, y38_4.1.back⟩ : LinkS) y39_40 hy39_40) ?_
             refine sp 206 (.bool !y39_40) ?_
             refine sp 207 (.bool !y39_40) ?_
             refine sp 208 (.bool !y39_40) ?_
             refine ops_end ?_
             refine ae [(0, .int .i64 (wr ((1 : Int) + y1_1))), (1, .int .i64 v), (7, .slice v2_7a (List.length v2_7x) v2_7c), (18, .int .i64 v3_18), (208, .bool !y39_40)] ?_
             refine at_then_normal ?_
             rcases Bool.eq_false_or_eq_true (!y39_40) with h23 | h23
             ·replace H := bifT H h23
              refine at_true (t := !y39_40) (x := C11 [1,1,1,1,1,1,1,1,1,0,1,0,0,1,0,0,1,1,0]) (y := C11 [1,1,1,1,1,1,1,1,1,0,1,0,0,1,0,0,1,1,1]) (o := .tmp 208) (by kernel_rfl) (by kernel_rfl) (by kernel_rfl) h23 ?_
              refine aq (x := C11 [1,1,1,1,1,1,1,1,1,0,1,0,0,1,0,0,1,1,0,0]) (y := C11 [1,1,1,1,1,1,1,1,1,0,1,0,0,1,0,0,1,1,0,1]) ?_
              refine ar (id := 40) 1 ?_
              refine sp 6 (.bool false) ?_
              refine ops_end ?_
              refine ae [(6, .bool false)] ?_
              refine at_then_normal ?_
              refine at_ret (by kernel_rfl) ?_
              refine at_in_ret ?_
              refine at_then_ret ?_
              refine at_then_ret ?_
              refine at_in_ret ?_
              refine at_then_ret ?_
              obtain rfl := someE H
              refine at_backR [.bool false] (Γ) (rs := [.tmp 6]) (by kernel_rfl) (.cons (.tmp (by kernel_rfl)) .nil) (fun w hw => (Sat.less (.drop .here (.drop .here (.drop .here .refl))) hw)) ?_
              exact ⟨rfl, rfl⟩
             ·replace H := bifF H h23
              refine at_false (t := !y39_40) (x := C11 [1,1,1,1,1,1,1,1,1,0,1,0,0,1,0,0,1,1,0]) (y := C11 [1,1,1,1,1,1,1,1,1,0,1,0,0,1,0,0,1,1,1]) (o := .tmp 208) (by kernel_rfl) (by kernel_rfl) (by kernel_rfl) h23 ?_
              refine at_skip (by kernel_rfl) ?_
              refine at_in_normal ?_
              refine at_then_normal ?_
              refine ar (id := 37) 3 ?_
              refine sp 155 (.int .i64 v3_18) ?_
              obtain ⟨hc37_1_0, H⟩ := chkE H
              refine sr 156 (.int .i64 (v3_18 + (1 : Int))) (run_eq (v := .int .i64 (IntKind.i64.wrap (v3_18 + (1 : Int)))) (fun _ => by kernel_rfl) (by rw [inR.wrap hc37_1_0])) ?_
              refine sp 18 (.int .i64 (v3_18 + (1 : Int))) ?_
              refine ops_end ?_
              refine ae [(0, .int .i64 (wr ((1 : Int) + y1_1))), (1, .int .i64 v), (7, .slice v2_7a (List.length v2_7x) v2_7c), (18, .int .i64 (v3_18 + (1 : Int)))] ?_
              refine at_round_normal ?_
              exact at_roundR fuel3 [(0, .int .i64 (wr ((1 : Int) + y1_1))), (1, .int .i64 v), (7, .slice v2_7a (List.length v2_7x) v2_7c), (18, .int .i64 (v3_18 + (1 : Int)))] ((PtrsX v2_7r v2_7a v2_7c v2_7x) :: Γ) (Nat.lt_succ_self _) ⟨by kernel_rfl, by kernel_rfl, by kernel_rfl, by kernel_rfl, trivial⟩ (fun w hw => (Sat.less (.take (.there .here) (.drop .here (.drop .here .refl))) hw)) ⟨fuel3, v3_18 + (1 : Int), H, rfl, rfl, rfl⟩
            ·replace H := bifF H h22
             refine sr 202 (.bool false) (run_eq (v := .bool (decide (v3_18 = (wr ((1 : Int) + y1_1))))) (fun _ => by kernel_rfl) (congrArg Value.bool h22)) ?_
             refine sa 203 ?_
             refine sa 204 ?_
             refine sa 205 ?_
             refine sa 206 ?_
             refine sp 207 (.bool false) ?_
             refine sp 208 (.bool false) ?_
             refine ops_end ?_
             refine ae [(0, .int .i64 (wr ((1 : Int) + y1_1))), (1, .int .i64 v), (7, .slice v2_7a (List.length v2_7x) v2_7c), (18, .int .i64 v3_18), (208, .bool false)] ?_
             refine at_then_normal ?_
             refine at_false (t := false) (x := C11 [1,1,1,1,1,1,1,1,1,0,1,0,0,1,0,0,1,1,0]) (y := C11 [1,1,1,1,1,1,1,1,1,0,1,0,0,1,0,0,1,1,1]) (o := .tmp 208) (by kernel_rfl) (by kernel_rfl) (by kernel_rfl) rfl ?_
             refine at_skip (by kernel_rfl) ?_
             refine at_in_normal ?_
             refine at_then_normal ?_
             refine ar (id := 37) 3 ?_
             refine sp 155 (.int .i64 v3_18) ?_
             obtain ⟨hc37_1_0, H⟩ := chkE H
             refine sr 156 (.int .i64 (v3_18 + (1 : Int))) (run_eq (v := .int .i64 (IntKind.i64.wrap (v3_18 + (1 : Int)))) (fun _ => by kernel_rfl) (by rw [inR.wrap hc37_1_0])) ?_
             refine sp 18 (.int .i64 (v3_18 + (1 : Int))) ?_
             refine ops_end ?_
             refine ae [(0, .int .i64 (wr ((1 : Int) + y1_1))), (1, .int .i64 v), (7, .slice v2_7a (List.length v2_7x) v2_7c), (18, .int .i64 (v3_18 + (1 : Int)))] ?_
             refine at_round_normal ?_
             exact at_roundR fuel3 [(0, .int .i64 (wr ((1 : Int) + y1_1))), (1, .int .i64 v), (7, .slice v2_7a (List.length v2_7x) v2_7c), (18, .int .i64 (v3_18 + (1 : Int)))] ((PtrsX v2_7r v2_7a v2_7c v2_7x) :: Γ) (Nat.lt_succ_self _) ⟨by kernel_rfl, by kernel_rfl, by kernel_rfl, by kernel_rfl, trivial⟩ (fun w hw => (Sat.less (.take (.there .here) (.drop .here (.drop .here .refl))) hw)) ⟨fuel3, v3_18 + (1 : Int), H, rfl, rfl, rfl⟩
          ·replace H := bifF H h20
           refine sr 189 (.bool false) (run_eq (v := .bool (decide (v3_18 < (wr ((1 : Int) + y1_1))))) (fun _ => by kernel_rfl) (congrArg Value.bool h20)) ?_
           refine sa 190 ?_
           refine sa 191 ?_
           refine sa 192 ?_
           refine sa 193 ?_
           refine sa 194 ?_
           refine sa 195 ?_
           refine sp 196 (.bool false) ?_
           refine sp 197 (.bool false) ?_
           refine sp 198 (.bool false) ?_
           refine sp 199 (.int .i64 v3_18) ?_
           refine sp 200 (.int .i64 (wr ((1 : Int) + y1_1))) ?_
           refine sp 201 (.bool (decide (v3_18 = (wr ((1 : Int) + y1_1))))) ?_
           rcases Bool.eq_false_or_eq_true (decide (v3_18 = (wr ((1 : Int) + y1_1)))) with h24 | h24
           ·replace H := bifT H h24
            refine sr 202 (.bool true) (run_eq (v := .bool (decide (v3_18 = (wr ((1 : Int) + y1_1))))) (fun _ => by kernel_rfl) (congrArg Value.bool h24)) ?_
            refine sp 203 (.pointer (some ⟨b38_8, 0, none⟩)) ?_
            refine sl 204 (.agg #[.int .i64 y38_4.1.fwd, .int .i64 y38_4.1.back]) (loadN (off := 0) (vs := [.int .i64 y38_4.1.fwd, .int .i64 y38_4.1.back]) 2 (fun _ => by kernel_rfl) (holds_own .here) rfl (by exact ⟨rfl, rfl, trivial⟩)) ?_
            obtain ⟨y39_40, hy39_40, H⟩ := bindE H
            refine s_quiet 205 (.bool y39_40) 34 #[.agg #[.int .i64 y38_4.1.fwd, .int .i64 y38_4.1.back]] (by kernel_rfl) (by kernel_rfl) (fun _ => by kernel_rfl) (LHeadF_tr (⟨y38_4.1.fwd, y38_4.1.back⟩ : LinkS) y39_40 hy39_40) ?_
            refine sp 206 (.bool !y39_40) ?_
            refine sp 207 (.bool !y39_40) ?_
            refine sp 208 (.bool !y39_40) ?_
            refine ops_end ?_
            refine ae [(0, .int .i64 (wr ((1 : Int) + y1_1))), (1, .int .i64 v), (7, .slice v2_7a (List.length v2_7x) v2_7c), (18, .int .i64 v3_18), (208, .bool !y39_40)] ?_
            refine at_then_normal ?_
            rcases Bool.eq_false_or_eq_true (!y39_40) with h25 | h25
            ·replace H := bifT H h25
             refine at_true (t := !y39_40) (x := C11 [1,1,1,1,1,1,1,1,1,0,1,0,0,1,0,0,1,1,0]) (y := C11 [1,1,1,1,1,1,1,1,1,0,1,0,0,1,0,0,1,1,1]) (o := .tmp 208) (by kernel_rfl) (by kernel_rfl) (by kernel_rfl) h25 ?_
             refine aq (x := C11 [1,1,1,1,1,1,1,1,1,0,1,0,0,1,0,0,1,1,0,0]) (y := C11 [1,1,1,1,1,1,1,1,1,0,1,0,0,1,0,0,1,1,0,1]) ?_
             refine ar (id := 40) 1 ?_
             refine sp 6 (.bool false) ?_
             refine ops_end ?_
             refine ae [(6, .bool false)] ?_
             refine at_then_normal ?_
             refine at_ret (by kernel_rfl) ?_
             refine at_in_ret ?_
             refine at_then_ret ?_
             refine at_then_ret ?_
             refine at_in_ret ?_
             refine at_then_ret ?_
             obtain rfl := someE H
             refine at_backR [.bool false] (Γ) (rs := [.tmp 6]) (by kernel_rfl) (.cons (.tmp (by kernel_rfl)) .nil) (fun w hw => (Sat.less (.drop .here (.drop .here (.drop .here .refl))) hw)) ?_
             exact ⟨rfl, rfl⟩
            ·replace H := bifF H h25
             refine at_false (t := !y39_40) (x := C11 [1,1,1,1,1,1,1,1,1,0,1,0,0,1,0,0,1,1,0]) (y := C11 [1,1,1,1,1,1,1,1,1,0,1,0,0,1,0,0,1,1,1]) (o := .tmp 208) (by kernel_rfl) (by kernel_rfl) (by kernel_rfl) h25 ?_
             refine at_skip (by kernel_rfl) ?_
             refine at_in_normal ?_
             refine at_then_normal ?_
             refine ar (id := 37) 3 ?_
             refine sp 155 (.int .i64 v3_18) ?_
             obtain ⟨hc37_1_0, H⟩ := chkE H
             refine sr 156 (.int .i64 (v3_18 + (1 : Int))) (run_eq (v := .int .i64 (IntKind.i64.wrap (v3_18 + (1 : Int)))) (fun _ => by kernel_rfl) (by rw [inR.wrap hc37_1_0])) ?_
             refine sp 18 (.int .i64 (v3_18 + (1 : Int))) ?_
             refine ops_end ?_
             refine ae [(0, .int .i64 (wr ((1 : Int) + y1_1))), (1, .int .i64 v), (7, .slice v2_7a (List.length v2_7x) v2_7c), (18, .int .i64 (v3_18 + (1 : Int)))] ?_
             refine at_round_normal ?_
             exact at_roundR fuel3 [(0, .int .i64 (wr ((1 : Int) + y1_1))), (1, .int .i64 v), (7, .slice v2_7a (List.length v2_7x) v2_7c), (18, .int .i64 (v3_18 + (1 : Int)))] ((PtrsX v2_7r v2_7a v2_7c v2_7x) :: Γ) (Nat.lt_succ_self _) ⟨by kernel_rfl, by kernel_rfl, by kernel_rfl, by kernel_rfl, trivial⟩ (fun w hw => (Sat.less (.take (.there .here) (.drop .here (.drop .here .refl))) hw)) ⟨fuel3, v3_18 + (1 : Int), H, rfl, rfl, rfl⟩
           ·replace H := bifF H h24
            refine sr 202 (.bool false) (run_eq (v := .bool (decide (v3_18 = (wr ((1 : Int) + y1_1))))) (fun _ => by kernel_rfl) (congrArg Value.bool h24)) ?_
            refine sa 203 ?_
            refine sa 204 ?_
            refine sa 205 ?_
            refine sa 206 ?_
            refine sp 207 (.bool false) ?_
            refine sp 208 (.bool false) ?_
            refine ops_end ?_
            refine ae [(0, .int .i64 (wr ((1 : Int) + y1_1))), (1, .int .i64 v), (7, .slice v2_7a (List.length v2_7x) v2_7c), (18, .int .i64 v3_18), (208, .bool false)] ?_
            refine at_then_normal ?_
            refine at_false (t := false) (x := C11 [1,1,1,1,1,1,1,1,1,0,1,0,0,1,0,0,1,1,0]) (y := C11 [1,1,1,1,1,1,1,1,1,0,1,0,0,1,0,0,1,1,1]) (o := .tmp 208) (by kernel_rfl) (by kernel_rfl) (by kernel_rfl) rfl ?_
            refine at_skip (by kernel_rfl) ?_
            refine at_in_normal ?_
            refine at_then_normal ?_
            refine ar (id := 37) 3 ?_
            refine sp 155 (.int .i64 v3_18) ?_
            obtain ⟨hc37_1_0, H⟩ := chkE H
            refine sr 156 (.int .i64 (v3_18 + (1 : Int))) (run_eq (v := .int .i64 (IntKind.i64.wrap (v3_18 + (1 : Int)))) (fun _ => by kernel_rfl) (by rw [inR.wrap hc37_1_0])) ?_
            refine sp 18 (.int .i64 (v3_18 + (1 : Int))) ?_
            refine ops_end ?_
            refine ae [(0, .int .i64 (wr ((1 : Int) + y1_1))), (1, .int .i64 v), (7, .slice v2_7a (List.length v2_7x) v2_7c), (18, .int .i64 (v3_18 + (1 : Int)))] ?_
            refine at_round_normal ?_
            exact at_roundR fuel3 [(0, .int .i64 (wr ((1 : Int) + y1_1))), (1, .int .i64 v), (7, .slice v2_7a (List.length v2_7x) v2_7c), (18, .int .i64 (v3_18 + (1 : Int)))] ((PtrsX v2_7r v2_7a v2_7c v2_7x) :: Γ) (Nat.lt_succ_self _) ⟨by kernel_rfl, by kernel_rfl, by kernel_rfl, by kernel_rfl, trivial⟩ (fun w hw => (Sat.less (.take (.there .here) (.drop .here (.drop .here .refl))) hw)) ⟨fuel3, v3_18 + (1 : Int), H, rfl, rfl, rfl⟩
     ·replace H := bifF H h15
      refine at_false (t := decide (v3_18 ≤ (wr ((1 : Int) + y1_1)))) (x := C11 [1,1,1,1,1,1,1,1,1,0,1,0,0,0,1,0]) (y := C11 [1,1,1,1,1,1,1,1,1,0,1,0,0,0,1,1]) (o := .tmp 154) (by kernel_rfl) (by kernel_rfl) (by kernel_rfl) h15 ?_
      refine at_exit (i := 4) (by kernel_rfl) ?_
      refine at_then_exit ?_
      refine at_then_exit ?_
      rw [attachChainS_k3] at H
      refine ae [(0, .int .i64 (wr ((1 : Int) + y1_1))), (1, .int .i64 v), (7, .slice v2_7a (List.length v2_7x) v2_7c), (18, .int .i64 v3_18)] ?_
      refine At.conv (Γ' := (PtrsX v2_7r v2_7a v2_7c v2_7x) :: Γ) (fun w hw => (Sat.less (.take .here .refl) hw)) ?_
      refine at_in_here ?_
      refine at_then_normal ?_
      refine aq (x := C11 [1,1,1,1,1,1,1,1,1,1,0]) (y := C11 [1,1,1,1,1,1,1,1,1,1,1]) ?_
      refine ar (id := 41) 2 ?_
      obtain ⟨y41_0, hy41_0, H⟩ := bindE H
      refine s_call 209 28 #[] (by kernel_rfl) (by kernel_rfl) (fun _ => by kernel_rfl) (W14F_tr  y41_0 hy41_0) ?_
      rintro _ _ ⟨rfl, rfl⟩
      refine sp 6 (.bool y41_0) ?_
      refine ops_end ?_
      refine ae [(6, .bool y41_0)] ?_
      refine at_then_normal ?_
      refine at_ret (by kernel_rfl) ?_
      obtain rfl := someE H
      refine at_backR [.bool y41_0] (Γ) (rs := [.tmp 6]) (by kernel_rfl) (.cons (.tmp (by kernel_rfl)) .nil) (fun w hw => (Sat.less (.drop .here .refl) hw)) ?_
      exact ⟨rfl, rfl⟩
  ·refine aq (x := C11 [1,1,1,1,1,1,0,0]) (y := C11 [1,1,1,1,1,1,0,1]) ?_
   refine ar (id := 12) 1 ?_
   refine sp 45 (.bool dirty) ?_
   refine ops_end ?_
   refine ae [(0, .int .i64 (wr ((1 : Int) + y1_1))), (1, .int .i64 v), (7, .slice v0_7a (List.length cs10_7) v0_7c), (10, .int .i64 (1)), (11, .int .i64 v), (45, .bool dirty)] ?_
   refine at_then_normal ?_
   rcases Bool.eq_false_or_eq_true (dirty) with h26 | h26
   ·replace H := bifT H h26
    refine at_true (t := dirty) (x := C11 [1,1,1,1,1,1,0,1,0]) (y := C11 [1,1,1,1,1,1,0,1,1]) (o := .tmp 45) (by kernel_rfl) (by kernel_rfl) (by kernel_rfl) h26 ?_
    refine ar (id := 13) 4 ?_
    refine sp 46 (.int .i64 v) ?_
    refine sp 47 (.int .i64 (wr (v + (1 : Int)))) ?_
    refine sp 10 (.int .i64 (2)) ?_
    refine sp 11 (.int .i64 (wr (v + (1 : Int)))) ?_
    refine ops_end ?_
    refine ae [(0, .int .i64 (wr ((1 : Int) + y1_1))), (1, .int .i64 v), (7, .slice v0_7a (List.length cs10_7) v0_7c), (10, .int .i64 (2)), (11, .int .i64 (wr (v + (1 : Int))))] ?_
    refine at_round_normal ?_
    exact at_join_mk [(0, .int .i64 (wr ((1 : Int) + y1_1))), (1, .int .i64 v), (7, .slice v0_7a (List.length cs10_7) v0_7c), (10, .int .i64 2), (11, .int .i64 (wr (v + (1 : Int))))] ((PtrsX v0_7r v0_7a v0_7c cs10_7) :: Γ) ⟨by kernel_rfl, by kernel_rfl, by kernel_rfl, by kernel_rfl, by kernel_rfl, trivial⟩ (fun w hw => (Sat.less (.take .here (.drop .here (.drop .here .refl))) hw)) ⟨2, wr (v + (1 : Int)), H, rfl, rfl⟩
   ·replace H := bifF H h26
    refine at_false (t := dirty) (x := C11 [1,1,1,1,1,1,0,1,0]) (y := C11 [1,1,1,1,1,1,0,1,1]) (o := .tmp 45) (by kernel_rfl) (by kernel_rfl) (by kernel_rfl) h26 ?_
    refine at_skip (by kernel_rfl) ?_
    refine at_round_normal ?_
    exact at_join_mk [(0, .int .i64 (wr ((1 : Int) + y1_1))), (1, .int .i64 v), (7, .slice v0_7a (List.length cs10_7) v0_7c), (10, .int .i64 1), (11, .int .i64 v)] ((PtrsX v0_7r v0_7a v0_7c cs10_7) :: Γ) ⟨by kernel_rfl, by kernel_rfl, by kernel_rfl, by kernel_rfl, by kernel_rfl, trivial⟩ (fun w hw => (Sat.less (.take .here (.drop .here (.drop .here .refl))) hw)) ⟨1, v, H, rfl, rfl⟩
end Go.Proofs.Ytlnjnkbnppnbkaa
