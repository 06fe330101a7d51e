/- The law AttachKeeps: its walk. -/
import Derived.Test.YtfndeehlbcbkpaaBoA
import Derived.Test.YtfndeehlbcbkpaaAtA
namespace Go.Proofs.Ytfndeehlbcbkpaa
open Go Go.RowKit
set_option linter.unusedVariables false
set_option linter.unusedSimpArgs false
def wakes14S_j0 (y4_4 : DealS × Bool × CacheS) (e0_37 : Bool) : Option (Bool) :=
 (bif e0_37 then some false else (anextS y4_4.1 (2 : Int) y4_4.2.2 (⟨8, 0, 0, 0, 1, 0, 0, false, ([] : List Int)⟩ : PktS)).bind fun y7_3 => (findS y7_3.2.2 (1 : Int)).bind fun y8_1 => (bif y7_3.2.1 then (bif decide (y7_3.1.step = (0 : Int)) then (bif y8_1.2 then (lonlyS (⟨y8_1.1.fwd, y8_1.1.back⟩ : LinkS)).bind fun y9_12 => (bif y9_12 then (ewordS y8_1.1 (0 : Int)).bind fun y9_16 => some (decide (y9_16 = (7 : Int))) else some false) else some false) else some false) else some false))
def wakes14S : Option (Bool) :=
 (bothS ([] : List Int) ([] : List Int) ([] : List Int)).bind fun y1_0 => (dbeginS (1 : Int) (1 : Int) (0 : Int)).bind fun y4_0 => letP ([7] : List Int) fun l4_2 => (anextS y4_0 (2 : Int) y1_0.1 (⟨7, 0, 0, 0, 1, (-1), 0, false, l4_2⟩ : PktS)).bind fun y4_4 => (bif !y4_4.2.1 then wakes14S_j0 y4_4 true else (bif !(decide (y4_4.1.step = (6 : Int))) then wakes14S_j0 y4_4 true else (bif !(decide (y4_4.1.head = (2 : Int))) then wakes14S_j0 y4_4 true else wakes14S_j0 y4_4 (!(decide (y4_4.1.state = (1 : Int)))))))
noncomputable def C12 (p : List Nat) : Code := codeAt (bodyOf Try.f12) p
set_option maxRecDepth 100000 in
set_option maxHeartbeats 8000000 in
theorem W14F_tr {W0 : World} {Γ : List Asn}   (y : Bool) (H : wakes14S = some y) : Tr Try.prog 12 #[] W0 (Γ) (fun r Δ => r = .bool y ∧ Δ = Γ) := by
 unfold wakes14S at H
 refine Tr.enter (fn := Try.f12) (c := C12 []) (args := []) 69 Try.func12 (by kernel_rfl) (by kernel_rfl) ?_
 refine At.env [] trivial ?_
 refine aq (x := C12 [0]) (y := C12 [1]) ?_
 refine ar (id := 0) 1 ?_
 refine sp 0 (.bool false) ?_
 refine ops_end ?_
 refine At.env [] trivial ?_
 refine at_then_normal ?_
 refine aq (x := C12 [1,0]) (y := C12 [1,1]) ?_
 refine ar (id := 1) 6 ?_
 obtain ⟨y1_0, hy1_0, H⟩ := bindE H
 refine s_call 8 7 #[.slice none 0 0, .slice none 0 0, .slice none 0 0] (by kernel_rfl) (by kernel_rfl) (fun _ => by kernel_rfl) (BothF_tr none 0 ([] : List Int) none 0 ([] : List Int) none 0 ([] : List Int) Reads.nil Reads.nil Reads.nil (Nat.le_refl _) y1_0 hy1_0) ?_
 rintro _ _ ⟨b1_0_0, b1_0_1, rfl, rfl⟩
 refine sp 7 (.tuple #[.pointer (some ⟨b1_0_0, 0, none⟩), .pointer (some ⟨b1_0_1, 0, none⟩)]) ?_
 refine sp 9 (.pointer (some ⟨b1_0_0, 0, none⟩)) ?_
 refine sp 10 (.pointer (some ⟨b1_0_1, 0, none⟩)) ?_
 refine sp 1 (.pointer (some ⟨b1_0_0, 0, none⟩)) ?_
 refine sp 2 (.pointer (some ⟨b1_0_1, 0, none⟩)) ?_
 refine ops_end ?_
 refine ae [(1, .pointer (some ⟨b1_0_0, 0, none⟩))] ?_
 refine at_then_normal ?_
 refine aq (x := C12 [1,1,0]) (y := C12 [1,1,1]) ?_
 refine aq (x := C12 [1,1,0,0]) (y := C12 [1,1,0,1]) ?_
 refine ar (id := 2) 2 ?_
 refine sp 11 (.pointer (some ⟨b1_0_0, 0, none⟩)) ?_
 refine sp 12 (.bool false) ?_
 refine ops_end ?_
 refine ae [(1, .pointer (some ⟨b1_0_0, 0, none⟩)), (12, .bool false)] ?_
 refine at_then_normal ?_
 refine at_false (t := false) (x := C12 [1,1,0,1,0]) (y := C12 [1,1,0,1,1]) (o := .tmp 12) (by kernel_rfl) (by kernel_rfl) (by kernel_rfl) rfl ?_
 refine at_skip (by kernel_rfl) ?_
 refine at_then_normal ?_
 refine aq (x := C12 [1,1,1,0]) (y := C12 [1,1,1,1]) ?_
 refine ar (id := 4) 11 ?_
 obtain ⟨y4_0, hy4_0, H⟩ := bindE H
 refine s_call 14 9 #[.int .i64 (1), .int .i64 (1), .int .i64 (0)] (by kernel_rfl) (by kernel_rfl) (fun _ => by kernel_rfl) (DBeginF_tr (1 : Int) (1 : Int) (0 : Int) y4_0 hy4_0) ?_
 rintro _ _ ⟨a4_0_00, c4_0_00, rfl, rfl⟩
 refine sp 15 (.pointer (some ⟨b1_0_0, 0, none⟩)) ?_
 obtain ⟨l4_2, hl4_2, H⟩ := letE H
 refine s_step 16 (by kernel_rfl) (by kernel_rfl) (st_new_ints (T := 3) (xs := l4_2) 1 hl4_2 (fun _ => by kernel_rfl) (by kernel_rfl)) ?_
 rintro _ _ ⟨b4_2, rfl, rfl⟩
 refine sp 17 (.agg #[.int .i64 (7), .int .i64 (0), .int .i64 (0), .int .i64 (0), .int .i64 (1), .int .i64 (-1), .int .i64 (0), .bool false, .slice (some ⟨b4_2, 0, none⟩) (List.length l4_2) 1]) ?_
 obtain ⟨y4_4, hy4_4, H⟩ := bindE H
 refine s_call 18 10 #[.agg #[.int .i64 y4_0.kind, .int .i64 y4_0.line, .int .i64 y4_0.id, .int .i64 y4_0.step, .int .i64 y4_0.state, .int .i64 y4_0.head, .slice a4_0_00 (List.length y4_0.data) c4_0_00, .int .i64 y4_0.next, .int .i64 y4_0.told], .int .i64 (2), .pointer (some ⟨b1_0_0, 0, none⟩), .agg #[.int .i64 (7), .int .i64 (0), .int .i64 (0), .int .i64 (0), .int .i64 (1), .int .i64 (-1), .int .i64 (0), .bool false, .slice (some ⟨b4_2, 0, none⟩) (List.length l4_2) 1]] (by kernel_rfl) (by kernel_rfl) (fun _ => by kernel_rfl) (Tr.conv (Γ' := (ImmI a4_0_00 y4_0.data) :: (CacheA b1_0_0 y1_0.1) :: (ImmI a4_0_00 y4_0.data) :: (IntsA (some ⟨b4_2, 0, none⟩) 1 l4_2) :: (RChA b1_0_1 y1_0.2) :: Γ) (fun w hw => (Sat.less (.take .here (.take (.there (.there .here)) (.take .here (.take .here (.take .here .refl))))) (ImmR.dup (Sat.less (.take (.there .here) (.take .here (.take .here (.take .here .refl)))) hw)))) (ANextF_tr a4_0_00 c4_0_00 y4_0 (2 : Int) b1_0_0 y1_0.1 (some ⟨b4_2, 0, none⟩) 1 (⟨7, 0, 0, 0, 1, (-1), 0, false, l4_2⟩ : PktS) (RowsA.reads (k := 1) (.there .here)) y4_4 hy4_4)) ?_
 rintro _ _ ⟨a4_4_00, c4_4_00, rfl, rfl⟩
 refine sp 13 (.tuple #[.agg #[.int .i64 y4_4.1.kind, .int .i64 y4_4.1.line, .int .i64 y4_4.1.id, .int .i64 y4_4.1.step, .int .i64 y4_4.1.state, .int .i64 y4_4.1.head, .slice a4_4_00 (List.length y4_4.1.data) c4_4_00, .int .i64 y4_4.1.next, .int .i64 y4_4.1.told], .bool y4_4.2.1]) ?_
 refine sp 19 (.agg #[.int .i64 y4_4.1.kind, .int .i64 y4_4.1.line, .int .i64 y4_4.1.id, .int .i64 y4_4.1.step, .int .i64 y4_4.1.state, .int .i64 y4_4.1.head, .slice a4_4_00 (List.length y4_4.1.data) c4_4_00, .int .i64 y4_4.1.next, .int .i64 y4_4.1.told]) ?_
 refine sp 20 (.bool y4_4.2.1) ?_
 refine s_step 3 (by kernel_rfl) (by kernel_rfl) (st_new (T := 29) (cells := #[.int .i64 (0), .int .i64 (0), .int .i64 (0), .int .i64 (0), .int .i64 (0), .int .i64 (0), .slice none 0 0, .int .i64 (0), .int .i64 (0)]) (fun a => .pointer (some a)) (fun _ => by kernel_rfl)) ?_
 rintro _ _ ⟨b4_8, rfl, rfl⟩
 refine s_do (by kernel_rfl) (by kernel_rfl) (st_store (off := 0) (vs := [.int .i64 y4_4.1.kind, .int .i64 y4_4.1.line, .int .i64 y4_4.1.id, .int .i64 y4_4.1.step, .int .i64 y4_4.1.state, .int .i64 y4_4.1.head, .slice a4_4_00 (List.length y4_4.1.data) c4_4_00, .int .i64 y4_4.1.next, .int .i64 y4_4.1.told]) (c' := #[.int .i64 y4_4.1.kind, .int .i64 y4_4.1.line, .int .i64 y4_4.1.id, .int .i64 y4_4.1.step, .int .i64 y4_4.1.state, .int .i64 y4_4.1.head, .slice a4_4_00 (List.length y4_4.1.data) c4_4_00, .int .i64 y4_4.1.next, .int .i64 y4_4.1.told]) (fun _ => by kernel_rfl) .here (by kernel_rfl) (by kernel_rfl) (by kernel_rfl)) ?_
 rintro _ _ ⟨rfl, rfl⟩
 refine sp 4 (.bool y4_4.2.1) ?_
 refine ops_end ?_
 refine ae [(1, .pointer (some ⟨b1_0_0, 0, none⟩)), (3, .pointer (some ⟨b4_8, 0, none⟩)), (4, .bool y4_4.2.1)] ?_
 refine at_then_normal ?_
 refine aq (x := C12 [1,1,1,1,0]) (y := C12 [1,1,1,1,1]) ?_
 refine at_seq_join (x := C12 [1,1,1,1,0,0]) (y := C12 [1,1,1,1,0,1]) (fun ff ΔΔ => ∃ (e0_37 : Bool), wakes14S_j0 y4_4 e0_37 = some y ∧ ff = [(1, .pointer (some ⟨b1_0_0, 0, none⟩)), (3, .pointer (some ⟨b4_8, 0, none⟩)), (37, .bool e0_37)] ∧ (Asn.own b4_8 (.cells #[.int .i64 y4_4.1.kind, .int .i64 y4_4.1.line, .int .i64 y4_4.1.id, .int .i64 y4_4.1.step, .int .i64 y4_4.1.state, .int .i64 y4_4.1.head, .slice a4_4_00 (List.length y4_4.1.data) c4_4_00, .int .i64 y4_4.1.next, .int .i64 y4_4.1.told] 29 (0, 0))) :: (ImmI a4_4_00 y4_4.1.data) :: (CacheA b1_0_0 y4_4.2.2) :: (RChA b1_0_1 y1_0.2) :: Γ = ΔΔ) (by kernel_rfl) ?_ ?_
 ·rintro _ _ ⟨e0_37, H, rfl, rfl⟩
  rw [wakes14S_j0] at H
  rcases Bool.eq_false_or_eq_true (e0_37) with h1 | h1
  ·replace H := bifT H h1
   refine at_true (t := e0_37) (x := C12 [1,1,1,1,0,1,0]) (y := C12 [1,1,1,1,0,1,1]) (o := .tmp 37) (by kernel_rfl) (by kernel_rfl) (by kernel_rfl) h1 ?_
   refine aq (x := C12 [1,1,1,1,0,1,0,0]) (y := C12 [1,1,1,1,0,1,0,1]) ?_
   refine ar (id := 6) 1 ?_
   refine sp 0 (.bool false) ?_
   refine ops_end ?_
   refine ae [(0, .bool false)] ?_
   refine at_then_normal ?_
   refine at_ret (by kernel_rfl) ?_
   refine at_then_ret ?_
   obtain rfl := someE H
   refine at_backR [.bool false] (Γ) (rs := [.tmp 0]) (by kernel_rfl) (.cons (.tmp (by kernel_rfl)) .nil) (fun w hw => (Sat.less (.drop .here (.drop .here (.drop .here (.drop .here .refl)))) hw)) ?_
   exact ⟨rfl, rfl⟩
  ·replace H := bifF H h1
   refine at_false (t := e0_37) (x := C12 [1,1,1,1,0,1,0]) (y := C12 [1,1,1,1,0,1,1]) (o := .tmp 37) (by kernel_rfl) (by kernel_rfl) (by kernel_rfl) h1 ?_
   refine at_skip (by kernel_rfl) ?_
   refine at_then_normal ?_
   refine aq (x := C12 [1,1,1,1,1,0]) (y := C12 [1,1,1,1,1,1]) ?_
   refine ar (id := 7) 9 ?_
   refine sl 39 (.agg #[.int .i64 y4_4.1.kind, .int .i64 y4_4.1.line, .int .i64 y4_4.1.id, .int .i64 y4_4.1.step, .int .i64 y4_4.1.state, .int .i64 y4_4.1.head, .slice a4_4_00 (List.length y4_4.1.data) c4_4_00, .int .i64 y4_4.1.next, .int .i64 y4_4.1.told]) (loadN (off := 0) (vs := [.int .i64 y4_4.1.kind, .int .i64 y4_4.1.line, .int .i64 y4_4.1.id, .int .i64 y4_4.1.step, .int .i64 y4_4.1.state, .int .i64 y4_4.1.head, .slice a4_4_00 (List.length y4_4.1.data) c4_4_00, .int .i64 y4_4.1.next, .int .i64 y4_4.1.told]) 9 (fun _ => by kernel_rfl) (holds_own .here) rfl (by exact ⟨rfl, rfl, rfl, rfl, rfl, rfl, rfl, rfl, rfl, trivial⟩)) ?_
   refine sp 40 (.pointer (some ⟨b1_0_0, 0, none⟩)) ?_
   refine sp 41 (.agg #[.int .i64 (8), .int .i64 (0), .int .i64 (0), .int .i64 (0), .int .i64 (1), .int .i64 (0), .int .i64 (0), .bool false, .slice none 0 0]) ?_
   obtain ⟨y7_3, hy7_3, H⟩ := bindE H
   refine s_call 42 10 #[.agg #[.int .i64 y4_4.1.kind, .int .i64 y4_4.1.line, .int .i64 y4_4.1.id, .int .i64 y4_4.1.step, .int .i64 y4_4.1.state, .int .i64 y4_4.1.head, .slice a4_4_00 (List.length y4_4.1.data) c4_4_00, .int .i64 y4_4.1.next, .int .i64 y4_4.1.told], .int .i64 (2), .pointer (some ⟨b1_0_0, 0, none⟩), .agg #[.int .i64 (8), .int .i64 (0), .int .i64 (0), .int .i64 (0), .int .i64 (1), .int .i64 (0), .int .i64 (0), .bool false, .slice none 0 0]] (by kernel_rfl) (by kernel_rfl) (fun _ => by kernel_rfl) (Tr.conv (Γ' := (ImmI a4_4_00 y4_4.1.data) :: (CacheA b1_0_0 y4_4.2.2) :: (ImmI a4_4_00 y4_4.1.data) :: (Asn.own b4_8 (.cells #[.int .i64 y4_4.1.kind, .int .i64 y4_4.1.line, .int .i64 y4_4.1.id, .int .i64 y4_4.1.step, .int .i64 y4_4.1.state, .int .i64 y4_4.1.head, .slice a4_4_00 (List.length y4_4.1.data) c4_4_00, .int .i64 y4_4.1.next, .int .i64 y4_4.1.told] 29 (0, 0))) :: (RChA b1_0_1 y1_0.2) :: Γ) (fun w hw => (Sat.less (.take .here (.take (.there (.there .here)) (.take .here (.take .here (.take .here .refl))))) (ImmR.dup (Sat.less (.take (.there .here) (.take .here (.take .here (.take .here .refl)))) hw)))) (ANextF_tr a4_4_00 c4_4_00 y4_4.1 (2 : Int) b1_0_0 y4_4.2.2 none 0 (⟨8, 0, 0, 0, 1, 0, 0, false, ([] : List Int)⟩ : PktS) Reads.nil y7_3 hy7_3)) ?_
   rintro _ _ ⟨a7_3_00, c7_3_00, rfl, rfl⟩
   refine sp 38 (.tuple #[.agg #[.int .i64 y7_3.1.kind, .int .i64 y7_3.1.line, .int .i64 y7_3.1.id, .int .i64 y7_3.1.step, .int .i64 y7_3.1.state, .int .i64 y7_3.1.head, .slice a7_3_00 (List.length y7_3.1.data) c7_3_00, .int .i64 y7_3.1.next, .int .i64 y7_3.1.told], .bool y7_3.2.1]) ?_
   refine sp 43 (.agg #[.int .i64 y7_3.1.kind, .int .i64 y7_3.1.line, .int .i64 y7_3.1.id, .int .i64 y7_3.1.step, .int .i64 y7_3.1.state, .int .i64 y7_3.1.head, .slice a7_3_00 (List.length y7_3.1.data) c7_3_00, .int .i64 y7_3.1.next, .int .i64 y7_3.1.told]) ?_
   refine sp 44 (.bool y7_3.2.1) ?_
   refine s_do (by kernel_rfl) (by kernel_rfl) (st_store (off := 0) (vs := [.int .i64 y7_3.1.kind, .int .i64 y7_3.1.line, .int .i64 y7_3.1.id, .int .i64 y7_3.1.step, .int .i64 y7_3.1.state, .int .i64 y7_3.1.head, .slice a7_3_00 (List.length y7_3.1.data) c7_3_00, .int .i64 y7_3.1.next, .int .i64 y7_3.1.told]) (c' := #[.int .i64 y7_3.1.kind, .int .i64 y7_3.1.line, .int .i64 y7_3.1.id, .int .i64 y7_3.1.step, .int .i64 y7_3.1.state, .int .i64 y7_3.1.head, .slice a7_3_00 (List.length y7_3.1.data) c7_3_00, .int .i64 y7_3.1.next, .int .i64 y7_3.1.told]) (fun _ => by kernel_rfl) (.there (.there (.there .here))) (by kernel_rfl) (by kernel_rfl) (by kernel_rfl)) ?_
   rintro _ _ ⟨rfl, rfl⟩
   refine sp 4 (.bool y7_3.2.1) ?_
   refine ops_end ?_
   refine ae [(1, .pointer (some ⟨b1_0_0, 0, none⟩)), (3, .pointer (some ⟨b4_8, 0, none⟩)), (4, .bool y7_3.2.1)] ?_
   refine at_then_normal ?_
   refine aq (x := C12 [1,1,1,1,1,1,0]) (y := C12 [1,1,1,1,1,1,1]) ?_
   refine ar (id := 8) 8 ?_
   refine sp 46 (.pointer (some ⟨b1_0_0, 0, none⟩)) ?_
   obtain ⟨y8_1, hy8_1, H⟩ := bindE H
   refine s_call 47 17 #[.pointer (some ⟨b1_0_0, 0, none⟩), .int .i64 (1)] (by kernel_rfl) (by kernel_rfl) (fun _ => by kernel_rfl) (Tr.conv (Γ' := (CacheA b1_0_0 y7_3.2.2) :: (Asn.own b4_8 (.cells #[.int .i64 y7_3.1.kind, .int .i64 y7_3.1.line, .int .i64 y7_3.1.id, .int .i64 y7_3.1.step, .int .i64 y7_3.1.state, .int .i64 y7_3.1.head, .slice a7_3_00 (List.length y7_3.1.data) c7_3_00, .int .i64 y7_3.1.next, .int .i64 y7_3.1.told] 29 (0, 0))) :: (ImmI a7_3_00 y7_3.1.data) :: (ImmI a4_4_00 y4_4.1.data) :: (RChA b1_0_1 y1_0.2) :: Γ) (fun w hw => (Sat.less (.take (.there (.there .here)) (.take .here (.take .here (.take .here (.take .here .refl))))) hw)) (FindF_tr b1_0_0 y7_3.2.2 (1 : Int) y8_1 hy8_1)) ?_
   rintro _ _ ⟨a8_1_00, c8_1_00, rfl, rfl⟩
   refine sp 45 (.tuple #[.agg #[.int .i64 y8_1.1.fwd, .int .i64 y8_1.1.back, .int .i64 y8_1.1.line, .int .i64 y8_1.1.used, .bool y8_1.1.dirty, .slice a8_1_00 (List.length y8_1.1.data) c8_1_00], .bool y8_1.2]) ?_
   refine sp 48 (.agg #[.int .i64 y8_1.1.fwd, .int .i64 y8_1.1.back, .int .i64 y8_1.1.line, .int .i64 y8_1.1.used, .bool y8_1.1.dirty, .slice a8_1_00 (List.length y8_1.1.data) c8_1_00]) ?_
   refine sp 49 (.bool y8_1.2) ?_
   refine s_step 5 (by kernel_rfl) (by kernel_rfl) (st_new (T := 46) (cells := #[.int .i64 (0), .int .i64 (0), .int .i64 (0), .int .i64 (0), .bool false, .slice none 0 0]) (fun a => .pointer (some a)) (fun _ => by kernel_rfl)) ?_
   rintro _ _ ⟨b8_5, rfl, rfl⟩
   refine s_do (by kernel_rfl) (by kernel_rfl) (st_store (off := 0) (vs := [.int .i64 y8_1.1.fwd, .int .i64 y8_1.1.back, .int .i64 y8_1.1.line, .int .i64 y8_1.1.used, .bool y8_1.1.dirty, .slice a8_1_00 (List.length y8_1.1.data) c8_1_00]) (c' := #[.int .i64 y8_1.1.fwd, .int .i64 y8_1.1.back, .int .i64 y8_1.1.line, .int .i64 y8_1.1.used, .bool y8_1.1.dirty, .slice a8_1_00 (List.length y8_1.1.data) c8_1_00]) (fun _ => by kernel_rfl) .here (by kernel_rfl) (by kernel_rfl) (by kernel_rfl)) ?_
   rintro _ _ ⟨rfl, rfl⟩
   refine sp 6 (.bool y8_1.2) ?_
   refine ops_end ?_
   refine ae [(3, .pointer (some ⟨b4_8, 0, none⟩)), (4, .bool y7_3.2.1), (5, .pointer (some ⟨b8_5, 0, none⟩)), (6, .bool y8_1.2)] ?_
   refine at_then_normal ?_
   refine aq (x := C12 [1,1,1,1,1,1,1,0]) (y := C12 [1,1,1,1,1,1,1,1]) ?_
   refine ar (id := 9) 20 ?_
   refine sp 50 (.bool y7_3.2.1) ?_
   rcases Bool.eq_false_or_eq_true (y7_3.2.1) with h2 | h2
   ·replace H := bifT H h2
    refine sr 51 (.bool true) (run_eq (v := .bool (y7_3.2.1)) (fun _ => by kernel_rfl) (congrArg Value.bool h2)) ?_
    refine sp 52 (.pointer (some ⟨b4_8, 3, none⟩)) ?_
    refine sl 53 (.int .i64 y7_3.1.step) (load1 (off := 3) (fun _ => by kernel_rfl) (holds_own (.there (.there (.there .here)))) (by kernel_rfl)) ?_
    refine sp 54 (.bool (decide (y7_3.1.step = (0 : Int)))) ?_
    refine sp 55 (.bool (decide (y7_3.1.step = (0 : Int)))) ?_
    rcases Bool.eq_false_or_eq_true (decide (y7_3.1.step = (0 : Int))) with h3 | h3
    ·replace H := bifT H h3
     refine sr 56 (.bool true) (run_eq (v := .bool (decide (y7_3.1.step = (0 : Int)))) (fun _ => by kernel_rfl) (congrArg Value.bool h3)) ?_
     refine sp 57 (.bool y8_1.2) ?_
     refine sp 58 (.bool y8_1.2) ?_
     rcases Bool.eq_false_or_eq_true (y8_1.2) with h4 | h4
     ·replace H := bifT H h4
      refine sr 59 (.bool true) (run_eq (v := .bool (y8_1.2)) (fun _ => by kernel_rfl) (congrArg Value.bool h4)) ?_
      refine sp 60 (.pointer (some ⟨b8_5, 0, none⟩)) ?_
      refine sl 61 (.agg #[.int .i64 y8_1.1.fwd, .int .i64 y8_1.1.back]) (loadN (off := 0) (vs := [.int .i64 y8_1.1.fwd, .int .i64 y8_1.1.back]) 2 (fun _ => by kernel_rfl) (holds_own .here) rfl (by exact ⟨rfl, rfl, trivial⟩)) ?_
      obtain ⟨y9_12, hy9_12, H⟩ := bindE H
      refine s_quiet 62 (.bool y9_12) 19 #[.agg #[.int .i64 y8_1.1.fwd, .int .i64 y8_1.1.back]] (by kernel_rfl) (by kernel_rfl) (fun _ => by kernel_rfl) (LOnlyF_tr (⟨y8_1.1.fwd, y8_1.1.back⟩ : LinkS) y9_12 hy9_12) ?_
      refine sp 63 (.bool y9_12) ?_
      rcases Bool.eq_false_or_eq_true (y9_12) with h5 | h5
      ·replace H := bifT H h5
       refine sr 64 (.bool true) (run_eq (v := .bool (y9_12)) (fun _ => by kernel_rfl) (congrArg Value.bool h5)) ?_
       refine sl 65 (.agg #[.int .i64 y8_1.1.fwd, .int .i64 y8_1.1.back, .int .i64 y8_1.1.line, .int .i64 y8_1.1.used, .bool y8_1.1.dirty, .slice a8_1_00 (List.length y8_1.1.data) c8_1_00]) (loadN (off := 0) (vs := [.int .i64 y8_1.1.fwd, .int .i64 y8_1.1.back, .int .i64 y8_1.1.line, .int .i64 y8_1.1.used, .bool y8_1.1.dirty, .slice a8_1_00 (List.length y8_1.1.data) c8_1_00]) 6 (fun _ => by kernel_rfl) (holds_own .here) rfl (by exact ⟨rfl, rfl, rfl, rfl, rfl, rfl, trivial⟩)) ?_
       obtain ⟨y9_16, hy9_16, H⟩ := bindE H
       refine s_call 66 18 #[.agg #[.int .i64 y8_1.1.fwd, .int .i64 y8_1.1.back, .int .i64 y8_1.1.line, .int .i64 y8_1.1.used, .bool y8_1.1.dirty, .slice a8_1_00 (List.length y8_1.1.data) c8_1_00], .int .i64 (0)] (by kernel_rfl) (by kernel_rfl) (fun _ => by kernel_rfl) (EWordF_tr a8_1_00 c8_1_00 y8_1.1 (0 : Int) (RowsA.reads (k := 1) (.there .here)) y9_16 hy9_16) ?_
       rintro _ _ ⟨rfl, rfl⟩
       refine sp 67 (.bool (decide (y9_16 = (7 : Int)))) ?_
       refine sp 68 (.bool (decide (y9_16 = (7 : Int)))) ?_
       refine sp 0 (.bool (decide (y9_16 = (7 : Int)))) ?_
       refine ops_end ?_
       refine ae [(0, .bool (decide (y9_16 = (7 : Int))))] ?_
       refine at_then_normal ?_
       refine at_ret (by kernel_rfl) ?_
       obtain rfl := someE H
       refine at_backR [.bool (decide (y9_16 = (7 : Int)))] (Γ) (rs := [.tmp 0]) (by kernel_rfl) (.cons (.tmp (by kernel_rfl)) .nil) (fun w hw => (Sat.less (.drop .here (.drop .here (.drop .here (.drop .here (.drop .here (.drop .here (.drop .here .refl))))))) hw)) ?_
       exact ⟨rfl, rfl⟩
      ·replace H := bifF H h5
       refine sr 64 (.bool false) (run_eq (v := .bool (y9_12)) (fun _ => by kernel_rfl) (congrArg Value.bool h5)) ?_
       refine sa 65 ?_
       refine sa 66 ?_
       refine sa 67 ?_
       refine sp 68 (.bool false) ?_
       refine sp 0 (.bool false) ?_
       refine ops_end ?_
       refine ae [(0, .bool false)] ?_
       refine at_then_normal ?_
       refine at_ret (by kernel_rfl) ?_
       obtain rfl := someE H
       refine at_backR [.bool false] (Γ) (rs := [.tmp 0]) (by kernel_rfl) (.cons (.tmp (by kernel_rfl)) .nil) (fun w hw => (Sat.less (.drop .here (.drop .here (.drop .here (.drop .here (.drop .here (.drop .here (.drop .here .refl))))))) hw)) ?_
       exact ⟨rfl, rfl⟩
     ·replace H := bifF H h4
      refine sr 59 (.bool false) (run_eq (v := .bool (y8_1.2)) (fun _ => by kernel_rfl) (congrArg Value.bool h4)) ?_
      refine sa 60 ?_
      refine sa 61 ?_
      refine sa 62 ?_
      refine sp 63 (.bool false) ?_
      refine sp 64 (.bool false) ?_
      refine sa 65 ?_
      refine sa 66 ?_
      refine sa 67 ?_
      refine sp 68 (.bool false) ?_
      refine sp 0 (.bool false) ?_
      refine ops_end ?_
      refine ae [(0, .bool false)] ?_
      refine at_then_normal ?_
      refine at_ret (by kernel_rfl) ?_
      obtain rfl := someE H
      refine at_backR [.bool false] (Γ) (rs := [.tmp 0]) (by kernel_rfl) (.cons (.tmp (by kernel_rfl)) .nil) (fun w hw => (Sat.less (.drop .here (.drop .here (.drop .here (.drop .here (.drop .here (.drop .here (.drop .here .refl))))))) hw)) ?_
      exact ⟨rfl, rfl⟩
    ·replace H := bifF H h3
     refine sr 56 (.bool false) (run_eq (v := .bool (decide (y7_3.1.step = (0 : Int)))) (fun _ => by kernel_rfl) (congrArg Value.bool h3)) ?_
     refine sa 57 ?_
     refine sp 58 (.bool false) ?_
     refine sp 59 (.bool false) ?_
     refine sa 60 ?_
     refine sa 61 ?_
     refine sa 62 ?_
     refine sp 63 (.bool false) ?_
     refine sp 64 (.bool false) ?_
     refine sa 65 ?_
     refine sa 66 ?_
     refine sa 67 ?_
     refine sp 68 (.bool false) ?_
     refine sp 0 (.bool false) ?_
     refine ops_end ?_
     refine ae [(0, .bool false)] ?_
     refine at_then_normal ?_
     refine at_ret (by kernel_rfl) ?_
     obtain rfl := someE H
     refine at_backR [.bool false] (Γ) (rs := [.tmp 0]) (by kernel_rfl) (.cons (.tmp (by kernel_rfl)) .nil) (fun w hw => (Sat.less (.drop .here (.drop .here (.drop .here (.drop .here (.drop .here (.drop .here (.drop .here .refl))))))) hw)) ?_
     exact ⟨rfl, rfl⟩
   ·replace H := bifF H h2
    refine sr 51 (.bool false) (run_eq (v := .bool (y7_3.2.1)) (fun _ => by kernel_rfl) (congrArg Value.bool h2)) ?_
    refine sa 52 ?_
    refine sa 53 ?_
    refine sa 54 ?_
    refine sp 55 (.bool false) ?_
    refine sp 56 (.bool false) ?_
    refine sa 57 ?_
    refine sp 58 (.bool false) ?_
    refine sp 59 (.bool false) ?_
    refine sa 60 ?_
    refine sa 61 ?_
    refine sa 62 ?_
    refine sp 63 (.bool false) ?_
    refine sp 64 (.bool false) ?_
    refine sa 65 ?_
    refine sa 66 ?_
    refine sa 67 ?_
    refine sp 68 (.bool false) ?_
    refine sp 0 (.bool false) ?_
    refine ops_end ?_
    refine ae [(0, .bool false)] ?_
    refine at_then_normal ?_
    refine at_ret (by kernel_rfl) ?_
    obtain rfl := someE H
    refine at_backR [.bool false] (Γ) (rs := [.tmp 0]) (by kernel_rfl) (.cons (.tmp (by kernel_rfl)) .nil) (fun w hw => (Sat.less (.drop .here (.drop .here (.drop .here (.drop .here (.drop .here (.drop .here (.drop .here .refl))))))) hw)) ?_
    exact ⟨rfl, rfl⟩
 ·refine ar (id := 5) 17 ?_
  refine sp 21 (.bool y4_4.2.1) ?_
  refine sp 22 (.bool !y4_4.2.1) ?_
  rcases Bool.eq_false_or_eq_true (!y4_4.2.1) with h6 | h6
  ·replace H := bifT H h6
   refine sr 23 (.bool true) (run_eq (v := .bool (!y4_4.2.1)) (fun _ => by kernel_rfl) (congrArg Value.bool h6)) ?_
   refine sa 24 ?_
   refine sa 25 ?_
   refine sa 26 ?_
   refine sp 27 (.bool true) ?_
   refine sp 28 (.bool true) ?_
   refine sa 29 ?_
   refine sa 30 ?_
   refine sa 31 ?_
   refine sp 32 (.bool true) ?_
   refine sp 33 (.bool true) ?_
   refine sa 34 ?_
   refine sa 35 ?_
   refine sa 36 ?_
   refine sp 37 (.bool true) ?_
   refine ops_end ?_
   refine ae [(1, .pointer (some ⟨b1_0_0, 0, none⟩)), (3, .pointer (some ⟨b4_8, 0, none⟩)), (37, .bool true)] ?_
   refine at_round_normal ?_
   exact at_join_mk [(1, .pointer (some ⟨b1_0_0, 0, none⟩)), (3, .pointer (some ⟨b4_8, 0, none⟩)), (37, .bool true)] ((Asn.own b4_8 (.cells #[.int .i64 y4_4.1.kind, .int .i64 y4_4.1.line, .int .i64 y4_4.1.id, .int .i64 y4_4.1.step, .int .i64 y4_4.1.state, .int .i64 y4_4.1.head, .slice a4_4_00 (List.length y4_4.1.data) c4_4_00, .int .i64 y4_4.1.next, .int .i64 y4_4.1.told] 29 (0, 0))) :: (ImmI a4_4_00 y4_4.1.data) :: (CacheA b1_0_0 y4_4.2.2) :: (RChA b1_0_1 y1_0.2) :: Γ) ⟨by kernel_rfl, by kernel_rfl, by kernel_rfl, trivial⟩ (fun w hw => (Sat.less (.take .here (.take .here (.take .here (.take (.there (.there .here)) (.drop .here (.drop .here .refl)))))) hw)) ⟨true, H, rfl, rfl⟩
  ·replace H := bifF H h6
   refine sr 23 (.bool false) (run_eq (v := .bool (!y4_4.2.1)) (fun _ => by kernel_rfl) (congrArg Value.bool h6)) ?_
   refine sp 24 (.pointer (some ⟨b4_8, 3, none⟩)) ?_
   refine sl 25 (.int .i64 y4_4.1.step) (load1 (off := 3) (fun _ => by kernel_rfl) (holds_own .here) (by kernel_rfl)) ?_
   refine sp 26 (.bool (!(decide (y4_4.1.step = (6 : Int))))) ?_
   refine sp 27 (.bool (!(decide (y4_4.1.step = (6 : Int))))) ?_
   rcases Bool.eq_false_or_eq_true (!(decide (y4_4.1.step = (6 : Int)))) with h7 | h7
   ·replace H := bifT H h7
    refine sr 28 (.bool true) (run_eq (v := .bool (!(decide (y4_4.1.step = (6 : Int))))) (fun _ => by kernel_rfl) (congrArg Value.bool h7)) ?_
    refine sa 29 ?_
    refine sa 30 ?_
    refine sa 31 ?_
    refine sp 32 (.bool true) ?_
    refine sp 33 (.bool true) ?_
    refine sa 34 ?_
    refine sa 35 ?_
    refine sa 36 ?_
    refine sp 37 (.bool true) ?_
    refine ops_end ?_
    refine ae [(1, .pointer (some ⟨b1_0_0, 0, none⟩)), (3, .pointer (some ⟨b4_8, 0, none⟩)), (37, .bool true)] ?_
    refine at_round_normal ?_
    exact at_join_mk [(1, .pointer (some ⟨b1_0_0, 0, none⟩)), (3, .pointer (some ⟨b4_8, 0, none⟩)), (37, .bool true)] ((Asn.own b4_8 (.cells #[.int .i64 y4_4.1.kind, .int .i64 y4_4.1.line, .int .i64 y4_4.1.id, .int .i64 y4_4.1.step, .int .i64 y4_4.1.state, .int .i64 y4_4.1.head, .slice a4_4_00 (List.length y4_4.1.data) c4_4_00, .int .i64 y4_4.1.next, .int .i64 y4_4.1.told] 29 (0, 0))) :: (ImmI a4_4_00 y4_4.1.data) :: (CacheA b1_0_0 y4_4.2.2) :: (RChA b1_0_1 y1_0.2) :: Γ) ⟨by kernel_rfl, by kernel_rfl, by kernel_rfl, trivial⟩ (fun w hw => (Sat.less (.take .here (.take .here (.take .here (.take (.there (.there .here)) (.drop .here (.drop .here .refl)))))) hw)) ⟨true, H, rfl, rfl⟩
   ·replace H := bifF H h7
    refine sr 28 (.bool false) (run_eq (v := .bool (!(decide (y4_4.1.step = (6 : Int))))) (fun _ => by kernel_rfl) (congrArg Value.bool h7)) ?_
    refine sp 29 (.pointer (some ⟨b4_8, 5, none⟩)) ?_
    refine sl 30 (.int .i64 y4_4.1.head) (load1 (off := 5) (fun _ => by kernel_rfl) (holds_own .here) (by kernel_rfl)) ?_
    refine sp 31 (.bool (!(decide (y4_4.1.head = (2 : Int))))) ?_
    refine sp 32 (.bool (!(decide (y4_4.1.head = (2 : Int))))) ?_
    rcases Bool.eq_false_or_eq_true (!(decide (y4_4.1.head = (2 : Int)))) with h8 | h8
    ·replace H := bifT H h8
     refine sr 33 (.bool true) (run_eq (v := .bool (!(decide (y4_4.1.head = (2 : Int))))) (fun _ => by kernel_rfl) (congrArg Value.bool h8)) ?_
     refine sa 34 ?_
     refine sa 35 ?_
     refine sa 36 ?_
     refine sp 37 (.bool true) ?_
     refine ops_end ?_
     refine ae [(1, .pointer (some ⟨b1_0_0, 0, none⟩)), (3, .pointer (some ⟨b4_8, 0, none⟩)), (37, .bool true)] ?_
     refine at_round_normal ?_
     exact at_join_mk [(1, .pointer (some ⟨b1_0_0, 0, none⟩)), (3, .pointer (some ⟨b4_8, 0, none⟩)), (37, .bool true)] ((Asn.own b4_8 (.cells #[.int .i64 y4_4.1.kind, .int .i64 y4_4.1.line, .int .i64 y4_4.1.id, .int .i64 y4_4.1.step, .int .i64 y4_4.1.state, .int .i64 y4_4.1.head, .slice a4_4_00 (List.length y4_4.1.data) c4_4_00, .int .i64 y4_4.1.next, .int .i64 y4_4.1.told] 29 (0, 0))) :: (ImmI a4_4_00 y4_4.1.data) :: (CacheA b1_0_0 y4_4.2.2) :: (RChA b1_0_1 y1_0.2) :: Γ) ⟨by kernel_rfl, by kernel_rfl, by kernel_rfl, trivial⟩ (fun w hw => (Sat.less (.take .here (.take .here (.take .here (.take (.there (.there .here)) (.drop .here (.drop .here .refl)))))) hw)) ⟨true, H, rfl, rfl⟩
    ·replace H := bifF H h8
     refine sr 33 (.bool false) (run_eq (v := .bool (!(decide (y4_4.1.head = (2 : Int))))) (fun _ => by kernel_rfl) (congrArg Value.bool h8)) ?_
     refine sp 34 (.pointer (some ⟨b4_8, 4, none⟩)) ?_
     refine sl 35 (.int .i64 y4_4.1.state) (load1 (off := 4) (fun _ => by kernel_rfl) (holds_own .here) (by kernel_rfl)) ?_
     refine sp 36 (.bool (!(decide (y4_4.1.state = (1 : Int))))) ?_
     refine sp 37 (.bool (!(decide (y4_4.1.state = (1 : Int))))) ?_
     refine ops_end ?_
     refine ae [(1, .pointer (some ⟨b1_0_0, 0, none⟩)), (3, .pointer (some ⟨b4_8, 0, none⟩)), (37, .bool (!(decide (y4_4.1.state = (1 : Int)))))] ?_
     refine at_round_normal ?_
     exact at_join_mk [(1, .pointer (some ⟨b1_0_0, 0, none⟩)), (3, .pointer (some ⟨b4_8, 0, none⟩)), (37, .bool (!(decide (y4_4.1.state = (1 : Int)))))] ((Asn.own b4_8 (.cells #[.int .i64 y4_4.1.kind, .int .i64 y4_4.1.line, .int .i64 y4_4.1.id, .int .i64 y4_4.1.step, .int .i64 y4_4.1.state, .int .i64 y4_4.1.head, .slice a4_4_00 (List.length y4_4.1.data) c4_4_00, .int .i64 y4_4.1.next, .int .i64 y4_4.1.told] 29 (0, 0))) :: (ImmI a4_4_00 y4_4.1.data) :: (CacheA b1_0_0 y4_4.2.2) :: (RChA b1_0_1 y1_0.2) :: Γ) ⟨by kernel_rfl, by kernel_rfl, by kernel_rfl, trivial⟩ (fun w hw => (Sat.less (.take .here (.take .here (.take .here (.take (.there (.there .here)) (.drop .here (.drop .here .refl)))))) hw)) ⟨!(decide (y4_4.1.state = (1 : Int))), H, rfl, rfl⟩
def attachKeepsS_j0 (v : Int) (e0_b1_3_0 : CacheS) (e0_b1_3_1 : CacheS) : Option (Bool) :=
 (dbeginS (1 : Int) (5 : Int) (0 : Int)).bind fun y8_0 => letP ([v] : List Int) fun l8_3 => (anextS y8_0 (1 : Int) e0_b1_3_0 (⟨7, 0, 0, 0, 5, (-1), 0, false, l8_3⟩ : PktS)).bind fun y8_5 => (findS y8_5.2.2 (5 : Int)).bind fun y9_1 => (bif !y8_5.2.1 then some false else (bif !y9_1.2 then some false else (ewordS y9_1.1 (0 : Int)).bind fun y10_8 => (bif !(decide (y10_8 = v)) then some false else (lonlyS (⟨y9_1.1.fwd, y9_1.1.back⟩ : LinkS)).bind fun y10_15 => (bif !y10_15 then some false else (dropS y8_5.2.2 (5 : Int)).bind fun y12_1 => (sameCS y12_1.2.2 e0_b1_3_1).bind fun y13_2 => (bif y13_2 then (wakes14S).bind fun y13_4 => some y13_4 else some false)))))
def attachKeepsS (lines : List Int) (links : List Int) (data : List Int) (v : Int) : Option (Bool) :=
 (bothS lines links data).bind fun y1_3 => (fullS y1_3.1 (5 : Int)).bind fun y4_1 => (bif y4_1 then (victimS y1_3.1 (5 : Int)).bind fun y5_1 => (dropS y1_3.1 y5_1.1).bind fun y6_2 => (rdropS y1_3.2 y5_1.1).bind fun y7_2 => attachKeepsS_j0 v y6_2.2.2 y7_2.2.2 else attachKeepsS_j0 v y1_3.1 y1_3.2)
noncomputable def C4 (p : List Nat) : Code := codeAt (bodyOf Try.f4) p
set_option maxRecDepth 100000 in
set_option maxHeartbeats 8000000 in
theorem AttachKeepsF_tr {W0 : World} {Γ : List Asn} (linesa : Option Addr) (linescap : Nat) (lines : List Int) (linksa : Option Addr) (linkscap : Nat) (links : List Int) (dataa : Option Addr) (datacap : Nat) (data : List Int) (v : Int) (hrlinesa : Reads W0 Γ linesa (ints lines)) (hrlinksa : Reads W0 Γ linksa (ints links)) (hrdataa : Reads W0 Γ dataa (ints data)) (hcdataa : data.length ≤ datacap) (y : Bool) (H : attachKeepsS lines links data v = some y) : Tr Try.prog 4 #[.slice linesa (List.length lines) linescap, .slice linksa (List.length links) linkscap, .slice dataa (List.length data) datacap, .int .i64 v] W0 (Γ) (fun r Δ => r = .bool y ∧ Δ = Γ) := by
 unfold attachKeepsS at H
 refine Tr.enter (fn := Try.f4) (c := C4 []) (args := [.slice linesa (List.length lines) linescap, .slice linksa (List.length links) linkscap, .slice dataa (List.length data) datacap, .int .i64 v]) 79 Try.func4 (by kernel_rfl) (by kernel_rfl) ?_
 refine ae [(0, .slice linesa (List.length lines) linescap), (1, .slice linksa (List.length links) linkscap), (2, .slice dataa (List.length data) datacap), (3, .int .i64 v)] ?_
 refine aq (x := C4 [0]) (y := C4 [1]) ?_
 refine ar (id := 0) 1 ?_
 refine sp 8 (.bool false) ?_
 refine ops_end ?_
 refine ae [(0, .slice linesa (List.length lines) linescap), (1, .slice linksa (List.length links) linkscap), (2, .slice dataa (List.length data) datacap), (3, .int .i64 v)] ?_
 refine at_then_normal ?_
 refine aq (x := C4 [1,0]) (y := C4 [1,1]) ?_
 refine ar (id := 1) 9 ?_
 refine sp 18 (.slice linesa (List.length lines) linescap) ?_
 refine sp 19 (.slice linksa (List.length links) linkscap) ?_
 refine sp 20 (.slice dataa (List.length data) datacap) ?_
 obtain ⟨y1_3, hy1_3, H⟩ := bindE H
 refine s_call 21 7 #[.slice linesa (List.length lines) linescap, .slice linksa (List.length links) linkscap, .slice dataa (List.length data) datacap] (by kernel_rfl) (by kernel_rfl) (fun _ => by kernel_rfl) (BothF_tr linesa linescap lines linksa linkscap links dataa datacap data (Reads.conv (fun w hw => hw.less .refl) hrlinesa) (Reads.conv (fun w hw => hw.less .refl) hrlinksa) (Reads.conv (fun w hw => hw.less .refl) hrdataa) hcdataa y1_3 hy1_3) ?_
 rintro _ _ ⟨b1_3_0, b1_3_1, rfl, rfl⟩
 refine sp 17 (.tuple #[.pointer (some ⟨b1_3_0, 0, none⟩), .pointer (some ⟨b1_3_1, 0, none⟩)]) ?_
 refine sp 22 (.pointer (some ⟨b1_3_0, 0, none⟩)) ?_
 refine sp 23 (.pointer (some ⟨b1_3_1, 0, none⟩)) ?_
 refine sp 9 (.pointer (some ⟨b1_3_0, 0, none⟩)) ?_
 refine sp 10 (.pointer (some ⟨b1_3_1, 0, none⟩)) ?_
 refine ops_end ?_
 refine ae [(3, .int .i64 v), (9, .pointer (some ⟨b1_3_0, 0, none⟩)), (10, .pointer (some ⟨b1_3_1, 0, none⟩))] ?_
 refine at_then_normal ?_
 refine aq (x := C4 [1,1,0]) (y := C4 [1,1,1]) ?_
 refine aq (x := C4 [1,1,0,0]) (y := C4 [1,1,0,1]) ?_
 refine ar (id := 2) 2 ?_
 refine sp 24 (.pointer (some ⟨b1_3_0, 0, none⟩)) ?_
 refine sp 25 (.bool false) ?_
 refine ops_end ?_
 refine ae [(3, .int .i64 v), (9, .pointer (some ⟨b1_3_0, 0, none⟩)), (10, .pointer (some ⟨b1_3_1, 0, none⟩)), (25, .bool false)] ?_
 refine at_then_normal ?_
 refine at_false (t := false) (x := C4 [1,1,0,1,0]) (y := C4 [1,1,0,1,1]) (o := .tmp 25) (by kernel_rfl) (by kernel_rfl) (by kernel_rfl) rfl ?_
 refine at_skip (by kernel_rfl) ?_
 refine at_then_normal ?_
 refine at_seq_join (x := C4 [1,1,1,0]) (y := C4 [1,1,1,1]) (fun ff ΔΔ => ∃ (e0_b1_3_0 : CacheS) (e0_b1_3_1 : CacheS), attachKeepsS_j0 v e0_b1_3_0 e0_b1_3_1 = some y ∧ ff = [(3, .int .i64 v), (9, .pointer (some ⟨b1_3_0, 0, none⟩)), (10, .pointer (some ⟨b1_3_1, 0, none⟩))] ∧ (CacheA b1_3_0 e0_b1_3_0) :: (RChA b1_3_1 e0_b1_3_1) :: Γ = ΔΔ) (by kernel_rfl) ?_ ?_
 ·rintro _ _ ⟨e0_b1_3_0, e0_b1_3_1, H, rfl, rfl⟩
  rw [attachKeepsS_j0] at H
  refine aq (x := C4 [1,1,1,1,0]) (y := C4 [1,1,1,1,1]) ?_
  refine ar (id := 8) 12 ?_
  obtain ⟨y8_0, hy8_0, H⟩ := bindE H
  refine s_call 40 9 #[.int .i64 (1), .int .i64 (5), .int .i64 (0)] (by kernel_rfl) (by kernel_rfl) (fun _ => by kernel_rfl) (DBeginF_tr (1 : Int) (5 : Int) (0 : Int) y8_0 hy8_0) ?_
  rintro _ _ ⟨a8_0_00, c8_0_00, rfl, rfl⟩
  refine sp 41 (.pointer (some ⟨b1_3_0, 0, none⟩)) ?_
  refine sp 42 (.int .i64 v) ?_
  obtain ⟨l8_3, hl8_3, H⟩ := letE H
  refine s_step 43 (by kernel_rfl) (by kernel_rfl) (st_new_ints (T := 3) (xs := l8_3) 1 hl8_3 (fun _ => by kernel_rfl) (by kernel_rfl)) ?_
  rintro _ _ ⟨b8_3, rfl, rfl⟩
  refine sp 44 (.agg #[.int .i64 (7), .int .i64 (0), .int .i64 (0), .int .i64 (0), .int .i64 (5), .int .i64 (-1), .int .i64 (0), .bool false, .slice (some ⟨b8_3, 0, none⟩) (List.length l8_3) 1]) ?_
  obtain ⟨y8_5, hy8_5, H⟩ := bindE H
  refine s_call 45 10 #[.agg #[.int .i64 y8_0.kind, .int .i64 y8_0.line, .int .i64 y8_0.id, .int .i64 y8_0.step, .int .i64 y8_0.state, .int .i64 y8_0.head, .slice a8_0_00 (List.length y8_0.data) c8_0_00, .int .i64 y8_0.next, .int .i64 y8_0.told], .int .i64 (1), .pointer (some ⟨b1_3_0, 0, none⟩), .agg #[.int .i64 (7), .int .i64 (0), .int .i64 (0), .int .i64 (0), .int .i64 (5), .int .i64 (-1), .int .i64 (0), .bool false, .slice (some ⟨b8_3, 0, none⟩) (List.length l8_3) 1]] (by kernel_rfl) (by kernel_rfl) (fun _ => by kernel_rfl) (Tr.conv (Γ' := (ImmI a8_0_00 y8_0.data) :: (CacheA b1_3_0 e0_b1_3_0) :: (ImmI a8_0_00 y8_0.data) :: (IntsA (some ⟨b8_3, 0, none⟩) 1 l8_3) :: (RChA b1_3_1 e0_b1_3_1) :: Γ) (fun w hw => (Sat.less (.take .here (.take (.there (.there .here)) (.take .here (.take .here (.take .here .refl))))) (ImmR.dup (Sat.less (.take (.there .here) (.take .here (.take .here (.take .here .refl)))) hw)))) (ANextF_tr a8_0_00 c8_0_00 y8_0 (1 : Int) b1_3_0 e0_b1_3_0 (some ⟨b8_3, 0, none⟩) 1 (⟨7, 0, 0, 0, 5, (-1), 0, false, l8_3⟩ : PktS) (RowsA.reads (k := 1) (.there .here)) y8_5 hy8_5)) ?_
  rintro _ _ ⟨a8_5_00, c8_5_00, rfl, rfl⟩
  refine sp 39 (.tuple #[.agg #[.int .i64 y8_5.1.kind, .int .i64 y8_5.1.line, .int .i64 y8_5.1.id, .int .i64 y8_5.1.step, .int .i64 y8_5.1.state, .int .i64 y8_5.1.head, .slice a8_5_00 (List.length y8_5.1.data) c8_5_00, .int .i64 y8_5.1.next, .int .i64 y8_5.1.told], .bool y8_5.2.1]) ?_
  refine sp 46 (.agg #[.int .i64 y8_5.1.kind, .int .i64 y8_5.1.line, .int .i64 y8_5.1.id, .int .i64 y8_5.1.step, .int .i64 y8_5.1.state, .int .i64 y8_5.1.head, .slice a8_5_00 (List.length y8_5.1.data) c8_5_00, .int .i64 y8_5.1.next, .int .i64 y8_5.1.told]) ?_
  refine sp 47 (.bool y8_5.2.1) ?_
  refine s_step 13 (by kernel_rfl) (by kernel_rfl) (st_new (T := 29) (cells := #[.int .i64 (0), .int .i64 (0), .int .i64 (0), .int .i64 (0), .int .i64 (0), .int .i64 (0), .slice none 0 0, .int .i64 (0), .int .i64 (0)]) (fun a => .pointer (some a)) (fun _ => by kernel_rfl)) ?_
  rintro _ _ ⟨b8_9, rfl, rfl⟩
  refine s_do (by kernel_rfl) (by kernel_rfl) (st_store (off := 0) (vs := [.int .i64 y8_5.1.kind, .int .i64 y8_5.1.line, .int .i64 y8_5.1.id, .int .i64 y8_5.1.step, .int .i64 y8_5.1.state, .int .i64 y8_5.1.head, .slice a8_5_00 (List.length y8_5.1.data) c8_5_00, .int .i64 y8_5.1.next, .int .i64 y8_5.1.told]) (c' := #[.int .i64 y8_5.1.kind, .int .i64 y8_5.1.line, .int .i64 y8_5.1.id, .int .i64 y8_5.1.step, .int .i64 y8_5.1.state, .int .i64 y8_5.1.head, .slice a8_5_00 (List.length y8_5.1.data) c8_5_00, .int .i64 y8_5.1.next, .int .i64 y8_5.1.told]) (fun _ => by kernel_rfl) .here (by kernel_rfl) (by kernel_rfl) (by kernel_rfl)) ?_
  rintro _ _ ⟨rfl, rfl⟩
  refine sp 14 (.bool y8_5.2.1) ?_
  refine ops_end ?_
  refine ae [(3, .int .i64 v), (9, .pointer (some ⟨b1_3_0, 0, none⟩)), (10, .pointer (some ⟨b1_3_1, 0, none⟩)), (14, .bool y8_5.2.1)] ?_
  refine at_then_normal ?_
  refine aq (x := C4 [1,1,1,1,1,0]) (y := C4 [1,1,1,1,1,1]) ?_
  refine ar (id := 9) 8 ?_
  refine sp 49 (.pointer (some ⟨b1_3_0, 0, none⟩)) ?_
  obtain ⟨y9_1, hy9_1, H⟩ := bindE H
  refine s_call 50 17 #[.pointer (some ⟨b1_3_0, 0, none⟩), .int .i64 (5)] (by kernel_rfl) (by kernel_rfl) (fun _ => by kernel_rfl) (Tr.conv (Γ' := (CacheA b1_3_0 y8_5.2.2) :: (Asn.own b8_9 (.cells #[.int .i64 y8_5.1.kind, .int .i64 y8_5.1.line, .int .i64 y8_5.1.id, .int .i64 y8_5.1.step, .int .i64 y8_5.1.state, .int .i64 y8_5.1.head, .slice a8_5_00 (List.length y8_5.1.data) c8_5_00, .int .i64 y8_5.1.next, .int .i64 y8_5.1.told] 29 (0, 0))) :: (ImmI a8_5_00 y8_5.1.data) :: (ImmI a8_0_00 y8_0.data) :: (IntsA (some ⟨b8_3, 0, none⟩) 1 l8_3) :: (RChA b1_3_1 e0_b1_3_1) :: Γ) (fun w hw => (Sat.less (.take (.there (.there .here)) (.take .here (.take .here (.take .here (.take .here (.take .here .refl)))))) hw)) (FindF_tr b1_3_0 y8_5.2.2 (5 : Int) y9_1 hy9_1)) ?_
  rintro _ _ ⟨a9_1_00, c9_1_00, rfl, rfl⟩
  refine sp 48 (.tuple #[.agg #[.int .i64 y9_1.1.fwd, .int .i64 y9_1.1.back, .int .i64 y9_1.1.line, .int .i64 y9_1.1.used, .bool y9_1.1.dirty, .slice a9_1_00 (List.length y9_1.1.data) c9_1_00], .bool y9_1.2]) ?_
  refine sp 51 (.agg #[.int .i64 y9_1.1.fwd, .int .i64 y9_1.1.back, .int .i64 y9_1.1.line, .int .i64 y9_1.1.used, .bool y9_1.1.dirty, .slice a9_1_00 (List.length y9_1.1.data) c9_1_00]) ?_
  refine sp 52 (.bool y9_1.2) ?_
  refine s_step 15 (by kernel_rfl) (by kernel_rfl) (st_new (T := 46) (cells := #[.int .i64 (0), .int .i64 (0), .int .i64 (0), .int .i64 (0), .bool false, .slice none 0 0]) (fun a => .pointer (some a)) (fun _ => by kernel_rfl)) ?_
  rintro _ _ ⟨b9_5, rfl, rfl⟩
  refine s_do (by kernel_rfl) (by kernel_rfl) (st_store (off := 0) (vs := [.int .i64 y9_1.1.fwd, .int .i64 y9_1.1.back, .int .i64 y9_1.1.line, .int .i64 y9_1.1.used, .bool y9_1.1.dirty, .slice a9_1_00 (List.length y9_1.1.data) c9_1_00]) (c' := #[.int .i64 y9_1.1.fwd, .int .i64 y9_1.1.back, .int .i64 y9_1.1.line, .int .i64 y9_1.1.used, .bool y9_1.1.dirty, .slice a9_1_00 (List.length y9_1.1.data) c9_1_00]) (fun _ => by kernel_rfl) .here (by kernel_rfl) (by kernel_rfl) (by kernel_rfl)) ?_
  rintro _ _ ⟨rfl, rfl⟩
  refine sp 16 (.bool y9_1.2) ?_
  refine ops_end ?_
  refine ae [(3, .int .i64 v), (9, .pointer (some ⟨b1_3_0, 0, none⟩)), (10, .pointer (some ⟨b1_3_1, 0, none⟩)), (14, .bool y8_5.2.1), (15, .pointer (some ⟨b9_5, 0, none⟩)), (16, .bool y9_1.2)] ?_
  refine at_then_normal ?_
  refine aq (x := C4 [1,1,1,1,1,1,0]) (y := C4 [1,1,1,1,1,1,1]) ?_
  refine aq (x := C4 [1,1,1,1,1,1,0,0]) (y := C4 [1,1,1,1,1,1,0,1]) ?_
  refine ar (id := 10) 18 ?_
  refine sp 53 (.bool y8_5.2.1) ?_
  refine sp 54 (.bool !y8_5.2.1) ?_
  rcases Bool.eq_false_or_eq_true (!y8_5.2.1) with h1 | h1
  ·replace H := bifT H h1
   refine sr 55 (.bool true) (run_eq (v := .bool (!y8_5.2.1)) (fun _ => by kernel_rfl) (congrArg Value.bool h1)) ?_
   refine sa 56 ?_
   refine sa 57 ?_
   refine sp 58 (.bool true) ?_
   refine sp 59 (.bool true) ?_
   refine sa 60 ?_
   refine sa 61 ?_
   refine sa 62 ?_
   refine sa 63 ?_
   refine sp 64 (.bool true) ?_
   refine sp 65 (.bool true) ?_
   refine sa 66 ?_
   refine sa 67 ?_
   refine sa 68 ?_
   refine sa 69 ?_
   refine sp 70 (.bool true) ?_
   refine ops_end ?_
   refine ae [(9, .pointer (some ⟨b1_3_0, 0, none⟩)), (10, .pointer (some ⟨b1_3_1, 0, none⟩)), (70, .bool true)] ?_
   refine at_then_normal ?_
   refine at_true (t := true) (x := C4 [1,1,1,1,1,1,0,1,0]) (y := C4 [1,1,1,1,1,1,0,1,1]) (o := .tmp 70) (by kernel_rfl) (by kernel_rfl) (by kernel_rfl) rfl ?_
   refine aq (x := C4 [1,1,1,1,1,1,0,1,0,0]) (y := C4 [1,1,1,1,1,1,0,1,0,1]) ?_
   refine ar (id := 11) 1 ?_
   refine sp 8 (.bool false) ?_
   refine ops_end ?_
   refine ae [(8, .bool false)] ?_
   refine at_then_normal ?_
   refine at_ret (by kernel_rfl) ?_
   refine at_then_ret ?_
   obtain rfl := someE H
   refine at_backR [.bool false] (Γ) (rs := [.tmp 8]) (by kernel_rfl) (.cons (.tmp (by kernel_rfl)) .nil) (fun w hw => (Sat.less (.drop .here (.drop .here (.drop .here (.drop .here (.drop .here (.drop .here (.drop .here (.drop .here .refl)))))))) hw)) ?_
   exact ⟨rfl, rfl⟩
  ·replace H := bifF H h1
   refine sr 55 (.bool false) (run_eq (v := .bool (!y8_5.2.1)) (fun _ => by kernel_rfl) (congrArg Value.bool h1)) ?_
   refine sp 56 (.bool y9_1.2) ?_
   refine sp 57 (.bool !y9_1.2) ?_
   refine sp 58 (.bool !y9_1.2) ?_
   rcases Bool.eq_false_or_eq_true (!y9_1.2) with h2 | h2
   ·replace H := bifT H h2
    refine sr 59 (.bool true) (run_eq (v := .bool (!y9_1.2)) (fun _ => by kernel_rfl) (congrArg Value.bool h2)) ?_
    refine sa 60 ?_
    refine sa 61 ?_
    refine sa 62 ?_
    refine sa 63 ?_
    refine sp 64 (.bool true) ?_
    refine sp 65 (.bool true) ?_
    refine sa 66 ?_
    refine sa 67 ?_
    refine sa 68 ?_
    refine sa 69 ?_
    refine sp 70 (.bool true) ?_
    refine ops_end ?_
    refine ae [(9, .pointer (some ⟨b1_3_0, 0, none⟩)), (10, .pointer (some ⟨b1_3_1, 0, none⟩)), (70, .bool true)] ?_
    refine at_then_normal ?_
    refine at_true (t := true) (x := C4 [1,1,1,1,1,1,0,1,0]) (y := C4 [1,1,1,1,1,1,0,1,1]) (o := .tmp 70) (by kernel_rfl) (by kernel_rfl) (by kernel_rfl) rfl ?_
    refine aq (x := C4 [1,1,1,1,1,1,0,1,0,0]) (y := C4 [1,1,1,1,1,1,0,1,0,1]) ?_
    refine ar (id := 11) 1 ?_
    refine sp 8 (.bool false) ?_
    refine ops_end ?_
    refine ae [(8, .bool false)] ?_
    refine at_then_normal ?_
    refine at_ret (by kernel_rfl) ?_
    refine at_then_ret ?_
    obtain rfl := someE H
    refine at_backR [.bool false] (Γ) (rs := [.tmp 8]) (by kernel_rfl) (.cons (.tmp (by kernel_rfl)) .nil) (fun w hw => (Sat.less (.drop .here (.drop .here (.drop .here (.drop .here (.drop .here (.drop .here (.drop .here (.drop .here .refl)))))))) hw)) ?_
    exact ⟨rfl, rfl⟩
   ·replace H := bifF H h2
    refine sr 59 (.bool false) (run_eq (v := .bool (!y9_1.2)) (fun _ => by kernel_rfl) (congrArg Value.bool h2)) ?_
    refine sl 60 (.agg #[.int .i64 y9_1.1.fwd, .int .i64 y9_1.1.back, .int .i64 y9_1.1.line, .int .i64 y9_1.1.used, .bool y9_1.1.dirty, .slice a9_1_00 (List.length y9_1.1.data) c9_1_00]) (loadN (off := 0) (vs := [.int .i64 y9_1.1.fwd, .int .i64 y9_1.1.back, .int .i64 y9_1.1.line, .int .i64 y9_1.1.used, .bool y9_1.1.dirty, .slice a9_1_00 (List.length y9_1.1.data) c9_1_00]) 6 (fun _ => by kernel_rfl) (holds_own .here) rfl (by exact ⟨rfl, rfl, rfl, rfl, rfl, rfl, trivial⟩)) ?_
    obtain ⟨y10_8, hy10_8, H⟩ := bindE H
    refine s_call 61 18 #[.agg #[.int .i64 y9_1.1.fwd, .int .i64 y9_1.1.back, .int .i64 y9_1.1.line, .int .i64 y9_1.1.used, .bool y9_1.1.dirty, .slice a9_1_00 (List.length y9_1.1.data) c9_1_00], .int .i64 (0)] (by kernel_rfl) (by kernel_rfl) (fun _ => by kernel_rfl) (EWordF_tr a9_1_00 c9_1_00 y9_1.1 (0 : Int) (RowsA.reads (k := 1) (.there .here)) y10_8 hy10_8) ?_
    rintro _ _ ⟨rfl, rfl⟩
    refine sp 62 (.int .i64 v) ?_
    refine sp 63 (.bool (!(decide (y10_8 = v)))) ?_
    refine sp 64 (.bool (!(decide (y10_8 = v)))) ?_
    rcases Bool.eq_false_or_eq_true (!(decide (y10_8 = v))) with h3 | h3
    ·replace H := bifT H h3
     refine sr 65 (.bool true) (run_eq (v := .bool (!(decide (y10_8 = v)))) (fun _ => by kernel_rfl) (congrArg Value.bool h3)) ?_
     refine sa 66 ?_
     refine sa 67 ?_
     refine sa 68 ?_
     refine sa 69 ?_
     refine sp 70 (.bool true) ?_
     refine ops_end ?_
     refine ae [(9, .pointer (some ⟨b1_3_0, 0, none⟩)), (10, .pointer (some ⟨b1_3_1, 0, none⟩)), (70, .bool true)] ?_
     refine at_then_normal ?_
     refine at_true (t := true) (x := C4 [1,1,1,1,1,1,0,1,0]) (y := C4 [1,1,1,1,1,1,0,1,1]) (o := .tmp 70) (by kernel_rfl) (by kernel_rfl) (by kernel_rfl) rfl ?_
     refine aq (x := C4 [1,1,1,1,1,1,0,1,0,0]) (y := C4 [1,1,1,1,1,1,0,1,0,1]) ?_
     refine ar (id := 11) 1 ?_
     refine sp 8 (.bool false) ?_
     refine ops_end ?_
     refine ae [(8, .bool false)] ?_
     refine at_then_normal ?_
     refine at_ret (by kernel_rfl) ?_
     refine at_then_ret ?_
     obtain rfl := someE H
     refine at_backR [.bool false] (Γ) (rs := [.tmp 8]) (by kernel_rfl) (.cons (.tmp (by kernel_rfl)) .nil) (fun w hw => (Sat.less (.drop .here (.drop .here (.drop .here (.drop .here (.drop .here (.drop .here (.drop .here (.drop .here .refl)))))))) hw)) ?_
     exact ⟨rfl, rfl⟩
    ·replace H := bifF H h3
     refine sr 65 (.bool false) (run_eq (v := .bool (!(decide (y10_8 = v)))) (fun _ => by kernel_rfl) (congrArg Value.bool h3)) ?_
     refine sp 66 (.pointer (some ⟨b9_5, 0, none⟩)) ?_
     refine sl 67 (.agg #[.int .i64 y9_1.1.fwd, .int .i64 y9_1.1.back]) (loadN (off := 0) (vs := [.int .i64 y9_1.1.fwd, .int .i64 y9_1.1.back]) 2 (fun _ => by kernel_rfl) (holds_own .here) rfl (by exact ⟨rfl, rfl, trivial⟩)) ?_
     obtain ⟨y10_15, hy10_15, H⟩ := bindE H
     refine s_quiet 68 (.bool y10_15) 19 #[.agg #[.int .i64 y9_1.1.fwd, .int .i64 y9_1.1.back]] (by kernel_rfl) (by kernel_rfl) (fun _ => by kernel_rfl) (LOnlyF_tr (⟨y9_1.1.fwd, y9_1.1.back⟩ : LinkS) y10_15 hy10_15) ?_
     refine sp 69 (.bool !y10_15) ?_
     refine sp 70 (.bool !y10_15) ?_
     refine ops_end ?_
     refine ae [(9, .pointer (some ⟨b1_3_0, 0, none⟩)), (10, .pointer (some ⟨b1_3_1, 0, none⟩)), (70, .bool !y10_15)] ?_
     refine at_then_normal ?_
     rcases Bool.eq_false_or_eq_true (!y10_15) with h4 | h4
     ·replace H := bifT H h4
      refine at_true (t := !y10_15) (x := C4 [1,1,1,1,1,1,0,1,0]) (y := C4 [1,1,1,1,1,1,0,1,1]) (o := .tmp 70) (by kernel_rfl) (by kernel_rfl) (by kernel_rfl) h4 ?_
      refine aq (x := C4 [1,1,1,1,1,1,0,1,0,0]) (y := C4 [1,1,1,1,1,1,0,1,0,1]) ?_
      refine ar (id := 11) 1 ?_
      refine sp 8 (.bool false) ?_
      refine ops_end ?_
      refine ae [(8, .bool false)] ?_
      refine at_then_normal ?_
      refine at_ret (by kernel_rfl) ?_
      refine at_then_ret ?_
      obtain rfl := someE H
      refine at_backR [.bool false] (Γ) (rs := [.tmp 8]) (by kernel_rfl) (.cons (.tmp (by kernel_rfl)) .nil) (fun w hw => (Sat.less (.drop .here (.drop .here (.drop .here (.drop .here (.drop .here (.drop .here (.drop .here (.drop .here .refl)))))))) hw)) ?_
      exact ⟨rfl, rfl⟩
     ·replace H := bifF H h4
      refine at_false (t := !y10_15) (x := C4 [1,1,1,1,1,1,0,1,0]) (y := C4 [1,1,1,1,1,1,0,1,1]) (o := .tmp 70) (by kernel_rfl) (by kernel_rfl) (by kernel_rfl) h4 ?_
      refine at_skip (by kernel_rfl) ?_
      refine at_then_normal ?_
      refine aq (x := C4 [1,1,1,1,1,1,1,0]) (y := C4 [1,1,1,1,1,1,1,1]) ?_
      refine ar (id := 12) 2 ?_
      refine sp 71 (.pointer (some ⟨b1_3_0, 0, none⟩)) ?_
      obtain ⟨y12_1, hy12_1, H⟩ := bindE H
      refine s_call 72 15 #[.pointer (some ⟨b1_3_0, 0, none⟩), .int .i64 (5)] (by kernel_rfl) (by kernel_rfl) (fun _ => by kernel_rfl) (Tr.conv (Γ' := (CacheA b1_3_0 y8_5.2.2) :: (Asn.own b9_5 (.cells #[.int .i64 y9_1.1.fwd, .int .i64 y9_1.1.back, .int .i64 y9_1.1.line, .int .i64 y9_1.1.used, .bool y9_1.1.dirty, .slice a9_1_00 (List.length y9_1.1.data) c9_1_00] 46 (0, 0))) :: (IntsA a9_1_00 c9_1_00 y9_1.1.data) :: (Asn.own b8_9 (.cells #[.int .i64 y8_5.1.kind, .int .i64 y8_5.1.line, .int .i64 y8_5.1.id, .int .i64 y8_5.1.step, .int .i64 y8_5.1.state, .int .i64 y8_5.1.head, .slice a8_5_00 (List.length y8_5.1.data) c8_5_00, .int .i64 y8_5.1.next, .int .i64 y8_5.1.told] 29 (0, 0))) :: (ImmI a8_5_00 y8_5.1.data) :: (ImmI a8_0_00 y8_0.data) :: (IntsA (some ⟨b8_3, 0, none⟩) 1 l8_3) :: (RChA b1_3_1 e0_b1_3_1) :: Γ) (fun w hw => (Sat.less (.take (.there (.there .here)) (.take .here (.take .here (.take .here (.take .here (.take .here (.take .here (.take .here .refl)))))))) hw)) (DropF_tr b1_3_0 y8_5.2.2 (5 : Int) y12_1 hy12_1)) ?_
      rintro _ _ ⟨a12_1_00, c12_1_00, rfl, rfl⟩
      refine ops_end ?_
      refine ae [(9, .pointer (some ⟨b1_3_0, 0, none⟩)), (10, .pointer (some ⟨b1_3_1, 0, none⟩))] ?_
      refine at_then_normal ?_
      refine aq (x := C4 [1,1,1,1,1,1,1,1,0]) (y := C4 [1,1,1,1,1,1,1,1,1]) ?_
      refine ar (id := 13) 7 ?_
      refine sp 73 (.pointer (some ⟨b1_3_0, 0, none⟩)) ?_
      refine sp 74 (.pointer (some ⟨b1_3_1, 0, none⟩)) ?_
      refine RChA.tox (.there (.there (.there (.there (.there (.there (.there (.there .here)))))))) ?_
      intro x13_2_b1_3_1
      obtain ⟨y13_2, hy13_2, H⟩ := bindE H
      refine s_call 75 11 #[.pointer (some ⟨b1_3_0, 0, none⟩), .pointer (some ⟨b1_3_1, 0, none⟩)] (by kernel_rfl) (by kernel_rfl) (fun _ => by kernel_rfl) (Tr.conv (Γ' := (CacheA b1_3_0 y12_1.2.2) :: (RChXA b1_3_1 x13_2_b1_3_1 e0_b1_3_1) :: (IntsA a12_1_00 c12_1_00 y12_1.1.data) :: (Asn.own b9_5 (.cells #[.int .i64 y9_1.1.fwd, .int .i64 y9_1.1.back, .int .i64 y9_1.1.line, .int .i64 y9_1.1.used, .bool y9_1.1.dirty, .slice a9_1_00 (List.length y9_1.1.data) c9_1_00] 46 (0, 0))) :: (IntsA a9_1_00 c9_1_00 y9_1.1.data) :: (Asn.own b8_9 (.cells #[.int .i64 y8_5.1.kind, .int .i64 y8_5.1.line, .int .i64 y8_5.1.id, .int .i64 y8_5.1.step, .int .i64 y8_5.1.state, .int .i64 y8_5.1.head, .slice a8_5_00 (List.length y8_5.1.data) c8_5_00, .int .i64 y8_5.1.next, .int .i64 y8_5.1.told] 29 (0, 0))) :: (ImmI a8_5_00 y8_5.1.data) :: (ImmI a8_0_00 y8_0.data) :: (IntsA (some ⟨b8_3, 0, none⟩) 1 l8_3) :: Γ) (fun w hw => (Sat.less (.take (.there (.there .here)) (.take .here (.take .here (.take .here (.take .here (.take .here (.take .here (.take .here (.take .here .refl))))))))) hw)) (SameCF_tr b1_3_0 y12_1.2.2 b1_3_1 x13_2_b1_3_1 e0_b1_3_1 y13_2 hy13_2)) ?_
      rintro _ _ ⟨rfl, rfl⟩
      rcases Bool.eq_false_or_eq_true (y13_2) with h5 | h5
      ·replace H := bifT H h5
       refine sr 76 (.bool true) (run_eq (v := .bool (y13_2)) (fun _ => by kernel_rfl) (congrArg Value.bool h5)) ?_
       obtain ⟨y13_4, hy13_4, H⟩ := bindE H
       refine s_call 77 12 #[] (by kernel_rfl) (by kernel_rfl) (fun _ => by kernel_rfl) (W14F_tr  y13_4 hy13_4) ?_
       rintro _ _ ⟨rfl, rfl⟩
       refine sp 78 (.bool y13_4) ?_
       refine sp 8 (.bool y13_4) ?_
       refine ops_end ?_
       refine ae [(8, .bool y13_4)] ?_
       refine at_then_normal ?_
       refine at_ret (by kernel_rfl) ?_
       refine At.conv (Γ' := (RChA b1_3_1 e0_b1_3_1) :: (CacheA b1_3_0 y12_1.2.2) :: (IntsA a12_1_00 c12_1_00 y12_1.1.data) :: (Asn.own b9_5 (.cells #[.int .i64 y9_1.1.fwd, .int .i64 y9_1.1.back, .int .i64 y9_1.1.line, .int .i64 y9_1.1.used, .bool y9_1.1.dirty, .slice a9_1_00 (List.length y9_1.1.data) c9_1_00] 46 (0, 0))) :: (IntsA a9_1_00 c9_1_00 y9_1.1.data) :: (Asn.own b8_9 (.cells #[.int .i64 y8_5.1.kind, .int .i64 y8_5.1.line, .int .i64 y8_5.1.id, .int .i64 y8_5.1.step, .int .i64 y8_5.1.state, .int .i64 y8_5.1.head, .slice a8_5_00 (List.length y8_5.1.data) c8_5_00, .int .i64 y8_5.1.next, .int .i64 y8_5.1.told] 29 (0, 0))) :: (ImmI a8_5_00 y8_5.1.data) :: (ImmI a8_0_00 y8_0.data) :: (IntsA (some ⟨b8_3, 0, none⟩) 1 l8_3) :: Γ) (fun w hw => RChXA.shut (hw.pull (.there .here))) ?_
       obtain rfl := someE H
       refine at_backR [.bool y13_4] (Γ) (rs := [.tmp 8]) (by kernel_rfl) (.cons (.tmp (by kernel_rfl)) .nil) (fun w hw => (Sat.less (.drop .here (.drop .here (.drop .here (.drop .here (.drop .here (.drop .here (.drop .here (.drop .here (.drop .here .refl))))))))) hw)) ?_
       exact ⟨rfl, rfl⟩
      ·replace H := bifF H h5
       refine sr 76 (.bool false) (run_eq (v := .bool (y13_2)) (fun _ => by kernel_rfl) (congrArg Value.bool h5)) ?_
       refine sa 77 ?_
       refine sp 78 (.bool false) ?_
       refine sp 8 (.bool false) ?_
       refine ops_end ?_
       refine ae [(8, .bool false)] ?_
       refine at_then_normal ?_
       refine at_ret (by kernel_rfl) ?_
       refine At.conv (Γ' := (RChA b1_3_1 e0_b1_3_1) :: (CacheA b1_3_0 y12_1.2.2) :: (IntsA a12_1_00 c12_1_00 y12_1.1.data) :: (Asn.own b9_5 (.cells #[.int .i64 y9_1.1.fwd, .int .i64 y9_1.1.back, .int .i64 y9_1.1.line, .int .i64 y9_1.1.used, .bool y9_1.1.dirty, .slice a9_1_00 (List.length y9_1.1.data) c9_1_00] 46 (0, 0))) :: (IntsA a9_1_00 c9_1_00 y9_1.1.data) :: (Asn.own b8_9 (.cells #[.int .i64 y8_5.1.kind, .int .i64 y8_5.1.line, .int .i64 y8_5.1.id, .int .i64 y8_5.1.step, .int .i64 y8_5.1.state, .int .i64 y8_5.1.head, .slice a8_5_00 (List.length y8_5.1.data) c8_5_00, .int .i64 y8_5.1.next, .int .i64 y8_5.1.told] 29 (0, 0))) :: (ImmI a8_5_00 y8_5.1.data) :: (ImmI a8_0_00 y8_0.data) :: (IntsA (some ⟨b8_3, 0, none⟩) 1 l8_3) :: Γ) (fun w hw => RChXA.shut (hw.pull (.there .here))) ?_
       obtain rfl := someE H
       refine at_backR [.bool false] (Γ) (rs := [.tmp 8]) (by kernel_rfl) (.cons (.tmp (by kernel_rfl)) .nil) (fun w hw => (Sat.less (.drop .here (.drop .here (.drop .here (.drop .here (.drop .here (.drop .here (.drop .here (.drop .here (.drop .here .refl))))))))) hw)) ?_
       exact ⟨rfl, rfl⟩
 ·refine aq (x := C4 [1,1,1,0,0]) (y := C4 [1,1,1,0,1]) ?_
  refine ar (id := 4) 2 ?_
  refine sp 26 (.pointer (some ⟨b1_3_0, 0, none⟩)) ?_
  obtain ⟨y4_1, hy4_1, H⟩ := bindE H
  refine s_call 27 13 #[.pointer (some ⟨b1_3_0, 0, none⟩), .int .i64 (5)] (by kernel_rfl) (by kernel_rfl) (fun _ => by kernel_rfl) (FullF_tr b1_3_0 y1_3.1 (5 : Int) y4_1 hy4_1) ?_
  rintro _ _ ⟨rfl, rfl⟩
  refine ops_end ?_
  refine ae [(3, .int .i64 v), (9, .pointer (some ⟨b1_3_0, 0, none⟩)), (10, .pointer (some ⟨b1_3_1, 0, none⟩)), (27, .bool y4_1)] ?_
  refine at_then_normal ?_
  rcases Bool.eq_false_or_eq_true (y4_1) with h6 | h6
  ·replace H := bifT H h6
   refine at_true (t := y4_1) (x := C4 [1,1,1,0,1,0]) (y := C4 [1,1,1,0,1,1]) (o := .tmp 27) (by kernel_rfl) (by kernel_rfl) (by kernel_rfl) h6 ?_
   refine aq (x := C4 [1,1,1,0,1,0,0]) (y := C4 [1,1,1,0,1,0,1]) ?_
   refine ar (id := 5) 7 ?_
   refine sp 29 (.pointer (some ⟨b1_3_0, 0, none⟩)) ?_
   refine CacheA.tox .here ?_
   intro x5_1_b1_3_0
   obtain ⟨y5_1, hy5_1, H⟩ := bindE H
   refine s_call 30 14 #[.pointer (some ⟨b1_3_0, 0, none⟩), .int .i64 (5)] (by kernel_rfl) (by kernel_rfl) (fun _ => by kernel_rfl) (VictimF_tr b1_3_0 x5_1_b1_3_0 y1_3.1 (5 : Int) y5_1 hy5_1) ?_
   rintro _ _ ⟨rfl, rfl⟩
   refine sp 28 (.tuple #[.int .i64 y5_1.1, .bool y5_1.2]) ?_
   refine sp 31 (.int .i64 y5_1.1) ?_
   refine sp 32 (.bool y5_1.2) ?_
   refine sp 11 (.int .i64 y5_1.1) ?_
   refine sp 12 (.bool y5_1.2) ?_
   refine ops_end ?_
   refine ae [(3, .int .i64 v), (9, .pointer (some ⟨b1_3_0, 0, none⟩)), (10, .pointer (some ⟨b1_3_1, 0, none⟩)), (11, .int .i64 y5_1.1)] ?_
   refine at_then_normal ?_
   refine At.conv (Γ' := (CacheA b1_3_0 y1_3.1) :: (RChA b1_3_1 y1_3.2) :: Γ) (fun w hw => CacheXA.shut (hw.pull .here)) ?_
   refine aq (x := C4 [1,1,1,0,1,0,1,0]) (y := C4 [1,1,1,0,1,0,1,1]) ?_
   refine ar (id := 6) 3 ?_
   refine sp 33 (.pointer (some ⟨b1_3_0, 0, none⟩)) ?_
   refine sp 34 (.int .i64 y5_1.1) ?_
   obtain ⟨y6_2, hy6_2, H⟩ := bindE H
   refine s_call 35 15 #[.pointer (some ⟨b1_3_0, 0, none⟩), .int .i64 y5_1.1] (by kernel_rfl) (by kernel_rfl) (fun _ => by kernel_rfl) (DropF_tr b1_3_0 y1_3.1 y5_1.1 y6_2 hy6_2) ?_
   rintro _ _ ⟨a6_2_00, c6_2_00, rfl, rfl⟩
   refine ops_end ?_
   refine ae [(3, .int .i64 v), (9, .pointer (some ⟨b1_3_0, 0, none⟩)), (10, .pointer (some ⟨b1_3_1, 0, none⟩)), (11, .int .i64 y5_1.1)] ?_
   refine at_then_normal ?_
   refine ar (id := 7) 3 ?_
   refine sp 36 (.pointer (some ⟨b1_3_1, 0, none⟩)) ?_
   refine sp 37 (.int .i64 y5_1.1) ?_
   obtain ⟨y7_2, hy7_2, H⟩ := bindE H
   refine s_call 38 16 #[.pointer (some ⟨b1_3_1, 0, none⟩), .int .i64 y5_1.1] (by kernel_rfl) (by kernel_rfl) (fun _ => by kernel_rfl) (Tr.conv (Γ' := (RChA b1_3_1 y1_3.2) :: (IntsA a6_2_00 c6_2_00 y6_2.1.data) :: (CacheA b1_3_0 y6_2.2.2) :: Γ) (fun w hw => (Sat.less (.take (.there (.there .here)) (.take .here (.take .here .refl))) hw)) (RDropF_tr b1_3_1 y1_3.2 y5_1.1 y7_2 hy7_2)) ?_
   rintro _ _ ⟨a7_2_00, c7_2_00, rfl, rfl⟩
   refine ops_end ?_
   refine ae [(3, .int .i64 v), (9, .pointer (some ⟨b1_3_0, 0, none⟩)), (10, .pointer (some ⟨b1_3_1, 0, none⟩))] ?_
   refine at_round_normal ?_
   exact at_join_mk [(3, .int .i64 v), (9, .pointer (some ⟨b1_3_0, 0, none⟩)), (10, .pointer (some ⟨b1_3_1, 0, none⟩))] ((CacheA b1_3_0 y6_2.2.2) :: (RChA b1_3_1 y7_2.2.2) :: Γ) ⟨by kernel_rfl, by kernel_rfl, by kernel_rfl, trivial⟩ (fun w hw => (Sat.less (.take (.there (.there (.there .here))) (.take (.there .here) (.drop .here (.drop .here .refl)))) hw)) ⟨y6_2.2.2, y7_2.2.2, H, rfl, rfl⟩
  ·replace H := bifF H h6
   refine at_false (t := y4_1) (x := C4 [1,1,1,0,1,0]) (y := C4 [1,1,1,0,1,1]) (o := .tmp 27) (by kernel_rfl) (by kernel_rfl) (by kernel_rfl) h6 ?_
   refine at_skip (by kernel_rfl) ?_
   refine at_round_normal ?_
   exact at_join_mk [(3, .int .i64 v), (9, .pointer (some ⟨b1_3_0, 0, none⟩)), (10, .pointer (some ⟨b1_3_1, 0, none⟩))] ((CacheA b1_3_0 y1_3.1) :: (RChA b1_3_1 y1_3.2) :: Γ) ⟨by kernel_rfl, by kernel_rfl, by kernel_rfl, trivial⟩ (fun w hw => (Sat.less (.take .here (.take .here .refl)) hw)) ⟨y1_3.1, y1_3.2, H, rfl, rfl⟩
end Go.Proofs.Ytfndeehlbcbkpaa
