/- The law AttachOther: its walk. -/
import Derived.Test.YtfndeehlbcbkpaaBoA
import Derived.Test.YtfndeehlbcbkpaaAtA
import Derived.Test.YtfndeehlbcbkpaaSlMapV
namespace Go.Proofs.Ytfndeehlbcbkpaa
open Go Go.RowKit
set_option linter.unusedVariables false
set_option linter.unusedSimpArgs false
def wakes14S_j0 (y4_4 : DealS × Bool × CacheS) (e0_37 : Bool) : Option (Bool) :=
 (bif e0_37 then some false else (anextS y4_4.1 (2 : Int) y4_4.2.2 (⟨8, 0, 0, 0, 1, 0, 0, false, ([] : List Int)⟩ : PktS)).bind fun y7_3 => (findS y7_3.2.2 (1 : Int)).bind fun y8_1 => (bif y7_3.2.1 then (bif decide (y7_3.1.step = (0 : Int)) then (bif y8_1.2 then (lonlyS (⟨y8_1.1.fwd, y8_1.1.back⟩ : LinkS)).bind fun y9_12 => (bif y9_12 then (ewordS y8_1.1 (0 : Int)).bind fun y9_16 => some (decide (y9_16 = (7 : Int))) else some false) else some false) else some false) else some false))
def wakes14S : Option (Bool) :=
 (bothS ([] : List Int) ([] : List Int) ([] : List Int)).bind fun y1_0 => (dbeginS (1 : Int) (1 : Int) (0 : Int)).bind fun y4_0 => letP ([7] : List Int) fun l4_2 => (anextS y4_0 (2 : Int) y1_0.1 (⟨7, 0, 0, 0, 1, (-1), 0, false, l4_2⟩ : PktS)).bind fun y4_4 => (bif !y4_4.2.1 then wakes14S_j0 y4_4 true else (bif !(decide (y4_4.1.step = (6 : Int))) then wakes14S_j0 y4_4 true else (bif !(decide (y4_4.1.head = (2 : Int))) then wakes14S_j0 y4_4 true else wakes14S_j0 y4_4 (!(decide (y4_4.1.state = (1 : Int)))))))
noncomputable def C12 (p : List Nat) : Code := codeAt (bodyOf Try.f12) p
set_option maxRecDepth 100000 in
set_option maxHeartbeats 8000000 in
theorem W14F_tr {W0 : World} {Γ : List Asn}   (y : Bool) (H : wakes14S = some y) : Tr Try.prog 12 #[] W0 (Γ) (fun r Δ => r = .bool y ∧ Δ = Γ) := by
 unfold wakes14S at H
 refine Tr.enter (fn := Try.f12) (c := C12 []) (args := []) 69 Try.func12 (by kernel_rfl) (by kernel_rfl) ?_
 refine At.env [] trivial ?_
 refine aq (x := C12 [0]) (y := C12 [1]) ?_
 refine ar (id := 0) 1 ?_
 refine sp 0 (.bool false) ?_
 refine ops_end ?_
 refine At.env [] trivial ?_
 refine at_then_normal ?_
 refine aq (x := C12 [1,0]) (y := C12 [1,1]) ?_
 refine ar (id := 1) 6 ?_
 obtain ⟨y1_0, hy1_0, H⟩ := bindE H
 refine s_call 8 7 #[.slice none 0 0, .slice none 0 0, .slice none 0 0] (by kernel_rfl) (by kernel_rfl) (fun _ => by kernel_rfl) (BothF_tr none 0 ([] : List Int) none 0 ([] : List Int) none 0 ([] : List Int) Reads.nil Reads.nil Reads.nil (Nat.le_refl _) y1_0 hy1_0) ?_
 rintro _ _ ⟨b1_0_0, b1_0_1, rfl, rfl⟩
 refine sp 7 (.tuple #[.pointer (some ⟨b1_0_0, 0, none⟩), .pointer (some ⟨b1_0_1, 0, none⟩)]) ?_
 refine sp 9 (.pointer (some ⟨b1_0_0, 0, none⟩)) ?_
 refine sp 10 (.pointer (some ⟨b1_0_1, 0, none⟩)) ?_
 refine sp 1 (.pointer (some ⟨b1_0_0, 0, none⟩)) ?_
 refine sp 2 (.pointer (some ⟨b1_0_1, 0, none⟩)) ?_
 refine ops_end ?_
 refine ae [(1, .pointer (some ⟨b1_0_0, 0, none⟩))] ?_
 refine at_then_normal ?_
 refine aq (x := C12 [1,1,0]) (y := C12 [1,1,1]) ?_
 refine aq (x := C12 [1,1,0,0]) (y := C12 [1,1,0,1]) ?_
 refine ar (id := 2) 2 ?_
 refine sp 11 (.pointer (some ⟨b1_0_0, 0, none⟩)) ?_
 refine sp 12 (.bool false) ?_
 refine ops_end ?_
 refine ae [(1, .pointer (some ⟨b1_0_0, 0, none⟩)), (12, .bool false)] ?_
 refine at_then_normal ?_
 refine at_false (t := false) (x := C12 [1,1,0,1,0]) (y := C12 [1,1,0,1,1]) (o := .tmp 12) (by kernel_rfl) (by kernel_rfl) (by kernel_rfl) rfl ?_
 refine at_skip (by kernel_rfl) ?_
 refine at_then_normal ?_
 refine aq (x := C12 [1,1,1,0]) (y := C12 [1,1,1,1]) ?_
 refine ar (id := 4) 11 ?_
 obtain ⟨y4_0, hy4_0, H⟩ := bindE H
 refine s_call 14 9 #[.int .i64 (1), .int .i64 (1), .int .i64 (0)] (by kernel_rfl) (by kernel_rfl) (fun _ => by kernel_rfl) (DBeginF_tr (1 : Int) (1 : Int) (0 : Int) y4_0 hy4_0) ?_
 rintro _ _ ⟨a4_0_00, c4_0_00, rfl, rfl⟩
 refine sp 15 (.pointer (some ⟨b1_0_0, 0, none⟩)) ?_
 obtain ⟨l4_2, hl4_2, H⟩ := letE H
 refine s_step 16 (by kernel_rfl) (by kernel_rfl) (st_new_ints (T := 3) (xs := l4_2) 1 hl4_2 (fun _ => by kernel_rfl) (by kernel_rfl)) ?_
 rintro _ _ ⟨b4_2, rfl, rfl⟩
 refine sp 17 (.agg #[.int .i64 (7), .int .i64 (0), .int .i64 (0), .int .i64 (0), .int .i64 (1), .int .i64 (-1), .int .i64 (0), .bool false, .slice (some ⟨b4_2, 0, none⟩) (List.length l4_2) 1]) ?_
 obtain ⟨y4_4, hy4_4, H⟩ := bindE H
 refine s_call 18 10 #[.agg #[.int .i64 y4_0.kind, .int .i64 y4_0.line, .int .i64 y4_0.id, .int .i64 y4_0.step, .int .i64 y4_0.state, .int .i64 y4_0.head, .slice a4_0_00 (List.length y4_0.data) c4_0_00, .int .i64 y4_0.next, .int .i64 y4_0.told], .int .i64 (2), .pointer (some ⟨b1_0_0, 0, none⟩), .agg #[.int .i64 (7), .int .i64 (0), .int .i64 (0), .int .i64 (0), .int .i64 (1), .int .i64 (-1), .int .i64 (0), .bool false, .slice (some ⟨b4_2, 0, none⟩) (List.length l4_2) 1]] (by kernel_rfl) (by kernel_rfl) (fun _ => by kernel_rfl) (Tr.conv (Γ' := (ImmI a4_0_00 y4_0.data) :: (CacheA b1_0_0 y1_0.1) :: (ImmI a4_0_00 y4_0.data) :: (IntsA (some ⟨b4_2, 0, none⟩) 1 l4_2) :: (RChA b1_0_1 y1_0.2) :: Γ) (fun w hw => (Sat.less (.take .here (.take (.there (.there .here)) (.take .here (.take .here (.take .here .refl))))) (ImmR.dup (Sat.less (.take (.there .here) (.take .here (.take .here (.take .here .refl)))) hw)))) (ANextF_tr a4_0_00 c4_0_00 y4_0 (2 : Int) b1_0_0 y1_0.1 (some ⟨b4_2, 0, none⟩) 1 (⟨7, 0, 0, 0, 1, (-1), 0, false, l4_2⟩ : PktS) (RowsA.reads (k := 1) (.there .here)) y4_4 hy4_4)) ?_
 rintro _ _ ⟨a4_4_00, c4_4_00, rfl, rfl⟩
 refine sp 13 (.tuple #[.agg #[.int .i64 y4_4.1.kind, .int .i64 y4_4.1.line, .int .i64 y4_4.1.id, .int .i64 y4_4.1.step, .int .i64 y4_4.1.state, .int .i64 y4_4.1.head, .slice a4_4_00 (List.length y4_4.1.data) c4_4_00, .int .i64 y4_4.1.next, .int .i64 y4_4.1.told], .bool y4_4.2.1]) ?_
 refine sp 19 (.agg #[.int .i64 y4_4.1.kind, .int .i64 y4_4.1.line, .int .i64 y4_4.1.id, .int .i64 y4_4.1.step, .int .i64 y4_4.1.state, .int .i64 y4_4.1.head, .slice a4_4_00 (List.length y4_4.1.data) c4_4_00, .int .i64 y4_4.1.next, .int .i64 y4_4.1.told]) ?_
 refine sp 20 (.bool y4_4.2.1) ?_
 refine s_step 3 (by kernel_rfl) (by kernel_rfl) (st_new (T := 29) (cells := #[.int .i64 (0), .int .i64 (0), .int .i64 (0), .int .i64 (0), .int .i64 (0), .int .i64 (0), .slice none 0 0, .int .i64 (0), .int .i64 (0)]) (fun a => .pointer (some a)) (fun _ => by kernel_rfl)) ?_
 rintro _ _ ⟨b4_8, rfl, rfl⟩
 refine s_do (by kernel_rfl) (by kernel_rfl) (st_store (off := 0) (vs := [.int .i64 y4_4.1.kind, .int .i64 y4_4.1.line, .int .i64 y4_4.1.id, .int .i64 y4_4.1.step, .int .i64 y4_4.1.state, .int .i64 y4_4.1.head, .slice a4_4_00 (List.length y4_4.1.data) c4_4_00, .int .i64 y4_4.1.next, .int .i64 y4_4.1.told]) (c' := #[.int .i64 y4_4.1.kind, .int .i64 y4_4.1.line, .int .i64 y4_4.1.id, .int .i64 y4_4.1.step, .int .i64 y4_4.1.state, .int .i64 y4_4.1.head, .slice a4_4_00 (List.length y4_4.1.data) c4_4_00, .int .i64 y4_4.1.next, .int .i64 y4_4.1.told]) (fun _ => by kernel_rfl) .here (by kernel_rfl) (by kernel_rfl) (by kernel_rfl)) ?_
 rintro _ _ ⟨rfl, rfl⟩
 refine sp 4 (.bool y4_4.2.1) ?_
 refine ops_end ?_
 refine ae [(1, .pointer (some ⟨b1_0_0, 0, none⟩)), (3, .pointer (some ⟨b4_8, 0, none⟩)), (4, .bool y4_4.2.1)] ?_
 refine at_then_normal ?_
 refine aq (x := C12 [1,1,1,1,0]) (y := C12 [1,1,1,1,1]) ?_
 refine at_seq_join (x := C12 [1,1,1,1,0,0]) (y := C12 [1,1,1,1,0,1]) (fun ff ΔΔ => ∃ (e0_37 : Bool), wakes14S_j0 y4_4 e0_37 = some y ∧ ff = [(1, .pointer (some ⟨b1_0_0, 0, none⟩)), (3, .pointer (some ⟨b4_8, 0, none⟩)), (37, .bool e0_37)] ∧ (Asn.own b4_8 (.cells #[.int .i64 y4_4.1.kind, .int .i64 y4_4.1.line, .int .i64 y4_4.1.id, .int .i64 y4_4.1.step, .int .i64 y4_4.1.state, .int .i64 y4_4.1.head, .slice a4_4_00 (List.length y4_4.1.data) c4_4_00, .int .i64 y4_4.1.next, .int .i64 y4_4.1.told] 29 (0, 0))) :: (ImmI a4_4_00 y4_4.1.data) :: (CacheA b1_0_0 y4_4.2.2) :: (RChA b1_0_1 y1_0.2) :: Γ = ΔΔ) (by kernel_rfl) ?_ ?_
 ·rintro _ _ ⟨e0_37, H, rfl, rfl⟩
  rw [wakes14S_j0] at H
  rcases Bool.eq_false_or_eq_true (e0_37) with h1 | h1
  ·replace H := bifT H h1
   refine at_true (t := e0_37) (x := C12 [1,1,1,1,0,1,0]) (y := C12 [1,1,1,1,0,1,1]) (o := .tmp 37) (by kernel_rfl) (by kernel_rfl) (by kernel_rfl) h1 ?_
   refine aq (x := C12 [1,1,1,1,0,1,0,0]) (y := C12 [1,1,1,1,0,1,0,1]) ?_
   refine ar (id := 6) 1 ?_
   refine sp 0 (.bool false) ?_
   refine ops_end ?_
   refine ae [(0, .bool false)] ?_
   refine at_then_normal ?_
   refine at_ret (by kernel_rfl) ?_
   refine at_then_ret ?_
   obtain rfl := someE H
   refine at_backR [.bool false] (Γ) (rs := [.tmp 0]) (by kernel_rfl) (.cons (.tmp (by kernel_rfl)) .nil) (fun w hw => (Sat.less (.drop .here (.drop .here (.drop .here (.drop .here .refl)))) hw)) ?_
   exact ⟨rfl, rfl⟩
  ·replace H := bifF H h1
   refine at_false (t := e0_37) (x := C12 [1,1,1,1,0,1,0]) (y := C12 [1,1,1,1,0,1,1]) (o := .tmp 37) (by kernel_rfl) (by kernel_rfl) (by kernel_rfl) h1 ?_
   refine at_skip (by kernel_rfl) ?_
   refine at_then_normal ?_
   refine aq (x := C12 [1,1,1,1,1,0]) (y := C12 [1,1,1,1,1,1]) ?_
   refine ar (id := 7) 9 ?_
   refine sl 39 (.agg #[.int .i64 y4_4.1.kind, .int .i64 y4_4.1.line, .int .i64 y4_4.1.id, .int .i64 y4_4.1.step, .int .i64 y4_4.1.state, .int .i64 y4_4.1.head, .slice a4_4_00 (List.length y4_4.1.data) c4_4_00, .int .i64 y4_4.1.next, .int .i64 y4_4.1.told]) (loadN (off := 0) (vs := [.int .i64 y4_4.1.kind, .int .i64 y4_4.1.line, .int .i64 y4_4.1.id, .int .i64 y4_4.1.step, .int .i64 y4_4.1.state, .int .i64 y4_4.1.head, .slice a4_4_00 (List.length y4_4.1.data) c4_4_00, .int .i64 y4_4.1.next, .int .i64 y4_4.1.told]) 9 (fun _ => by kernel_rfl) (holds_own .here) rfl (by exact ⟨rfl, rfl, rfl, rfl, rfl, rfl, rfl, rfl, rfl, trivial⟩)) ?_
   refine sp 40 (.pointer (some ⟨b1_0_0, 0, none⟩)) ?_
   refine sp 41 (.agg #[.int .i64 (8), .int .i64 (0), .int .i64 (0), .int .i64 (0), .int .i64 (1), .int .i64 (0), .int .i64 (0), .bool false, .slice none 0 0]) ?_
   obtain ⟨y7_3, hy7_3, H⟩ := bindE H
   refine s_call 42 10 #[.agg #[.int .i64 y4_4.1.kind, .int .i64 y4_4.1.line, .int .i64 y4_4.1.id, .int .i64 y4_4.1.step, .int .i64 y4_4.1.state, .int .i64 y4_4.1.head, .slice a4_4_00 (List.length y4_4.1.data) c4_4_00, .int .i64 y4_4.1.next, .int .i64 y4_4.1.told], .int .i64 (2), .pointer (some ⟨b1_0_0, 0, none⟩), .agg #[.int .i64 (8), .int .i64 (0), .int .i64 (0), .int .i64 (0), .int .i64 (1), .int .i64 (0), .int .i64 (0), .bool false, .slice none 0 0]] (by kernel_rfl) (by kernel_rfl) (fun _ => by kernel_rfl) (Tr.conv (Γ' := (ImmI a4_4_00 y4_4.1.data) :: (CacheA b1_0_0 y4_4.2.2) :: (ImmI a4_4_00 y4_4.1.data) :: (Asn.own b4_8 (.cells #[.int .i64 y4_4.1.kind, .int .i64 y4_4.1.line, .int .i64 y4_4.1.id, .int .i64 y4_4.1.step, .int .i64 y4_4.1.state, .int .i64 y4_4.1.head, .slice a4_4_00 (List.length y4_4.1.data) c4_4_00, .int .i64 y4_4.1.next, .int .i64 y4_4.1.told] 29 (0, 0))) :: (RChA b1_0_1 y1_0.2) :: Γ) (fun w hw => (Sat.less (.take .here (.take (.there (.there .here)) (.take .here (.take .here (.take .here .refl))))) (ImmR.dup (Sat.less (.take (.there .here) (.take .here (.take .here (.take .here .refl)))) hw)))) (ANextF_tr a4_4_00 c4_4_00 y4_4.1 (2 : Int) b1_0_0 y4_4.2.2 none 0 (⟨8, 0, 0, 0, 1, 0, 0, false, ([] : List Int)⟩ : PktS) Reads.nil y7_3 hy7_3)) ?_
   rintro _ _ ⟨a7_3_00, c7_3_00, rfl, rfl⟩
   refine sp 38 (.tuple #[.agg #[.int .i64 y7_3.1.kind, .int .i64 y7_3.1.line, .int .i64 y7_3.1.id, .int .i64 y7_3.1.step, .int .i64 y7_3.1.state, .int .i64 y7_3.1.head, .slice a7_3_00 (List.length y7_3.1.data) c7_3_00, .int .i64 y7_3.1.next, .int .i64 y7_3.1.told], .bool y7_3.2.1]) ?_
   refine sp 43 (.agg #[.int .i64 y7_3.1.kind, .int .i64 y7_3.1.line, .int .i64 y7_3.1.id, .int .i64 y7_3.1.step, .int .i64 y7_3.1.state, .int .i64 y7_3.1.head, .slice a7_3_00 (List.length y7_3.1.data) c7_3_00, .int .i64 y7_3.1.next, .int .i64 y7_3.1.told]) ?_
   refine sp 44 (.bool y7_3.2.1) ?_
   refine s_do (by kernel_rfl) (by kernel_rfl) (st_store (off := 0) (vs := [.int .i64 y7_3.1.kind, .int .i64 y7_3.1.line, .int .i64 y7_3.1.id, .int .i64 y7_3.1.step, .int .i64 y7_3.1.state, .int .i64 y7_3.1.head, .slice a7_3_00 (List.length y7_3.1.data) c7_3_00, .int .i64 y7_3.1.next, .int .i64 y7_3.1.told]) (c' := #[.int .i64 y7_3.1.kind, .int .i64 y7_3.1.line, .int .i64 y7_3.1.id, .int .i64 y7_3.1.step, .int .i64 y7_3.1.state, .int .i64 y7_3.1.head, .slice a7_3_00 (List.length y7_3.1.data) c7_3_00, .int .i64 y7_3.1.next, .int .i64 y7_3.1.told]) (fun _ => by kernel_rfl) (.there (.there (.there .here))) (by kernel_rfl) (by kernel_rfl) (by kernel_rfl)) ?_
   rintro _ _ ⟨rfl, rfl⟩
   refine sp 4 (.bool y7_3.2.1) ?_
   refine ops_end ?_
   refine ae [(1, .pointer (some ⟨b1_0_0, 0, none⟩)), (3, .pointer (some ⟨b4_8, 0, none⟩)), (4, .bool y7_3.2.1)] ?_
   refine at_then_normal ?_
   refine aq (x := C12 [1,1,1,1,1,1,0]) (y := C12 [1,1,1,1,1,1,1]) ?_
   refine ar (id := 8) 8 ?_
   refine sp 46 (.pointer (some ⟨b1_0_0, 0, none⟩)) ?_
   obtain ⟨y8_1, hy8_1, H⟩ := bindE H
   refine s_call 47 17 #[.pointer (some ⟨b1_0_0, 0, none⟩), .int .i64 (1)] (by kernel_rfl) (by kernel_rfl) (fun _ => by kernel_rfl) (Tr.conv (Γ' := (CacheA b1_0_0 y7_3.2.2) :: (Asn.own b4_8 (.cells #[.int .i64 y7_3.1.kind, .int .i64 y7_3.1.line, .int .i64 y7_3.1.id, .int .i64 y7_3.1.step, .int .i64 y7_3.1.state, .int .i64 y7_3.1.head, .slice a7_3_00 (List.length y7_3.1.data) c7_3_00, .int .i64 y7_3.1.next, .int .i64 y7_3.1.told] 29 (0, 0))) :: (ImmI a7_3_00 y7_3.1.data) :: (ImmI a4_4_00 y4_4.1.data) :: (RChA b1_0_1 y1_0.2) :: Γ) (fun w hw => (Sat.less (.take (.there (.there .here)) (.take .here (.take .here (.take .here (.take .here .refl))))) hw)) (FindF_tr b1_0_0 y7_3.2.2 (1 : Int) y8_1 hy8_1)) ?_
   rintro _ _ ⟨a8_1_00, c8_1_00, rfl, rfl⟩
   refine sp 45 (.tuple #[.agg #[.int .i64 y8_1.1.fwd, .int .i64 y8_1.1.back, .int .i64 y8_1.1.line, .int .i64 y8_1.1.used, .bool y8_1.1.dirty, .slice a8_1_00 (List.length y8_1.1.data) c8_1_00], .bool y8_1.2]) ?_
   refine sp 48 (.agg #[.int .i64 y8_1.1.fwd, .int .i64 y8_1.1.back, .int .i64 y8_1.1.line, .int .i64 y8_1.1.used, .bool y8_1.1.dirty, .slice a8_1_00 (List.length y8_1.1.data) c8_1_00]) ?_
   refine sp 49 (.bool y8_1.2) ?_
   refine s_step 5 (by kernel_rfl) (by kernel_rfl) (st_new (T := 46) (cells := #[.int .i64 (0), .int .i64 (0), .int .i64 (0), .int .i64 (0), .bool false, .slice none 0 0]) (fun a => .pointer (some a)) (fun _ => by kernel_rfl)) ?_
   rintro _ _ ⟨b8_5, rfl, rfl⟩
   refine s_do (by kernel_rfl) (by kernel_rfl) (st_store (off := 0) (vs := [.int .i64 y8_1.1.fwd, .int .i64 y8_1.1.back, .int .i64 y8_1.1.line, .int .i64 y8_1.1.used, .bool y8_1.1.dirty, .slice a8_1_00 (List.length y8_1.1.data) c8_1_00]) (c' := #[.int .i64 y8_1.1.fwd, .int .i64 y8_1.1.back, .int .i64 y8_1.1.line, .int .i64 y8_1.1.used, .bool y8_1.1.dirty, .slice a8_1_00 (List.length y8_1.1.data) c8_1_00]) (fun _ => by kernel_rfl) .here (by kernel_rfl) (by kernel_rfl) (by kernel_rfl)) ?_
   rintro _ _ ⟨rfl, rfl⟩
   refine sp 6 (.bool y8_1.2) ?_
   refine ops_end ?_
   refine ae [(3, .pointer (some ⟨b4_8, 0, none⟩)), (4, .bool y7_3.2.1), (5, .pointer (some ⟨b8_5, 0, none⟩)), (6, .bool y8_1.2)] ?_
   refine at_then_normal ?_
   refine aq (x := C12 [1,1,1,1,1,1,1,0]) (y := C12 [1,1,1,1,1,1,1,1]) ?_
   refine ar (id := 9) 20 ?_
   refine sp 50 (.bool y7_3.2.1) ?_
   rcases Bool.eq_false_or_eq_true (y7_3.2.1) with h2 | h2
   ·replace H := bifT H h2
    refine sr 51 (.bool true) (run_eq (v := .bool (y7_3.2.1)) (fun _ => by kernel_rfl) (congrArg Value.bool h2)) ?_
    refine sp 52 (.pointer (some ⟨b4_8, 3, none⟩)) ?_
    refine sl 53 (.int .i64 y7_3.1.step) (load1 (off := 3) (fun _ => by kernel_rfl) (holds_own (.there (.there (.there .here)))) (by kernel_rfl)) ?_
    refine sp 54 (.bool (decide (y7_3.1.step = (0 : Int)))) ?_
    refine sp 55 (.bool (decide (y7_3.1.step = (0 : Int)))) ?_
    rcases Bool.eq_false_or_eq_true (decide (y7_3.1.step = (0 : Int))) with h3 | h3
    ·replace H := bifT H h3
     refine sr 56 (.bool true) (run_eq (v := .bool (decide (y7_3.1.step = (0 : Int)))) (fun _ => by kernel_rfl) (congrArg Value.bool h3)) ?_
     refine sp 57 (.bool y8_1.2) ?_
     refine sp 58 (.bool y8_1.2) ?_
     rcases Bool.eq_false_or_eq_true (y8_1.2) with h4 | h4
     ·replace H := bifT H h4
      refine sr 59 (.bool true) (run_eq (v := .bool (y8_1.2)) (fun _ => by kernel_rfl) (congrArg Value.bool h4)) ?_
      refine sp 60 (.pointer (some ⟨b8_5, 0, none⟩)) ?_
      refine sl 61 (.agg #[.int .i64 y8_1.1.fwd, .int .i64 y8_1.1.back]) (loadN (off := 0) (vs := [.int .i64 y8_1.1.fwd, .int .i64 y8_1.1.back]) 2 (fun _ => by kernel_rfl) (holds_own .here) rfl (by exact ⟨rfl, rfl, trivial⟩)) ?_
      obtain ⟨y9_12, hy9_12, H⟩ := bindE H
      refine s_quiet 62 (.bool y9_12) 19 #[.agg #[.int .i64 y8_1.1.fwd, .int .i64 y8_1.1.back]] (by kernel_rfl) (by kernel_rfl) (fun _ => by kernel_rfl) (LOnlyF_tr (⟨y8_1.1.fwd, y8_1.1.back⟩ : LinkS) y9_12 hy9_12) ?_
      refine sp 63 (.bool y9_12) ?_
      rcases Bool.eq_false_or_eq_true (y9_12) with h5 | h5
      ·replace H := bifT H h5
       refine sr 64 (.bool true) (run_eq (v := .bool (y9_12)) (fun _ => by kernel_rfl) (congrArg Value.bool h5)) ?_
       refine sl 65 (.agg #[.int .i64 y8_1.1.fwd, .int .i64 y8_1.1.back, .int .i64 y8_1.1.line, .int .i64 y8_1.1.used, .bool y8_1.1.dirty, .slice a8_1_00 (List.length y8_1.1.data) c8_1_00]) (loadN (off := 0) (vs := [.int .i64 y8_1.1.fwd, .int .i64 y8_1.1.back, .int .i64 y8_1.1.line, .int .i64 y8_1.1.used, .bool y8_1.1.dirty, .slice a8_1_00 (List.length y8_1.1.data) c8_1_00]) 6 (fun _ => by kernel_rfl) (holds_own .here) rfl (by exact ⟨rfl, rfl, rfl, rfl, rfl, rfl, trivial⟩)) ?_
       obtain ⟨y9_16, hy9_16, H⟩ := bindE H
       refine s_call 66 18 #[.agg #[.int .i64 y8_1.1.fwd, .int .i64 y8_1.1.back, .int .i64 y8_1.1.line, .int .i64 y8_1.1.used, .bool y8_1.1.dirty, .slice a8_1_00 (List.length y8_1.1.data) c8_1_00], .int .i64 (0)] (by kernel_rfl) (by kernel_rfl) (fun _ => by kernel_rfl) (EWordF_tr a8_1_00 c8_1_00 y8_1.1 (0 : Int) (RowsA.reads (k := 1) (.there .here)) y9_16 hy9_16) ?_
       rintro _ _ ⟨rfl, rfl⟩
       refine sp 67 (.bool (decide (y9_16 = (7 : Int)))) ?_
       refine sp 68 (.bool (decide (y9_16 = (7 : Int)))) ?_
       refine sp 0 (.bool (decide (y9_16 = (7 : Int)))) ?_
       refine ops_end ?_
       refine ae [(0, .bool (decide (y9_16 = (7 : Int))))] ?_
       refine at_then_normal ?_
       refine at_ret (by kernel_rfl) ?_
       obtain rfl := someE H
       refine at_backR [.bool (decide (y9_16 = (7 : Int)))] (Γ) (rs := [.tmp 0]) (by kernel_rfl) (.cons (.tmp (by kernel_rfl)) .nil) (fun w hw => (Sat.less (.drop .here (.drop .here (.drop .here (.drop .here (.drop .here (.drop .here (.drop .here .refl))))))) hw)) ?_
       exact ⟨rfl, rfl⟩
      ·replace H := bifF H h5
       refine sr 64 (.bool false) (run_eq (v := .bool (y9_12)) (fun _ => by kernel_rfl) (congrArg Value.bool h5)) ?_
       refine sa 65 ?_
       refine sa 66 ?_
       refine sa 67 ?_
       refine sp 68 (.bool false) ?_
       refine sp 0 (.bool false) ?_
       refine ops_end ?_
       refine ae [(0, .bool false)] ?_
       refine at_then_normal ?_
       refine at_ret (by kernel_rfl) ?_
       obtain rfl := someE H
       refine at_backR [.bool false] (Γ) (rs := [.tmp 0]) (by kernel_rfl) (.cons (.tmp (by kernel_rfl)) .nil) (fun w hw => (Sat.less (.drop .here (.drop .here (.drop .here (.drop .here (.drop .here (.drop .here (.drop .here .refl))))))) hw)) ?_
       exact ⟨rfl, rfl⟩
     ·replace H := bifF H h4
      refine sr 59 (.bool false) (run_eq (v := .bool (y8_1.2)) (fun _ => by kernel_rfl) (congrArg Value.bool h4)) ?_
      refine sa 60 ?_
      refine sa 61 ?_
      refine sa 62 ?_
      refine sp 63 (.bool false) ?_
      refine sp 64 (.bool false) ?_
      refine sa 65 ?_
      refine sa 66 ?_
      refine sa 67 ?_
      refine sp 68 (.bool false) ?_
      refine sp 0 (.bool false) ?_
      refine ops_end ?_
      refine ae [(0, .bool false)] ?_
      refine at_then_normal ?_
      refine at_ret (by kernel_rfl) ?_
      obtain rfl := someE H
      refine at_backR [.bool false] (Γ) (rs := [.tmp 0]) (by kernel_rfl) (.cons (.tmp (by kernel_rfl)) .nil) (fun w hw => (Sat.less (.drop .here (.drop .here (.drop .here (.drop .here (.drop .here (.drop .here (.drop .here .refl))))))) hw)) ?_
      exact ⟨rfl, rfl⟩
    ·replace H := bifF H h3
     refine sr 56 (.bool false) (run_eq (v := .bool (decide (y7_3.1.step = (0 : Int)))) (fun _ => by kernel_rfl) (congrArg Value.bool h3)) ?_
     refine sa 57 ?_
     refine sp 58 (.bool false) ?_
     refine sp 59 (.bool false) ?_
     refine sa 60 ?_
     refine sa 61 ?_
     refine sa 62 ?_
     refine sp 63 (.bool false) ?_
     refine sp 64 (.bool false) ?_
     refine sa 65 ?_
     refine sa 66 ?_
     refine sa 67 ?_
     refine sp 68 (.bool false) ?_
     refine sp 0 (.bool false) ?_
     refine ops_end ?_
     refine ae [(0, .bool false)] ?_
     refine at_then_normal ?_
     refine at_ret (by kernel_rfl) ?_
     obtain rfl := someE H
     refine at_backR [.bool false] (Γ) (rs := [.tmp 0]) (by kernel_rfl) (.cons (.tmp (by kernel_rfl)) .nil) (fun w hw => (Sat.less (.drop .here (.drop .here (.drop .here (.drop .here (.drop .here (.drop .here (.drop .here .refl))))))) hw)) ?_
     exact ⟨rfl, rfl⟩
   ·replace H := bifF H h2
    refine sr 51 (.bool false) (run_eq (v := .bool (y7_3.2.1)) (fun _ => by kernel_rfl) (congrArg Value.bool h2)) ?_
    refine sa 52 ?_
    refine sa 53 ?_
    refine sa 54 ?_
    refine sp 55 (.bool false) ?_
    refine sp 56 (.bool false) ?_
    refine sa 57 ?_
    refine sp 58 (.bool false) ?_
    refine sp 59 (.bool false) ?_
    refine sa 60 ?_
    refine sa 61 ?_
    refine sa 62 ?_
    refine sp 63 (.bool false) ?_
    refine sp 64 (.bool false) ?_
    refine sa 65 ?_
    refine sa 66 ?_
    refine sa 67 ?_
    refine sp 68 (.bool false) ?_
    refine sp 0 (.bool false) ?_
    refine ops_end ?_
    refine ae [(0, .bool false)] ?_
    refine at_then_normal ?_
    refine at_ret (by kernel_rfl) ?_
    obtain rfl := someE H
    refine at_backR [.bool false] (Γ) (rs := [.tmp 0]) (by kernel_rfl) (.cons (.tmp (by kernel_rfl)) .nil) (fun w hw => (Sat.less (.drop .here (.drop .here (.drop .here (.drop .here (.drop .here (.drop .here (.drop .here .refl))))))) hw)) ?_
    exact ⟨rfl, rfl⟩
 ·refine ar (id := 5) 17 ?_
  refine sp 21 (.bool y4_4.2.1) ?_
  refine sp 22 (.bool !y4_4.2.1) ?_
  rcases Bool.eq_false_or_eq_true (!y4_4.2.1) with h6 | h6
  ·replace H := bifT H h6
   refine sr 23 (.bool true) (run_eq (v := .bool (!y4_4.2.1)) (fun _ => by kernel_rfl) (congrArg Value.bool h6)) ?_
   refine sa 24 ?_
   refine sa 25 ?_
   refine sa 26 ?_
   refine sp 27 (.bool true) ?_
   refine sp 28 (.bool true) ?_
   refine sa 29 ?_
   refine sa 30 ?_
   refine sa 31 ?_
   refine sp 32 (.bool true) ?_
   refine sp 33 (.bool true) ?_
   refine sa 34 ?_
   refine sa 35 ?_
   refine sa 36 ?_
   refine sp 37 (.bool true) ?_
   refine ops_end ?_
   refine ae [(1, .pointer (some ⟨b1_0_0, 0, none⟩)), (3, .pointer (some ⟨b4_8, 0, none⟩)), (37, .bool true)] ?_
   refine at_round_normal ?_
   exact at_join_mk [(1, .pointer (some ⟨b1_0_0, 0, none⟩)), (3, .pointer (some ⟨b4_8, 0, none⟩)), (37, .bool true)] ((Asn.own b4_8 (.cells #[.int .i64 y4_4.1.kind, .int .i64 y4_4.1.line, .int .i64 y4_4.1.id, .int .i64 y4_4.1.step, .int .i64 y4_4.1.state, .int .i64 y4_4.1.head, .slice a4_4_00 (List.length y4_4.1.data) c4_4_00, .int .i64 y4_4.1.next, .int .i64 y4_4.1.told] 29 (0, 0))) :: (ImmI a4_4_00 y4_4.1.data) :: (CacheA b1_0_0 y4_4.2.2) :: (RChA b1_0_1 y1_0.2) :: Γ) ⟨by kernel_rfl, by kernel_rfl, by kernel_rfl, trivial⟩ (fun w hw => (Sat.less (.take .here (.take .here (.take .here (.take (.there (.there .here)) (.drop .here (.drop .here .refl)))))) hw)) ⟨true, H, rfl, rfl⟩
  ·replace H := bifF H h6
   refine sr 23 (.bool false) (run_eq (v := .bool (!y4_4.2.1)) (fun _ => by kernel_rfl) (congrArg Value.bool h6)) ?_
   refine sp 24 (.pointer (some ⟨b4_8, 3, none⟩)) ?_
   refine sl 25 (.int .i64 y4_4.1.step) (load1 (off := 3) (fun _ => by kernel_rfl) (holds_own .here) (by kernel_rfl)) ?_
   refine sp 26 (.bool (!(decide (y4_4.1.step = (6 : Int))))) ?_
   refine sp 27 (.bool (!(decide (y4_4.1.step = (6 : Int))))) ?_
   rcases Bool.eq_false_or_eq_true (!(decide (y4_4.1.step = (6 : Int)))) with h7 | h7
   ·replace H := bifT H h7
    refine sr 28 (.bool true) (run_eq (v := .bool (!(decide (y4_4.1.step = (6 : Int))))) (fun _ => by kernel_rfl) (congrArg Value.bool h7)) ?_
    refine sa 29 ?_
    refine sa 30 ?_
    refine sa 31 ?_
    refine sp 32 (.bool true) ?_
    refine sp 33 (.bool true) ?_
    refine sa 34 ?_
    refine sa 35 ?_
    refine sa 36 ?_
    refine sp 37 (.bool true) ?_
    refine ops_end ?_
    refine ae [(1, .pointer (some ⟨b1_0_0, 0, none⟩)), (3, .pointer (some ⟨b4_8, 0, none⟩)), (37, .bool true)] ?_
    refine at_round_normal ?_
    exact at_join_mk [(1, .pointer (some ⟨b1_0_0, 0, none⟩)), (3, .pointer (some ⟨b4_8, 0, none⟩)), (37, .bool true)] ((Asn.own b4_8 (.cells #[.int .i64 y4_4.1.kind, .int .i64 y4_4.1.line, .int .i64 y4_4.1.id, .int .i64 y4_4.1.step, .int .i64 y4_4.1.state, .int .i64 y4_4.1.head, .slice a4_4_00 (List.length y4_4.1.data) c4_4_00, .int .i64 y4_4.1.next, .int .i64 y4_4.1.told] 29 (0, 0))) :: (ImmI a4_4_00 y4_4.1.data) :: (CacheA b1_0_0 y4_4.2.2) :: (RChA b1_0_1 y1_0.2) :: Γ) ⟨by kernel_rfl, by kernel_rfl, by kernel_rfl, trivial⟩ (fun w hw => (Sat.less (.take .here (.take .here (.take .here (.take (.there (.there .here)) (.drop .here (.drop .here .refl)))))) hw)) ⟨true, H, rfl, rfl⟩
   ·replace H := bifF H h7
    refine sr 28 (.bool false) (run_eq (v := .bool (!(decide (y4_4.1.step = (6 : Int))))) (fun _ => by kernel_rfl) (congrArg Value.bool h7)) ?_
    refine sp 29 (.pointer (some ⟨b4_8, 5, none⟩)) ?_
    refine sl 30 (.int .i64 y4_4.1.head) (load1 (off := 5) (fun _ => by kernel_rfl) (holds_own .here) (by kernel_rfl)) ?_
    refine sp 31 (.bool (!(decide (y4_4.1.head = (2 : Int))))) ?_
    refine sp 32 (.bool (!(decide (y4_4.1.head = (2 : Int))))) ?_
    rcases Bool.eq_false_or_eq_true (!(decide (y4_4.1.head = (2 : Int)))) with h8 | h8
    ·replace H := bifT H h8
     refine sr 33 (.bool true) (run_eq (v := .bool (!(decide (y4_4.1.head = (2 : Int))))) (fun _ => by kernel_rfl) (congrArg Value.bool h8)) ?_
     refine sa 34 ?_
     refine sa 35 ?_
     refine sa 36 ?_
     refine sp 37 (.bool true) ?_
     refine ops_end ?_
     refine ae [(1, .pointer (some ⟨b1_0_0, 0, none⟩)), (3, .pointer (some ⟨b4_8, 0, none⟩)), (37, .bool true)] ?_
     refine at_round_normal ?_
     exact at_join_mk [(1, .pointer (some ⟨b1_0_0, 0, none⟩)), (3, .pointer (some ⟨b4_8, 0, none⟩)), (37, .bool true)] ((Asn.own b4_8 (.cells #[.int .i64 y4_4.1.kind, .int .i64 y4_4.1.line, .int .i64 y4_4.1.id, .int .i64 y4_4.1.step, .int .i64 y4_4.1.state, .int .i64 y4_4.1.head, .slice a4_4_00 (List.length y4_4.1.data) c4_4_00, .int .i64 y4_4.1.next, .int .i64 y4_4.1.told] 29 (0, 0))) :: (ImmI a4_4_00 y4_4.1.data) :: (CacheA b1_0_0 y4_4.2.2) :: (RChA b1_0_1 y1_0.2) :: Γ) ⟨by kernel_rfl, by kernel_rfl, by kernel_rfl, trivial⟩ (fun w hw => (Sat.less (.take .here (.take .here (.take .here (.take (.there (.there .here)) (.drop .here (.drop .here .refl)))))) hw)) ⟨true, H, rfl, rfl⟩
    ·replace H := bifF H h8
     refine sr 33 (.bool false) (run_eq (v := .bool (!(decide (y4_4.1.head = (2 : Int))))) (fun _ => by kernel_rfl) (congrArg Value.bool h8)) ?_
     refine sp 34 (.pointer (some ⟨b4_8, 4, none⟩)) ?_
     refine sl 35 (.int .i64 y4_4.1.state) (load1 (off := 4) (fun _ => by kernel_rfl) (holds_own .here) (by kernel_rfl)) ?_
     refine sp 36 (.bool (!(decide (y4_4.1.state = (1 : Int))))) ?_
     refine sp 37 (.bool (!(decide (y4_4.1.state = (1 : Int))))) ?_
     refine ops_end ?_
     refine ae [(1, .pointer (some ⟨b1_0_0, 0, none⟩)), (3, .pointer (some ⟨b4_8, 0, none⟩)), (37, .bool (!(decide (y4_4.1.state = (1 : Int)))))] ?_
     refine at_round_normal ?_
     exact at_join_mk [(1, .pointer (some ⟨b1_0_0, 0, none⟩)), (3, .pointer (some ⟨b4_8, 0, none⟩)), (37, .bool (!(decide (y4_4.1.state = (1 : Int)))))] ((Asn.own b4_8 (.cells #[.int .i64 y4_4.1.kind, .int .i64 y4_4.1.line, .int .i64 y4_4.1.id, .int .i64 y4_4.1.step, .int .i64 y4_4.1.state, .int .i64 y4_4.1.head, .slice a4_4_00 (List.length y4_4.1.data) c4_4_00, .int .i64 y4_4.1.next, .int .i64 y4_4.1.told] 29 (0, 0))) :: (ImmI a4_4_00 y4_4.1.data) :: (CacheA b1_0_0 y4_4.2.2) :: (RChA b1_0_1 y1_0.2) :: Γ) ⟨by kernel_rfl, by kernel_rfl, by kernel_rfl, trivial⟩ (fun w hw => (Sat.less (.take .here (.take .here (.take .here (.take (.there (.there .here)) (.drop .here (.drop .here .refl)))))) hw)) ⟨!(decide (y4_4.1.state = (1 : Int))), H, rfl, rfl⟩
def attachOtherS_k1 (y1_3 : CacheS × CacheS) (e1_98 : Int) (e1_b1_3_0 : CacheS) : Option (Bool) :=
 (sameCS e1_b1_3_0 y1_3.2).bind fun y25_2 => (bif y25_2 then (wakes14S).bind fun y25_4 => some y25_4 else some false)
def attachOtherS_l1 (l16_0 : List Int) (y5_0 : DealS) (l6_0 : List Int) (y6_2 : Int) (y8_7 : Option Int) (k1 : Int → CacheS → Option (Bool)) : Nat → Int → CacheS → Option (Bool)
 | 0 => fun _ _ => none
 | m + 1 => fun v1_98 v1_b1_3_0 => (bif decide (v1_98 < (((List.length l16_0) : Nat) : Int)) then chk (0 ≤ v1_98 ∧ v1_98 < ((l16_0.length : Nat) : Int)) ((anextS (⟨nth l16_0 v1_98, y5_0.line, y5_0.id, nth l6_0 y6_2, y5_0.state, 0, y5_0.data, y5_0.next, y5_0.told⟩ : DealS) (2 : Int) v1_b1_3_0 (⟨y8_7.getD (0 : Int), 0, 0, 3, 1, 0, 0, false, ([] : List Int)⟩ : PktS)).bind fun y21_4 => (bif y21_4.2.1 then some false else chk (inR (v1_98 + (1 : Int))) ((attachOtherS_l1 l16_0 y5_0 l6_0 y6_2 y8_7 k1 m) (v1_98 + (1 : Int)) y21_4.2.2))) else k1 v1_98 v1_b1_3_0)
def attachOtherS_j2 (v0_64 : Int) (r0 : Int → CacheS → Option (Bool)) (e2_b1_3_0 : CacheS) : Option (Bool) :=
 chk (inR (v0_64 + (1 : Int))) (r0 (v0_64 + (1 : Int)) e2_b1_3_0)
def attachOtherS_j3 (v0_64 : Int) (r0 : Int → CacheS → Option (Bool)) (y12_3 : DealS × Bool × CacheS) (e3_94 : Bool) : Option (Bool) :=
 (bif e3_94 then some false else attachOtherS_j2 v0_64 r0 y12_3.2.2)
def attachOtherS_k0 (y5_0 : DealS) (l6_0 : List Int) (y6_2 : Int) (y8_7 : Option Int) (y1_3 : CacheS × CacheS) (e0_64 : Int) (e0_b1_3_0 : CacheS) : Option (Bool) :=
 letP ([0, 2, 3, 4] : List Int) fun l16_0 => attachOtherS_l1 l16_0 y5_0 l6_0 y6_2 y8_7 (attachOtherS_k1 y1_3) 64 0 e0_b1_3_0
def attachOtherS_l0 (l9_13 : List PktS) (y5_0 : DealS) (l6_0 : List Int) (y6_2 : Int) (y8_7 : Option Int) (k0 : Int → CacheS → Option (Bool)) : Nat → Int → CacheS → Option (Bool)
 | 0 => fun _ _ => none
 | m + 1 => fun v0_64 v0_b1_3_0 => (bif decide (v0_64 < (((List.length l9_13) : Nat) : Int)) then chk (0 ≤ v0_64 ∧ v0_64 < ((List.length l9_13 : Nat) : Int)) (letP (nthT l9_13 v0_64) fun x11_1 => (anextS (⟨y5_0.kind, y5_0.line, y5_0.id, nth l6_0 y6_2, y5_0.state, 0, y5_0.data, y5_0.next, y5_0.told⟩ : DealS) (2 : Int) v0_b1_3_0 x11_1).bind fun y12_3 => (bif y12_3.2.1 then (bif !(decide (x11_1.kind = (y8_7.getD (0 : Int)))) then attachOtherS_j3 v0_64 (attachOtherS_l0 l9_13 y5_0 l6_0 y6_2 y8_7 k0 m) y12_3 true else (bif y12_3.2.1 then (bif !(decide (x11_1.id = (3 : Int))) then attachOtherS_j3 v0_64 (attachOtherS_l0 l9_13 y5_0 l6_0 y6_2 y8_7 k0 m) y12_3 true else attachOtherS_j3 v0_64 (attachOtherS_l0 l9_13 y5_0 l6_0 y6_2 y8_7 k0 m) y12_3 (!(decide (x11_1.line = (1 : Int))))) else attachOtherS_j3 v0_64 (attachOtherS_l0 l9_13 y5_0 l6_0 y6_2 y8_7 k0 m) y12_3 false)) else (bif y12_3.2.1 then (bif !(decide (x11_1.id = (3 : Int))) then attachOtherS_j3 v0_64 (attachOtherS_l0 l9_13 y5_0 l6_0 y6_2 y8_7 k0 m) y12_3 true else attachOtherS_j3 v0_64 (attachOtherS_l0 l9_13 y5_0 l6_0 y6_2 y8_7 k0 m) y12_3 (!(decide (x11_1.line = (1 : Int))))) else attachOtherS_j3 v0_64 (attachOtherS_l0 l9_13 y5_0 l6_0 y6_2 y8_7 k0 m) y12_3 false))) else k0 v0_64 v0_b1_3_0)
def attachOtherS (lines : List Int) (links : List Int) (data : List Int) (step : Int) (n : Int) : Option (Bool) :=
 (bothS lines links data).bind fun y1_3 => (withinS n (50 : Int)).bind fun y4_1 => (dbeginS (1 : Int) (1 : Int) (3 : Int)).bind fun y5_0 => letP ([1, 2, 6] : List Int) fun l6_0 => (withinS step (3 : Int)).bind fun y6_2 => chk (0 ≤ y6_2 ∧ y6_2 < ((l6_0.length : Nat) : Int)) (letP (mset ([] : List (Int × Int)) (1 : Int) (7 : Int)) fun m8_1 => letP (mset m8_1 (2 : Int) (9 : Int)) fun m8_2 => letP (mset m8_2 (6 : Int) (8 : Int)) fun m8_3 => letP (mget m8_3 (nth l6_0 y6_2)) fun y8_7 => letP (wr (((y8_7.getD (0 : Int)).tmod (3 : Int)) + (7 : Int))) fun u9_11 => letP ([(⟨y8_7.getD (0 : Int), 0, 0, wr ((3 : Int) + (wr ((1 : Int) + y4_1))), 1, 0, 0, false, ([] : List Int)⟩ : PktS), (⟨y8_7.getD (0 : Int), 0, 0, 3, wr ((1 : Int) + (wr ((1 : Int) + y4_1))), 0, 0, false, ([] : List Int)⟩ : PktS), (⟨1, 0, 0, 3, 1, 0, 0, false, ([] : List Int)⟩ : PktS), (⟨u9_11, 0, 0, 3, 1, 0, 0, false, ([] : List Int)⟩ : PktS)] : List PktS) fun l9_13 => attachOtherS_l0 l9_13 y5_0 l6_0 y6_2 y8_7 (attachOtherS_k0 y5_0 l6_0 y6_2 y8_7 y1_3) 64 0 y1_3.1)
noncomputable def C3 (p : List Nat) : Code := codeAt (bodyOf Try.f3) p
set_option maxRecDepth 100000 in
set_option maxHeartbeats 8000000 in
theorem AttachOtherF_tr {W0 : World} {Γ : List Asn} (linesa : Option Addr) (linescap : Nat) (lines : List Int) (linksa : Option Addr) (linkscap : Nat) (links : List Int) (dataa : Option Addr) (datacap : Nat) (data : List Int) (step : Int) (n : Int) (hrlinesa : Reads W0 Γ linesa (ints lines)) (hrlinksa : Reads W0 Γ linksa (ints links)) (hrdataa : Reads W0 Γ dataa (ints data)) (hcdataa : data.length ≤ datacap) (y : Bool) (H : attachOtherS lines links data step n = some y) : Tr Try.prog 3 #[.slice linesa (List.length lines) linescap, .slice linksa (List.length links) linkscap, .slice dataa (List.length data) datacap, .int .i64 step, .int .i64 n] W0 (Γ) (fun r Δ => r = .bool y ∧ Δ = Γ) := by
 unfold attachOtherS at H
 refine Tr.enter (fn := Try.f3) (c := C3 []) (args := [.slice linesa (List.length lines) linescap, .slice linksa (List.length links) linkscap, .slice dataa (List.length data) datacap, .int .i64 step, .int .i64 n]) 121 Try.func3 (by kernel_rfl) (by kernel_rfl) ?_
 refine ae [(0, .slice linesa (List.length lines) linescap), (1, .slice linksa (List.length links) linkscap), (2, .slice dataa (List.length data) datacap), (3, .int .i64 step), (4, .int .i64 n)] ?_
 refine aq (x := C3 [0]) (y := C3 [1]) ?_
 refine ar (id := 0) 1 ?_
 refine sp 10 (.bool false) ?_
 refine ops_end ?_
 refine ae [(0, .slice linesa (List.length lines) linescap), (1, .slice linksa (List.length links) linkscap), (2, .slice dataa (List.length data) datacap), (3, .int .i64 step), (4, .int .i64 n)] ?_
 refine at_then_normal ?_
 refine aq (x := C3 [1,0]) (y := C3 [1,1]) ?_
 refine ar (id := 1) 9 ?_
 refine sp 25 (.slice linesa (List.length lines) linescap) ?_
 refine sp 26 (.slice linksa (List.length links) linkscap) ?_
 refine sp 27 (.slice dataa (List.length data) datacap) ?_
 obtain ⟨y1_3, hy1_3, H⟩ := bindE H
 refine s_call 28 7 #[.slice linesa (List.length lines) linescap, .slice linksa (List.length links) linkscap, .slice dataa (List.length data) datacap] (by kernel_rfl) (by kernel_rfl) (fun _ => by kernel_rfl) (BothF_tr linesa linescap lines linksa linkscap links dataa datacap data (Reads.conv (fun w hw => hw.less .refl) hrlinesa) (Reads.conv (fun w hw => hw.less .refl) hrlinksa) (Reads.conv (fun w hw => hw.less .refl) hrdataa) hcdataa y1_3 hy1_3) ?_
 rintro _ _ ⟨b1_3_0, b1_3_1, rfl, rfl⟩
 refine sp 24 (.tuple #[.pointer (some ⟨b1_3_0, 0, none⟩), .pointer (some ⟨b1_3_1, 0, none⟩)]) ?_
 refine sp 29 (.pointer (some ⟨b1_3_0, 0, none⟩)) ?_
 refine sp 30 (.pointer (some ⟨b1_3_1, 0, none⟩)) ?_
 refine sp 11 (.pointer (some ⟨b1_3_0, 0, none⟩)) ?_
 refine sp 12 (.pointer (some ⟨b1_3_1, 0, none⟩)) ?_
 refine ops_end ?_
 refine ae [(3, .int .i64 step), (4, .int .i64 n), (11, .pointer (some ⟨b1_3_0, 0, none⟩)), (12, .pointer (some ⟨b1_3_1, 0, none⟩))] ?_
 refine at_then_normal ?_
 refine aq (x := C3 [1,1,0]) (y := C3 [1,1,1]) ?_
 refine aq (x := C3 [1,1,0,0]) (y := C3 [1,1,0,1]) ?_
 refine ar (id := 2) 2 ?_
 refine sp 31 (.pointer (some ⟨b1_3_0, 0, none⟩)) ?_
 refine sp 32 (.bool false) ?_
 refine ops_end ?_
 refine ae [(3, .int .i64 step), (4, .int .i64 n), (11, .pointer (some ⟨b1_3_0, 0, none⟩)), (12, .pointer (some ⟨b1_3_1, 0, none⟩)), (32, .bool false)] ?_
 refine at_then_normal ?_
 refine at_false (t := false) (x := C3 [1,1,0,1,0]) (y := C3 [1,1,0,1,1]) (o := .tmp 32) (by kernel_rfl) (by kernel_rfl) (by kernel_rfl) rfl ?_
 refine at_skip (by kernel_rfl) ?_
 refine at_then_normal ?_
 refine aq (x := C3 [1,1,1,0]) (y := C3 [1,1,1,1]) ?_
 refine ar (id := 4) 4 ?_
 refine sp 33 (.int .i64 n) ?_
 obtain ⟨y4_1, hy4_1, H⟩ := bindE H
 refine s_quiet 34 (.int .i64 y4_1) 8 #[.int .i64 n, .int .i64 (50)] (by kernel_rfl) (by kernel_rfl) (fun _ => by kernel_rfl) (WithinF_tr n (50 : Int) y4_1 hy4_1) ?_
 refine sp 35 (.int .i64 (wr ((1 : Int) + y4_1))) ?_
 refine sp 4 (.int .i64 (wr ((1 : Int) + y4_1))) ?_
 refine ops_end ?_
 refine ae [(3, .int .i64 step), (4, .int .i64 (wr ((1 : Int) + y4_1))), (11, .pointer (some ⟨b1_3_0, 0, none⟩)), (12, .pointer (some ⟨b1_3_1, 0, none⟩))] ?_
 refine at_then_normal ?_
 refine aq (x := C3 [1,1,1,1,0]) (y := C3 [1,1,1,1,1]) ?_
 refine ar (id := 5) 3 ?_
 obtain ⟨y5_0, hy5_0, H⟩ := bindE H
 refine s_call 36 9 #[.int .i64 (1), .int .i64 (1), .int .i64 (3)] (by kernel_rfl) (by kernel_rfl) (fun _ => by kernel_rfl) (DBeginF_tr (1 : Int) (1 : Int) (3 : Int) y5_0 hy5_0) ?_
 rintro _ _ ⟨a5_0_00, c5_0_00, rfl, rfl⟩
 refine s_step 13 (by kernel_rfl) (by kernel_rfl) (st_new (T := 29) (cells := #[.int .i64 (0), .int .i64 (0), .int .i64 (0), .int .i64 (0), .int .i64 (0), .int .i64 (0), .slice none 0 0, .int .i64 (0), .int .i64 (0)]) (fun a => .pointer (some a)) (fun _ => by kernel_rfl)) ?_
 rintro _ _ ⟨b5_1, rfl, rfl⟩
 refine s_do (by kernel_rfl) (by kernel_rfl) (st_store (off := 0) (vs := [.int .i64 y5_0.kind, .int .i64 y5_0.line, .int .i64 y5_0.id, .int .i64 y5_0.step, .int .i64 y5_0.state, .int .i64 y5_0.head, .slice a5_0_00 (List.length y5_0.data) c5_0_00, .int .i64 y5_0.next, .int .i64 y5_0.told]) (c' := #[.int .i64 y5_0.kind, .int .i64 y5_0.line, .int .i64 y5_0.id, .int .i64 y5_0.step, .int .i64 y5_0.state, .int .i64 y5_0.head, .slice a5_0_00 (List.length y5_0.data) c5_0_00, .int .i64 y5_0.next, .int .i64 y5_0.told]) (fun _ => by kernel_rfl) .here (by kernel_rfl) (by kernel_rfl) (by kernel_rfl)) ?_
 rintro _ _ ⟨rfl, rfl⟩
 refine ops_end ?_
 refine ae [(3, .int .i64 step), (4, .int .i64 (wr ((1 : Int) + y4_1))), (11, .pointer (some ⟨b1_3_0, 0, none⟩)), (12, .pointer (some ⟨b1_3_1, 0, none⟩)), (13, .pointer (some ⟨b5_1, 0, none⟩))] ?_
 refine at_then_normal ?_
 refine aq (x := C3 [1,1,1,1,1,0]) (y := C3 [1,1,1,1,1,1]) ?_
 refine ar (id := 6) 7 ?_
 obtain ⟨l6_0, hl6_0, H⟩ := letE H
 refine s_step 37 (by kernel_rfl) (by kernel_rfl) (st_new_ints (T := 3) (xs := l6_0) 3 hl6_0 (fun _ => by kernel_rfl) (by kernel_rfl)) ?_
 rintro _ _ ⟨b6_0, rfl, rfl⟩
 refine sp 38 (.int .i64 step) ?_
 obtain ⟨y6_2, hy6_2, H⟩ := bindE H
 refine s_quiet 39 (.int .i64 y6_2) 8 #[.int .i64 step, .int .i64 (3)] (by kernel_rfl) (by kernel_rfl) (fun _ => by kernel_rfl) (WithinF_tr step (3 : Int) y6_2 hy6_2) ?_
 obtain ⟨hc6_3_0, H⟩ := chkE H
 refine rows_at .here (by have := hc6_3_0; simp only [ints_length]; omega) ?_
 intro bb1 oo1 ha1
 refine sr 40 (.pointer (some ⟨bb1, oo1 + ((y6_2).toNat * 1 + 0), none⟩)) (index_at (t := 22) (sz := 1) (E := 3) (a := some ⟨b6_0, 0, none⟩) (m := (List.length l6_0)) (c := 3) (b := bb1) (off := oo1) (i := (y6_2).toNat) (tinfo 3) (fun _ => by kernel_rfl) (by kernel_rfl) (by kernel_rfl) (by kernel_rfl) ha1 (idx_cast hc6_3_0) (idx_nat hc6_3_0) rfl) ?_
 refine sl 41 (.int .i64 (nth l6_0 y6_2)) (load1_at (off := oo1 + ((y6_2).toNat * 1 + 0)) (v := .int .i64 (nth l6_0 y6_2)) (fun _ => by kernel_rfl) rfl (reads_cell (k := 1) (RowsA.reads (k := 1) .here) (ints_rows _) ha1 (nth_row hc6_3_0) (show [(.int .i64 (nth l6_0 y6_2) : Value)][0]? = some _ from rfl))) ?_
 refine sp 42 (.pointer (some ⟨b5_1, 3, none⟩)) ?_
 refine s_do (by kernel_rfl) (by kernel_rfl) (st_store (off := 3) (vs := [.int .i64 (nth l6_0 y6_2)]) (c' := #[.int .i64 y5_0.kind, .int .i64 y5_0.line, .int .i64 y5_0.id, .int .i64 (nth l6_0 y6_2), .int .i64 y5_0.state, .int .i64 y5_0.head, .slice a5_0_00 (List.length y5_0.data) c5_0_00, .int .i64 y5_0.next, .int .i64 y5_0.told]) (fun _ => by kernel_rfl) (.there .here) (by kernel_rfl) (by kernel_rfl) (by kernel_rfl)) ?_
 rintro _ _ ⟨rfl, rfl⟩
 refine ops_end ?_
 refine ae [(4, .int .i64 (wr ((1 : Int) + y4_1))), (11, .pointer (some ⟨b1_3_0, 0, none⟩)), (12, .pointer (some ⟨b1_3_1, 0, none⟩)), (13, .pointer (some ⟨b5_1, 0, none⟩))] ?_
 refine at_then_normal ?_
 refine aq (x := C3 [1,1,1,1,1,1,0]) (y := C3 [1,1,1,1,1,1,1]) ?_
 refine ar (id := 7) 2 ?_
 refine sp 43 (.pointer (some ⟨b5_1, 5, none⟩)) ?_
 refine s_do (by kernel_rfl) (by kernel_rfl) (st_store (off := 5) (vs := [.int .i64 (0)]) (c' := #[.int .i64 y5_0.kind, .int .i64 y5_0.line, .int .i64 y5_0.id, .int .i64 (nth l6_0 y6_2), .int .i64 y5_0.state, .int .i64 (0), .slice a5_0_00 (List.length y5_0.data) c5_0_00, .int .i64 y5_0.next, .int .i64 y5_0.told]) (fun _ => by kernel_rfl) .here (by kernel_rfl) (by kernel_rfl) (by kernel_rfl)) ?_
 rintro _ _ ⟨rfl, rfl⟩
 refine ops_end ?_
 refine ae [(4, .int .i64 (wr ((1 : Int) + y4_1))), (11, .pointer (some ⟨b1_3_0, 0, none⟩)), (12, .pointer (some ⟨b1_3_1, 0, none⟩)), (13, .pointer (some ⟨b5_1, 0, none⟩))] ?_
 refine at_then_normal ?_
 refine aq (x := C3 [1,1,1,1,1,1,1,0]) (y := C3 [1,1,1,1,1,1,1,1]) ?_
 refine ar (id := 8) 9 ?_
 refine s_step 44 (by kernel_rfl) (by kernel_rfl) (st_kmap_make (t := 31) (fun _ => by kernel_rfl)) ?_
 rintro _ _ ⟨m8_0, rfl, rfl⟩
 refine At.conv (Γ' := (VMapA (Value.int .i64) m8_0 ([] : List (Int × Int))) :: (Asn.own b5_1 (.cells #[.int .i64 y5_0.kind, .int .i64 y5_0.line, .int .i64 y5_0.id, .int .i64 (nth l6_0 y6_2), .int .i64 y5_0.state, .int .i64 (0), .slice a5_0_00 (List.length y5_0.data) c5_0_00, .int .i64 y5_0.next, .int .i64 y5_0.told] 29 (0, 0))) :: (IntsA (some ⟨b6_0, 0, none⟩) 3 l6_0) :: (ImmI a5_0_00 y5_0.data) :: (CacheA b1_3_0 y1_3.1) :: (RChA b1_3_1 y1_3.2) :: Γ) (fun w hw => hw) ?_
 obtain ⟨m8_1, hm8_1, H⟩ := letE H
 refine s_do (by kernel_rfl) (by kernel_rfl) (st_vset (f := (Value.int .i64)) (x := (7 : Int)) (t := 31) (K := 3) (V := 3) (ik := .i64) (k := 1) (fun _ => by kernel_rfl) (by kernel_rfl) (by kernel_rfl) .here) ?_
 rintro _ _ ⟨rfl, rfl⟩
 rw [hm8_1]
 obtain ⟨m8_2, hm8_2, H⟩ := letE H
 refine s_do (by kernel_rfl) (by kernel_rfl) (st_vset (f := (Value.int .i64)) (x := (9 : Int)) (t := 31) (K := 3) (V := 3) (ik := .i64) (k := 2) (fun _ => by kernel_rfl) (by kernel_rfl) (by kernel_rfl) .here) ?_
 rintro _ _ ⟨rfl, rfl⟩
 rw [hm8_2]
 obtain ⟨m8_3, hm8_3, H⟩ := letE H
 refine s_do (by kernel_rfl) (by kernel_rfl) (st_vset (f := (Value.int .i64)) (x := (8 : Int)) (t := 31) (K := 3) (V := 3) (ik := .i64) (k := 6) (fun _ => by kernel_rfl) (by kernel_rfl) (by kernel_rfl) .here) ?_
 rintro _ _ ⟨rfl, rfl⟩
 rw [hm8_3]
 refine sp 45 (.map (some m8_0)) ?_
 refine sp 46 (.pointer (some ⟨b5_1, 3, none⟩)) ?_
 refine sl 47 (.int .i64 (nth l6_0 y6_2)) (load1 (off := 3) (fun _ => by kernel_rfl) (holds_own (.there .here)) (by kernel_rfl)) ?_
 obtain ⟨y8_7, hy8_7, H⟩ := letE H
 refine sl 48 (.int .i64 (y8_7.getD (0 : Int))) (vmap_lookup1 (f := (Value.int .i64)) (0 : Int) (t := 31) (K := 3) (V := 3) (ik := .i64) (k := nth l6_0 y6_2) (info := tinfo 3) hy8_7 (fun _ => by kernel_rfl) (by kernel_rfl) (by kernel_rfl) (by kernel_rfl) (by kernel_rfl) .here) ?_
 refine sp 14 (.int .i64 (y8_7.getD (0 : Int))) ?_
 refine ops_end ?_
 refine ae [(4, .int .i64 (wr ((1 : Int) + y4_1))), (11, .pointer (some ⟨b1_3_0, 0, none⟩)), (12, .pointer (some ⟨b1_3_1, 0, none⟩)), (13, .pointer (some ⟨b5_1, 0, none⟩)), (14, .int .i64 (y8_7.getD (0 : Int)))] ?_
 refine at_then_normal ?_
 refine aq (x := C3 [1,1,1,1,1,1,1,1,0]) (y := C3 [1,1,1,1,1,1,1,1,1]) ?_
 refine aq (x := C3 [1,1,1,1,1,1,1,1,0,0]) (y := C3 [1,1,1,1,1,1,1,1,0,1]) ?_
 refine ar (id := 9) 16 ?_
 refine sp 49 (.int .i64 (y8_7.getD (0 : Int))) ?_
 refine sp 50 (.int .i64 (wr ((1 : Int) + y4_1))) ?_
 refine sp 51 (.int .i64 (wr ((3 : Int) + (wr ((1 : Int) + y4_1))))) ?_
 refine sp 52 (.agg #[.int .i64 (y8_7.getD (0 : Int)), .int .i64 (0), .int .i64 (0), .int .i64 (wr ((3 : Int) + (wr ((1 : Int) + y4_1)))), .int .i64 (1), .int .i64 (0), .int .i64 (0), .bool false, .slice none 0 0]) ?_
 refine sp 53 (.int .i64 (y8_7.getD (0 : Int))) ?_
 refine sp 54 (.int .i64 (wr ((1 : Int) + y4_1))) ?_
 refine sp 55 (.int .i64 (wr ((1 : Int) + (wr ((1 : Int) + y4_1))))) ?_
 refine sp 56 (.agg #[.int .i64 (y8_7.getD (0 : Int)), .int .i64 (0), .int .i64 (0), .int .i64 (3), .int .i64 (wr ((1 : Int) + (wr ((1 : Int) + y4_1)))), .int .i64 (0), .int .i64 (0), .bool false, .slice none 0 0]) ?_
 refine sp 57 (.agg #[.int .i64 (1), .int .i64 (0), .int .i64 (0), .int .i64 (3), .int .i64 (1), .int .i64 (0), .int .i64 (0), .bool false, .slice none 0 0]) ?_
 refine sp 58 (.int .i64 (y8_7.getD (0 : Int))) ?_
 refine sr 59 (.int .i64 ((y8_7.getD (0 : Int)).tmod (3 : Int))) (run_remP (a := y8_7.getD (0 : Int)) (b := 3) (fun _ => by kernel_rfl) (by decide)) ?_
 obtain ⟨u9_11, hu9_11, H⟩ := letE H
 refine sr 60 (.int .i64 u9_11) (run_eq (v := .int .i64 (wr (((y8_7.getD (0 : Int)).tmod (3 : Int)) + (7 : Int)))) (fun _ => by kernel_rfl) (by rw [hu9_11])) ?_
 refine sp 61 (.agg #[.int .i64 u9_11, .int .i64 (0), .int .i64 (0), .int .i64 (3), .int .i64 (1), .int .i64 (0), .int .i64 (0), .bool false, .slice none 0 0]) ?_
 obtain ⟨l9_13, hl9_13, H⟩ := letE H
 refine s_step 62 (by kernel_rfl) (by kernel_rfl) (st_new_recs (α := PktS) (T := 33) (cells := #[.int .i64 (y8_7.getD (0 : Int)), .int .i64 (0), .int .i64 (0), .int .i64 (wr ((3 : Int) + (wr ((1 : Int) + y4_1)))), .int .i64 (1), .int .i64 (0), .int .i64 (0), .bool false, .slice none 0 0, .int .i64 (y8_7.getD (0 : Int)), .int .i64 (0), .int .i64 (0), .int .i64 (3), .int .i64 (wr ((1 : Int) + (wr ((1 : Int) + y4_1)))), .int .i64 (0), .int .i64 (0), .bool false, .slice none 0 0, .int .i64 (1), .int .i64 (0), .int .i64 (0), .int .i64 (3), .int .i64 (1), .int .i64 (0), .int .i64 (0), .bool false, .slice none 0 0, .int .i64 u9_11, .int .i64 (0), .int .i64 (0), .int .i64 (3), .int .i64 (1), .int .i64 (0), .int .i64 (0), .bool false, .slice none 0 0]) [((⟨y8_7.getD (0 : Int), 0, 0, wr ((3 : Int) + (wr ((1 : Int) + y4_1))), 1, 0, 0, false, ([] : List Int)⟩ : PktS), none, 0), ((⟨y8_7.getD (0 : Int), 0, 0, 3, wr ((1 : Int) + (wr ((1 : Int) + y4_1))), 0, 0, false, ([] : List Int)⟩ : PktS), none, 0), ((⟨1, 0, 0, 3, 1, 0, 0, false, ([] : List Int)⟩ : PktS), none, 0), ((⟨u9_11, 0, 0, 3, 1, 0, 0, false, ([] : List Int)⟩ : PktS), none, 0)] 4 (fun _ => by kernel_rfl) (by kernel_rfl) (fun p hp => by simp only [List.mem_cons, List.not_mem_nil, or_false] at hp; rcases hp with rfl | rfl | rfl | rfl <;> rfl) rfl hl9_13) ?_
 rintro _ _ ⟨b9_13, rw9_13, rfl, rfl⟩
 refine sp 63 (.int .i64 (((List.length l9_13) : Nat) : Int)) ?_
 refine sp 64 (.int .i64 (0)) ?_
 refine ops_end ?_
 refine ae [(11, .pointer (some ⟨b1_3_0, 0, none⟩)), (12, .pointer (some ⟨b1_3_1, 0, none⟩)), (13, .pointer (some ⟨b5_1, 0, none⟩)), (14, .int .i64 (y8_7.getD (0 : Int))), (62, .slice (some ⟨b9_13, 0, none⟩) (List.length l9_13) 4), (63, .int .i64 (((List.length l9_13) : Nat) : Int)), (64, .int .i64 (0))] ?_
 refine at_then_normal ?_
 refine at_block (i := 0) (x := C3 [1,1,1,1,1,1,1,1,0,1,0]) (by kernel_rfl) ?_
 refine At.conv (Γ' := (RecsX (α := PktS) rw9_13 (some ⟨b9_13, 0, none⟩) 4 l9_13) :: (VMapA (Value.int .i64) m8_0 m8_3) :: (Asn.own b5_1 (.cells #[.int .i64 y5_0.kind, .int .i64 y5_0.line, .int .i64 y5_0.id, .int .i64 (nth l6_0 y6_2), .int .i64 y5_0.state, .int .i64 (0), .slice a5_0_00 (List.length y5_0.data) c5_0_00, .int .i64 y5_0.next, .int .i64 y5_0.told] 29 (0, 0))) :: (ImmI a5_0_00 y5_0.data) :: (CacheA b1_3_0 y1_3.1) :: (RChA b1_3_1 y1_3.2) :: Γ) (fun w hw => (Sat.less (.take .here (.take .here (.take .here (.take (.there .here) (.take (.there .here) (.take (.there .here) (.drop .here .refl))))))) hw)) ?_
 refine at_loopR (x := C3 [1,1,1,1,1,1,1,1,0,1,0,0]) (fun mm ff ΔΔ => ∃ (fuel : Nat) (v0_64 : Int) (v0_b1_3_0 : CacheS), attachOtherS_l0 l9_13 y5_0 l6_0 y6_2 y8_7 (attachOtherS_k0 y5_0 l6_0 y6_2 y8_7 y1_3) fuel v0_64 v0_b1_3_0 = some y ∧ fuel = mm ∧ ff = [(11, .pointer (some ⟨b1_3_0, 0, none⟩)), (12, .pointer (some ⟨b1_3_1, 0, none⟩)), (13, .pointer (some ⟨b5_1, 0, none⟩)), (14, .int .i64 (y8_7.getD (0 : Int))), (62, .slice (some ⟨b9_13, 0, none⟩) (List.length l9_13) 4), (63, .int .i64 (((List.length l9_13) : Nat) : Int)), (64, .int .i64 v0_64)] ∧ (RecsX (α := PktS) rw9_13 (some ⟨b9_13, 0, none⟩) 4 l9_13) :: (VMapA (Value.int .i64) m8_0 m8_3) :: (Asn.own b5_1 (.cells #[.int .i64 y5_0.kind, .int .i64 y5_0.line, .int .i64 y5_0.id, .int .i64 (nth l6_0 y6_2), .int .i64 y5_0.state, .int .i64 (0), .slice a5_0_00 (List.length y5_0.data) c5_0_00, .int .i64 y5_0.next, .int .i64 y5_0.told] 29 (0, 0))) :: (ImmI a5_0_00 y5_0.data) :: (CacheA b1_3_0 v0_b1_3_0) :: (RChA b1_3_1 y1_3.2) :: Γ = ΔΔ) (64) (by kernel_rfl) [(11, .pointer (some ⟨b1_3_0, 0, none⟩)), (12, .pointer (some ⟨b1_3_1, 0, none⟩)), (13, .pointer (some ⟨b5_1, 0, none⟩)), (14, .int .i64 (y8_7.getD (0 : Int))), (62, .slice (some ⟨b9_13, 0, none⟩) (List.length l9_13) 4), (63, .int .i64 (((List.length l9_13) : Nat) : Int)), (64, .int .i64 0)] ⟨by kernel_rfl, by kernel_rfl, by kernel_rfl, by kernel_rfl, by kernel_rfl, by kernel_rfl, by kernel_rfl, trivial⟩ ⟨64, 0, y1_3.1, H, rfl, rfl, rfl⟩ ?_
 rintro _ _ _ ⟨fuel1, v0_64, v0_b1_3_0, H, rfl, rfl, rfl⟩
 rcases fuel1 with _ | fuel1
 ·exact (noneE H).elim
 rw [attachOtherS_l0] at H
 refine aq (x := C3 [1,1,1,1,1,1,1,1,0,1,0,0,0]) (y := C3 [1,1,1,1,1,1,1,1,0,1,0,0,1]) ?_
 refine ar (id := 10) 1 ?_
 refine sp 65 (.bool (decide (v0_64 < (((List.length l9_13) : Nat) : Int)))) ?_
 refine ops_end ?_
 refine ae [(11, .pointer (some ⟨b1_3_0, 0, none⟩)), (12, .pointer (some ⟨b1_3_1, 0, none⟩)), (13, .pointer (some ⟨b5_1, 0, none⟩)), (14, .int .i64 (y8_7.getD (0 : Int))), (62, .slice (some ⟨b9_13, 0, none⟩) (List.length l9_13) 4), (63, .int .i64 (((List.length l9_13) : Nat) : Int)), (64, .int .i64 v0_64), (65, .bool (decide (v0_64 < (((List.length l9_13) : Nat) : Int))))] ?_
 refine at_then_normal ?_
 refine aq (x := C3 [1,1,1,1,1,1,1,1,0,1,0,0,1,0]) (y := C3 [1,1,1,1,1,1,1,1,0,1,0,0,1,1]) ?_
 rcases Bool.eq_false_or_eq_true (decide (v0_64 < (((List.length l9_13) : Nat) : Int))) with h1 | h1
 ·replace H := bifT H h1
  refine at_true (t := decide (v0_64 < (((List.length l9_13) : Nat) : Int))) (x := C3 [1,1,1,1,1,1,1,1,0,1,0,0,1,0,0]) (y := C3 [1,1,1,1,1,1,1,1,0,1,0,0,1,0,1]) (o := .tmp 65) (by kernel_rfl) (by kernel_rfl) (by kernel_rfl) h1 ?_
  refine at_skip (by kernel_rfl) ?_
  refine at_then_normal ?_
  refine at_seq_join (x := C3 [1,1,1,1,1,1,1,1,0,1,0,0,1,1,0]) (y := C3 [1,1,1,1,1,1,1,1,0,1,0,0,1,1,1]) (fun ff ΔΔ => ∃ (e2_b1_3_0 : CacheS), attachOtherS_j2 v0_64 (attachOtherS_l0 l9_13 y5_0 l6_0 y6_2 y8_7 (attachOtherS_k0 y5_0 l6_0 y6_2 y8_7 y1_3) fuel1) e2_b1_3_0 = some y ∧ ff = [(11, .pointer (some ⟨b1_3_0, 0, none⟩)), (12, .pointer (some ⟨b1_3_1, 0, none⟩)), (13, .pointer (some ⟨b5_1, 0, none⟩)), (14, .int .i64 (y8_7.getD (0 : Int))), (62, .slice (some ⟨b9_13, 0, none⟩) (List.length l9_13) 4), (63, .int .i64 (((List.length l9_13) : Nat) : Int)), (64, .int .i64 v0_64)] ∧ (RecsX (α := PktS) rw9_13 (some ⟨b9_13, 0, none⟩) 4 l9_13) :: (VMapA (Value.int .i64) m8_0 m8_3) :: (Asn.own b5_1 (.cells #[.int .i64 y5_0.kind, .int .i64 y5_0.line, .int .i64 y5_0.id, .int .i64 (nth l6_0 y6_2), .int .i64 y5_0.state, .int .i64 (0), .slice a5_0_00 (List.length y5_0.data) c5_0_00, .int .i64 y5_0.next, .int .i64 y5_0.told] 29 (0, 0))) :: (ImmI a5_0_00 y5_0.data) :: (CacheA b1_3_0 e2_b1_3_0) :: (RChA b1_3_1 y1_3.2) :: Γ = ΔΔ) (by kernel_rfl) ?_ ?_
  ·rintro _ _ ⟨e2_b1_3_0, H, rfl, rfl⟩
   rw [attachOtherS_j2] at H
   refine ar (id := 15) 2 ?_
   obtain ⟨hc15_0_0, H⟩ := chkE H
   refine sr 95 (.int .i64 (v0_64 + (1 : Int))) (run_eq (v := .int .i64 (IntKind.i64.wrap (v0_64 + (1 : Int)))) (fun _ => by kernel_rfl) (by rw [inR.wrap hc15_0_0])) ?_
   refine sp 64 (.int .i64 (v0_64 + (1 : Int))) ?_
   refine ops_end ?_
   refine ae [(11, .pointer (some ⟨b1_3_0, 0, none⟩)), (12, .pointer (some ⟨b1_3_1, 0, none⟩)), (13, .pointer (some ⟨b5_1, 0, none⟩)), (14, .int .i64 (y8_7.getD (0 : Int))), (62, .slice (some ⟨b9_13, 0, none⟩) (List.length l9_13) 4), (63, .int .i64 (((List.length l9_13) : Nat) : Int)), (64, .int .i64 (v0_64 + (1 : Int)))] ?_
   refine at_round_normal ?_
   exact at_roundR fuel1 [(11, .pointer (some ⟨b1_3_0, 0, none⟩)), (12, .pointer (some ⟨b1_3_1, 0, none⟩)), (13, .pointer (some ⟨b5_1, 0, none⟩)), (14, .int .i64 (y8_7.getD (0 : Int))), (62, .slice (some ⟨b9_13, 0, none⟩) (List.length l9_13) 4), (63, .int .i64 (((List.length l9_13) : Nat) : Int)), (64, .int .i64 (v0_64 + (1 : Int)))] ((RecsX (α := PktS) rw9_13 (some ⟨b9_13, 0, none⟩) 4 l9_13) :: (VMapA (Value.int .i64) m8_0 m8_3) :: (Asn.own b5_1 (.cells #[.int .i64 y5_0.kind, .int .i64 y5_0.line, .int .i64 y5_0.id, .int .i64 (nth l6_0 y6_2), .int .i64 y5_0.state, .int .i64 (0), .slice a5_0_00 (List.length y5_0.data) c5_0_00, .int .i64 y5_0.next, .int .i64 y5_0.told] 29 (0, 0))) :: (ImmI a5_0_00 y5_0.data) :: (CacheA b1_3_0 e2_b1_3_0) :: (RChA b1_3_1 y1_3.2) :: Γ) (Nat.lt_succ_self _) ⟨by kernel_rfl, by kernel_rfl, by kernel_rfl, by kernel_rfl, by kernel_rfl, by kernel_rfl, by kernel_rfl, trivial⟩ (fun w hw => (Sat.less (.take .here (.take .here (.take .here (.take .here (.take .here (.take .here .refl)))))) hw)) ⟨fuel1, v0_64 + (1 : Int), e2_b1_3_0, H, rfl, rfl, rfl⟩
  ·refine at_block (i := 1) (x := C3 [1,1,1,1,1,1,1,1,0,1,0,0,1,1,0,0]) (by kernel_rfl) ?_
   refine aq (x := C3 [1,1,1,1,1,1,1,1,0,1,0,0,1,1,0,0,0]) (y := C3 [1,1,1,1,1,1,1,1,0,1,0,0,1,1,0,0,1]) ?_
   refine ar (id := 11) 4 ?_
   obtain ⟨hc11_0_0, H⟩ := chkE H
   refine rd_at (RecsX.rd (α := PktS) .here) (by have := hc11_0_0; omega) ?_
   intro bb2 oo2 ha2
   refine sr 66 (.pointer (some ⟨bb2, oo2 + (((v0_64).toNat) * 9 + 0), none⟩)) (index_at (t := 34) (sz := 9) (E := 33) (a := some ⟨b9_13, 0, none⟩) (m := (List.length l9_13)) (c := 4) (b := bb2) (off := oo2) (i := (v0_64).toNat) (tinfo 33) (fun _ => by kernel_rfl) (by kernel_rfl) (by kernel_rfl) (by kernel_rfl) ha2 (idx_cast hc11_0_0) (idx_nat hc11_0_0) rfl) ?_
   obtain ⟨x11_1, hx11_1, H⟩ := letE H
   refine rd_get (RecsX.rd (α := PktS) .here) hc11_0_0 ?_
   intro a11_1 c11_1 hrx11_1
   rw [hx11_1] at hrx11_1 ⊢
   refine sl 67 (.agg #[.int .i64 x11_1.kind, .int .i64 x11_1.src, .int .i64 x11_1.dst, .int .i64 x11_1.id, .int .i64 x11_1.line, .int .i64 x11_1.ptr, .int .i64 x11_1.state, .bool x11_1.flag, .slice a11_1 (List.length x11_1.data) c11_1]) (loadP_at (m := 9) (k := 9) (vs := [.int .i64 x11_1.kind, .int .i64 x11_1.src, .int .i64 x11_1.dst, .int .i64 x11_1.id, .int .i64 x11_1.line, .int .i64 x11_1.ptr, .int .i64 x11_1.state, .bool x11_1.flag, .slice a11_1 (List.length x11_1.data) c11_1]) (off := oo2) (i := (v0_64).toNat) (j := 0) (fun _ => by kernel_rfl) rfl rfl (fun q v hq => rd_row (j := 0 + q) (RecsX.rd (α := PktS) (.there .here)) ha2 hrx11_1 (rowP (j := 0) (m := 9) (by kernel_rfl) hq))) ?_
   refine s_step 16 (by kernel_rfl) (by kernel_rfl) (st_new (T := 33) (cells := #[.int .i64 (0), .int .i64 (0), .int .i64 (0), .int .i64 (0), .int .i64 (0), .int .i64 (0), .int .i64 (0), .bool false, .slice none 0 0]) (fun a => .pointer (some a)) (fun _ => by kernel_rfl)) ?_
   rintro _ _ ⟨b11_2, rfl, rfl⟩
   refine s_do (by kernel_rfl) (by kernel_rfl) (st_store (off := 0) (vs := [.int .i64 x11_1.kind, .int .i64 x11_1.src, .int .i64 x11_1.dst, .int .i64 x11_1.id, .int .i64 x11_1.line, .int .i64 x11_1.ptr, .int .i64 x11_1.state, .bool x11_1.flag, .slice a11_1 (List.length x11_1.data) c11_1]) (c' := #[.int .i64 x11_1.kind, .int .i64 x11_1.src, .int .i64 x11_1.dst, .int .i64 x11_1.id, .int .i64 x11_1.line, .int .i64 x11_1.ptr, .int .i64 x11_1.state, .bool x11_1.flag, .slice a11_1 (List.length x11_1.data) c11_1]) (fun _ => by kernel_rfl) .here (by kernel_rfl) (by kernel_rfl) (by kernel_rfl)) ?_
   rintro _ _ ⟨rfl, rfl⟩
   refine ops_end ?_
   refine ae [(11, .pointer (some ⟨b1_3_0, 0, none⟩)), (12, .pointer (some ⟨b1_3_1, 0, none⟩)), (13, .pointer (some ⟨b5_1, 0, none⟩)), (14, .int .i64 (y8_7.getD (0 : Int))), (16, .pointer (some ⟨b11_2, 0, none⟩)), (62, .slice (some ⟨b9_13, 0, none⟩) (List.length l9_13) 4), (63, .int .i64 (((List.length l9_13) : Nat) : Int)), (64, .int .i64 v0_64)] ?_
   refine at_then_normal ?_
   refine aq (x := C3 [1,1,1,1,1,1,1,1,0,1,0,0,1,1,0,0,1,0]) (y := C3 [1,1,1,1,1,1,1,1,0,1,0,0,1,1,0,0,1,1]) ?_
   refine ar (id := 12) 10 ?_
   refine sl 69 (.agg #[.int .i64 y5_0.kind, .int .i64 y5_0.line, .int .i64 y5_0.id, .int .i64 (nth l6_0 y6_2), .int .i64 y5_0.state, .int .i64 (0), .slice a5_0_00 (List.length y5_0.data) c5_0_00, .int .i64 y5_0.next, .int .i64 y5_0.told]) (loadN (off := 0) (vs := [.int .i64 y5_0.kind, .int .i64 y5_0.line, .int .i64 y5_0.id, .int .i64 (nth l6_0 y6_2), .int .i64 y5_0.state, .int .i64 (0), .slice a5_0_00 (List.length y5_0.data) c5_0_00, .int .i64 y5_0.next, .int .i64 y5_0.told]) 9 (fun _ => by kernel_rfl) (holds_own (.there (.there (.there (.there .here))))) rfl (by exact ⟨rfl, rfl, rfl, rfl, rfl, rfl, rfl, rfl, rfl, trivial⟩)) ?_
   refine sp 70 (.pointer (some ⟨b1_3_0, 0, none⟩)) ?_
   refine sl 71 (.agg #[.int .i64 x11_1.kind, .int .i64 x11_1.src, .int .i64 x11_1.dst, .int .i64 x11_1.id, .int .i64 x11_1.line, .int .i64 x11_1.ptr, .int .i64 x11_1.state, .bool x11_1.flag, .slice a11_1 (List.length x11_1.data) c11_1]) (loadN (off := 0) (vs := [.int .i64 x11_1.kind, .int .i64 x11_1.src, .int .i64 x11_1.dst, .int .i64 x11_1.id, .int .i64 x11_1.line, .int .i64 x11_1.ptr, .int .i64 x11_1.state, .bool x11_1.flag, .slice a11_1 (List.length x11_1.data) c11_1]) 9 (fun _ => by kernel_rfl) (holds_own .here) rfl (by exact ⟨rfl, rfl, rfl, rfl, rfl, rfl, rfl, rfl, rfl, trivial⟩)) ?_
   obtain ⟨y12_3, hy12_3, H⟩ := bindE H
   refine s_call 72 10 #[.agg #[.int .i64 y5_0.kind, .int .i64 y5_0.line, .int .i64 y5_0.id, .int .i64 (nth l6_0 y6_2), .int .i64 y5_0.state, .int .i64 (0), .slice a5_0_00 (List.length y5_0.data) c5_0_00, .int .i64 y5_0.next, .int .i64 y5_0.told], .int .i64 (2), .pointer (some ⟨b1_3_0, 0, none⟩), .agg #[.int .i64 x11_1.kind, .int .i64 x11_1.src, .int .i64 x11_1.dst, .int .i64 x11_1.id, .int .i64 x11_1.line, .int .i64 x11_1.ptr, .int .i64 x11_1.state, .bool x11_1.flag, .slice a11_1 (List.length x11_1.data) c11_1]] (by kernel_rfl) (by kernel_rfl) (fun _ => by kernel_rfl) (Tr.conv (Γ' := (ImmI a5_0_00 y5_0.data) :: (CacheA b1_3_0 v0_b1_3_0) :: (ImmI a5_0_00 y5_0.data) :: (Asn.own b11_2 (.cells #[.int .i64 x11_1.kind, .int .i64 x11_1.src, .int .i64 x11_1.dst, .int .i64 x11_1.id, .int .i64 x11_1.line, .int .i64 x11_1.ptr, .int .i64 x11_1.state, .bool x11_1.flag, .slice a11_1 (List.length x11_1.data) c11_1] 33 (0, 0))) :: (ImmI a11_1 x11_1.data) :: (RecsX (α := PktS) rw9_13 (some ⟨b9_13, 0, none⟩) 4 l9_13) :: (VMapA (Value.int .i64) m8_0 m8_3) :: (Asn.own b5_1 (.cells #[.int .i64 y5_0.kind, .int .i64 y5_0.line, .int .i64 y5_0.id, .int .i64 (nth l6_0 y6_2), .int .i64 y5_0.state, .int .i64 (0), .slice a5_0_00 (List.length y5_0.data) c5_0_00, .int .i64 y5_0.next, .int .i64 y5_0.told] 29 (0, 0))) :: (RChA b1_3_1 y1_3.2) :: Γ) (fun w hw => (Sat.less (.take .here (.take (.there (.there (.there (.there (.there (.there .here)))))) (.take .here (.take .here (.take .here (.take .here (.take .here (.take .here (.take .here .refl))))))))) (ImmR.dup (Sat.less (.take (.there (.there (.there (.there (.there .here))))) (.take .here (.take .here (.take .here (.take .here (.take .here (.take .here (.take .here .refl)))))))) hw)))) (ANextF_tr a5_0_00 c5_0_00 (⟨y5_0.kind, y5_0.line, y5_0.id, nth l6_0 y6_2, y5_0.state, 0, y5_0.data, y5_0.next, y5_0.told⟩ : DealS) (2 : Int) b1_3_0 v0_b1_3_0 a11_1 c11_1 x11_1 (ImmR.reads (k := 1) (.there (.there .here))) y12_3 hy12_3)) ?_
   rintro _ _ ⟨a12_3_00, c12_3_00, rfl, rfl⟩
   refine sp 68 (.tuple #[.agg #[.int .i64 y12_3.1.kind, .int .i64 y12_3.1.line, .int .i64 y12_3.1.id, .int .i64 y12_3.1.step, .int .i64 y12_3.1.state, .int .i64 y12_3.1.head, .slice a12_3_00 (List.length y12_3.1.data) c12_3_00, .int .i64 y12_3.1.next, .int .i64 y12_3.1.told], .bool y12_3.2.1]) ?_
   refine sp 73 (.agg #[.int .i64 y12_3.1.kind, .int .i64 y12_3.1.line, .int .i64 y12_3.1.id, .int .i64 y12_3.1.step, .int .i64 y12_3.1.state, .int .i64 y12_3.1.head, .slice a12_3_00 (List.length y12_3.1.data) c12_3_00, .int .i64 y12_3.1.next, .int .i64 y12_3.1.told]) ?_
   refine sp 74 (.bool y12_3.2.1) ?_
   refine s_step 17 (by kernel_rfl) (by kernel_rfl) (st_new (T := 29) (cells := #[.int .i64 (0), .int .i64 (0), .int .i64 (0), .int .i64 (0), .int .i64 (0), .int .i64 (0), .slice none 0 0, .int .i64 (0), .int .i64 (0)]) (fun a => .pointer (some a)) (fun _ => by kernel_rfl)) ?_
   rintro _ _ ⟨b12_7, rfl, rfl⟩
   refine s_do (by kernel_rfl) (by kernel_rfl) (st_store (off := 0) (vs := [.int .i64 y12_3.1.kind, .int .i64 y12_3.1.line, .int .i64 y12_3.1.id, .int .i64 y12_3.1.step, .int .i64 y12_3.1.state, .int .i64 y12_3.1.head, .slice a12_3_00 (List.length y12_3.1.data) c12_3_00, .int .i64 y12_3.1.next, .int .i64 y12_3.1.told]) (c' := #[.int .i64 y12_3.1.kind, .int .i64 y12_3.1.line, .int .i64 y12_3.1.id, .int .i64 y12_3.1.step, .int .i64 y12_3.1.state, .int .i64 y12_3.1.head, .slice a12_3_00 (List.length y12_3.1.data) c12_3_00, .int .i64 y12_3.1.next, .int .i64 y12_3.1.told]) (fun _ => by kernel_rfl) .here (by kernel_rfl) (by kernel_rfl) (by kernel_rfl)) ?_
   rintro _ _ ⟨rfl, rfl⟩
   refine sp 18 (.bool y12_3.2.1) ?_
   refine ops_end ?_
   refine ae [(11, .pointer (some ⟨b1_3_0, 0, none⟩)), (12, .pointer (some ⟨b1_3_1, 0, none⟩)), (13, .pointer (some ⟨b5_1, 0, none⟩)), (14, .int .i64 (y8_7.getD (0 : Int))), (16, .pointer (some ⟨b11_2, 0, none⟩)), (18, .bool y12_3.2.1), (62, .slice (some ⟨b9_13, 0, none⟩) (List.length l9_13) 4), (63, .int .i64 (((List.length l9_13) : Nat) : Int)), (64, .int .i64 v0_64)] ?_
   refine at_then_normal ?_
   refine at_seq_join (x := C3 [1,1,1,1,1,1,1,1,0,1,0,0,1,1,0,0,1,1,0]) (y := C3 [1,1,1,1,1,1,1,1,0,1,0,0,1,1,0,0,1,1,1]) (fun ff ΔΔ => ∃ (e3_94 : Bool), attachOtherS_j3 v0_64 (attachOtherS_l0 l9_13 y5_0 l6_0 y6_2 y8_7 (attachOtherS_k0 y5_0 l6_0 y6_2 y8_7 y1_3) fuel1) y12_3 e3_94 = some y ∧ ff = [(11, .pointer (some ⟨b1_3_0, 0, none⟩)), (12, .pointer (some ⟨b1_3_1, 0, none⟩)), (13, .pointer (some ⟨b5_1, 0, none⟩)), (14, .int .i64 (y8_7.getD (0 : Int))), (62, .slice (some ⟨b9_13, 0, none⟩) (List.length l9_13) 4), (63, .int .i64 (((List.length l9_13) : Nat) : Int)), (64, .int .i64 v0_64), (94, .bool e3_94)] ∧ (CacheA b1_3_0 y12_3.2.2) :: (ImmI a5_0_00 y5_0.data) :: (RecsX (α := PktS) rw9_13 (some ⟨b9_13, 0, none⟩) 4 l9_13) :: (VMapA (Value.int .i64) m8_0 m8_3) :: (Asn.own b5_1 (.cells #[.int .i64 y5_0.kind, .int .i64 y5_0.line, .int .i64 y5_0.id, .int .i64 (nth l6_0 y6_2), .int .i64 y5_0.state, .int .i64 (0), .slice a5_0_00 (List.length y5_0.data) c5_0_00, .int .i64 y5_0.next, .int .i64 y5_0.told] 29 (0, 0))) :: (RChA b1_3_1 y1_3.2) :: Γ = ΔΔ) (by kernel_rfl) ?_ ?_
   ·rintro _ _ ⟨e3_94, H, rfl, rfl⟩
    rw [attachOtherS_j3] at H
    rcases Bool.eq_false_or_eq_true (e3_94) with h2 | h2
    ·replace H := bifT H h2
     refine at_true (t := e3_94) (x := C3 [1,1,1,1,1,1,1,1,0,1,0,0,1,1,0,0,1,1,1,0]) (y := C3 [1,1,1,1,1,1,1,1,0,1,0,0,1,1,0,0,1,1,1,1]) (o := .tmp 94) (by kernel_rfl) (by kernel_rfl) (by kernel_rfl) h2 ?_
     refine aq (x := C3 [1,1,1,1,1,1,1,1,0,1,0,0,1,1,0,0,1,1,1,0,0]) (y := C3 [1,1,1,1,1,1,1,1,0,1,0,0,1,1,0,0,1,1,1,0,1]) ?_
     refine ar (id := 14) 1 ?_
     refine sp 10 (.bool false) ?_
     refine ops_end ?_
     refine ae [(10, .bool false)] ?_
     refine at_then_normal ?_
     refine at_ret (by kernel_rfl) ?_
     refine at_in_ret ?_
     refine at_then_ret ?_
     refine at_then_ret ?_
     refine at_in_ret ?_
     refine at_then_ret ?_
     obtain rfl := someE H
     refine at_backR [.bool false] (Γ) (rs := [.tmp 10]) (by kernel_rfl) (.cons (.tmp (by kernel_rfl)) .nil) (fun w hw => (Sat.less (.drop .here (.drop .here (.drop .here (.drop .here (.drop .here (.drop .here .refl)))))) hw)) ?_
     exact ⟨rfl, rfl⟩
    ·replace H := bifF H h2
     refine at_false (t := e3_94) (x := C3 [1,1,1,1,1,1,1,1,0,1,0,0,1,1,0,0,1,1,1,0]) (y := C3 [1,1,1,1,1,1,1,1,0,1,0,0,1,1,0,0,1,1,1,1]) (o := .tmp 94) (by kernel_rfl) (by kernel_rfl) (by kernel_rfl) h2 ?_
     refine at_skip (by kernel_rfl) ?_
     refine at_in_normal ?_
     refine at_round_normal ?_
     exact at_join_mk [(11, .pointer (some ⟨b1_3_0, 0, none⟩)), (12, .pointer (some ⟨b1_3_1, 0, none⟩)), (13, .pointer (some ⟨b5_1, 0, none⟩)), (14, .int .i64 (y8_7.getD (0 : Int))), (62, .slice (some ⟨b9_13, 0, none⟩) (List.length l9_13) 4), (63, .int .i64 (((List.length l9_13) : Nat) : Int)), (64, .int .i64 v0_64)] ((RecsX (α := PktS) rw9_13 (some ⟨b9_13, 0, none⟩) 4 l9_13) :: (VMapA (Value.int .i64) m8_0 m8_3) :: (Asn.own b5_1 (.cells #[.int .i64 y5_0.kind, .int .i64 y5_0.line, .int .i64 y5_0.id, .int .i64 (nth l6_0 y6_2), .int .i64 y5_0.state, .int .i64 (0), .slice a5_0_00 (List.length y5_0.data) c5_0_00, .int .i64 y5_0.next, .int .i64 y5_0.told] 29 (0, 0))) :: (ImmI a5_0_00 y5_0.data) :: (CacheA b1_3_0 y12_3.2.2) :: (RChA b1_3_1 y1_3.2) :: Γ) ⟨by kernel_rfl, by kernel_rfl, by kernel_rfl, by kernel_rfl, by kernel_rfl, by kernel_rfl, by kernel_rfl, trivial⟩ (fun w hw => (Sat.less (.take (.there (.there .here)) (.take (.there (.there .here)) (.take (.there (.there .here)) (.take (.there .here) (.take .here (.take .here .refl)))))) hw)) ⟨y12_3.2.2, H, rfl, rfl⟩
   ·refine ar (id := 13) 20 ?_
    refine sp 75 (.bool y12_3.2.1) ?_
    rcases Bool.eq_false_or_eq_true (y12_3.2.1) with h3 | h3
    ·replace H := bifT H h3
     refine sr 76 (.bool true) (run_eq (v := .bool (y12_3.2.1)) (fun _ => by kernel_rfl) (congrArg Value.bool h3)) ?_
     refine sp 77 (.pointer (some ⟨b11_2, 0, none⟩)) ?_
     refine sl 78 (.int .i64 x11_1.kind) (load1 (off := 0) (fun _ => by kernel_rfl) (holds_own (.there (.there (.there (.there .here))))) (by kernel_rfl)) ?_
     refine sp 79 (.int .i64 (y8_7.getD (0 : Int))) ?_
     refine sp 80 (.bool (!(decide (x11_1.kind = (y8_7.getD (0 : Int)))))) ?_
     refine sp 81 (.bool (!(decide (x11_1.kind = (y8_7.getD (0 : Int)))))) ?_
     rcases Bool.eq_false_or_eq_true (!(decide (x11_1.kind = (y8_7.getD (0 : Int))))) with h4 | h4
     ·replace H := bifT H h4
      refine sr 82 (.bool true) (run_eq (v := .bool (!(decide (x11_1.kind = (y8_7.getD (0 : Int)))))) (fun _ => by kernel_rfl) (congrArg Value.bool h4)) ?_
      refine sa 83 ?_
      refine sa 84 ?_
      refine sa 85 ?_
      refine sa 86 ?_
      refine sa 87 ?_
      refine sa 88 ?_
      refine sa 89 ?_
      refine sa 90 ?_
      refine sa 91 ?_
      refine sa 92 ?_
      refine sa 93 ?_
      refine sp 94 (.bool true) ?_
      refine ops_end ?_
      refine ae [(11, .pointer (some ⟨b1_3_0, 0, none⟩)), (12, .pointer (some ⟨b1_3_1, 0, none⟩)), (13, .pointer (some ⟨b5_1, 0, none⟩)), (14, .int .i64 (y8_7.getD (0 : Int))), (62, .slice (some ⟨b9_13, 0, none⟩) (List.length l9_13) 4), (63, .int .i64 (((List.length l9_13) : Nat) : Int)), (64, .int .i64 v0_64), (94, .bool true)] ?_
      refine at_round_normal ?_
      exact at_join_mk [(11, .pointer (some ⟨b1_3_0, 0, none⟩)), (12, .pointer (some ⟨b1_3_1, 0, none⟩)), (13, .pointer (some ⟨b5_1, 0, none⟩)), (14, .int .i64 (y8_7.getD (0 : Int))), (62, .slice (some ⟨b9_13, 0, none⟩) (List.length l9_13) 4), (63, .int .i64 (((List.length l9_13) : Nat) : Int)), (64, .int .i64 v0_64), (94, .bool true)] ((CacheA b1_3_0 y12_3.2.2) :: (ImmI a5_0_00 y5_0.data) :: (RecsX (α := PktS) rw9_13 (some ⟨b9_13, 0, none⟩) 4 l9_13) :: (VMapA (Value.int .i64) m8_0 m8_3) :: (Asn.own b5_1 (.cells #[.int .i64 y5_0.kind, .int .i64 y5_0.line, .int .i64 y5_0.id, .int .i64 (nth l6_0 y6_2), .int .i64 y5_0.state, .int .i64 (0), .slice a5_0_00 (List.length y5_0.data) c5_0_00, .int .i64 y5_0.next, .int .i64 y5_0.told] 29 (0, 0))) :: (RChA b1_3_1 y1_3.2) :: Γ) ⟨by kernel_rfl, by kernel_rfl, by kernel_rfl, by kernel_rfl, by kernel_rfl, by kernel_rfl, by kernel_rfl, by kernel_rfl, trivial⟩ (fun w hw => (Sat.less (.take (.there (.there .here)) (.take (.there (.there .here)) (.take (.there (.there (.there (.there .here)))) (.take (.there (.there (.there (.there .here)))) (.take (.there (.there (.there (.there .here)))) (.take (.there (.there (.there (.there .here)))) (.drop .here (.drop .here (.drop .here (.drop .here .refl)))))))))) hw)) ⟨true, H, rfl, rfl⟩
     ·replace H := bifF H h4
      refine sr 82 (.bool false) (run_eq (v := .bool (!(decide (x11_1.kind = (y8_7.getD (0 : Int)))))) (fun _ => by kernel_rfl) (congrArg Value.bool h4)) ?_
      refine sp 83 (.bool y12_3.2.1) ?_
      rcases Bool.eq_false_or_eq_true (y12_3.2.1) with h5 | h5
      ·replace H := bifT H h5
       refine sr 84 (.bool true) (run_eq (v := .bool (y12_3.2.1)) (fun _ => by kernel_rfl) (congrArg Value.bool h5)) ?_
       refine sp 85 (.pointer (some ⟨b11_2, 3, none⟩)) ?_
       refine sl 86 (.int .i64 x11_1.id) (load1 (off := 3) (fun _ => by kernel_rfl) (holds_own (.there (.there (.there (.there .here))))) (by kernel_rfl)) ?_
       refine sp 87 (.bool (!(decide (x11_1.id = (3 : Int))))) ?_
       rcases Bool.eq_false_or_eq_true (!(decide (x11_1.id = (3 : Int)))) with h6 | h6
       ·replace H := bifT H h6
        refine sr 88 (.bool true) (run_eq (v := .bool (!(decide (x11_1.id = (3 : Int))))) (fun _ => by kernel_rfl) (congrArg Value.bool h6)) ?_
        refine sa 89 ?_
        refine sa 90 ?_
        refine sa 91 ?_
        refine sp 92 (.bool true) ?_
        refine sp 93 (.bool true) ?_
        refine sp 94 (.bool true) ?_
        refine ops_end ?_
        refine ae [(11, .pointer (some ⟨b1_3_0, 0, none⟩)), (12, .pointer (some ⟨b1_3_1, 0, none⟩)), (13, .pointer (some ⟨b5_1, 0, none⟩)), (14, .int .i64 (y8_7.getD (0 : Int))), (62, .slice (some ⟨b9_13, 0, none⟩) (List.length l9_13) 4), (63, .int .i64 (((List.length l9_13) : Nat) : Int)), (64, .int .i64 v0_64), (94, .bool true)] ?_
        refine at_round_normal ?_
        exact at_join_mk [(11, .pointer (some ⟨b1_3_0, 0, none⟩)), (12, .pointer (some ⟨b1_3_1, 0, none⟩)), (13, .pointer (some ⟨b5_1, 0, none⟩)), (14, .int .i64 (y8_7.getD (0 : Int))), (62, .slice (some ⟨b9_13, 0, none⟩) (List.length l9_13) 4), (63, .int .i64 (((List.length l9_13) : Nat) : Int)), (64, .int .i64 v0_64), (94, .bool true)] ((CacheA b1_3_0 y12_3.2.2) :: (ImmI a5_0_00 y5_0.data) :: (RecsX (α := PktS) rw9_13 (some ⟨b9_13, 0, none⟩) 4 l9_13) :: (VMapA (Value.int .i64) m8_0 m8_3) :: (Asn.own b5_1 (.cells #[.int .i64 y5_0.kind, .int .i64 y5_0.line, .int .i64 y5_0.id, .int .i64 (nth l6_0 y6_2), .int .i64 y5_0.state, .int .i64 (0), .slice a5_0_00 (List.length y5_0.data) c5_0_00, .int .i64 y5_0.next, .int .i64 y5_0.told] 29 (0, 0))) :: (RChA b1_3_1 y1_3.2) :: Γ) ⟨by kernel_rfl, by kernel_rfl, by kernel_rfl, by kernel_rfl, by kernel_rfl, by kernel_rfl, by kernel_rfl, by kernel_rfl, trivial⟩ (fun w hw => (Sat.less (.take (.there (.there .here)) (.take (.there (.there .here)) (.take (.there (.there (.there (.there .here)))) (.take (.there (.there (.there (.there .here)))) (.take (.there (.there (.there (.there .here)))) (.take (.there (.there (.there (.there .here)))) (.drop .here (.drop .here (.drop .here (.drop .here .refl)))))))))) hw)) ⟨true, H, rfl, rfl⟩
       ·replace H := bifF H h6
        refine sr 88 (.bool false) (run_eq (v := .bool (!(decide (x11_1.id = (3 : Int))))) (fun _ => by kernel_rfl) (congrArg Value.bool h6)) ?_
        refine sp 89 (.pointer (some ⟨b11_2, 4, none⟩)) ?_
        refine sl 90 (.int .i64 x11_1.line) (load1 (off := 4) (fun _ => by kernel_rfl) (holds_own (.there (.there (.there (.there .here))))) (by kernel_rfl)) ?_
        refine sp 91 (.bool (!(decide (x11_1.line = (1 : Int))))) ?_
        refine sp 92 (.bool (!(decide (x11_1.line = (1 : Int))))) ?_
        refine sp 93 (.bool (!(decide (x11_1.line = (1 : Int))))) ?_
        refine sp 94 (.bool (!(decide (x11_1.line = (1 : Int))))) ?_
        refine ops_end ?_
        refine ae [(11, .pointer (some ⟨b1_3_0, 0, none⟩)), (12, .pointer (some ⟨b1_3_1, 0, none⟩)), (13, .pointer (some ⟨b5_1, 0, none⟩)), (14, .int .i64 (y8_7.getD (0 : Int))), (62, .slice (some ⟨b9_13, 0, none⟩) (List.length l9_13) 4), (63, .int .i64 (((List.length l9_13) : Nat) : Int)), (64, .int .i64 v0_64), (94, .bool (!(decide (x11_1.line = (1 : Int)))))] ?_
        refine at_round_normal ?_
        exact at_join_mk [(11, .pointer (some ⟨b1_3_0, 0, none⟩)), (12, .pointer (some ⟨b1_3_1, 0, none⟩)), (13, .pointer (some ⟨b5_1, 0, none⟩)), (14, .int .i64 (y8_7.getD (0 : Int))), (62, .slice (some ⟨b9_13, 0, none⟩) (List.length l9_13) 4), (63, .int .i64 (((List.length l9_13) : Nat) : Int)), (64, .int .i64 v0_64), (94, .bool (!(decide (x11_1.line = (1 : Int)))))] ((CacheA b1_3_0 y12_3.2.2) :: (ImmI a5_0_00 y5_0.data) :: (RecsX (α := PktS) rw9_13 (some ⟨b9_13, 0, none⟩) 4 l9_13) :: (VMapA (Value.int .i64) m8_0 m8_3) :: (Asn.own b5_1 (.cells #[.int .i64 y5_0.kind, .int .i64 y5_0.line, .int .i64 y5_0.id, .int .i64 (nth l6_0 y6_2), .int .i64 y5_0.state, .int .i64 (0), .slice a5_0_00 (List.length y5_0.data) c5_0_00, .int .i64 y5_0.next, .int .i64 y5_0.told] 29 (0, 0))) :: (RChA b1_3_1 y1_3.2) :: Γ) ⟨by kernel_rfl, by kernel_rfl, by kernel_rfl, by kernel_rfl, by kernel_rfl, by kernel_rfl, by kernel_rfl, by kernel_rfl, trivial⟩ (fun w hw => (Sat.less (.take (.there (.there .here)) (.take (.there (.there .here)) (.take (.there (.there (.there (.there .here)))) (.take (.there (.there (.there (.there .here)))) (.take (.there (.there (.there (.there .here)))) (.take (.there (.there (.there (.there .here)))) (.drop .here (.drop .here (.drop .here (.drop .here .refl)))))))))) hw)) ⟨!(decide (x11_1.line = (1 : Int))), H, rfl, rfl⟩
      ·replace H := bifF H h5
       refine sr 84 (.bool false) (run_eq (v := .bool (y12_3.2.1)) (fun _ => by kernel_rfl) (congrArg Value.bool h5)) ?_
       refine sa 85 ?_
       refine sa 86 ?_
       refine sa 87 ?_
       refine sa 88 ?_
       refine sa 89 ?_
       refine sa 90 ?_
       refine sa 91 ?_
       refine sa 92 ?_
       refine sp 93 (.bool false) ?_
       refine sp 94 (.bool false) ?_
       refine ops_end ?_
       refine ae [(11, .pointer (some ⟨b1_3_0, 0, none⟩)), (12, .pointer (some ⟨b1_3_1, 0, none⟩)), (13, .pointer (some ⟨b5_1, 0, none⟩)), (14, .int .i64 (y8_7.getD (0 : Int))), (62, .slice (some ⟨b9_13, 0, none⟩) (List.length l9_13) 4), (63, .int .i64 (((List.length l9_13) : Nat) : Int)), (64, .int .i64 v0_64), (94, .bool false)] ?_
       refine at_round_normal ?_
       exact at_join_mk [(11, .pointer (some ⟨b1_3_0, 0, none⟩)), (12, .pointer (some ⟨b1_3_1, 0, none⟩)), (13, .pointer (some ⟨b5_1, 0, none⟩)), (14, .int .i64 (y8_7.getD (0 : Int))), (62, .slice (some ⟨b9_13, 0, none⟩) (List.length l9_13) 4), (63, .int .i64 (((List.length l9_13) : Nat) : Int)), (64, .int .i64 v0_64), (94, .bool false)] ((CacheA b1_3_0 y12_3.2.2) :: (ImmI a5_0_00 y5_0.data) :: (RecsX (α := PktS) rw9_13 (some ⟨b9_13, 0, none⟩) 4 l9_13) :: (VMapA (Value.int .i64) m8_0 m8_3) :: (Asn.own b5_1 (.cells #[.int .i64 y5_0.kind, .int .i64 y5_0.line, .int .i64 y5_0.id, .int .i64 (nth l6_0 y6_2), .int .i64 y5_0.state, .int .i64 (0), .slice a5_0_00 (List.length y5_0.data) c5_0_00, .int .i64 y5_0.next, .int .i64 y5_0.told] 29 (0, 0))) :: (RChA b1_3_1 y1_3.2) :: Γ) ⟨by kernel_rfl, by kernel_rfl, by kernel_rfl, by kernel_rfl, by kernel_rfl, by kernel_rfl, by kernel_rfl, by kernel_rfl, trivial⟩ (fun w hw => (Sat.less (.take (.there (.there .here)) (.take (.there (.there .here)) (.take (.there (.there (.there (.there .here)))) (.take (.there (.there (.there (.there .here)))) (.take (.there (.there (.there (.there .here)))) (.take (.there (.there (.there (.there .here)))) (.drop .here (.drop .here (.drop .here (.drop .here .refl)))))))))) hw)) ⟨false, H, rfl, rfl⟩
    ·replace H := bifF H h3
     refine sr 76 (.bool false) (run_eq (v := .bool (y12_3.2.1)) (fun _ => by kernel_rfl) (congrArg Value.bool h3)) ?_
     refine sa 77 ?_
     refine sa 78 ?_
     refine sa 79 ?_
     refine sa 80 ?_
     refine sp 81 (.bool false) ?_
     refine sp 82 (.bool false) ?_
     refine sp 83 (.bool y12_3.2.1) ?_
     rcases Bool.eq_false_or_eq_true (y12_3.2.1) with h7 | h7
     ·replace H := bifT H h7
      refine sr 84 (.bool true) (run_eq (v := .bool (y12_3.2.1)) (fun _ => by kernel_rfl) (congrArg Value.bool h7)) ?_
      refine sp 85 (.pointer (some ⟨b11_2, 3, none⟩)) ?_
      refine sl 86 (.int .i64 x11_1.id) (load1 (off := 3) (fun _ => by kernel_rfl) (holds_own (.there (.there (.there (.there .here))))) (by kernel_rfl)) ?_
      refine sp 87 (.bool (!(decide (x11_1.id = (3 : Int))))) ?_
      rcases Bool.eq_false_or_eq_true (!(decide (x11_1.id = (3 : Int)))) with h8 | h8
      ·replace H := bifT H h8
       refine sr 88 (.bool true) (run_eq (v := .bool (!(decide (x11_1.id = (3 : Int))))) (fun _ => by kernel_rfl) (congrArg Value.bool h8)) ?_
       refine sa 89 ?_
       refine sa 90 ?_
       refine sa 91 ?_
       refine sp 92 (.bool true) ?_
       refine sp 93 (.bool true) ?_
       refine sp 94 (.bool true) ?_
       refine ops_end ?_
       refine ae [(11, .pointer (some ⟨b1_3_0, 0, none⟩)), (12, .pointer (some ⟨b1_3_1, 0, none⟩)), (13, .pointer (some ⟨b5_1, 0, none⟩)), (14, .int .i64 (y8_7.getD (0 : Int))), (62, .slice (some ⟨b9_13, 0, none⟩) (List.length l9_13) 4), (63, .int .i64 (((List.length l9_13) : Nat) : Int)), (64, .int .i64 v0_64), (94, .bool true)] ?_
       refine at_round_normal ?_
       exact at_join_mk [(11, .pointer (some ⟨b1_3_0, 0, none⟩)), (12, .pointer (some ⟨b1_3_1, 0, none⟩)), (13, .pointer (some ⟨b5_1, 0, none⟩)), (14, .int .i64 (y8_7.getD (0 : Int))), (62, .slice (some ⟨b9_13, 0, none⟩) (List.length l9_13) 4), (63, .int .i64 (((List.length l9_13) : Nat) : Int)), (64, .int .i64 v0_64), (94, .bool true)] ((CacheA b1_3_0 y12_3.2.2) :: (ImmI a5_0_00 y5_0.data) :: (RecsX (α := PktS) rw9_13 (some ⟨b9_13, 0, none⟩) 4 l9_13) :: (VMapA (Value.int .i64) m8_0 m8_3) :: (Asn.own b5_1 (.cells #[.int .i64 y5_0.kind, .int .i64 y5_0.line, .int .i64 y5_0.id, .int .i64 (nth l6_0 y6_2), .int .i64 y5_0.state, .int .i64 (0), .slice a5_0_00 (List.length y5_0.data) c5_0_00, .int .i64 y5_0.next, .int .i64 y5_0.told] 29 (0, 0))) :: (RChA b1_3_1 y1_3.2) :: Γ) ⟨by kernel_rfl, by kernel_rfl, by kernel_rfl, by kernel_rfl, by kernel_rfl, by kernel_rfl, by kernel_rfl, by kernel_rfl, trivial⟩ (fun w hw => (Sat.less (.take (.there (.there .here)) (.take (.there (.there .here)) (.take (.there (.there (.there (.there .here)))) (.take (.there (.there (.there (.there .here)))) (.take (.there (.there (.there (.there .here)))) (.take (.there (.there (.there (.there .here)))) (.drop .here (.drop .here (.drop .here (.drop .here .refl)))))))))) hw)) ⟨true, H, rfl, rfl⟩
      ·replace H := bifF H h8
       refine sr 88 (.bool false) (run_eq (v := .bool (!(decide (x11_1.id = (3 : Int))))) (fun _ => by kernel_rfl) (congrArg Value.bool h8)) ?_
       refine sp 89 (.pointer (some ⟨b11_2, 4, none⟩)) ?_
       refine sl 90 (.int .i64 x11_1.line) (load1 (off := 4) (fun _ => by kernel_rfl) (holds_own (.there (.there (.there (.there .here))))) (by kernel_rfl)) ?_
       refine sp 91 (.bool (!(decide (x11_1.line = (1 : Int))))) ?_
       refine sp 92 (.bool (!(decide (x11_1.line = (1 : Int))))) ?_
       refine sp 93 (.bool (!(decide (x11_1.line = (1 : Int))))) ?_
       refine sp 94 (.bool (!(decide (x11_1.line = (1 : Int))))) ?_
       refine ops_end ?_
       refine ae [(11, .pointer (some ⟨b1_3_0, 0, none⟩)), (12, .pointer (some ⟨b1_3_1, 0, none⟩)), (13, .pointer (some ⟨b5_1, 0, none⟩)), (14, .int .i64 (y8_7.getD (0 : Int))), (62, .slice (some ⟨b9_13, 0, none⟩) (List.length l9_13) 4), (63, .int .i64 (((List.length l9_13) : Nat) : Int)), (64, .int .i64 v0_64), (94, .bool (!(decide (x11_1.line = (1 : Int)))))] ?_
       refine at_round_normal ?_
       exact at_join_mk [(11, .pointer (some ⟨b1_3_0, 0, none⟩)), (12, .pointer (some ⟨b1_3_1, 0, none⟩)), (13, .pointer (some ⟨b5_1, 0, none⟩)), (14, .int .i64 (y8_7.getD (0 : Int))), (62, .slice (some ⟨b9_13, 0, none⟩) (List.length l9_13) 4), (63, .int .i64 (((List.length l9_13) : Nat) : Int)), (64, .int .i64 v0_64), (94, .bool (!(decide (x11_1.line = (1 : Int)))))] ((CacheA b1_3_0 y12_3.2.2) :: (ImmI a5_0_00 y5_0.data) :: (RecsX (α := PktS) rw9_13 (some ⟨b9_13, 0, none⟩) 4 l9_13) :: (VMapA (Value.int .i64) m8_0 m8_3) :: (Asn.own b5_1 (.cells #[.int .i64 y5_0.kind, .int .i64 y5_0.line, .int .i64 y5_0.id, .int .i64 (nth l6_0 y6_2), .int .i64 y5_0.state, .int .i64 (0), .slice a5_0_00 (List.length y5_0.data) c5_0_00, .int .i64 y5_0.next, .int .i64 y5_0.told] 29 (0, 0))) :: (RChA b1_3_1 y1_3.2) :: Γ) ⟨by kernel_rfl, by kernel_rfl, by kernel_rfl, by kernel_rfl, by kernel_rfl, by kernel_rfl, by kernel_rfl, by kernel_rfl, trivial⟩ (fun w hw => (Sat.less (.take (.there (.there .here)) (.take (.there (.there .here)) (.take (.there (.there (.there (.there .here)))) (.take (.there (.there (.there (.there .here)))) (.take (.there (.there (.there (.there .here)))) (.take (.there (.there (.there (.there .here)))) (.drop .here (.drop .here (.drop .here (.drop .here .refl)))))))))) hw)) ⟨!(decide (x11_1.line = (1 : Int))), H, rfl, rfl⟩
     ·replace H := bifF H h7
      refine sr 84 (.bool false) (run_eq (v := .bool (y12_3.2.1)) (fun _ => by kernel_rfl) (congrArg Value.bool h7)) ?_
      refine sa 85 ?_
      refine sa 86 ?_
      refine sa 87 ?_
      refine sa 88 ?_
      refine sa 89 ?_
      refine sa 90 ?_
      refine sa 91 ?_
      refine sa 92 ?_
      refine sp 93 (.bool false) ?_
      refine sp 94 (.bool false) ?_
      refine ops_end ?_
      refine ae [(11, .pointer (some ⟨b1_3_0, 0, none⟩)), (12, .pointer (some ⟨b1_3_1, 0, none⟩)), (13, .pointer (some ⟨b5_1, 0, none⟩)), (14, .int .i64 (y8_7.getD (0 : Int))), (62, .slice (some ⟨b9_13, 0, none⟩) (List.length l9_13) 4), (63, .int .i64 (((List.length l9_13) : Nat) : Int)), (64, .int .i64 v0_64), (94, .bool false)] ?_
      refine at_round_normal ?_
      exact at_join_mk [(11, .pointer (some ⟨b1_3_0, 0, none⟩)), (12, .pointer (some ⟨b1_3_1, 0, none⟩)), (13, .pointer (some ⟨b5_1, 0, none⟩)), (14, .int .i64 (y8_7.getD (0 : Int))), (62, .slice (some ⟨b9_13, 0, none⟩) (List.length l9_13) 4), (63, .int .i64 (((List.length l9_13) : Nat) : Int)), (64, .int .i64 v0_64), (94, .bool false)] ((CacheA b1_3_0 y12_3.2.2) :: (ImmI a5_0_00 y5_0.data) :: (RecsX (α := PktS) rw9_13 (some ⟨b9_13, 0, none⟩) 4 l9_13) :: (VMapA (Value.int .i64) m8_0 m8_3) :: (Asn.own b5_1 (.cells #[.int .i64 y5_0.kind, .int .i64 y5_0.line, .int .i64 y5_0.id, .int .i64 (nth l6_0 y6_2), .int .i64 y5_0.state, .int .i64 (0), .slice a5_0_00 (List.length y5_0.data) c5_0_00, .int .i64 y5_0.next, .int .i64 y5_0.told] 29 (0, 0))) :: (RChA b1_3_1 y1_3.2) :: Γ) ⟨by kernel_rfl, by kernel_rfl, by kernel_rfl, by kernel_rfl, by kernel_rfl, by kernel_rfl, by kernel_rfl, by kernel_rfl, trivial⟩ (fun w hw => (Sat.less (.take (.there (.there .here)) (.take (.there (.there .here)) (.take (.there (.there (.there (.there .here)))) (.take (.there (.there (.there (.there .here)))) (.take (.there (.there (.there (.there .here)))) (.take (.there (.there (.there (.there .here)))) (.drop .here (.drop .here (.drop .here (.drop .here .refl)))))))))) hw)) ⟨false, H, rfl, rfl⟩
 ·replace H := bifF H h1
  refine at_false (t := decide (v0_64 < (((List.length l9_13) : Nat) : Int))) (x := C3 [1,1,1,1,1,1,1,1,0,1,0,0,1,0,0]) (y := C3 [1,1,1,1,1,1,1,1,0,1,0,0,1,0,1]) (o := .tmp 65) (by kernel_rfl) (by kernel_rfl) (by kernel_rfl) h1 ?_
  refine at_exit (i := 0) (by kernel_rfl) ?_
  refine at_then_exit ?_
  refine at_then_exit ?_
  rw [attachOtherS_k0] at H
  refine ae [(11, .pointer (some ⟨b1_3_0, 0, none⟩)), (12, .pointer (some ⟨b1_3_1, 0, none⟩)), (13, .pointer (some ⟨b5_1, 0, none⟩)), (14, .int .i64 (y8_7.getD (0 : Int))), (62, .slice (some ⟨b9_13, 0, none⟩) (List.length l9_13) 4), (63, .int .i64 (((List.length l9_13) : Nat) : Int)), (64, .int .i64 v0_64)] ?_
  refine At.conv (Γ' := (RecsX (α := PktS) rw9_13 (some ⟨b9_13, 0, none⟩) 4 l9_13) :: (VMapA (Value.int .i64) m8_0 m8_3) :: (Asn.own b5_1 (.cells #[.int .i64 y5_0.kind, .int .i64 y5_0.line, .int .i64 y5_0.id, .int .i64 (nth l6_0 y6_2), .int .i64 y5_0.state, .int .i64 (0), .slice a5_0_00 (List.length y5_0.data) c5_0_00, .int .i64 y5_0.next, .int .i64 y5_0.told] 29 (0, 0))) :: (ImmI a5_0_00 y5_0.data) :: (CacheA b1_3_0 v0_b1_3_0) :: (RChA b1_3_1 y1_3.2) :: Γ) (fun w hw => (Sat.less (.take .here (.take .here (.take .here (.take .here (.take .here (.take .here .refl)))))) hw)) ?_
  refine at_in_here ?_
  refine at_then_normal ?_
  refine aq (x := C3 [1,1,1,1,1,1,1,1,1,0]) (y := C3 [1,1,1,1,1,1,1,1,1,1]) ?_
  refine aq (x := C3 [1,1,1,1,1,1,1,1,1,0,0]) (y := C3 [1,1,1,1,1,1,1,1,1,0,1]) ?_
  refine ar (id := 16) 3 ?_
  obtain ⟨l16_0, hl16_0, H⟩ := letE H
  refine s_step 96 (by kernel_rfl) (by kernel_rfl) (st_new_ints (T := 3) (xs := l16_0) 4 hl16_0 (fun _ => by kernel_rfl) (by kernel_rfl)) ?_
  rintro _ _ ⟨b16_0, rfl, rfl⟩
  refine sp 97 (.int .i64 (((List.length l16_0) : Nat) : Int)) ?_
  refine sp 98 (.int .i64 (0)) ?_
  refine ops_end ?_
  refine ae [(11, .pointer (some ⟨b1_3_0, 0, none⟩)), (12, .pointer (some ⟨b1_3_1, 0, none⟩)), (13, .pointer (some ⟨b5_1, 0, none⟩)), (14, .int .i64 (y8_7.getD (0 : Int))), (96, .slice (some ⟨b16_0, 0, none⟩) (List.length l16_0) 4), (97, .int .i64 (((List.length l16_0) : Nat) : Int)), (98, .int .i64 (0))] ?_
  refine at_then_normal ?_
  refine at_block (i := 2) (x := C3 [1,1,1,1,1,1,1,1,1,0,1,0]) (by kernel_rfl) ?_
  refine At.conv (Γ' := (IntsA (some ⟨b16_0, 0, none⟩) 4 l16_0) :: (VMapA (Value.int .i64) m8_0 m8_3) :: (Asn.own b5_1 (.cells #[.int .i64 y5_0.kind, .int .i64 y5_0.line, .int .i64 y5_0.id, .int .i64 (nth l6_0 y6_2), .int .i64 y5_0.state, .int .i64 (0), .slice a5_0_00 (List.length y5_0.data) c5_0_00, .int .i64 y5_0.next, .int .i64 y5_0.told] 29 (0, 0))) :: (ImmI a5_0_00 y5_0.data) :: (CacheA b1_3_0 v0_b1_3_0) :: (RChA b1_3_1 y1_3.2) :: Γ) (fun w hw => (Sat.less (.take .here (.take (.there .here) (.take (.there .here) (.take (.there .here) (.take (.there .here) (.take (.there .here) (.drop .here .refl))))))) hw)) ?_
  refine at_loopR (x := C3 [1,1,1,1,1,1,1,1,1,0,1,0,0]) (fun mm ff ΔΔ => ∃ (fuel : Nat) (v1_98 : Int) (v1_b1_3_0 : CacheS), attachOtherS_l1 l16_0 y5_0 l6_0 y6_2 y8_7 (attachOtherS_k1 y1_3) fuel v1_98 v1_b1_3_0 = some y ∧ fuel = mm ∧ ff = [(11, .pointer (some ⟨b1_3_0, 0, none⟩)), (12, .pointer (some ⟨b1_3_1, 0, none⟩)), (13, .pointer (some ⟨b5_1, 0, none⟩)), (14, .int .i64 (y8_7.getD (0 : Int))), (96, .slice (some ⟨b16_0, 0, none⟩) (List.length l16_0) 4), (97, .int .i64 (((List.length l16_0) : Nat) : Int)), (98, .int .i64 v1_98)] ∧ (IntsA (some ⟨b16_0, 0, none⟩) 4 l16_0) :: (VMapA (Value.int .i64) m8_0 m8_3) :: (Asn.own b5_1 (.cells #[.int .i64 y5_0.kind, .int .i64 y5_0.line, .int .i64 y5_0.id, .int .i64 (nth l6_0 y6_2), .int .i64 y5_0.state, .int .i64 (0), .slice a5_0_00 (List.length y5_0.data) c5_0_00, .int .i64 y5_0.next, .int .i64 y5_0.told] 29 (0, 0))) :: (ImmI a5_0_00 y5_0.data) :: (CacheA b1_3_0 v1_b1_3_0) :: (RChA b1_3_1 y1_3.2) :: Γ = ΔΔ) (64) (by kernel_rfl) [(11, .pointer (some ⟨b1_3_0, 0, none⟩)), (12, .pointer (some ⟨b1_3_1, 0, none⟩)), (13, .pointer (some ⟨b5_1, 0, none⟩)), (14, .int .i64 (y8_7.getD (0 : Int))), (96, .slice (some ⟨b16_0, 0, none⟩) (List.length l16_0) 4), (97, .int .i64 (((List.length l16_0) : Nat) : Int)), (98, .int .i64 0)] ⟨by kernel_rfl, by kernel_rfl, by kernel_rfl, by kernel_rfl, by kernel_rfl, by kernel_rfl, by kernel_rfl, trivial⟩ ⟨64, 0, v0_b1_3_0, H, rfl, rfl, rfl⟩ ?_
  rintro _ _ _ ⟨fuel2, v1_98, v1_b1_3_0, H, rfl, rfl, rfl⟩
  rcases fuel2 with _ | fuel2
  ·exact (noneE H).elim
  rw [attachOtherS_l1] at H
  refine aq (x := C3 [1,1,1,1,1,1,1,1,1,0,1,0,0,0]) (y := C3 [1,1,1,1,1,1,1,1,1,0,1,0,0,1]) ?_
  refine ar (id := 17) 1 ?_
  refine sp 99 (.bool (decide (v1_98 < (((List.length l16_0) : Nat) : Int)))) ?_
  refine ops_end ?_
  refine ae [(11, .pointer (some ⟨b1_3_0, 0, none⟩)), (12, .pointer (some ⟨b1_3_1, 0, none⟩)), (13, .pointer (some ⟨b5_1, 0, none⟩)), (14, .int .i64 (y8_7.getD (0 : Int))), (96, .slice (some ⟨b16_0, 0, none⟩) (List.length l16_0) 4), (97, .int .i64 (((List.length l16_0) : Nat) : Int)), (98, .int .i64 v1_98), (99, .bool (decide (v1_98 < (((List.length l16_0) : Nat) : Int))))] ?_
  refine at_then_normal ?_
  refine aq (x := C3 [1,1,1,1,1,1,1,1,1,0,1,0,0,1,0]) (y := C3 [1,1,1,1,1,1,1,1,1,0,1,0,0,1,1]) ?_
  rcases Bool.eq_false_or_eq_true (decide (v1_98 < (((List.length l16_0) : Nat) : Int))) with h9 | h9
  ·replace H := bifT H h9
   refine at_true (t := decide (v1_98 < (((List.length l16_0) : Nat) : Int))) (x := C3 [1,1,1,1,1,1,1,1,1,0,1,0,0,1,0,0]) (y := C3 [1,1,1,1,1,1,1,1,1,0,1,0,0,1,0,1]) (o := .tmp 99) (by kernel_rfl) (by kernel_rfl) (by kernel_rfl) h9 ?_
   refine at_skip (by kernel_rfl) ?_
   refine at_then_normal ?_
   refine aq (x := C3 [1,1,1,1,1,1,1,1,1,0,1,0,0,1,1,0]) (y := C3 [1,1,1,1,1,1,1,1,1,0,1,0,0,1,1,1]) ?_
   refine at_block (i := 3) (x := C3 [1,1,1,1,1,1,1,1,1,0,1,0,0,1,1,0,0]) (by kernel_rfl) ?_
   refine aq (x := C3 [1,1,1,1,1,1,1,1,1,0,1,0,0,1,1,0,0,0]) (y := C3 [1,1,1,1,1,1,1,1,1,0,1,0,0,1,1,0,0,1]) ?_
   refine ar (id := 18) 3 ?_
   obtain ⟨hc18_0_0, H⟩ := chkE H
   refine rows_at .here (by have := hc18_0_0; simp only [ints_length]; omega) ?_
   intro bb3 oo3 ha3
   refine sr 100 (.pointer (some ⟨bb3, oo3 + ((v1_98).toNat * 1 + 0), none⟩)) (index_at (t := 22) (sz := 1) (E := 3) (a := some ⟨b16_0, 0, none⟩) (m := (List.length l16_0)) (c := 4) (b := bb3) (off := oo3) (i := (v1_98).toNat) (tinfo 3) (fun _ => by kernel_rfl) (by kernel_rfl) (by kernel_rfl) (by kernel_rfl) ha3 (idx_cast hc18_0_0) (idx_nat hc18_0_0) rfl) ?_
   refine sl 101 (.int .i64 (nth l16_0 v1_98)) (load1_at (off := oo3 + ((v1_98).toNat * 1 + 0)) (v := .int .i64 (nth l16_0 v1_98)) (fun _ => by kernel_rfl) rfl (reads_cell (k := 1) (RowsA.reads (k := 1) .here) (ints_rows _) ha3 (nth_row hc18_0_0) (show [(.int .i64 (nth l16_0 v1_98) : Value)][0]? = some _ from rfl))) ?_
   refine sp 20 (.int .i64 (nth l16_0 v1_98)) ?_
   refine ops_end ?_
   refine ae [(11, .pointer (some ⟨b1_3_0, 0, none⟩)), (12, .pointer (some ⟨b1_3_1, 0, none⟩)), (13, .pointer (some ⟨b5_1, 0, none⟩)), (14, .int .i64 (y8_7.getD (0 : Int))), (20, .int .i64 (nth l16_0 v1_98)), (96, .slice (some ⟨b16_0, 0, none⟩) (List.length l16_0) 4), (97, .int .i64 (((List.length l16_0) : Nat) : Int)), (98, .int .i64 v1_98)] ?_
   refine at_then_normal ?_
   refine aq (x := C3 [1,1,1,1,1,1,1,1,1,0,1,0,0,1,1,0,0,1,0]) (y := C3 [1,1,1,1,1,1,1,1,1,0,1,0,0,1,1,0,0,1,1]) ?_
   refine ar (id := 19) 3 ?_
   refine sl 102 (.agg #[.int .i64 y5_0.kind, .int .i64 y5_0.line, .int .i64 y5_0.id, .int .i64 (nth l6_0 y6_2), .int .i64 y5_0.state, .int .i64 (0), .slice a5_0_00 (List.length y5_0.data) c5_0_00, .int .i64 y5_0.next, .int .i64 y5_0.told]) (loadN (off := 0) (vs := [.int .i64 y5_0.kind, .int .i64 y5_0.line, .int .i64 y5_0.id, .int .i64 (nth l6_0 y6_2), .int .i64 y5_0.state, .int .i64 (0), .slice a5_0_00 (List.length y5_0.data) c5_0_00, .int .i64 y5_0.next, .int .i64 y5_0.told]) 9 (fun _ => by kernel_rfl) (holds_own (.there (.there .here))) rfl (by exact ⟨rfl, rfl, rfl, rfl, rfl, rfl, rfl, rfl, rfl, trivial⟩)) ?_
   refine s_step 21 (by kernel_rfl) (by kernel_rfl) (st_new (T := 29) (cells := #[.int .i64 (0), .int .i64 (0), .int .i64 (0), .int .i64 (0), .int .i64 (0), .int .i64 (0), .slice none 0 0, .int .i64 (0), .int .i64 (0)]) (fun a => .pointer (some a)) (fun _ => by kernel_rfl)) ?_
   rintro _ _ ⟨b19_1, rfl, rfl⟩
   refine s_do (by kernel_rfl) (by kernel_rfl) (st_store (off := 0) (vs := [.int .i64 y5_0.kind, .int .i64 y5_0.line, .int .i64 y5_0.id, .int .i64 (nth l6_0 y6_2), .int .i64 y5_0.state, .int .i64 (0), .slice a5_0_00 (List.length y5_0.data) c5_0_00, .int .i64 y5_0.next, .int .i64 y5_0.told]) (c' := #[.int .i64 y5_0.kind, .int .i64 y5_0.line, .int .i64 y5_0.id, .int .i64 (nth l6_0 y6_2), .int .i64 y5_0.state, .int .i64 (0), .slice a5_0_00 (List.length y5_0.data) c5_0_00, .int .i64 y5_0.next, .int .i64 y5_0.told]) (fun _ => by kernel_rfl) .here (by kernel_rfl) (by kernel_rfl) (by kernel_rfl)) ?_
   rintro _ _ ⟨rfl, rfl⟩
   refine ops_end ?_
   refine ae [(11, .pointer (some ⟨b1_3_0, 0, none⟩)), (12, .pointer (some ⟨b1_3_1, 0, none⟩)), (13, .pointer (some ⟨b5_1, 0, none⟩)), (14, .int .i64 (y8_7.getD (0 : Int))), (20, .int .i64 (nth l16_0 v1_98)), (21, .pointer (some ⟨b19_1, 0, none⟩)), (96, .slice (some ⟨b16_0, 0, none⟩) (List.length l16_0) 4), (97, .int .i64 (((List.length l16_0) : Nat) : Int)), (98, .int .i64 v1_98)] ?_
   refine at_then_normal ?_
   refine aq (x := C3 [1,1,1,1,1,1,1,1,1,0,1,0,0,1,1,0,0,1,1,0]) (y := C3 [1,1,1,1,1,1,1,1,1,0,1,0,0,1,1,0,0,1,1,1]) ?_
   refine ar (id := 20) 3 ?_
   refine sp 103 (.int .i64 (nth l16_0 v1_98)) ?_
   refine sp 104 (.pointer (some ⟨b19_1, 0, none⟩)) ?_
   refine s_do (by kernel_rfl) (by kernel_rfl) (st_store (off := 0) (vs := [.int .i64 (nth l16_0 v1_98)]) (c' := #[.int .i64 (nth l16_0 v1_98), .int .i64 y5_0.line, .int .i64 y5_0.id, .int .i64 (nth l6_0 y6_2), .int .i64 y5_0.state, .int .i64 (0), .slice a5_0_00 (List.length y5_0.data) c5_0_00, .int .i64 y5_0.next, .int .i64 y5_0.told]) (fun _ => by kernel_rfl) .here (by kernel_rfl) (by kernel_rfl) (by kernel_rfl)) ?_
   rintro _ _ ⟨rfl, rfl⟩
   refine ops_end ?_
   refine ae [(11, .pointer (some ⟨b1_3_0, 0, none⟩)), (12, .pointer (some ⟨b1_3_1, 0, none⟩)), (13, .pointer (some ⟨b5_1, 0, none⟩)), (14, .int .i64 (y8_7.getD (0 : Int))), (21, .pointer (some ⟨b19_1, 0, none⟩)), (96, .slice (some ⟨b16_0, 0, none⟩) (List.length l16_0) 4), (97, .int .i64 (((List.length l16_0) : Nat) : Int)), (98, .int .i64 v1_98)] ?_
   refine at_then_normal ?_
   refine aq (x := C3 [1,1,1,1,1,1,1,1,1,0,1,0,0,1,1,0,0,1,1,1,0]) (y := C3 [1,1,1,1,1,1,1,1,1,0,1,0,0,1,1,0,0,1,1,1,1]) ?_
   refine ar (id := 21) 11 ?_
   refine sl 106 (.agg #[.int .i64 (nth l16_0 v1_98), .int .i64 y5_0.line, .int .i64 y5_0.id, .int .i64 (nth l6_0 y6_2), .int .i64 y5_0.state, .int .i64 (0), .slice a5_0_00 (List.length y5_0.data) c5_0_00, .int .i64 y5_0.next, .int .i64 y5_0.told]) (loadN (off := 0) (vs := [.int .i64 (nth l16_0 v1_98), .int .i64 y5_0.line, .int .i64 y5_0.id, .int .i64 (nth l6_0 y6_2), .int .i64 y5_0.state, .int .i64 (0), .slice a5_0_00 (List.length y5_0.data) c5_0_00, .int .i64 y5_0.next, .int .i64 y5_0.told]) 9 (fun _ => by kernel_rfl) (holds_own .here) rfl (by exact ⟨rfl, rfl, rfl, rfl, rfl, rfl, rfl, rfl, rfl, trivial⟩)) ?_
   refine sp 107 (.pointer (some ⟨b1_3_0, 0, none⟩)) ?_
   refine sp 108 (.int .i64 (y8_7.getD (0 : Int))) ?_
   refine sp 109 (.agg #[.int .i64 (y8_7.getD (0 : Int)), .int .i64 (0), .int .i64 (0), .int .i64 (3), .int .i64 (1), .int .i64 (0), .int .i64 (0), .bool false, .slice none 0 0]) ?_
   obtain ⟨y21_4, hy21_4, H⟩ := bindE H
   refine s_call 110 10 #[.agg #[.int .i64 (nth l16_0 v1_98), .int .i64 y5_0.line, .int .i64 y5_0.id, .int .i64 (nth l6_0 y6_2), .int .i64 y5_0.state, .int .i64 (0), .slice a5_0_00 (List.length y5_0.data) c5_0_00, .int .i64 y5_0.next, .int .i64 y5_0.told], .int .i64 (2), .pointer (some ⟨b1_3_0, 0, none⟩), .agg #[.int .i64 (y8_7.getD (0 : Int)), .int .i64 (0), .int .i64 (0), .int .i64 (3), .int .i64 (1), .int .i64 (0), .int .i64 (0), .bool false, .slice none 0 0]] (by kernel_rfl) (by kernel_rfl) (fun _ => by kernel_rfl) (Tr.conv (Γ' := (ImmI a5_0_00 y5_0.data) :: (CacheA b1_3_0 v1_b1_3_0) :: (ImmI a5_0_00 y5_0.data) :: (Asn.own b19_1 (.cells #[.int .i64 (nth l16_0 v1_98), .int .i64 y5_0.line, .int .i64 y5_0.id, .int .i64 (nth l6_0 y6_2), .int .i64 y5_0.state, .int .i64 (0), .slice a5_0_00 (List.length y5_0.data) c5_0_00, .int .i64 y5_0.next, .int .i64 y5_0.told] 29 (0, 0))) :: (IntsA (some ⟨b16_0, 0, none⟩) 4 l16_0) :: (VMapA (Value.int .i64) m8_0 m8_3) :: (Asn.own b5_1 (.cells #[.int .i64 y5_0.kind, .int .i64 y5_0.line, .int .i64 y5_0.id, .int .i64 (nth l6_0 y6_2), .int .i64 y5_0.state, .int .i64 (0), .slice a5_0_00 (List.length y5_0.data) c5_0_00, .int .i64 y5_0.next, .int .i64 y5_0.told] 29 (0, 0))) :: (RChA b1_3_1 y1_3.2) :: Γ) (fun w hw => (Sat.less (.take .here (.take (.there (.there (.there (.there (.there .here))))) (.take .here (.take .here (.take .here (.take .here (.take .here (.take .here .refl)))))))) (ImmR.dup (Sat.less (.take (.there (.there (.there (.there .here)))) (.take .here (.take .here (.take .here (.take .here (.take .here (.take .here .refl))))))) hw)))) (ANextF_tr a5_0_00 c5_0_00 (⟨nth l16_0 v1_98, y5_0.line, y5_0.id, nth l6_0 y6_2, y5_0.state, 0, y5_0.data, y5_0.next, y5_0.told⟩ : DealS) (2 : Int) b1_3_0 v1_b1_3_0 none 0 (⟨y8_7.getD (0 : Int), 0, 0, 3, 1, 0, 0, false, ([] : List Int)⟩ : PktS) Reads.nil y21_4 hy21_4)) ?_
   rintro _ _ ⟨a21_4_00, c21_4_00, rfl, rfl⟩
   refine sp 105 (.tuple #[.agg #[.int .i64 y21_4.1.kind, .int .i64 y21_4.1.line, .int .i64 y21_4.1.id, .int .i64 y21_4.1.step, .int .i64 y21_4.1.state, .int .i64 y21_4.1.head, .slice a21_4_00 (List.length y21_4.1.data) c21_4_00, .int .i64 y21_4.1.next, .int .i64 y21_4.1.told], .bool y21_4.2.1]) ?_
   refine sp 111 (.agg #[.int .i64 y21_4.1.kind, .int .i64 y21_4.1.line, .int .i64 y21_4.1.id, .int .i64 y21_4.1.step, .int .i64 y21_4.1.state, .int .i64 y21_4.1.head, .slice a21_4_00 (List.length y21_4.1.data) c21_4_00, .int .i64 y21_4.1.next, .int .i64 y21_4.1.told]) ?_
   refine sp 112 (.bool y21_4.2.1) ?_
   refine s_step 22 (by kernel_rfl) (by kernel_rfl) (st_new (T := 29) (cells := #[.int .i64 (0), .int .i64 (0), .int .i64 (0), .int .i64 (0), .int .i64 (0), .int .i64 (0), .slice none 0 0, .int .i64 (0), .int .i64 (0)]) (fun a => .pointer (some a)) (fun _ => by kernel_rfl)) ?_
   rintro _ _ ⟨b21_8, rfl, rfl⟩
   refine s_do (by kernel_rfl) (by kernel_rfl) (st_store (off := 0) (vs := [.int .i64 y21_4.1.kind, .int .i64 y21_4.1.line, .int .i64 y21_4.1.id, .int .i64 y21_4.1.step, .int .i64 y21_4.1.state, .int .i64 y21_4.1.head, .slice a21_4_00 (List.length y21_4.1.data) c21_4_00, .int .i64 y21_4.1.next, .int .i64 y21_4.1.told]) (c' := #[.int .i64 y21_4.1.kind, .int .i64 y21_4.1.line, .int .i64 y21_4.1.id, .int .i64 y21_4.1.step, .int .i64 y21_4.1.state, .int .i64 y21_4.1.head, .slice a21_4_00 (List.length y21_4.1.data) c21_4_00, .int .i64 y21_4.1.next, .int .i64 y21_4.1.told]) (fun _ => by kernel_rfl) .here (by kernel_rfl) (by kernel_rfl) (by kernel_rfl)) ?_
   rintro _ _ ⟨rfl, rfl⟩
   refine sp 23 (.bool y21_4.2.1) ?_
   refine ops_end ?_
   refine ae [(11, .pointer (some ⟨b1_3_0, 0, none⟩)), (12, .pointer (some ⟨b1_3_1, 0, none⟩)), (13, .pointer (some ⟨b5_1, 0, none⟩)), (14, .int .i64 (y8_7.getD (0 : Int))), (23, .bool y21_4.2.1), (96, .slice (some ⟨b16_0, 0, none⟩) (List.length l16_0) 4), (97, .int .i64 (((List.length l16_0) : Nat) : Int)), (98, .int .i64 v1_98)] ?_
   refine at_then_normal ?_
   refine aq (x := C3 [1,1,1,1,1,1,1,1,1,0,1,0,0,1,1,0,0,1,1,1,1,0]) (y := C3 [1,1,1,1,1,1,1,1,1,0,1,0,0,1,1,0,0,1,1,1,1,1]) ?_
   refine ar (id := 22) 1 ?_
   refine sp 113 (.bool y21_4.2.1) ?_
   refine ops_end ?_
   refine ae [(11, .pointer (some ⟨b1_3_0, 0, none⟩)), (12, .pointer (some ⟨b1_3_1, 0, none⟩)), (13, .pointer (some ⟨b5_1, 0, none⟩)), (14, .int .i64 (y8_7.getD (0 : Int))), (96, .slice (some ⟨b16_0, 0, none⟩) (List.length l16_0) 4), (97, .int .i64 (((List.length l16_0) : Nat) : Int)), (98, .int .i64 v1_98), (113, .bool y21_4.2.1)] ?_
   refine at_then_normal ?_
   rcases Bool.eq_false_or_eq_true (y21_4.2.1) with h10 | h10
   ·replace H := bifT H h10
    refine at_true (t := y21_4.2.1) (x := C3 [1,1,1,1,1,1,1,1,1,0,1,0,0,1,1,0,0,1,1,1,1,1,0]) (y := C3 [1,1,1,1,1,1,1,1,1,0,1,0,0,1,1,0,0,1,1,1,1,1,1]) (o := .tmp 113) (by kernel_rfl) (by kernel_rfl) (by kernel_rfl) h10 ?_
    refine aq (x := C3 [1,1,1,1,1,1,1,1,1,0,1,0,0,1,1,0,0,1,1,1,1,1,0,0]) (y := C3 [1,1,1,1,1,1,1,1,1,0,1,0,0,1,1,0,0,1,1,1,1,1,0,1]) ?_
    refine ar (id := 23) 1 ?_
    refine sp 10 (.bool false) ?_
    refine ops_end ?_
    refine ae [(10, .bool false)] ?_
    refine at_then_normal ?_
    refine at_ret (by kernel_rfl) ?_
    refine at_in_ret ?_
    refine at_then_ret ?_
    refine at_then_ret ?_
    refine at_in_ret ?_
    refine at_then_ret ?_
    obtain rfl := someE H
    refine at_backR [.bool false] (Γ) (rs := [.tmp 10]) (by kernel_rfl) (.cons (.tmp (by kernel_rfl)) .nil) (fun w hw => (Sat.less (.drop .here (.drop .here (.drop .here (.drop .here (.drop .here (.drop .here (.drop .here (.drop .here (.drop .here .refl))))))))) hw)) ?_
    exact ⟨rfl, rfl⟩
   ·replace H := bifF H h10
    refine at_false (t := y21_4.2.1) (x := C3 [1,1,1,1,1,1,1,1,1,0,1,0,0,1,1,0,0,1,1,1,1,1,0]) (y := C3 [1,1,1,1,1,1,1,1,1,0,1,0,0,1,1,0,0,1,1,1,1,1,1]) (o := .tmp 113) (by kernel_rfl) (by kernel_rfl) (by kernel_rfl) h10 ?_
    refine at_skip (by kernel_rfl) ?_
    refine at_in_normal ?_
    refine at_then_normal ?_
    refine ar (id := 24) 2 ?_
    obtain ⟨hc24_0_0, H⟩ := chkE H
    refine sr 114 (.int .i64 (v1_98 + (1 : Int))) (run_eq (v := .int .i64 (IntKind.i64.wrap (v1_98 + (1 : Int)))) (fun _ => by kernel_rfl) (by rw [inR.wrap hc24_0_0])) ?_
    refine sp 98 (.int .i64 (v1_98 + (1 : Int))) ?_
    refine ops_end ?_
    refine ae [(11, .pointer (some ⟨b1_3_0, 0, none⟩)), (12, .pointer (some ⟨b1_3_1, 0, none⟩)), (13, .pointer (some ⟨b5_1, 0, none⟩)), (14, .int .i64 (y8_7.getD (0 : Int))), (96, .slice (some ⟨b16_0, 0, none⟩) (List.length l16_0) 4), (97, .int .i64 (((List.length l16_0) : Nat) : Int)), (98, .int .i64 (v1_98 + (1 : Int)))] ?_
    refine at_round_normal ?_
    exact at_roundR fuel2 [(11, .pointer (some ⟨b1_3_0, 0, none⟩)), (12, .pointer (some ⟨b1_3_1, 0, none⟩)), (13, .pointer (some ⟨b5_1, 0, none⟩)), (14, .int .i64 (y8_7.getD (0 : Int))), (96, .slice (some ⟨b16_0, 0, none⟩) (List.length l16_0) 4), (97, .int .i64 (((List.length l16_0) : Nat) : Int)), (98, .int .i64 (v1_98 + (1 : Int)))] ((IntsA (some ⟨b16_0, 0, none⟩) 4 l16_0) :: (VMapA (Value.int .i64) m8_0 m8_3) :: (Asn.own b5_1 (.cells #[.int .i64 y5_0.kind, .int .i64 y5_0.line, .int .i64 y5_0.id, .int .i64 (nth l6_0 y6_2), .int .i64 y5_0.state, .int .i64 (0), .slice a5_0_00 (List.length y5_0.data) c5_0_00, .int .i64 y5_0.next, .int .i64 y5_0.told] 29 (0, 0))) :: (ImmI a5_0_00 y5_0.data) :: (CacheA b1_3_0 y21_4.2.2) :: (RChA b1_3_1 y1_3.2) :: Γ) (Nat.lt_succ_self _) ⟨by kernel_rfl, by kernel_rfl, by kernel_rfl, by kernel_rfl, by kernel_rfl, by kernel_rfl, by kernel_rfl, trivial⟩ (fun w hw => (Sat.less (.take (.there (.there (.there (.there (.there .here))))) (.take (.there (.there (.there (.there (.there .here))))) (.take (.there (.there (.there (.there (.there .here))))) (.take (.there (.there (.there .here))) (.take (.there (.there .here)) (.take (.there (.there (.there .here))) (.drop .here (.drop .here (.drop .here .refl))))))))) hw)) ⟨fuel2, v1_98 + (1 : Int), y21_4.2.2, H, rfl, rfl, rfl⟩
  ·replace H := bifF H h9
   refine at_false (t := decide (v1_98 < (((List.length l16_0) : Nat) : Int))) (x := C3 [1,1,1,1,1,1,1,1,1,0,1,0,0,1,0,0]) (y := C3 [1,1,1,1,1,1,1,1,1,0,1,0,0,1,0,1]) (o := .tmp 99) (by kernel_rfl) (by kernel_rfl) (by kernel_rfl) h9 ?_
   refine at_exit (i := 2) (by kernel_rfl) ?_
   refine at_then_exit ?_
   refine at_then_exit ?_
   rw [attachOtherS_k1] at H
   refine ae [(11, .pointer (some ⟨b1_3_0, 0, none⟩)), (12, .pointer (some ⟨b1_3_1, 0, none⟩)), (13, .pointer (some ⟨b5_1, 0, none⟩)), (14, .int .i64 (y8_7.getD (0 : Int))), (96, .slice (some ⟨b16_0, 0, none⟩) (List.length l16_0) 4), (97, .int .i64 (((List.length l16_0) : Nat) : Int)), (98, .int .i64 v1_98)] ?_
   refine At.conv (Γ' := (IntsA (some ⟨b16_0, 0, none⟩) 4 l16_0) :: (VMapA (Value.int .i64) m8_0 m8_3) :: (Asn.own b5_1 (.cells #[.int .i64 y5_0.kind, .int .i64 y5_0.line, .int .i64 y5_0.id, .int .i64 (nth l6_0 y6_2), .int .i64 y5_0.state, .int .i64 (0), .slice a5_0_00 (List.length y5_0.data) c5_0_00, .int .i64 y5_0.next, .int .i64 y5_0.told] 29 (0, 0))) :: (ImmI a5_0_00 y5_0.data) :: (CacheA b1_3_0 v1_b1_3_0) :: (RChA b1_3_1 y1_3.2) :: Γ) (fun w hw => (Sat.less (.take .here (.take .here (.take .here (.take .here (.take .here (.take .here .refl)))))) hw)) ?_
   refine at_in_here ?_
   refine at_then_normal ?_
   refine aq (x := C3 [1,1,1,1,1,1,1,1,1,1,0]) (y := C3 [1,1,1,1,1,1,1,1,1,1,1]) ?_
   refine ar (id := 25) 7 ?_
   refine sp 115 (.pointer (some ⟨b1_3_0, 0, none⟩)) ?_
   refine sp 116 (.pointer (some ⟨b1_3_1, 0, none⟩)) ?_
   refine RChA.tox (.there (.there (.there (.there (.there .here))))) ?_
   intro x25_2_b1_3_1
   obtain ⟨y25_2, hy25_2, H⟩ := bindE H
   refine s_call 117 11 #[.pointer (some ⟨b1_3_0, 0, none⟩), .pointer (some ⟨b1_3_1, 0, none⟩)] (by kernel_rfl) (by kernel_rfl) (fun _ => by kernel_rfl) (Tr.conv (Γ' := (CacheA b1_3_0 v1_b1_3_0) :: (RChXA b1_3_1 x25_2_b1_3_1 y1_3.2) :: (IntsA (some ⟨b16_0, 0, none⟩) 4 l16_0) :: (VMapA (Value.int .i64) m8_0 m8_3) :: (Asn.own b5_1 (.cells #[.int .i64 y5_0.kind, .int .i64 y5_0.line, .int .i64 y5_0.id, .int .i64 (nth l6_0 y6_2), .int .i64 y5_0.state, .int .i64 (0), .slice a5_0_00 (List.length y5_0.data) c5_0_00, .int .i64 y5_0.next, .int .i64 y5_0.told] 29 (0, 0))) :: (ImmI a5_0_00 y5_0.data) :: Γ) (fun w hw => (Sat.less (.take (.there (.there (.there (.there (.there .here))))) (.take .here (.take .here (.take .here (.take .here (.take .here .refl)))))) hw)) (SameCF_tr b1_3_0 v1_b1_3_0 b1_3_1 x25_2_b1_3_1 y1_3.2 y25_2 hy25_2)) ?_
   rintro _ _ ⟨rfl, rfl⟩
   rcases Bool.eq_false_or_eq_true (y25_2) with h11 | h11
   ·replace H := bifT H h11
    refine sr 118 (.bool true) (run_eq (v := .bool (y25_2)) (fun _ => by kernel_rfl) (congrArg Value.bool h11)) ?_
    obtain ⟨y25_4, hy25_4, H⟩ := bindE H
    refine s_call 119 12 #[] (by kernel_rfl) (by kernel_rfl) (fun _ => by kernel_rfl) (W14F_tr  y25_4 hy25_4) ?_
    rintro _ _ ⟨rfl, rfl⟩
    refine sp 120 (.bool y25_4) ?_
    refine sp 10 (.bool y25_4) ?_
    refine ops_end ?_
    refine ae [(10, .bool y25_4)] ?_
    refine at_then_normal ?_
    refine at_ret (by kernel_rfl) ?_
    refine At.conv (Γ' := (RChA b1_3_1 y1_3.2) :: (CacheA b1_3_0 v1_b1_3_0) :: (IntsA (some ⟨b16_0, 0, none⟩) 4 l16_0) :: (VMapA (Value.int .i64) m8_0 m8_3) :: (Asn.own b5_1 (.cells #[.int .i64 y5_0.kind, .int .i64 y5_0.line, .int .i64 y5_0.id, .int .i64 (nth l6_0 y6_2), .int .i64 y5_0.state, .int .i64 (0), .slice a5_0_00 (List.length y5_0.data) c5_0_00, .int .i64 y5_0.next, .int .i64 y5_0.told] 29 (0, 0))) :: (ImmI a5_0_00 y5_0.data) :: Γ) (fun w hw => RChXA.shut (hw.pull (.there .here))) ?_
    obtain rfl := someE H
    refine at_backR [.bool y25_4] (Γ) (rs := [.tmp 10]) (by kernel_rfl) (.cons (.tmp (by kernel_rfl)) .nil) (fun w hw => (Sat.less (.drop .here (.drop .here (.drop .here (.drop .here (.drop .here (.drop .here .refl)))))) hw)) ?_
    exact ⟨rfl, rfl⟩
   ·replace H := bifF H h11
    refine sr 118 (.bool false) (run_eq (v := .bool (y25_2)) (fun _ => by kernel_rfl) (congrArg Value.bool h11)) ?_
    refine sa 119 ?_
    refine sp 120 (.bool false) ?_
    refine sp 10 (.bool false) ?_
    refine ops_end ?_
    refine ae [(10, .bool false)] ?_
    refine at_then_normal ?_
    refine at_ret (by kernel_rfl) ?_
    refine At.conv (Γ' := (RChA b1_3_1 y1_3.2) :: (CacheA b1_3_0 v1_b1_3_0) :: (IntsA (some ⟨b16_0, 0, none⟩) 4 l16_0) :: (VMapA (Value.int .i64) m8_0 m8_3) :: (Asn.own b5_1 (.cells #[.int .i64 y5_0.kind, .int .i64 y5_0.line, .int .i64 y5_0.id, .int .i64 (nth l6_0 y6_2), .int .i64 y5_0.state, .int .i64 (0), .slice a5_0_00 (List.length y5_0.data) c5_0_00, .int .i64 y5_0.next, .int .i64 y5_0.told] 29 (0, 0))) :: (ImmI a5_0_00 y5_0.data) :: Γ) (fun w hw => RChXA.shut (hw.pull (.there .here))) ?_
    obtain rfl := someE H
    refine at_backR [.bool false] (Γ) (rs := [.tmp 10]) (by kernel_rfl) (.cons (.tmp (by kernel_rfl)) .nil) (fun w hw => (Sat.less (.drop .here (.drop .here (.drop .here (.drop .here (.drop .here (.drop .here .refl)))))) hw)) ?_
    exact ⟨rfl, rfl⟩
end Go.Proofs.Ytfndeehlbcbkpaa
