/- Who has which line, and who waits: each function answers what its plain function says. -/
import Derived.Test.YtcigheahollkcaaOwnB
import Derived.Test.YtcigheahollkcaaSlTurnB
namespace Go.Proofs.Ytcigheahollkcaa
open Go Go.RowKit
set_option linter.unusedVariables false
set_option linter.unusedSimpArgs false
def tnewS : Option (TurnsS) :=
 some (⟨([] : List (Int × Int)), ([] : List (Int × List (Int × Int)))⟩ : TurnsS)
noncomputable def C26 (p : List Nat) : Code := codeAt (bodyOf Try.f26) p
set_option maxRecDepth 100000 in
set_option maxHeartbeats 8000000 in
theorem TNewF_tr {W0 : World} {Γ : List Asn}   (y : TurnsS) (H : tnewS = some y) : Tr Try.prog 26 #[] W0 (Γ) (fun r Δ => ∃ (b0 : Nat), r = .pointer (some ⟨b0, 0, none⟩) ∧ Δ = (TurnsA b0 y) :: Γ) := by
 unfold tnewS at H
 refine Tr.enter (fn := Try.f26) (c := C26 []) (args := []) 5 Try.func26 kf kf ?_
 refine At.env [] trivial ?_
 refine aq (x := C26 [0]) (y := C26 [1]) ?_
 refine ar (id := 0) 1 ?_
 refine sp 0 (.pointer none) ?_
 refine ops_end ?_
 refine At.env [] trivial ?_
 refine at_then_normal ?_
 refine aq (x := C26 [1,0]) (y := C26 [1,1]) ?_
 refine ar (id := 1) 5 ?_
 refine s_step 1 kf kf (st_kmap_make (t := 74) (fun _ => kf)) ?_
 rintro _ _ ⟨m1_0, rfl, rfl⟩
 refine At.conv (Γ' := (IMapA m1_0 ([] : List (Int × Int))) :: Γ) (fun w hw => hw) ?_
 refine s_step 2 kf kf (st_kmap_make (t := 75) (fun _ => kf)) ?_
 rintro _ _ ⟨m1_1, rfl, rfl⟩
 refine At.conv (Γ' := (WMapA m1_1 ([] : List (Int × List (Int × Int)))) :: (IMapA m1_0 ([] : List (Int × Int))) :: Γ) (fun w hw => wmap_nil hw) ?_
 refine sp 3 (.agg #[.map (some m1_0), .map (some m1_1)]) ?_
 refine s_step 4 kf kf (st_new (T := 77) (cells := #[.map (some m1_0), .map (some m1_1)]) (fun a => .pointer (some a)) (fun _ => kf)) ?_
 rintro _ _ ⟨b1_3, rfl, rfl⟩
 refine sp 0 (.pointer (some ⟨b1_3, 0, none⟩)) ?_
 refine ops_end ?_
 refine ae [(0, .pointer (some ⟨b1_3, 0, none⟩))] ?_
 refine at_then_normal ?_
 refine at_ret kf ?_
 refine At.conv (Γ' := (TurnsA b1_3 (⟨([] : List (Int × Int)), ([] : List (Int × List (Int × Int)))⟩ : TurnsS)) :: Γ) (fun w hw => TurnsA.close (⟨([] : List (Int × Int)), ([] : List (Int × List (Int × Int)))⟩ : TurnsS) rfl rfl (Sat.less (.take .here (.take (.there .here) (.take .here .refl))) hw)) ?_
 obtain rfl := someE H
 refine at_backR [.pointer (some ⟨b1_3, 0, none⟩)] ((TurnsA b1_3 (⟨([] : List (Int × Int)), ([] : List (Int × List (Int × Int)))⟩ : TurnsS)) :: Γ) (rs := [.tmp 0]) kf (.cons (.tmp kf) .nil) (fun w hw => (Sat.less (.take .here .refl) hw)) ?_
 exact ⟨b1_3, rfl, rfl⟩
def townerS (tc : TurnsS) (line : Int) : Option (Int) :=
 letP (mget tc.owners line) fun y1_5 => (bif y1_5.isSome then some (y1_5.getD 0) else some ((-1) : Int))
noncomputable def C11 (p : List Nat) : Code := codeAt (bodyOf Try.f11) p
set_option maxRecDepth 100000 in
set_option maxHeartbeats 8000000 in
theorem TOwnerF_tr {W0 : World} {Γ : List Asn} (t : Nat) (tc : TurnsS) (line : Int)  (y : Int) (H : townerS tc line = some y) : Tr Try.prog 11 #[.pointer (some ⟨t, 0, none⟩), .int .i64 line] W0 ((TurnsA t tc) :: Γ) (fun r Δ => r = .int .i64 y ∧ Δ = (TurnsA t tc) :: Γ) := by
 unfold townerS at H
 refine Tr.enter (fn := Try.f11) (c := C11 []) (args := [.pointer (some ⟨t, 0, none⟩), .int .i64 line]) 18 Try.func11 kf kf ?_
 refine ae [(0, .pointer (some ⟨t, 0, none⟩)), (1, .int .i64 line)] ?_
 refine aq (x := C11 [0]) (y := C11 [1]) ?_
 refine ar (id := 0) 1 ?_
 refine sp 4 (.int .i64 (0)) ?_
 refine ops_end ?_
 refine ae [(0, .pointer (some ⟨t, 0, none⟩)), (1, .int .i64 line)] ?_
 refine at_then_normal ?_
 refine aq (x := C11 [1,0]) (y := C11 [1,1]) ?_
 refine aq (x := C11 [1,0,0]) (y := C11 [1,0,1]) ?_
 refine ar (id := 1) 11 ?_
 refine sp 8 (.pointer (some ⟨t, 0, none⟩)) ?_
 refine sp 9 (.pointer (some ⟨t, 0, none⟩)) ?_
 refine sp 10 (.pointer (some ⟨t, 0, none⟩)) ?_
 refine TurnsA.open .here ?_
 intro mo1_3 mw1_3 T1_3
 refine sl 11 (.map (some mo1_3)) (load1 (off := 0) (fun _ => kf) (holds_own .here) kf) ?_
 refine sp 12 (.int .i64 line) ?_
 obtain ⟨y1_5, hy1_5, H⟩ := letE H
 refine sl 13 (.tuple #[.int .i64 (y1_5.getD 0), .bool y1_5.isSome]) (imap_lookup2 (t := 74) (Kt := 3) (V := 3) (ik := .i64) (k := line) (info := tinfo 3) hy1_5 (fun _ => kf) kf kf kf kf (.there .here)) ?_
 refine sp 7 (.tuple #[.int .i64 (y1_5.getD 0), .bool y1_5.isSome]) ?_
 refine sp 14 (.int .i64 (y1_5.getD 0)) ?_
 refine sp 15 (.bool y1_5.isSome) ?_
 refine sp 5 (.int .i64 (y1_5.getD 0)) ?_
 refine sp 6 (.bool y1_5.isSome) ?_
 refine ops_end ?_
 refine ae [(5, .int .i64 (y1_5.getD 0)), (6, .bool y1_5.isSome)] ?_
 refine at_then_normal ?_
 refine aq (x := C11 [1,0,1,0]) (y := C11 [1,0,1,1]) ?_
 refine ar (id := 2) 1 ?_
 refine sp 16 (.bool y1_5.isSome) ?_
 refine ops_end ?_
 refine ae [(5, .int .i64 (y1_5.getD 0)), (16, .bool y1_5.isSome)] ?_
 refine at_then_normal ?_
 rcases Bool.eq_false_or_eq_true (y1_5.isSome) with h1 | h1
 ·replace H := bifT H h1
  refine at_true (t := y1_5.isSome) (x := C11 [1,0,1,1,0]) (y := C11 [1,0,1,1,1]) (o := .tmp 16) kf kf kf h1 ?_
  refine aq (x := C11 [1,0,1,1,0,0]) (y := C11 [1,0,1,1,0,1]) ?_
  refine ar (id := 3) 2 ?_
  refine sp 17 (.int .i64 (y1_5.getD 0)) ?_
  refine sp 4 (.int .i64 (y1_5.getD 0)) ?_
  refine ops_end ?_
  refine ae [(4, .int .i64 (y1_5.getD 0))] ?_
  refine at_then_normal ?_
  refine at_ret kf ?_
  refine at_then_ret ?_
  refine At.conv (Γ' := (TurnsA t tc) :: Γ) (fun w hw => TurnsA.close tc rfl rfl (Sat.less (.take .here (.take .here (.take .here .refl))) hw)) ?_
  obtain rfl := someE H
  refine at_backR [.int .i64 (y1_5.getD 0)] ((TurnsA t tc) :: Γ) (rs := [.tmp 4]) kf (.cons (.tmp kf) .nil) (fun w hw => (Sat.less (.take .here .refl) hw)) ?_
  exact ⟨rfl, rfl⟩
 ·replace H := bifF H h1
  refine at_false (t := y1_5.isSome) (x := C11 [1,0,1,1,0]) (y := C11 [1,0,1,1,1]) (o := .tmp 16) kf kf kf h1 ?_
  refine at_skip kf ?_
  refine at_then_normal ?_
  refine aq (x := C11 [1,1,0]) (y := C11 [1,1,1]) ?_
  refine ar (id := 4) 1 ?_
  refine sp 4 (.int .i64 (-1)) ?_
  refine ops_end ?_
  refine ae [(4, .int .i64 (-1))] ?_
  refine at_then_normal ?_
  refine at_ret kf ?_
  refine At.conv (Γ' := (TurnsA t tc) :: Γ) (fun w hw => TurnsA.close tc rfl rfl (Sat.less (.take .here (.take .here (.take .here .refl))) hw)) ?_
  obtain rfl := someE H
  refine at_backR [.int .i64 (-1)] ((TurnsA t tc) :: Γ) (rs := [.tmp 4]) kf (.cons (.tmp kf) .nil) (fun w hw => (Sat.less (.take .here .refl) hw)) ?_
  exact ⟨rfl, rfl⟩
def townedS (tc : TurnsS) (line : Int) : Option (Bool) :=
 letP (mget tc.owners line) fun y1_5 => some y1_5.isSome
noncomputable def C50 (p : List Nat) : Code := codeAt (bodyOf Try.f50) p
set_option maxRecDepth 100000 in
set_option maxHeartbeats 8000000 in
theorem TOwnedF_tr {W0 : World} {Γ : List Asn} (t : Nat) (tc : TurnsS) (line : Int)  (y : Bool) (H : townedS tc line = some y) : Tr Try.prog 50 #[.pointer (some ⟨t, 0, none⟩), .int .i64 line] W0 ((TurnsA t tc) :: Γ) (fun r Δ => r = .bool y ∧ Δ = (TurnsA t tc) :: Γ) := by
 unfold townedS at H
 refine Tr.enter (fn := Try.f50) (c := C50 []) (args := [.pointer (some ⟨t, 0, none⟩), .int .i64 line]) 17 Try.func50 kf kf ?_
 refine ae [(0, .pointer (some ⟨t, 0, none⟩)), (1, .int .i64 line)] ?_
 refine aq (x := C50 [0]) (y := C50 [1]) ?_
 refine ar (id := 0) 1 ?_
 refine sp 4 (.bool false) ?_
 refine ops_end ?_
 refine ae [(0, .pointer (some ⟨t, 0, none⟩)), (1, .int .i64 line)] ?_
 refine at_then_normal ?_
 refine aq (x := C50 [1,0]) (y := C50 [1,1]) ?_
 refine ar (id := 1) 11 ?_
 refine sp 8 (.pointer (some ⟨t, 0, none⟩)) ?_
 refine sp 9 (.pointer (some ⟨t, 0, none⟩)) ?_
 refine sp 10 (.pointer (some ⟨t, 0, none⟩)) ?_
 refine TurnsA.open .here ?_
 intro mo1_3 mw1_3 T1_3
 refine sl 11 (.map (some mo1_3)) (load1 (off := 0) (fun _ => kf) (holds_own .here) kf) ?_
 refine sp 12 (.int .i64 line) ?_
 obtain ⟨y1_5, hy1_5, H⟩ := letE H
 refine sl 13 (.tuple #[.int .i64 (y1_5.getD 0), .bool y1_5.isSome]) (imap_lookup2 (t := 74) (Kt := 3) (V := 3) (ik := .i64) (k := line) (info := tinfo 3) hy1_5 (fun _ => kf) kf kf kf kf (.there .here)) ?_
 refine sp 7 (.tuple #[.int .i64 (y1_5.getD 0), .bool y1_5.isSome]) ?_
 refine sp 14 (.int .i64 (y1_5.getD 0)) ?_
 refine sp 15 (.bool y1_5.isSome) ?_
 refine sp 5 (.int .i64 (y1_5.getD 0)) ?_
 refine sp 6 (.bool y1_5.isSome) ?_
 refine ops_end ?_
 refine ae [(6, .bool y1_5.isSome)] ?_
 refine at_then_normal ?_
 refine aq (x := C50 [1,1,0]) (y := C50 [1,1,1]) ?_
 refine ar (id := 2) 2 ?_
 refine sp 16 (.bool y1_5.isSome) ?_
 refine sp 4 (.bool y1_5.isSome) ?_
 refine ops_end ?_
 refine ae [(4, .bool y1_5.isSome)] ?_
 refine at_then_normal ?_
 refine at_ret kf ?_
 refine At.conv (Γ' := (TurnsA t tc) :: Γ) (fun w hw => TurnsA.close tc rfl rfl (Sat.less (.take .here (.take .here (.take .here .refl))) hw)) ?_
 obtain rfl := someE H
 refine at_backR [.bool y1_5.isSome] ((TurnsA t tc) :: Γ) (rs := [.tmp 4]) kf (.cons (.tmp kf) .nil) (fun w hw => (Sat.less (.take .here .refl) hw)) ?_
 exact ⟨rfl, rfl⟩
def twaitingS (tc : TurnsS) (line : Int) : Option (Int) :=
 some (((List.length (wget tc.wait line)) : Nat) : Int)
noncomputable def C12 (p : List Nat) : Code := codeAt (bodyOf Try.f12) p
set_option maxRecDepth 100000 in
set_option maxHeartbeats 8000000 in
theorem TWaitingF_tr {W0 : World} {Γ : List Asn} (t : Nat) (tc : TurnsS) (line : Int)  (y : Int) (H : twaitingS tc line = some y) : Tr Try.prog 12 #[.pointer (some ⟨t, 0, none⟩), .int .i64 line] W0 ((TurnsA t tc) :: Γ) (fun r Δ => r = .int .i64 y ∧ Δ = (TurnsA t tc) :: Γ) := by
 unfold twaitingS at H
 refine Tr.enter (fn := Try.f12) (c := C12 []) (args := [.pointer (some ⟨t, 0, none⟩), .int .i64 line]) 12 Try.func12 kf kf ?_
 refine ae [(0, .pointer (some ⟨t, 0, none⟩)), (1, .int .i64 line)] ?_
 refine aq (x := C12 [0]) (y := C12 [1]) ?_
 refine ar (id := 0) 1 ?_
 refine sp 4 (.int .i64 (0)) ?_
 refine ops_end ?_
 refine ae [(0, .pointer (some ⟨t, 0, none⟩)), (1, .int .i64 line)] ?_
 refine at_then_normal ?_
 refine aq (x := C12 [1,0]) (y := C12 [1,1]) ?_
 refine ar (id := 1) 8 ?_
 refine sp 5 (.pointer (some ⟨t, 0, none⟩)) ?_
 refine sp 6 (.pointer (some ⟨t, 0, none⟩)) ?_
 refine sp 7 (.pointer (some ⟨t, 1, none⟩)) ?_
 refine TurnsA.open .here ?_
 intro mo1_3 mw1_3 T1_3
 refine sl 8 (.map (some mw1_3)) (load1 (off := 1) (fun _ => kf) (holds_own .here) kf) ?_
 refine sp 9 (.int .i64 line) ?_
 refine At.wfocus line (.there (.there .here)) ?_
 intro a1_5 c1_5
 refine sl 10 (.slice a1_5 (List.length (wget tc.wait line)) c1_5) (whole_lookup (t := 75) (K := 3) (V := 78) (ik := .i64) (info := tinfo 78) (fun _ => kf) kf kf kf kf (.there .here)) ?_
 refine sp 11 (.int .i64 (((List.length (wget tc.wait line)) : Nat) : Int)) ?_
 refine sp 4 (.int .i64 (((List.length (wget tc.wait line)) : Nat) : Int)) ?_
 refine ops_end ?_
 refine ae [(4, .int .i64 (((List.length (wget tc.wait line)) : Nat) : Int))] ?_
 refine at_then_normal ?_
 refine at_ret kf ?_
 refine At.conv (Γ' := (WMapA mw1_3 tc.wait) :: (Asn.own t (.cells #[.map (some mo1_3), .map (some mw1_3)] T1_3 (0, 0))) :: (IMapA mo1_3 tc.owners) :: Γ) (fun w hw => WMapA.unfocus (Sat.less (.take .here (.take .here (.take .here (.take .here .refl)))) hw)) ?_
 refine At.conv (Γ' := (TurnsA t tc) :: Γ) (fun w hw => TurnsA.close tc rfl rfl (Sat.less (.take (.there .here) (.take (.there .here) (.take .here .refl))) hw)) ?_
 obtain rfl := someE H
 refine at_backR [.int .i64 (((List.length (wget tc.wait line)) : Nat) : Int)] ((TurnsA t tc) :: Γ) (rs := [.tmp 4]) kf (.cons (.tmp kf) .nil) (fun w hw => (Sat.less (.take .here .refl) hw)) ?_
 exact ⟨rfl, rfl⟩
def taskS (tc : TurnsS) (line : Int) (who : Int) (id : Int) : Option (Bool × TurnsS) :=
 (bif decide (who < (0 : Int)) then some (false, tc) else (townedS tc line).bind fun y3_2 => (bif y3_2 then chk (List.length (wget tc.wait line) ≤ 1099511627776) (letP ((wget tc.wait line) ++ [(who, id)]) fun l4_15 => some (false, (⟨tc.owners, mset tc.wait line (l4_15)⟩ : TurnsS))) else (twaitingS tc line).bind fun y3_6 => (bif decide ((0 : Int) < y3_6) then chk (List.length (wget tc.wait line) ≤ 1099511627776) (letP ((wget tc.wait line) ++ [(who, id)]) fun l4_15 => some (false, (⟨tc.owners, mset tc.wait line (l4_15)⟩ : TurnsS))) else some (true, (⟨mset tc.owners line who, tc.wait⟩ : TurnsS)))))
noncomputable def C29 (p : List Nat) : Code := codeAt (bodyOf Try.f29) p
set_option maxRecDepth 100000 in
set_option maxHeartbeats 8000000 in
theorem TAskF_tr {W0 : World} {Γ : List Asn} (t : Nat) (tc : TurnsS) (line : Int) (who : Int) (id : Int)  (y : Bool × TurnsS) (H : taskS tc line who id = some y) : Tr Try.prog 29 #[.pointer (some ⟨t, 0, none⟩), .int .i64 line, .int .i64 who, .int .i64 id] W0 ((TurnsA t tc) :: Γ) (fun r Δ => r = .bool y.1 ∧ Δ = (TurnsA t y.2) :: Γ) := by
 unfold taskS at H
 refine Tr.enter (fn := Try.f29) (c := C29 []) (args := [.pointer (some ⟨t, 0, none⟩), .int .i64 line, .int .i64 who, .int .i64 id]) 42 Try.func29 kf kf ?_
 refine ae [(0, .pointer (some ⟨t, 0, none⟩)), (1, .int .i64 line), (2, .int .i64 who), (3, .int .i64 id)] ?_
 refine aq (x := C29 [0]) (y := C29 [1]) ?_
 refine ar (id := 0) 1 ?_
 refine sp 8 (.bool false) ?_
 refine ops_end ?_
 refine ae [(0, .pointer (some ⟨t, 0, none⟩)), (1, .int .i64 line), (2, .int .i64 who), (3, .int .i64 id)] ?_
 refine at_then_normal ?_
 refine aq (x := C29 [1,0]) (y := C29 [1,1]) ?_
 refine aq (x := C29 [1,0,0]) (y := C29 [1,0,1]) ?_
 refine ar (id := 1) 2 ?_
 refine sp 9 (.int .i64 who) ?_
 refine sp 10 (.bool (decide (who < (0 : Int)))) ?_
 refine ops_end ?_
 refine ae [(0, .pointer (some ⟨t, 0, none⟩)), (1, .int .i64 line), (2, .int .i64 who), (3, .int .i64 id), (10, .bool (decide (who < (0 : Int))))] ?_
 refine at_then_normal ?_
 rcases Bool.eq_false_or_eq_true (decide (who < (0 : Int))) with h1 | h1
 ·replace H := bifT H h1
  refine at_true (t := decide (who < (0 : Int))) (x := C29 [1,0,1,0]) (y := C29 [1,0,1,1]) (o := .tmp 10) kf kf kf h1 ?_
  refine aq (x := C29 [1,0,1,0,0]) (y := C29 [1,0,1,0,1]) ?_
  refine ar (id := 2) 1 ?_
  refine sp 8 (.bool false) ?_
  refine ops_end ?_
  refine ae [(8, .bool false)] ?_
  refine at_then_normal ?_
  refine at_ret kf ?_
  refine at_then_ret ?_
  obtain rfl := someE H
  refine at_backR [.bool false] ((TurnsA t tc) :: Γ) (rs := [.tmp 8]) kf (.cons (.tmp kf) .nil) (fun w hw => (Sat.less (.take .here .refl) hw)) ?_
  exact ⟨rfl, rfl⟩
 ·replace H := bifF H h1
  refine at_false (t := decide (who < (0 : Int))) (x := C29 [1,0,1,0]) (y := C29 [1,0,1,1]) (o := .tmp 10) kf kf kf h1 ?_
  refine at_skip kf ?_
  refine at_then_normal ?_
  refine aq (x := C29 [1,1,0]) (y := C29 [1,1,1]) ?_
  refine aq (x := C29 [1,1,0,0]) (y := C29 [1,1,0,1]) ?_
  refine ar (id := 3) 9 ?_
  refine sp 11 (.pointer (some ⟨t, 0, none⟩)) ?_
  refine sp 12 (.int .i64 line) ?_
  obtain ⟨y3_2, hy3_2, H⟩ := bindE H
  refine s_call 13 50 #[.pointer (some ⟨t, 0, none⟩), .int .i64 line] kf kf (fun _ => kf) (TOwnedF_tr t tc line y3_2 hy3_2) ?_
  rintro _ _ ⟨rfl, rfl⟩
  rcases Bool.eq_false_or_eq_true (y3_2) with h2 | h2
  ·replace H := bifT H h2
   refine sr 14 (.bool true) (run_eq (v := .bool (y3_2)) (fun _ => kf) (congrArg Value.bool h2)) ?_
   refine sa 15 ?_
   refine sa 16 ?_
   refine sa 17 ?_
   refine sa 18 ?_
   refine sp 19 (.bool true) ?_
   refine ops_end ?_
   refine ae [(0, .pointer (some ⟨t, 0, none⟩)), (1, .int .i64 line), (2, .int .i64 who), (3, .int .i64 id), (19, .bool true)] ?_
   refine at_then_normal ?_
   refine at_true (t := true) (x := C29 [1,1,0,1,0]) (y := C29 [1,1,0,1,1]) (o := .tmp 19) kf kf kf rfl ?_
   refine aq (x := C29 [1,1,0,1,0,0]) (y := C29 [1,1,0,1,0,1]) ?_
   refine at_region_draw (id := 4) kf kf ?_
   refine dp 0 20 (.pointer (some ⟨t, 0, none⟩)) ?_
   refine dp 1 21 (.pointer (some ⟨t, 0, none⟩)) ?_
   refine dp 2 22 (.pointer (some ⟨t, 1, none⟩)) ?_
   refine TurnsA.open_draw .here ?_
   intro mo4_3 mw4_3 T4_3
   refine dl 3 23 (.map (some mw4_3)) (load1 (off := 1) (fun _ => kf) (holds_own .here) kf) ?_
   refine dp 4 24 (.int .i64 line) ?_
   refine dp 5 25 (.pointer (some ⟨t, 0, none⟩)) ?_
   refine dp 6 26 (.pointer (some ⟨t, 0, none⟩)) ?_
   refine dp 7 27 (.pointer (some ⟨t, 1, none⟩)) ?_
   refine dl 8 28 (.map (some mw4_3)) (load1 (off := 1) (fun _ => kf) (holds_own .here) kf) ?_
   refine dp 9 29 (.int .i64 line) ?_
   refine Draw.wfocus line (.there (.there .here)) ?_
   intro a4_10 c4_10
   refine dl 10 30 (.slice a4_10 (List.length (wget tc.wait line)) c4_10) (whole_lookup (t := 75) (K := 3) (V := 78) (ik := .i64) (info := tinfo 78) (fun _ => kf) kf kf kf kf (.there .here)) ?_
   refine dp 11 31 (.int .i64 who) ?_
   refine dp 12 32 (.int .i64 id) ?_
   refine dp 13 33 (.agg #[.int .i64 who, .int .i64 id]) ?_
   refine d_step 14 34 [13, 11, 12] [9, 7, 6, 5, 4, 2, 1, 0] [10, 8, 3] kf kf kf (st_new (T := 100) (cells := #[.int .i64 who, .int .i64 id]) (fun a => .slice (some a) 1 1) (fun _ => kf)) ?_
   rintro _ _ ⟨b4_14, rfl, rfl⟩
   refine ⟨(stable_cons 10 30 (.slice a4_10 (List.length (wget tc.wait line)) c4_10) kf kf kf (whole_lookup (t := 75) (K := 3) (V := 78) (ik := .i64) (info := tinfo 78) (fun _ => kf) kf kf kf kf (.there (.there .here))) (stable_cons 8 28 (.map (some mw4_3)) kf kf kf (load1 (off := 1) (fun _ => kf) (holds_own (.there (.there (.there .here)))) kf) (stable_cons 3 23 (.map (some mw4_3)) kf kf kf (load1 (off := 1) (fun _ => kf) (holds_own (.there (.there (.there .here)))) kf) stable_nil))), ?_⟩
   obtain ⟨hc4_15_0, H⟩ := chkE H
   obtain ⟨l4_15, hl4_15, H⟩ := letE H
   refine d_step 15 35 [10, 14, 8, 9, 13, 7, 11, 12, 6, 5] [4, 2, 1, 0] [3] kf kf kf (st_append_ask (ws := wget tc.wait line) (who := who) (id := id) (info := tinfo 100) 78 78 100 (fun _ => kf) kf kf kf kf kf (.there .here) (Reads.own (rows := [[.int .i64 who, .int .i64 id]]) .here rfl) hl4_15 hc4_15_0) ?_
   rintro _ _ ⟨a4_15, c4_15, rfl, rfl⟩
   refine ⟨(stable_cons 3 23 (.map (some mw4_3)) kf kf kf (load1 (off := 1) (fun _ => kf) (holds_own (.there (.there (.there .here)))) kf) stable_nil), ?_⟩
   refine d_do 16 [3, 4, 15, 0, 1, 2, 5, 6, 7, 8, 9, 10, 11, 12, 13, 14] [] [] kf kf kf (st_wset (t := 75) (K := 3) (V := 78) (ik := .i64) (k := line) (ws := l4_15) (fun _ => kf) kf kf (.there (.there .here)) .here) ?_
   rintro _ _ ⟨rfl, rfl⟩
   refine ⟨stable_nil, ?_⟩
   refine draw_end kf ?_
   refine At.env [] trivial ?_
   refine at_then_normal ?_
   refine aq (x := C29 [1,1,0,1,0,1,0]) (y := C29 [1,1,0,1,0,1,1]) ?_
   refine ar (id := 5) 1 ?_
   refine sp 8 (.bool false) ?_
   refine ops_end ?_
   refine ae [(8, .bool false)] ?_
   refine at_then_normal ?_
   refine at_ret kf ?_
   refine at_then_ret ?_
   refine At.conv (Γ' := (TurnsA t (⟨tc.owners, mset tc.wait line (l4_15)⟩ : TurnsS)) :: (Asn.own b4_14 (.cells #[.int .i64 who, .int .i64 id] 100 (0, 0))) :: Γ) (fun w hw => TurnsA.close (⟨tc.owners, mset tc.wait line (l4_15)⟩ : TurnsS) rfl rfl (Sat.less (.take (.there (.there .here)) (.take (.there (.there .here)) (.take .here (.take .here .refl)))) hw)) ?_
   obtain rfl := someE H
   refine at_backR [.bool false] ((TurnsA t (⟨tc.owners, mset tc.wait line (l4_15)⟩ : TurnsS)) :: Γ) (rs := [.tmp 8]) kf (.cons (.tmp kf) .nil) (fun w hw => (Sat.less (.take .here (.drop .here .refl)) hw)) ?_
   exact ⟨rfl, rfl⟩
  ·replace H := bifF H h2
   refine sr 14 (.bool false) (run_eq (v := .bool (y3_2)) (fun _ => kf) (congrArg Value.bool h2)) ?_
   refine sp 15 (.pointer (some ⟨t, 0, none⟩)) ?_
   refine sp 16 (.int .i64 line) ?_
   obtain ⟨y3_6, hy3_6, H⟩ := bindE H
   refine s_call 17 12 #[.pointer (some ⟨t, 0, none⟩), .int .i64 line] kf kf (fun _ => kf) (TWaitingF_tr t tc line y3_6 hy3_6) ?_
   rintro _ _ ⟨rfl, rfl⟩
   refine sp 18 (.bool (decide ((0 : Int) < y3_6))) ?_
   refine sp 19 (.bool (decide ((0 : Int) < y3_6))) ?_
   refine ops_end ?_
   refine ae [(0, .pointer (some ⟨t, 0, none⟩)), (1, .int .i64 line), (2, .int .i64 who), (3, .int .i64 id), (19, .bool (decide ((0 : Int) < y3_6)))] ?_
   refine at_then_normal ?_
   rcases Bool.eq_false_or_eq_true (decide ((0 : Int) < y3_6)) with h3 | h3
   ·replace H := bifT H h3
    refine at_true (t := decide ((0 : Int) < y3_6)) (x := C29 [1,1,0,1,0]) (y := C29 [1,1,0,1,1]) (o := .tmp 19) kf kf kf h3 ?_
    refine aq (x := C29 [1,1,0,1,0,0]) (y := C29 [1,1,0,1,0,1]) ?_
    refine at_region_draw (id := 4) kf kf ?_
    refine dp 0 20 (.pointer (some ⟨t, 0, none⟩)) ?_
    refine dp 1 21 (.pointer (some ⟨t, 0, none⟩)) ?_
    refine dp 2 22 (.pointer (some ⟨t, 1, none⟩)) ?_
    refine TurnsA.open_draw .here ?_
    intro mo4_3 mw4_3 T4_3
    refine dl 3 23 (.map (some mw4_3)) (load1 (off := 1) (fun _ => kf) (holds_own .here) kf) ?_
    refine dp 4 24 (.int .i64 line) ?_
    refine dp 5 25 (.pointer (some ⟨t, 0, none⟩)) ?_
    refine dp 6 26 (.pointer (some ⟨t, 0, none⟩)) ?_
    refine dp 7 27 (.pointer (some ⟨t, 1, none⟩)) ?_
    refine dl 8 28 (.map (some mw4_3)) (load1 (off := 1) (fun _ => kf) (holds_own .here) kf) ?_
    refine dp 9 29 (.int .i64 line) ?_
    refine Draw.wfocus line (.there (.there .here)) ?_
    intro a4_10 c4_10
    refine dl 10 30 (.slice a4_10 (List.length (wget tc.wait line)) c4_10) (whole_lookup (t := 75) (K := 3) (V := 78) (ik := .i64) (info := tinfo 78) (fun _ => kf) kf kf kf kf (.there .here)) ?_
    refine dp 11 31 (.int .i64 who) ?_
    refine dp 12 32 (.int .i64 id) ?_
    refine dp 13 33 (.agg #[.int .i64 who, .int .i64 id]) ?_
    refine d_step 14 34 [13, 11, 12] [9, 7, 6, 5, 4, 2, 1, 0] [10, 8, 3] kf kf kf (st_new (T := 100) (cells := #[.int .i64 who, .int .i64 id]) (fun a => .slice (some a) 1 1) (fun _ => kf)) ?_
    rintro _ _ ⟨b4_14, rfl, rfl⟩
    refine ⟨(stable_cons 10 30 (.slice a4_10 (List.length (wget tc.wait line)) c4_10) kf kf kf (whole_lookup (t := 75) (K := 3) (V := 78) (ik := .i64) (info := tinfo 78) (fun _ => kf) kf kf kf kf (.there (.there .here))) (stable_cons 8 28 (.map (some mw4_3)) kf kf kf (load1 (off := 1) (fun _ => kf) (holds_own (.there (.there (.there .here)))) kf) (stable_cons 3 23 (.map (some mw4_3)) kf kf kf (load1 (off := 1) (fun _ => kf) (holds_own (.there (.there (.there .here)))) kf) stable_nil))), ?_⟩
    obtain ⟨hc4_15_0, H⟩ := chkE H
    obtain ⟨l4_15, hl4_15, H⟩ := letE H
    refine d_step 15 35 [10, 14, 8, 9, 13, 7, 11, 12, 6, 5] [4, 2, 1, 0] [3] kf kf kf (st_append_ask (ws := wget tc.wait line) (who := who) (id := id) (info := tinfo 100) 78 78 100 (fun _ => kf) kf kf kf kf kf (.there .here) (Reads.own (rows := [[.int .i64 who, .int .i64 id]]) .here rfl) hl4_15 hc4_15_0) ?_
    rintro _ _ ⟨a4_15, c4_15, rfl, rfl⟩
    refine ⟨(stable_cons 3 23 (.map (some mw4_3)) kf kf kf (load1 (off := 1) (fun _ => kf) (holds_own (.there (.there (.there .here)))) kf) stable_nil), ?_⟩
    refine d_do 16 [3, 4, 15, 0, 1, 2, 5, 6, 7, 8, 9, 10, 11, 12, 13, 14] [] [] kf kf kf (st_wset (t := 75) (K := 3) (V := 78) (ik := .i64) (k := line) (ws := l4_15) (fun _ => kf) kf kf (.there (.there .here)) .here) ?_
    rintro _ _ ⟨rfl, rfl⟩
    refine ⟨stable_nil, ?_⟩
    refine draw_end kf ?_
    refine At.env [] trivial ?_
    refine at_then_normal ?_
    refine aq (x := C29 [1,1,0,1,0,1,0]) (y := C29 [1,1,0,1,0,1,1]) ?_
    refine ar (id := 5) 1 ?_
    refine sp 8 (.bool false) ?_
    refine ops_end ?_
    refine ae [(8, .bool false)] ?_
    refine at_then_normal ?_
    refine at_ret kf ?_
    refine at_then_ret ?_
    refine At.conv (Γ' := (TurnsA t (⟨tc.owners, mset tc.wait line (l4_15)⟩ : TurnsS)) :: (Asn.own b4_14 (.cells #[.int .i64 who, .int .i64 id] 100 (0, 0))) :: Γ) (fun w hw => TurnsA.close (⟨tc.owners, mset tc.wait line (l4_15)⟩ : TurnsS) rfl rfl (Sat.less (.take (.there (.there .here)) (.take (.there (.there .here)) (.take .here (.take .here .refl)))) hw)) ?_
    obtain rfl := someE H
    refine at_backR [.bool false] ((TurnsA t (⟨tc.owners, mset tc.wait line (l4_15)⟩ : TurnsS)) :: Γ) (rs := [.tmp 8]) kf (.cons (.tmp kf) .nil) (fun w hw => (Sat.less (.take .here (.drop .here .refl)) hw)) ?_
    exact ⟨rfl, rfl⟩
   ·replace H := bifF H h3
    refine at_false (t := decide ((0 : Int) < y3_6)) (x := C29 [1,1,0,1,0]) (y := C29 [1,1,0,1,1]) (o := .tmp 19) kf kf kf h3 ?_
    refine at_skip kf ?_
    refine at_then_normal ?_
    refine aq (x := C29 [1,1,1,0]) (y := C29 [1,1,1,1]) ?_
    refine ar (id := 6) 7 ?_
    refine sp 36 (.pointer (some ⟨t, 0, none⟩)) ?_
    refine sp 37 (.pointer (some ⟨t, 0, none⟩)) ?_
    refine sp 38 (.pointer (some ⟨t, 0, none⟩)) ?_
    refine TurnsA.open .here ?_
    intro mo6_3 mw6_3 T6_3
    refine sl 39 (.map (some mo6_3)) (load1 (off := 0) (fun _ => kf) (holds_own .here) kf) ?_
    refine sp 40 (.int .i64 line) ?_
    refine sp 41 (.int .i64 who) ?_
    refine s_do kf kf (st_iset (t := 74) (Kt := 3) (V := 3) (ik := .i64) (k := line) (x := who) (fun _ => kf) kf kf (.there .here)) ?_
    rintro _ _ ⟨rfl, rfl⟩
    refine ops_end ?_
    refine At.env [] trivial ?_
    refine at_then_normal ?_
    refine aq (x := C29 [1,1,1,1,0]) (y := C29 [1,1,1,1,1]) ?_
    refine ar (id := 7) 1 ?_
    refine sp 8 (.bool true) ?_
    refine ops_end ?_
    refine ae [(8, .bool true)] ?_
    refine at_then_normal ?_
    refine at_ret kf ?_
    refine At.conv (Γ' := (TurnsA t (⟨mset tc.owners line who, tc.wait⟩ : TurnsS)) :: Γ) (fun w hw => TurnsA.close (⟨mset tc.owners line who, tc.wait⟩ : TurnsS) rfl rfl (Sat.less (.take (.there .here) (.take .here (.take .here .refl))) hw)) ?_
    obtain rfl := someE H
    refine at_backR [.bool true] ((TurnsA t (⟨mset tc.owners line who, tc.wait⟩ : TurnsS)) :: Γ) (rs := [.tmp 8]) kf (.cons (.tmp kf) .nil) (fun w hw => (Sat.less (.take .here .refl) hw)) ?_
    exact ⟨rfl, rfl⟩
def treleaseS (tc : TurnsS) (line : Int) (who : Int) : Option (Int × TurnsS) :=
 (townedS tc line).bind fun y1_2 => (bif !y1_2 then some ((6 : Int), tc) else letP (mget tc.owners line) fun y1_10 => (bif !(decide ((y1_10.getD 0) = who)) then some ((6 : Int), tc) else some ((0 : Int), (⟨mdel tc.owners line, tc.wait⟩ : TurnsS))))
noncomputable def C52 (p : List Nat) : Code := codeAt (bodyOf Try.f52) p
set_option maxRecDepth 100000 in
set_option maxHeartbeats 8000000 in
theorem TReleaseF_tr {W0 : World} {Γ : List Asn} (t : Nat) (tc : TurnsS) (line : Int) (who : Int)  (y : Int × TurnsS) (H : treleaseS tc line who = some y) : Tr Try.prog 52 #[.pointer (some ⟨t, 0, none⟩), .int .i64 line, .int .i64 who] W0 ((TurnsA t tc) :: Γ) (fun r Δ => r = .int .i64 y.1 ∧ Δ = (TurnsA t y.2) :: Γ) := by
 unfold treleaseS at H
 refine Tr.enter (fn := Try.f52) (c := C52 []) (args := [.pointer (some ⟨t, 0, none⟩), .int .i64 line, .int .i64 who]) 26 Try.func52 kf kf ?_
 refine ae [(0, .pointer (some ⟨t, 0, none⟩)), (1, .int .i64 line), (2, .int .i64 who)] ?_
 refine aq (x := C52 [0]) (y := C52 [1]) ?_
 refine ar (id := 0) 1 ?_
 refine sp 6 (.int .i64 (0)) ?_
 refine ops_end ?_
 refine ae [(0, .pointer (some ⟨t, 0, none⟩)), (1, .int .i64 line), (2, .int .i64 who)] ?_
 refine at_then_normal ?_
 refine aq (x := C52 [1,0]) (y := C52 [1,1]) ?_
 refine aq (x := C52 [1,0,0]) (y := C52 [1,0,1]) ?_
 refine ar (id := 1) 14 ?_
 refine sp 7 (.pointer (some ⟨t, 0, none⟩)) ?_
 refine sp 8 (.int .i64 line) ?_
 obtain ⟨y1_2, hy1_2, H⟩ := bindE H
 refine s_call 9 50 #[.pointer (some ⟨t, 0, none⟩), .int .i64 line] kf kf (fun _ => kf) (TOwnedF_tr t tc line y1_2 hy1_2) ?_
 rintro _ _ ⟨rfl, rfl⟩
 refine sp 10 (.bool !y1_2) ?_
 rcases Bool.eq_false_or_eq_true (!y1_2) with h1 | h1
 ·replace H := bifT H h1
  refine sr 11 (.bool true) (run_eq (v := .bool (!y1_2)) (fun _ => kf) (congrArg Value.bool h1)) ?_
  refine sa 12 ?_
  refine sa 13 ?_
  refine sa 14 ?_
  refine sa 15 ?_
  refine sa 16 ?_
  refine sa 17 ?_
  refine sa 18 ?_
  refine sa 19 ?_
  refine sp 20 (.bool true) ?_
  refine ops_end ?_
  refine ae [(0, .pointer (some ⟨t, 0, none⟩)), (1, .int .i64 line), (20, .bool true)] ?_
  refine at_then_normal ?_
  refine at_true (t := true) (x := C52 [1,0,1,0]) (y := C52 [1,0,1,1]) (o := .tmp 20) kf kf kf rfl ?_
  refine aq (x := C52 [1,0,1,0,0]) (y := C52 [1,0,1,0,1]) ?_
  refine ar (id := 2) 1 ?_
  refine sp 6 (.int .i64 (6)) ?_
  refine ops_end ?_
  refine ae [(6, .int .i64 (6))] ?_
  refine at_then_normal ?_
  refine at_ret kf ?_
  refine at_then_ret ?_
  obtain rfl := someE H
  refine at_backR [.int .i64 (6)] ((TurnsA t tc) :: Γ) (rs := [.tmp 6]) kf (.cons (.tmp kf) .nil) (fun w hw => (Sat.less (.take .here .refl) hw)) ?_
  exact ⟨rfl, rfl⟩
 ·replace H := bifF H h1
  refine sr 11 (.bool false) (run_eq (v := .bool (!y1_2)) (fun _ => kf) (congrArg Value.bool h1)) ?_
  refine sp 12 (.pointer (some ⟨t, 0, none⟩)) ?_
  refine sp 13 (.pointer (some ⟨t, 0, none⟩)) ?_
  refine sp 14 (.pointer (some ⟨t, 0, none⟩)) ?_
  refine TurnsA.open .here ?_
  intro mo1_8 mw1_8 T1_8
  refine sl 15 (.map (some mo1_8)) (load1 (off := 0) (fun _ => kf) (holds_own .here) kf) ?_
  refine sp 16 (.int .i64 line) ?_
  obtain ⟨y1_10, hy1_10, H⟩ := letE H
  refine sl 17 (.int .i64 (y1_10.getD 0)) (imap_lookup1 (t := 74) (Kt := 3) (V := 3) (ik := .i64) (k := line) (info := tinfo 3) hy1_10 (fun _ => kf) kf kf kf kf (.there .here)) ?_
  refine sp 18 (.int .i64 who) ?_
  refine sp 19 (.bool (!(decide ((y1_10.getD 0) = who)))) ?_
  refine sp 20 (.bool (!(decide ((y1_10.getD 0) = who)))) ?_
  refine ops_end ?_
  refine ae [(0, .pointer (some ⟨t, 0, none⟩)), (1, .int .i64 line), (20, .bool (!(decide ((y1_10.getD 0) = who))))] ?_
  refine at_then_normal ?_
  rcases Bool.eq_false_or_eq_true (!(decide ((y1_10.getD 0) = who))) with h2 | h2
  ·replace H := bifT H h2
   refine at_true (t := !(decide ((y1_10.getD 0) = who))) (x := C52 [1,0,1,0]) (y := C52 [1,0,1,1]) (o := .tmp 20) kf kf kf h2 ?_
   refine aq (x := C52 [1,0,1,0,0]) (y := C52 [1,0,1,0,1]) ?_
   refine ar (id := 2) 1 ?_
   refine sp 6 (.int .i64 (6)) ?_
   refine ops_end ?_
   refine ae [(6, .int .i64 (6))] ?_
   refine at_then_normal ?_
   refine at_ret kf ?_
   refine at_then_ret ?_
   refine At.conv (Γ' := (TurnsA t tc) :: Γ) (fun w hw => TurnsA.close tc rfl rfl (Sat.less (.take .here (.take .here (.take .here .refl))) hw)) ?_
   obtain rfl := someE H
   refine at_backR [.int .i64 (6)] ((TurnsA t tc) :: Γ) (rs := [.tmp 6]) kf (.cons (.tmp kf) .nil) (fun w hw => (Sat.less (.take .here .refl) hw)) ?_
   exact ⟨rfl, rfl⟩
  ·replace H := bifF H h2
   refine at_false (t := !(decide ((y1_10.getD 0) = who))) (x := C52 [1,0,1,0]) (y := C52 [1,0,1,1]) (o := .tmp 20) kf kf kf h2 ?_
   refine at_skip kf ?_
   refine at_then_normal ?_
   refine aq (x := C52 [1,1,0]) (y := C52 [1,1,1]) ?_
   refine ar (id := 3) 6 ?_
   refine sp 21 (.pointer (some ⟨t, 0, none⟩)) ?_
   refine sp 22 (.pointer (some ⟨t, 0, none⟩)) ?_
   refine sp 23 (.pointer (some ⟨t, 0, none⟩)) ?_
   refine sl 24 (.map (some mo1_8)) (load1 (off := 0) (fun _ => kf) (holds_own .here) kf) ?_
   refine sp 25 (.int .i64 line) ?_
   refine s_do kf kf (st_idel (t := 74) (t2 := 3) (tr := 0) (Kt := 3) (V := 3) (ik := .i64) (k := line) (fun _ => kf) kf kf (.there .here)) ?_
   rintro _ _ ⟨rfl, rfl⟩
   refine ops_end ?_
   refine At.env [] trivial ?_
   refine at_then_normal ?_
   refine aq (x := C52 [1,1,1,0]) (y := C52 [1,1,1,1]) ?_
   refine ar (id := 4) 1 ?_
   refine sp 6 (.int .i64 (0)) ?_
   refine ops_end ?_
   refine ae [(6, .int .i64 (0))] ?_
   refine at_then_normal ?_
   refine at_ret kf ?_
   refine At.conv (Γ' := (TurnsA t (⟨mdel tc.owners line, tc.wait⟩ : TurnsS)) :: Γ) (fun w hw => TurnsA.close (⟨mdel tc.owners line, tc.wait⟩ : TurnsS) rfl rfl (Sat.less (.take (.there .here) (.take .here (.take .here .refl))) hw)) ?_
   obtain rfl := someE H
   refine at_backR [.int .i64 (0)] ((TurnsA t (⟨mdel tc.owners line, tc.wait⟩ : TurnsS)) :: Γ) (rs := [.tmp 6]) kf (.cons (.tmp kf) .nil) (fun w hw => (Sat.less (.take .here .refl) hw)) ?_
   exact ⟨rfl, rfl⟩
def tnextS (tc : TurnsS) (line : Int) : Option (Int × Int × Bool × TurnsS) :=
 (townedS tc line).bind fun y1_2 => (bif y1_2 then some ((0 : Int), (0 : Int), false, tc) else (twaitingS tc line).bind fun y1_6 => (bif decide (y1_6 = (0 : Int)) then some ((0 : Int), (0 : Int), false, tc) else chk (0 ≤ (0 : Int) ∧ (0 : Int) < ((List.length (wget tc.wait line) : Nat) : Int)) (chk (1 ≤ List.length (wget tc.wait line)) (some (((nthP (wget tc.wait line) (0 : Int)).1), ((nthP (wget tc.wait line) (0 : Int)).2), true, (⟨mset tc.owners line ((nthP (wget tc.wait line) (0 : Int)).1), mset tc.wait line ((wget tc.wait line).drop 1)⟩ : TurnsS))))))
noncomputable def C34 (p : List Nat) : Code := codeAt (bodyOf Try.f34) p
set_option maxRecDepth 100000 in
set_option maxHeartbeats 8000000 in
theorem TNextF_tr {W0 : World} {Γ : List Asn} (t : Nat) (tc : TurnsS) (line : Int)  (y : Int × Int × Bool × TurnsS) (H : tnextS tc line = some y) : Tr Try.prog 34 #[.pointer (some ⟨t, 0, none⟩), .int .i64 line] W0 ((TurnsA t tc) :: Γ) (fun r Δ => r = .tuple #[.int .i64 y.1, .int .i64 y.2.1, .bool y.2.2.1] ∧ Δ = (TurnsA t y.2.2.2) :: Γ) := by
 unfold tnextS at H
 refine Tr.enter (fn := Try.f34) (c := C34 []) (args := [.pointer (some ⟨t, 0, none⟩), .int .i64 line]) 48 Try.func34 kf kf ?_
 refine ae [(0, .pointer (some ⟨t, 0, none⟩)), (1, .int .i64 line)] ?_
 refine aq (x := C34 [0]) (y := C34 [1]) ?_
 refine ar (id := 0) 3 ?_
 refine sp 4 (.int .i64 (0)) ?_
 refine sp 5 (.int .i64 (0)) ?_
 refine sp 6 (.bool false) ?_
 refine ops_end ?_
 refine ae [(0, .pointer (some ⟨t, 0, none⟩)), (1, .int .i64 line)] ?_
 refine at_then_normal ?_
 refine aq (x := C34 [1,0]) (y := C34 [1,1]) ?_
 refine aq (x := C34 [1,0,0]) (y := C34 [1,0,1]) ?_
 refine ar (id := 1) 9 ?_
 refine sp 8 (.pointer (some ⟨t, 0, none⟩)) ?_
 refine sp 9 (.int .i64 line) ?_
 obtain ⟨y1_2, hy1_2, H⟩ := bindE H
 refine s_call 10 50 #[.pointer (some ⟨t, 0, none⟩), .int .i64 line] kf kf (fun _ => kf) (TOwnedF_tr t tc line y1_2 hy1_2) ?_
 rintro _ _ ⟨rfl, rfl⟩
 rcases Bool.eq_false_or_eq_true (y1_2) with h1 | h1
 ·replace H := bifT H h1
  refine sr 11 (.bool true) (run_eq (v := .bool (y1_2)) (fun _ => kf) (congrArg Value.bool h1)) ?_
  refine sa 12 ?_
  refine sa 13 ?_
  refine sa 14 ?_
  refine sa 15 ?_
  refine sp 16 (.bool true) ?_
  refine ops_end ?_
  refine ae [(0, .pointer (some ⟨t, 0, none⟩)), (1, .int .i64 line), (16, .bool true)] ?_
  refine at_then_normal ?_
  refine at_true (t := true) (x := C34 [1,0,1,0]) (y := C34 [1,0,1,1]) (o := .tmp 16) kf kf kf rfl ?_
  refine aq (x := C34 [1,0,1,0,0]) (y := C34 [1,0,1,0,1]) ?_
  refine ar (id := 2) 3 ?_
  refine sp 4 (.int .i64 (0)) ?_
  refine sp 5 (.int .i64 (0)) ?_
  refine sp 6 (.bool false) ?_
  refine ops_end ?_
  refine ae [(4, .int .i64 (0)), (5, .int .i64 (0)), (6, .bool false)] ?_
  refine at_then_normal ?_
  refine at_ret kf ?_
  refine at_then_ret ?_
  obtain rfl := someE H
  refine at_backR [.int .i64 (0), .int .i64 (0), .bool false] ((TurnsA t tc) :: Γ) (rs := [.tmp 4, .tmp 5, .tmp 6]) kf (.cons (.tmp kf) (.cons (.tmp kf) (.cons (.tmp kf) .nil))) (fun w hw => (Sat.less (.take .here .refl) hw)) ?_
  exact ⟨rfl, rfl⟩
 ·replace H := bifF H h1
  refine sr 11 (.bool false) (run_eq (v := .bool (y1_2)) (fun _ => kf) (congrArg Value.bool h1)) ?_
  refine sp 12 (.pointer (some ⟨t, 0, none⟩)) ?_
  refine sp 13 (.int .i64 line) ?_
  obtain ⟨y1_6, hy1_6, H⟩ := bindE H
  refine s_call 14 12 #[.pointer (some ⟨t, 0, none⟩), .int .i64 line] kf kf (fun _ => kf) (TWaitingF_tr t tc line y1_6 hy1_6) ?_
  rintro _ _ ⟨rfl, rfl⟩
  refine sp 15 (.bool (decide (y1_6 = (0 : Int)))) ?_
  refine sp 16 (.bool (decide (y1_6 = (0 : Int)))) ?_
  refine ops_end ?_
  refine ae [(0, .pointer (some ⟨t, 0, none⟩)), (1, .int .i64 line), (16, .bool (decide (y1_6 = (0 : Int))))] ?_
  refine at_then_normal ?_
  rcases Bool.eq_false_or_eq_true (decide (y1_6 = (0 : Int))) with h2 | h2
  ·replace H := bifT H h2
   refine at_true (t := decide (y1_6 = (0 : Int))) (x := C34 [1,0,1,0]) (y := C34 [1,0,1,1]) (o := .tmp 16) kf kf kf h2 ?_
   refine aq (x := C34 [1,0,1,0,0]) (y := C34 [1,0,1,0,1]) ?_
   refine ar (id := 2) 3 ?_
   refine sp 4 (.int .i64 (0)) ?_
   refine sp 5 (.int .i64 (0)) ?_
   refine sp 6 (.bool false) ?_
   refine ops_end ?_
   refine ae [(4, .int .i64 (0)), (5, .int .i64 (0)), (6, .bool false)] ?_
   refine at_then_normal ?_
   refine at_ret kf ?_
   refine at_then_ret ?_
   obtain rfl := someE H
   refine at_backR [.int .i64 (0), .int .i64 (0), .bool false] ((TurnsA t tc) :: Γ) (rs := [.tmp 4, .tmp 5, .tmp 6]) kf (.cons (.tmp kf) (.cons (.tmp kf) (.cons (.tmp kf) .nil))) (fun w hw => (Sat.less (.take .here .refl) hw)) ?_
   exact ⟨rfl, rfl⟩
  ·replace H := bifF H h2
   refine at_false (t := decide (y1_6 = (0 : Int))) (x := C34 [1,0,1,0]) (y := C34 [1,0,1,1]) (o := .tmp 16) kf kf kf h2 ?_
   refine at_skip kf ?_
   refine at_then_normal ?_
   refine aq (x := C34 [1,1,0]) (y := C34 [1,1,1]) ?_
   refine ar (id := 3) 10 ?_
   refine sp 17 (.pointer (some ⟨t, 0, none⟩)) ?_
   refine sp 18 (.pointer (some ⟨t, 0, none⟩)) ?_
   refine sp 19 (.pointer (some ⟨t, 1, none⟩)) ?_
   refine TurnsA.open .here ?_
   intro mo3_3 mw3_3 T3_3
   refine sl 20 (.map (some mw3_3)) (load1 (off := 1) (fun _ => kf) (holds_own .here) kf) ?_
   refine sp 21 (.int .i64 line) ?_
   refine At.wfocus line (.there (.there .here)) ?_
   intro a3_5 c3_5
   refine sl 22 (.slice a3_5 (List.length (wget tc.wait line)) c3_5) (whole_lookup (t := 75) (K := 3) (V := 78) (ik := .i64) (info := tinfo 78) (fun _ => kf) kf kf kf kf (.there .here)) ?_
   obtain ⟨hc3_6_0, H⟩ := chkE H
   refine rows_at .here (by have := hc3_6_0; rw [askRows_len]; omega) ?_
   intro bb1 oo1 ha1
   refine sr 23 (.pointer (some ⟨bb1, oo1 + (((0 : Int)).toNat * 2), none⟩)) (index_at (t := 78) (sz := 2) (E := 100) (a := a3_5) (m := (List.length (wget tc.wait line))) (c := c3_5) (b := bb1) (off := oo1) (i := ((0 : Int)).toNat) (tinfo 100) (fun _ => kf) kf kf kf ha1 (idx_cast hc3_6_0) (idx_nat hc3_6_0) rfl) ?_
   refine sl 24 (.agg #[.int .i64 ((nthP (wget tc.wait line) (0 : Int)).1), .int .i64 ((nthP (wget tc.wait line) (0 : Int)).2)]) (loadN_at (k := 2) (row := [.int .i64 ((nthP (wget tc.wait line) (0 : Int)).1), .int .i64 ((nthP (wget tc.wait line) (0 : Int)).2)]) (off := oo1) (i := ((0 : Int)).toNat) (fun _ => kf) rfl rfl (fun j v hj => rows_cell (k := 2) .here ha1 (askRows_get hc3_6_0) hj)) ?_
   refine s_step 7 kf kf (st_new (T := 100) (cells := #[.int .i64 (0), .int .i64 (0)]) (fun a => .pointer (some a)) (fun _ => kf)) ?_
   rintro _ _ ⟨b3_8, rfl, rfl⟩
   refine s_do kf kf (st_store (off := 0) (vs := [.int .i64 ((nthP (wget tc.wait line) (0 : Int)).1), .int .i64 ((nthP (wget tc.wait line) (0 : Int)).2)]) (c' := #[.int .i64 ((nthP (wget tc.wait line) (0 : Int)).1), .int .i64 ((nthP (wget tc.wait line) (0 : Int)).2)]) (fun _ => kf) .here kf kf kf) ?_
   rintro _ _ ⟨rfl, rfl⟩
   refine ops_end ?_
   refine ae [(0, .pointer (some ⟨t, 0, none⟩)), (1, .int .i64 line), (7, .pointer (some ⟨b3_8, 0, none⟩))] ?_
   refine at_then_normal ?_
   refine aq (x := C34 [1,1,1,0]) (y := C34 [1,1,1,1]) ?_
   refine at_region_draw (id := 4) kf kf ?_
   refine dp 0 25 (.pointer (some ⟨t, 0, none⟩)) ?_
   refine dp 1 26 (.pointer (some ⟨t, 0, none⟩)) ?_
   refine dp 2 27 (.pointer (some ⟨t, 1, none⟩)) ?_
   refine dl 3 28 (.map (some mw3_3)) (load1 (off := 1) (fun _ => kf) (holds_own (.there (.there (.there .here)))) kf) ?_
   refine dp 4 29 (.int .i64 line) ?_
   refine dp 5 30 (.pointer (some ⟨t, 0, none⟩)) ?_
   refine dp 6 31 (.pointer (some ⟨t, 0, none⟩)) ?_
   refine dp 7 32 (.pointer (some ⟨t, 1, none⟩)) ?_
   refine dl 8 33 (.map (some mw3_3)) (load1 (off := 1) (fun _ => kf) (holds_own (.there (.there (.there .here)))) kf) ?_
   refine dp 9 34 (.int .i64 line) ?_
   refine dl 10 35 (.slice a3_5 (List.length (wget tc.wait line)) c3_5) (whole_lookup (t := 75) (K := 3) (V := 78) (ik := .i64) (info := tinfo 78) (fun _ => kf) kf kf kf kf (.there (.there .here))) ?_
   obtain ⟨hc4_11_0, H⟩ := chkE H
   refine Draw.known (p := (List.length (wget tc.wait line)) ≤ c3_5) (fun w hw => by have := (RowsA.len (hw.pull (.there .here))).2; rw [askRows_len] at this; exact this) ?_
   intro hcap1
   have hla4_11 := hc4_11_0
   obtain ⟨a4_11, ha4_11⟩ : ∃ y : Option Addr, y = (if c3_5 = 1 then a3_5 else Option.map (fun x => Addr.add x (1 * 2)) a3_5) := ⟨_, rfl⟩
   refine d_pure 11 36 (.slice a4_11 (List.length ((wget tc.wait line).drop 1)) (c3_5 - 1)) kf kf kf (run_eq (slice_at (t := 78) (lo := 1) (hi := (List.length (wget tc.wait line))) (mx := c3_5) (sz := 2) (E := 100) (a := a3_5) (m := (List.length (wget tc.wait line))) (c := c3_5) (some (.int .i64 1)) none none (tinfo 100) (fun _ => kf) kf kf kf (Or.inr ⟨_, rfl, rfl⟩) (Or.inl ⟨rfl, rfl, rfl⟩) (Or.inl ⟨rfl, rfl⟩) (by omega) (by omega) (by omega)) (by rw [← ha4_11, List.length_drop])) ?_
   refine d_do 12 [3, 4, 11, 0, 1, 2, 5, 6, 7, 8, 9, 10] [] [] kf kf kf (StepTo.conv (Γ' := (AsksA a4_11 (c3_5 - 1) ((wget tc.wait line).drop 1)) :: (Asn.own b3_8 (.cells #[.int .i64 ((nthP (wget tc.wait line) (0 : Int)).1), .int .i64 ((nthP (wget tc.wait line) (0 : Int)).2)] 100 (0, 0))) :: (WHoleA mw3_3 tc.wait line a3_5 c3_5) :: (Asn.own t (.cells #[.map (some mo3_3), .map (some mw3_3)] T3_3 (0, 0))) :: (IMapA mo3_3 tc.owners) :: Γ) (fun w hw => by have q := RowsA.suffix (j := 1) ha4_11 rfl (by rw [askRows_len]; omega) (hw.pull (.there .here)); rw [askRows_drop] at q; exact q) (st_wset (t := 75) (K := 3) (V := 78) (ik := .i64) (k := line) (ws := (wget tc.wait line).drop 1) (fun _ => kf) kf kf (.there (.there .here)) .here)) ?_
   rintro _ _ ⟨rfl, rfl⟩
   refine ⟨stable_nil, ?_⟩
   refine draw_end kf ?_
   refine ae [(0, .pointer (some ⟨t, 0, none⟩)), (1, .int .i64 line), (7, .pointer (some ⟨b3_8, 0, none⟩))] ?_
   refine at_then_normal ?_
   refine aq (x := C34 [1,1,1,1,0]) (y := C34 [1,1,1,1,1]) ?_
   refine at_region_draw (id := 5) kf kf ?_
   refine dp 0 37 (.pointer (some ⟨t, 0, none⟩)) ?_
   refine dp 1 38 (.pointer (some ⟨t, 0, none⟩)) ?_
   refine dp 2 39 (.pointer (some ⟨t, 0, none⟩)) ?_
   refine dl 3 40 (.map (some mo3_3)) (load1 (off := 0) (fun _ => kf) (holds_own (.there (.there .here))) kf) ?_
   refine dp 4 41 (.int .i64 line) ?_
   refine dp 5 42 (.pointer (some ⟨b3_8, 0, none⟩)) ?_
   refine dl 6 43 (.int .i64 ((nthP (wget tc.wait line) (0 : Int)).1)) (load1 (off := 0) (fun _ => kf) (holds_own (.there .here)) kf) ?_
   refine d_do 7 [3, 4, 6, 0, 1, 2, 5] [] [] kf kf kf (st_iset (t := 74) (Kt := 3) (V := 3) (ik := .i64) (k := line) (x := (nthP (wget tc.wait line) (0 : Int)).1) (fun _ => kf) kf kf (.there (.there (.there .here)))) ?_
   rintro _ _ ⟨rfl, rfl⟩
   refine ⟨stable_nil, ?_⟩
   refine draw_end kf ?_
   refine ae [(7, .pointer (some ⟨b3_8, 0, none⟩))] ?_
   refine at_then_normal ?_
   refine aq (x := C34 [1,1,1,1,1,0]) (y := C34 [1,1,1,1,1,1]) ?_
   refine at_region_draw (id := 6) kf kf ?_
   refine dp 0 44 (.pointer (some ⟨b3_8, 0, none⟩)) ?_
   refine dl 1 45 (.int .i64 ((nthP (wget tc.wait line) (0 : Int)).1)) (load1 (off := 0) (fun _ => kf) (holds_own (.there (.there .here))) kf) ?_
   refine dp 2 46 (.pointer (some ⟨b3_8, 1, none⟩)) ?_
   refine dl 3 47 (.int .i64 ((nthP (wget tc.wait line) (0 : Int)).2)) (load1 (off := 1) (fun _ => kf) (holds_own (.there (.there .here))) kf) ?_
   refine dp 4 4 (.int .i64 ((nthP (wget tc.wait line) (0 : Int)).1)) ?_
   refine dp 5 5 (.int .i64 ((nthP (wget tc.wait line) (0 : Int)).2)) ?_
   refine dp 6 6 (.bool true) ?_
   refine draw_end kf ?_
   refine ae [(4, .int .i64 ((nthP (wget tc.wait line) (0 : Int)).1)), (5, .int .i64 ((nthP (wget tc.wait line) (0 : Int)).2)), (6, .bool true)] ?_
   refine at_then_normal ?_
   refine at_ret kf ?_
   refine At.conv (Γ' := (TurnsA t (⟨mset tc.owners line ((nthP (wget tc.wait line) (0 : Int)).1), mset tc.wait line ((wget tc.wait line).drop 1)⟩ : TurnsS)) :: (Asn.own b3_8 (.cells #[.int .i64 ((nthP (wget tc.wait line) (0 : Int)).1), .int .i64 ((nthP (wget tc.wait line) (0 : Int)).2)] 100 (0, 0))) :: Γ) (fun w hw => TurnsA.close (⟨mset tc.owners line ((nthP (wget tc.wait line) (0 : Int)).1), mset tc.wait line ((wget tc.wait line).drop 1)⟩ : TurnsS) rfl rfl (Sat.less (.take (.there (.there (.there .here))) (.take .here (.take .here (.take .here .refl)))) hw)) ?_
   obtain rfl := someE H
   refine at_backR [.int .i64 ((nthP (wget tc.wait line) (0 : Int)).1), .int .i64 ((nthP (wget tc.wait line) (0 : Int)).2), .bool true] ((TurnsA t (⟨mset tc.owners line ((nthP (wget tc.wait line) (0 : Int)).1), mset tc.wait line ((wget tc.wait line).drop 1)⟩ : TurnsS)) :: Γ) (rs := [.tmp 4, .tmp 5, .tmp 6]) kf (.cons (.tmp kf) (.cons (.tmp kf) (.cons (.tmp kf) .nil))) (fun w hw => (Sat.less (.take .here (.drop .here .refl)) hw)) ?_
   exact ⟨rfl, rfl⟩
end Go.Proofs.Ytcigheahollkcaa
