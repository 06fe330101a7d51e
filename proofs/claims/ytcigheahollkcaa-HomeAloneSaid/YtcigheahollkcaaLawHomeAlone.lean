/- The law HomeAlone: its walk. -/
import Derived.Test.YtcigheahollkcaaHoA
namespace Go.Proofs.Ytcigheahollkcaa
open Go Go.RowKit
set_option linter.unusedVariables false
set_option linter.unusedSimpArgs false
def wakes11S : Option (Bool) :=
 (hnewS (⟨2, 1, 1, 1, 1, 1, 1, ([] : List Int)⟩ : CfgS) (0 : Int)).bind fun y1_1 => (hhandleS y1_1 (⟨1, 1, 0, 7, 0, 0, 0, false, ([] : List Int)⟩ : PktS)).bind fun y4_2 => (bif y4_2.2.1 then (bif decide (y4_2.2.2.1 = (0 : Int)) then (bif decide (y4_2.1.kind = (7 : Int)) then (bif decide (y4_2.1.state = (0 : Int)) then (bif decide (y4_2.1.dst = (1 : Int)) then (bif decide (y4_2.1.id = (7 : Int)) then (townerS y4_2.2.2.2.turns (0 : Int)).bind fun y5_30 => some (decide (y5_30 = (1 : Int))) else some false) else some false) else some false) else some false) else some false) else some false)
noncomputable def C14 (p : List Nat) : Code := codeAt (bodyOf Try.f14) p
set_option maxRecDepth 100000 in
set_option maxHeartbeats 8000000 in
theorem W11F_tr {W0 : World} {Γ : List Asn}   (y : Bool) (H : wakes11S = some y) : Tr Try.prog 14 #[] W0 (Γ) (fun r Δ => r = .bool y ∧ Δ = Γ) := by
 unfold wakes11S at H
 refine Tr.enter (fn := Try.f14) (c := C14 []) (args := []) 49 Try.func14 (by kernel_rfl) (by kernel_rfl) ?_
 refine At.env [] trivial ?_
 refine aq (x := C14 [0]) (y := C14 [1]) ?_
 refine ar (id := 0) 1 ?_
 refine sp 0 (.bool false) ?_
 refine ops_end ?_
 refine At.env [] trivial ?_
 refine at_then_normal ?_
 refine aq (x := C14 [1,0]) (y := C14 [1,1]) ?_
 refine ar (id := 1) 3 ?_
 refine sp 5 (.agg #[.int .i64 (2), .int .i64 (1), .int .i64 (1), .int .i64 (1), .int .i64 (1), .int .i64 (1), .int .i64 (1), .slice none 0 0]) ?_
 obtain ⟨y1_1, hy1_1, H⟩ := bindE H
 refine s_call 6 8 #[.agg #[.int .i64 (2), .int .i64 (1), .int .i64 (1), .int .i64 (1), .int .i64 (1), .int .i64 (1), .int .i64 (1), .slice none 0 0], .int .i64 (0)] (by kernel_rfl) (by kernel_rfl) (fun _ => by kernel_rfl) (Tr.conv (Γ' := (ImmI none ([] : List Int)) :: Γ) (fun w hw => (Sat.less (.take .here .refl) (ImmR.nil_mk (k := 1) (a := none) hw))) (HNewF_tr none 0 (⟨2, 1, 1, 1, 1, 1, 1, ([] : List Int)⟩ : CfgS) (0 : Int) (Nat.le_refl _) y1_1 hy1_1)) ?_
 rintro _ _ ⟨b1_1, rfl, rfl⟩
 refine sp 1 (.pointer (some ⟨b1_1, 0, none⟩)) ?_
 refine ops_end ?_
 refine ae [(1, .pointer (some ⟨b1_1, 0, none⟩))] ?_
 refine at_then_normal ?_
 refine aq (x := C14 [1,1,0]) (y := C14 [1,1,1]) ?_
 refine aq (x := C14 [1,1,0,0]) (y := C14 [1,1,0,1]) ?_
 refine ar (id := 2) 2 ?_
 refine sp 7 (.pointer (some ⟨b1_1, 0, none⟩)) ?_
 refine sp 8 (.bool false) ?_
 refine ops_end ?_
 refine ae [(1, .pointer (some ⟨b1_1, 0, none⟩)), (8, .bool false)] ?_
 refine at_then_normal ?_
 refine at_false (t := false) (x := C14 [1,1,0,1,0]) (y := C14 [1,1,0,1,1]) (o := .tmp 8) (by kernel_rfl) (by kernel_rfl) (by kernel_rfl) rfl ?_
 refine at_skip (by kernel_rfl) ?_
 refine at_then_normal ?_
 refine aq (x := C14 [1,1,1,0]) (y := C14 [1,1,1,1]) ?_
 refine ar (id := 4) 11 ?_
 refine sp 10 (.pointer (some ⟨b1_1, 0, none⟩)) ?_
 refine sp 11 (.agg #[.int .i64 (1), .int .i64 (1), .int .i64 (0), .int .i64 (7), .int .i64 (0), .int .i64 (0), .int .i64 (0), .bool false, .slice none 0 0]) ?_
 obtain ⟨y4_2, hy4_2, H⟩ := bindE H
 refine s_call 12 10 #[.pointer (some ⟨b1_1, 0, none⟩), .agg #[.int .i64 (1), .int .i64 (1), .int .i64 (0), .int .i64 (7), .int .i64 (0), .int .i64 (0), .int .i64 (0), .bool false, .slice none 0 0]] (by kernel_rfl) (by kernel_rfl) (fun _ => by kernel_rfl) (HHandleF_tr b1_1 y1_1 none 0 (⟨1, 1, 0, 7, 0, 0, 0, false, ([] : List Int)⟩ : PktS) Reads.nil y4_2 hy4_2) ?_
 rintro _ _ ⟨a4_2_00, c4_2_00, rfl, rfl⟩
 refine sp 9 (.tuple #[.agg #[.int .i64 y4_2.1.kind, .int .i64 y4_2.1.src, .int .i64 y4_2.1.dst, .int .i64 y4_2.1.id, .int .i64 y4_2.1.line, .int .i64 y4_2.1.ptr, .int .i64 y4_2.1.state, .bool y4_2.1.flag, .slice a4_2_00 (List.length y4_2.1.data) c4_2_00], .bool y4_2.2.1, .int .i64 y4_2.2.2.1]) ?_
 refine sp 13 (.agg #[.int .i64 y4_2.1.kind, .int .i64 y4_2.1.src, .int .i64 y4_2.1.dst, .int .i64 y4_2.1.id, .int .i64 y4_2.1.line, .int .i64 y4_2.1.ptr, .int .i64 y4_2.1.state, .bool y4_2.1.flag, .slice a4_2_00 (List.length y4_2.1.data) c4_2_00]) ?_
 refine sp 14 (.bool y4_2.2.1) ?_
 refine sp 15 (.int .i64 y4_2.2.2.1) ?_
 refine s_step 2 (by kernel_rfl) (by kernel_rfl) (st_new (T := 32) (cells := #[.int .i64 (0), .int .i64 (0), .int .i64 (0), .int .i64 (0), .int .i64 (0), .int .i64 (0), .int .i64 (0), .bool false, .slice none 0 0]) (fun a => .pointer (some a)) (fun _ => by kernel_rfl)) ?_
 rintro _ _ ⟨b4_7, rfl, rfl⟩
 refine s_do (by kernel_rfl) (by kernel_rfl) (st_store (off := 0) (vs := [.int .i64 y4_2.1.kind, .int .i64 y4_2.1.src, .int .i64 y4_2.1.dst, .int .i64 y4_2.1.id, .int .i64 y4_2.1.line, .int .i64 y4_2.1.ptr, .int .i64 y4_2.1.state, .bool y4_2.1.flag, .slice a4_2_00 (List.length y4_2.1.data) c4_2_00]) (c' := #[.int .i64 y4_2.1.kind, .int .i64 y4_2.1.src, .int .i64 y4_2.1.dst, .int .i64 y4_2.1.id, .int .i64 y4_2.1.line, .int .i64 y4_2.1.ptr, .int .i64 y4_2.1.state, .bool y4_2.1.flag, .slice a4_2_00 (List.length y4_2.1.data) c4_2_00]) (fun _ => by kernel_rfl) .here (by kernel_rfl) (by kernel_rfl) (by kernel_rfl)) ?_
 rintro _ _ ⟨rfl, rfl⟩
 refine sp 3 (.bool y4_2.2.1) ?_
 refine sp 4 (.int .i64 y4_2.2.2.1) ?_
 refine ops_end ?_
 refine ae [(1, .pointer (some ⟨b1_1, 0, none⟩)), (2, .pointer (some ⟨b4_7, 0, none⟩)), (3, .bool y4_2.2.1), (4, .int .i64 y4_2.2.2.1)] ?_
 refine at_then_normal ?_
 refine aq (x := C14 [1,1,1,1,0]) (y := C14 [1,1,1,1,1]) ?_
 refine ar (id := 5) 34 ?_
 refine sp 16 (.bool y4_2.2.1) ?_
 rcases Bool.eq_false_or_eq_true (y4_2.2.1) with h1 | h1
 ·replace H := bifT H h1
  refine sr 17 (.bool true) (run_eq (v := .bool (y4_2.2.1)) (fun _ => by kernel_rfl) (congrArg Value.bool h1)) ?_
  refine sp 18 (.int .i64 y4_2.2.2.1) ?_
  refine sp 19 (.bool (decide (y4_2.2.2.1 = (0 : Int)))) ?_
  refine sp 20 (.bool (decide (y4_2.2.2.1 = (0 : Int)))) ?_
  rcases Bool.eq_false_or_eq_true (decide (y4_2.2.2.1 = (0 : Int))) with h2 | h2
  ·replace H := bifT H h2
   refine sr 21 (.bool true) (run_eq (v := .bool (decide (y4_2.2.2.1 = (0 : Int)))) (fun _ => by kernel_rfl) (congrArg Value.bool h2)) ?_
   refine sp 22 (.pointer (some ⟨b4_7, 0, none⟩)) ?_
   refine sl 23 (.int .i64 y4_2.1.kind) (load1 (off := 0) (fun _ => by kernel_rfl) (holds_own .here) (by kernel_rfl)) ?_
   refine sp 24 (.bool (decide (y4_2.1.kind = (7 : Int)))) ?_
   refine sp 25 (.bool (decide (y4_2.1.kind = (7 : Int)))) ?_
   rcases Bool.eq_false_or_eq_true (decide (y4_2.1.kind = (7 : Int))) with h3 | h3
   ·replace H := bifT H h3
    refine sr 26 (.bool true) (run_eq (v := .bool (decide (y4_2.1.kind = (7 : Int)))) (fun _ => by kernel_rfl) (congrArg Value.bool h3)) ?_
    refine sp 27 (.pointer (some ⟨b4_7, 6, none⟩)) ?_
    refine sl 28 (.int .i64 y4_2.1.state) (load1 (off := 6) (fun _ => by kernel_rfl) (holds_own .here) (by kernel_rfl)) ?_
    refine sp 29 (.bool (decide (y4_2.1.state = (0 : Int)))) ?_
    refine sp 30 (.bool (decide (y4_2.1.state = (0 : Int)))) ?_
    rcases Bool.eq_false_or_eq_true (decide (y4_2.1.state = (0 : Int))) with h4 | h4
    ·replace H := bifT H h4
     refine sr 31 (.bool true) (run_eq (v := .bool (decide (y4_2.1.state = (0 : Int)))) (fun _ => by kernel_rfl) (congrArg Value.bool h4)) ?_
     refine sp 32 (.pointer (some ⟨b4_7, 2, none⟩)) ?_
     refine sl 33 (.int .i64 y4_2.1.dst) (load1 (off := 2) (fun _ => by kernel_rfl) (holds_own .here) (by kernel_rfl)) ?_
     refine sp 34 (.bool (decide (y4_2.1.dst = (1 : Int)))) ?_
     refine sp 35 (.bool (decide (y4_2.1.dst = (1 : Int)))) ?_
     rcases Bool.eq_false_or_eq_true (decide (y4_2.1.dst = (1 : Int))) with h5 | h5
     ·replace H := bifT H h5
      refine sr 36 (.bool true) (run_eq (v := .bool (decide (y4_2.1.dst = (1 : Int)))) (fun _ => by kernel_rfl) (congrArg Value.bool h5)) ?_
      refine sp 37 (.pointer (some ⟨b4_7, 3, none⟩)) ?_
      refine sl 38 (.int .i64 y4_2.1.id) (load1 (off := 3) (fun _ => by kernel_rfl) (holds_own .here) (by kernel_rfl)) ?_
      refine sp 39 (.bool (decide (y4_2.1.id = (7 : Int)))) ?_
      refine sp 40 (.bool (decide (y4_2.1.id = (7 : Int)))) ?_
      rcases Bool.eq_false_or_eq_true (decide (y4_2.1.id = (7 : Int))) with h6 | h6
      ·replace H := bifT H h6
       refine sr 41 (.bool true) (run_eq (v := .bool (decide (y4_2.1.id = (7 : Int)))) (fun _ => by kernel_rfl) (congrArg Value.bool h6)) ?_
       refine sp 42 (.pointer (some ⟨b1_1, 0, none⟩)) ?_
       refine sp 43 (.pointer (some ⟨b1_1, 0, none⟩)) ?_
       refine sp 44 (.pointer (some ⟨b1_1, 1, none⟩)) ?_
       refine HomeA.tox (.there (.there .here)) ?_
       intro x5_29_b1_1
       refine HomeXA.open .here ?_
       refine sl 45 (.pointer (some ⟨x5_29_b1_1.b1, 0, none⟩)) (load1 (off := 1) (fun _ => by kernel_rfl) (holds_own .here) (by kernel_rfl)) ?_
       obtain ⟨y5_30, hy5_30, H⟩ := bindE H
       refine s_call 46 11 #[.pointer (some ⟨x5_29_b1_1.b1, 0, none⟩), .int .i64 (0)] (by kernel_rfl) (by kernel_rfl) (fun _ => by kernel_rfl) (Tr.conv (Γ' := (TurnsA x5_29_b1_1.b1 y4_2.2.2.2.turns) :: (Asn.own b1_1 (.cells #[.pointer (some ⟨x5_29_b1_1.b0, 0, none⟩), .pointer (some ⟨x5_29_b1_1.b1, 0, none⟩), .int .i64 y4_2.2.2.2.c.nodes, .int .i64 y4_2.2.2.2.c.lines, .int .i64 y4_2.2.2.2.c.words, .int .i64 y4_2.2.2.2.c.sets, .int .i64 y4_2.2.2.2.c.ways, .int .i64 y4_2.2.2.2.c.out, .int .i64 y4_2.2.2.2.c.inn, .slice x5_29_b1_1.a9 (List.length y4_2.2.2.2.c.init) x5_29_b1_1.c9, .int .i64 y4_2.2.2.2.node] x5_29_b1_1.T (0, 0))) :: (DirA x5_29_b1_1.b0 y4_2.2.2.2.dir) :: (ImmI x5_29_b1_1.a9 y4_2.2.2.2.c.init) :: (Asn.own b4_7 (.cells #[.int .i64 y4_2.1.kind, .int .i64 y4_2.1.src, .int .i64 y4_2.1.dst, .int .i64 y4_2.1.id, .int .i64 y4_2.1.line, .int .i64 y4_2.1.ptr, .int .i64 y4_2.1.state, .bool y4_2.1.flag, .slice a4_2_00 (List.length y4_2.1.data) c4_2_00] 32 (0, 0))) :: (IntsA a4_2_00 c4_2_00 y4_2.1.data) :: Γ) (fun w hw => (Sat.less (.take (.there (.there .here)) (.take .here (.take .here (.take .here (.take .here (.take .here .refl)))))) hw)) (TOwnerF_tr x5_29_b1_1.b1 y4_2.2.2.2.turns (0 : Int) y5_30 hy5_30)) ?_
       rintro _ _ ⟨rfl, rfl⟩
       refine sp 47 (.bool (decide (y5_30 = (1 : Int)))) ?_
       refine sp 48 (.bool (decide (y5_30 = (1 : Int)))) ?_
       refine sp 0 (.bool (decide (y5_30 = (1 : Int)))) ?_
       refine ops_end ?_
       refine ae [(0, .bool (decide (y5_30 = (1 : Int))))] ?_
       refine at_then_normal ?_
       refine at_ret (by kernel_rfl) ?_
       refine At.conv (Γ' := (HomeXA b1_1 x5_29_b1_1 y4_2.2.2.2) :: (ImmI x5_29_b1_1.a9 y4_2.2.2.2.c.init) :: (Asn.own b4_7 (.cells #[.int .i64 y4_2.1.kind, .int .i64 y4_2.1.src, .int .i64 y4_2.1.dst, .int .i64 y4_2.1.id, .int .i64 y4_2.1.line, .int .i64 y4_2.1.ptr, .int .i64 y4_2.1.state, .bool y4_2.1.flag, .slice a4_2_00 (List.length y4_2.1.data) c4_2_00] 32 (0, 0))) :: (IntsA a4_2_00 c4_2_00 y4_2.1.data) :: Γ) (fun w hw => HomeXA.close (x := x5_29_b1_1) (t := y4_2.2.2.2) (Sat.less (.take (.there (.there (.there .here))) (.take (.there (.there (.there .here))) (.take (.there (.there .here)) (.take .here (.take .here (.take .here (.take .here .refl))))))) (ImmR.dup (Sat.less (.take (.there (.there (.there .here))) (.take .here (.take .here (.take .here (.take .here (.take .here .refl)))))) hw)))) ?_
       refine At.conv (Γ' := (HomeA b1_1 y4_2.2.2.2) :: (ImmI x5_29_b1_1.a9 y4_2.2.2.2.c.init) :: (Asn.own b4_7 (.cells #[.int .i64 y4_2.1.kind, .int .i64 y4_2.1.src, .int .i64 y4_2.1.dst, .int .i64 y4_2.1.id, .int .i64 y4_2.1.line, .int .i64 y4_2.1.ptr, .int .i64 y4_2.1.state, .bool y4_2.1.flag, .slice a4_2_00 (List.length y4_2.1.data) c4_2_00] 32 (0, 0))) :: (IntsA a4_2_00 c4_2_00 y4_2.1.data) :: Γ) (fun w hw => HomeXA.shut (hw.pull .here)) ?_
       obtain rfl := someE H
       refine at_backR [.bool (decide (y5_30 = (1 : Int)))] (Γ) (rs := [.tmp 0]) (by kernel_rfl) (.cons (.tmp (by kernel_rfl)) .nil) (fun w hw => (Sat.less (.drop .here (.drop .here (.drop .here (.drop .here .refl)))) hw)) ?_
       exact ⟨rfl, rfl⟩
      ·replace H := bifF H h6
       refine sr 41 (.bool false) (run_eq (v := .bool (decide (y4_2.1.id = (7 : Int)))) (fun _ => by kernel_rfl) (congrArg Value.bool h6)) ?_
       refine sa 42 ?_
       refine sa 43 ?_
       refine sa 44 ?_
       refine sa 45 ?_
       refine sa 46 ?_
       refine sa 47 ?_
       refine sp 48 (.bool false) ?_
       refine sp 0 (.bool false) ?_
       refine ops_end ?_
       refine ae [(0, .bool false)] ?_
       refine at_then_normal ?_
       refine at_ret (by kernel_rfl) ?_
       obtain rfl := someE H
       refine at_backR [.bool false] (Γ) (rs := [.tmp 0]) (by kernel_rfl) (.cons (.tmp (by kernel_rfl)) .nil) (fun w hw => (Sat.less (.drop .here (.drop .here (.drop .here .refl))) hw)) ?_
       exact ⟨rfl, rfl⟩
     ·replace H := bifF H h5
      refine sr 36 (.bool false) (run_eq (v := .bool (decide (y4_2.1.dst = (1 : Int)))) (fun _ => by kernel_rfl) (congrArg Value.bool h5)) ?_
      refine sa 37 ?_
      refine sa 38 ?_
      refine sa 39 ?_
      refine sp 40 (.bool false) ?_
      refine sp 41 (.bool false) ?_
      refine sa 42 ?_
      refine sa 43 ?_
      refine sa 44 ?_
      refine sa 45 ?_
      refine sa 46 ?_
      refine sa 47 ?_
      refine sp 48 (.bool false) ?_
      refine sp 0 (.bool false) ?_
      refine ops_end ?_
      refine ae [(0, .bool false)] ?_
      refine at_then_normal ?_
      refine at_ret (by kernel_rfl) ?_
      obtain rfl := someE H
      refine at_backR [.bool false] (Γ) (rs := [.tmp 0]) (by kernel_rfl) (.cons (.tmp (by kernel_rfl)) .nil) (fun w hw => (Sat.less (.drop .here (.drop .here (.drop .here .refl))) hw)) ?_
      exact ⟨rfl, rfl⟩
    ·replace H := bifF H h4
     refine sr 31 (.bool false) (run_eq (v := .bool (decide (y4_2.1.state = (0 : Int)))) (fun _ => by kernel_rfl) (congrArg Value.bool h4)) ?_
     refine sa 32 ?_
     refine sa 33 ?_
     refine sa 34 ?_
     refine sp 35 (.bool false) ?_
     refine sp 36 (.bool false) ?_
     refine sa 37 ?_
     refine sa 38 ?_
     refine sa 39 ?_
     refine sp 40 (.bool false) ?_
     refine sp 41 (.bool false) ?_
     refine sa 42 ?_
     refine sa 43 ?_
     refine sa 44 ?_
     refine sa 45 ?_
     refine sa 46 ?_
     refine sa 47 ?_
     refine sp 48 (.bool false) ?_
     refine sp 0 (.bool false) ?_
     refine ops_end ?_
     refine ae [(0, .bool false)] ?_
     refine at_then_normal ?_
     refine at_ret (by kernel_rfl) ?_
     obtain rfl := someE H
     refine at_backR [.bool false] (Γ) (rs := [.tmp 0]) (by kernel_rfl) (.cons (.tmp (by kernel_rfl)) .nil) (fun w hw => (Sat.less (.drop .here (.drop .here (.drop .here .refl))) hw)) ?_
     exact ⟨rfl, rfl⟩
   ·replace H := bifF H h3
    refine sr 26 (.bool false) (run_eq (v := .bool (decide (y4_2.1.kind = (7 : Int)))) (fun _ => by kernel_rfl) (congrArg Value.bool h3)) ?_
    refine sa 27 ?_
    refine sa 28 ?_
    refine sa 29 ?_
    refine sp 30 (.bool false) ?_
    refine sp 31 (.bool false) ?_
    refine sa 32 ?_
    refine sa 33 ?_
    refine sa 34 ?_
    refine sp 35 (.bool false) ?_
    refine sp 36 (.bool false) ?_
    refine sa 37 ?_
    refine sa 38 ?_
    refine sa 39 ?_
    refine sp 40 (.bool false) ?_
    refine sp 41 (.bool false) ?_
    refine sa 42 ?_
    refine sa 43 ?_
    refine sa 44 ?_
    refine sa 45 ?_
    refine sa 46 ?_
    refine sa 47 ?_
    refine sp 48 (.bool false) ?_
    refine sp 0 (.bool false) ?_
    refine ops_end ?_
    refine ae [(0, .bool false)] ?_
    refine at_then_normal ?_
    refine at_ret (by kernel_rfl) ?_
    obtain rfl := someE H
    refine at_backR [.bool false] (Γ) (rs := [.tmp 0]) (by kernel_rfl) (.cons (.tmp (by kernel_rfl)) .nil) (fun w hw => (Sat.less (.drop .here (.drop .here (.drop .here .refl))) hw)) ?_
    exact ⟨rfl, rfl⟩
  ·replace H := bifF H h2
   refine sr 21 (.bool false) (run_eq (v := .bool (decide (y4_2.2.2.1 = (0 : Int)))) (fun _ => by kernel_rfl) (congrArg Value.bool h2)) ?_
   refine sa 22 ?_
   refine sa 23 ?_
   refine sa 24 ?_
   refine sp 25 (.bool false) ?_
   refine sp 26 (.bool false) ?_
   refine sa 27 ?_
   refine sa 28 ?_
   refine sa 29 ?_
   refine sp 30 (.bool false) ?_
   refine sp 31 (.bool false) ?_
   refine sa 32 ?_
   refine sa 33 ?_
   refine sa 34 ?_
   refine sp 35 (.bool false) ?_
   refine sp 36 (.bool false) ?_
   refine sa 37 ?_
   refine sa 38 ?_
   refine sa 39 ?_
   refine sp 40 (.bool false) ?_
   refine sp 41 (.bool false) ?_
   refine sa 42 ?_
   refine sa 43 ?_
   refine sa 44 ?_
   refine sa 45 ?_
   refine sa 46 ?_
   refine sa 47 ?_
   refine sp 48 (.bool false) ?_
   refine sp 0 (.bool false) ?_
   refine ops_end ?_
   refine ae [(0, .bool false)] ?_
   refine at_then_normal ?_
   refine at_ret (by kernel_rfl) ?_
   obtain rfl := someE H
   refine at_backR [.bool false] (Γ) (rs := [.tmp 0]) (by kernel_rfl) (.cons (.tmp (by kernel_rfl)) .nil) (fun w hw => (Sat.less (.drop .here (.drop .here (.drop .here .refl))) hw)) ?_
   exact ⟨rfl, rfl⟩
 ·replace H := bifF H h1
  refine sr 17 (.bool false) (run_eq (v := .bool (y4_2.2.1)) (fun _ => by kernel_rfl) (congrArg Value.bool h1)) ?_
  refine sa 18 ?_
  refine sa 19 ?_
  refine sp 20 (.bool false) ?_
  refine sp 21 (.bool false) ?_
  refine sa 22 ?_
  refine sa 23 ?_
  refine sa 24 ?_
  refine sp 25 (.bool false) ?_
  refine sp 26 (.bool false) ?_
  refine sa 27 ?_
  refine sa 28 ?_
  refine sa 29 ?_
  refine sp 30 (.bool false) ?_
  refine sp 31 (.bool false) ?_
  refine sa 32 ?_
  refine sa 33 ?_
  refine sa 34 ?_
  refine sp 35 (.bool false) ?_
  refine sp 36 (.bool false) ?_
  refine sa 37 ?_
  refine sa 38 ?_
  refine sa 39 ?_
  refine sp 40 (.bool false) ?_
  refine sp 41 (.bool false) ?_
  refine sa 42 ?_
  refine sa 43 ?_
  refine sa 44 ?_
  refine sa 45 ?_
  refine sa 46 ?_
  refine sa 47 ?_
  refine sp 48 (.bool false) ?_
  refine sp 0 (.bool false) ?_
  refine ops_end ?_
  refine ae [(0, .bool false)] ?_
  refine at_then_normal ?_
  refine at_ret (by kernel_rfl) ?_
  obtain rfl := someE H
  refine at_backR [.bool false] (Γ) (rs := [.tmp 0]) (by kernel_rfl) (.cons (.tmp (by kernel_rfl)) .nil) (fun w hw => (Sat.less (.drop .here (.drop .here (.drop .here .refl))) hw)) ?_
  exact ⟨rfl, rfl⟩
def homeAloneS_j3 (v1_13 : Int) (r1 : Int → Int → HomeS → Option (Bool)) (e3_12 : Int) (e3_b2_1 : HomeS) : Option (Bool) :=
 chk (inR (v1_13 + (1 : Int))) (r1 e3_12 (v1_13 + (1 : Int)) e3_b2_1)
def homeAloneS_j8 (v1_13 : Int) (r1 : Int → Int → HomeS → Option (Bool)) (y12_6 : Int) (y26_1 : PktS × Bool × HomeS) (e8_200 : Bool) : Option (Bool) :=
 (bif e8_200 then some false else homeAloneS_j3 v1_13 r1 y12_6 y26_1.2.2)
def homeAloneS_j7 (y23_5 : PktS × Bool × Int × HomeS) (v1_13 : Int) (r1 : Int → Int → HomeS → Option (Bool)) (y12_6 : Int) (e5_18x : List Int) (e7_150 : Bool) : Option (Bool) :=
 (bif e7_150 then some false else (hgrantS y23_5.2.2.2).bind fun y26_1 => (bif !y26_1.2.1 then homeAloneS_j8 v1_13 r1 y12_6 y26_1 true else (bif !(decide (y26_1.1.dst = y12_6)) then homeAloneS_j8 v1_13 r1 y12_6 y26_1 true else (bif !(decide (y26_1.1.id = v1_13)) then homeAloneS_j8 v1_13 r1 y12_6 y26_1 true else (bif !(decide (y26_1.1.ptr = y12_6)) then homeAloneS_j8 v1_13 r1 y12_6 y26_1 true else (bif !(decide (y26_1.1.state = (1 : Int))) then homeAloneS_j8 v1_13 r1 y12_6 y26_1 true else (ksameS y26_1.1.data e5_18x).bind fun y27_29 => (bif !y27_29 then homeAloneS_j8 v1_13 r1 y12_6 y26_1 true else (townerS y26_1.2.2.turns (0 : Int)).bind fun y27_37 => (bif !(decide (y27_37 = y12_6)) then homeAloneS_j8 v1_13 r1 y12_6 y26_1 true else (hpendingS y26_1.2.2).bind fun y27_43 => homeAloneS_j8 v1_13 r1 y12_6 y26_1 y27_43))))))))
def homeAloneS_j6 (v1_12 : Int) (y12_6 : Int) (e5_18x : List Int) (v1_13 : Int) (r1 : Int → Int → HomeS → Option (Bool)) (e6_b2_1 : HomeS) : Option (Bool) :=
 (hhandleS e6_b2_1 (⟨2, v1_12, 0, 0, 0, y12_6, 1, true, e5_18x⟩ : PktS)).bind fun y23_5 => (bif !y23_5.2.1 then homeAloneS_j7 y23_5 v1_13 r1 y12_6 e5_18x true else (bif !(decide (y23_5.2.2.1 = (0 : Int))) then homeAloneS_j7 y23_5 v1_13 r1 y12_6 e5_18x true else (hpendingS y23_5.2.2.2).bind fun y24_8 => (bif !y24_8 then homeAloneS_j7 y23_5 v1_13 r1 y12_6 e5_18x true else (townerS y23_5.2.2.2.turns (0 : Int)).bind fun y24_16 => homeAloneS_j7 y23_5 v1_13 r1 y12_6 e5_18x (!(decide (y24_16 = ((-1) : Int)))))))
def homeAloneS_j9 (v1_12 : Int) (y12_6 : Int) (e5_18x : List Int) (v1_13 : Int) (r1 : Int → Int → HomeS → Option (Bool)) (y20_3 : PktS × Bool × Int × HomeS) (e9_121 : Bool) : Option (Bool) :=
 (bif e9_121 then some false else homeAloneS_j6 v1_12 y12_6 e5_18x v1_13 r1 y20_3.2.2.2)
def homeAloneS_j5 (y12_6 : Int) (v1_12 : Int) (y13_4 : PktS × Bool × Int × HomeS) (v1_13 : Int) (r1 : Int → Int → HomeS → Option (Bool)) (e5_18x : List Int) : Option (Bool) :=
 (bif !(decide (y12_6 = v1_12)) then (hhandleS y13_4.2.2.2 (⟨2, y12_6, 0, 0, 0, 0, 1, false, ([] : List Int)⟩ : PktS)).bind fun y20_3 => (bif y20_3.2.1 then homeAloneS_j9 v1_12 y12_6 e5_18x v1_13 r1 y20_3 true else homeAloneS_j9 v1_12 y12_6 e5_18x v1_13 r1 y20_3 (!(decide (y20_3.2.2.1 = (6 : Int))))) else homeAloneS_j6 v1_12 y12_6 e5_18x v1_13 r1 y13_4.2.2.2)
def homeAloneS_j4 (y1_1 : CfgS) (v1_13 : Int) (values : List Int) (y12_6 : Int) (v1_12 : Int) (y13_4 : PktS × Bool × Int × HomeS) (r1 : Int → Int → HomeS → Option (Bool)) (e4_92 : Bool) : Option (Bool) :=
 (bif e4_92 then some false else chk (0 ≤ y1_1.words ∧ y1_1.words ≤ 1099511627776) (letP (List.replicate (y1_1.words).toNat (0 : Int)) fun l16_2 => (bif decide (v1_13 < (((List.length values) : Nat) : Int)) then chk (0 ≤ v1_13 ∧ v1_13 < ((values.length : Nat) : Int)) (chk (0 ≤ (0 : Int) ∧ (0 : Int) < ((l16_2.length : Nat) : Int)) (letP (setI l16_2 (0 : Int) (nth values v1_13)) fun w18_6 => homeAloneS_j5 y12_6 v1_12 y13_4 v1_13 r1 w18_6)) else homeAloneS_j5 y12_6 v1_12 y13_4 v1_13 r1 l16_2)))
def homeAloneS_j2 (v1_13 : Int) (heads : List Int) (y1_1 : CfgS) (v1_b2_1 : HomeS) (values : List Int) (v1_12 : Int) (r1 : Int → Int → HomeS → Option (Bool)) (k1 : Int → Int → HomeS → Option (Bool)) (e2_65 : Bool) : Option (Bool) :=
 (bif e2_65 then chk (0 ≤ v1_13 ∧ v1_13 < ((heads.length : Nat) : Int)) ((withinS (nth heads v1_13) y1_1.nodes).bind fun y12_6 => (hhandleS v1_b2_1 (⟨1, y12_6, 0, v1_13, 0, 0, 0, false, ([] : List Int)⟩ : PktS)).bind fun y13_4 => (bif y13_4.2.1 then homeAloneS_j4 y1_1 v1_13 values y12_6 v1_12 y13_4 r1 true else (bif !(decide (y13_4.2.2.1 = (0 : Int))) then homeAloneS_j4 y1_1 v1_13 values y12_6 v1_12 y13_4 r1 true else (hpendingS y13_4.2.2.2).bind fun y14_7 => homeAloneS_j4 y1_1 v1_13 values y12_6 v1_12 y13_4 r1 y14_7))) else k1 v1_12 v1_13 v1_b2_1)
def homeAloneS_k1 (e1_12 : Int) (e1_13 : Int) (e1_b2_1 : HomeS) : Option (Bool) :=
 (hgrantS e1_b2_1).bind fun y30_1 => (bif !y30_1.2.1 then (twaitingS y30_1.2.2.turns (0 : Int)).bind fun y31_7 => (bif decide (y31_7 = (0 : Int)) then (wakes11S).bind fun y31_11 => some y31_11 else some false) else some false)
def homeAloneS_l1 (heads : List Int) (y1_1 : CfgS) (values : List Int) (k1 : Int → Int → HomeS → Option (Bool)) : Nat → Int → Int → HomeS → Option (Bool)
 | 0 => fun _ _ _ => none
 | m + 1 => fun v1_12 v1_13 v1_b2_1 => (bif decide (v1_13 < (((List.length heads) : Nat) : Int)) then homeAloneS_j2 v1_13 heads y1_1 v1_b2_1 values v1_12 (homeAloneS_l1 heads y1_1 values k1 m) k1 (decide (v1_13 < (8 : Int))) else homeAloneS_j2 v1_13 heads y1_1 v1_b2_1 values v1_12 (homeAloneS_l1 heads y1_1 values k1 m) k1 false)
def homeAloneS_j0 (heads : List Int) (y1_1 : CfgS) (values : List Int) (y5_2 : PktS × Bool × Int × HomeS) (e0_57 : Bool) : Option (Bool) :=
 (bif e0_57 then some false else homeAloneS_l1 heads y1_1 values (homeAloneS_k1 ) 64 0 0 y5_2.2.2.2)
def homeAloneS (su : SetupS) (heads : List Int) (values : List Int) : Option (Bool) :=
 (plconfigS su).bind fun y1_1 => (hnewS y1_1 (0 : Int)).bind fun y2_1 => (hhandleS y2_1 (⟨1, 0, 0, 1, 0, 0, 0, false, ([] : List Int)⟩ : PktS)).bind fun y5_2 => (bif !y5_2.2.1 then homeAloneS_j0 heads y1_1 values y5_2 true else (bif !(decide (y5_2.2.2.1 = (0 : Int))) then homeAloneS_j0 heads y1_1 values y5_2 true else (bif !(decide (y5_2.1.ptr = ((-1) : Int))) then homeAloneS_j0 heads y1_1 values y5_2 true else homeAloneS_j0 heads y1_1 values y5_2 (!(decide (y5_2.1.state = (0 : Int)))))))
noncomputable def C5 (p : List Nat) : Code := codeAt (bodyOf Try.f5) p
set_option maxRecDepth 100000 in
set_option maxHeartbeats 8000000 in
theorem HomeAloneF_tr {W0 : World} {Γ : List Asn} (sua : Option Addr) (sucap : Nat) (sua1 : Option Addr) (sucap1 : Nat) (sua2 : Option Addr) (sucap2 : Nat) (sua3 : Option Addr) (sucap3 : Nat) (sua4 : Option Addr) (sucap4 : Nat) (su : SetupS) (headsa : Option Addr) (headscap : Nat) (heads : List Int) (valuesa : Option Addr) (valuescap : Nat) (values : List Int) (hrsua : Reads W0 Γ sua (ints su.init)) (hcsua : su.init.length ≤ sucap) (hrsua1 : Reads W0 Γ sua1 (ints su.who)) (hcsua1 : su.who.length ≤ sucap1) (hrsua2 : Reads W0 Γ sua2 (ints su.kinds)) (hcsua2 : su.kinds.length ≤ sucap2) (hrsua3 : Reads W0 Γ sua3 (ints su.addrs)) (hcsua3 : su.addrs.length ≤ sucap3) (hrsua4 : Reads W0 Γ sua4 (ints su.values)) (hcsua4 : su.values.length ≤ sucap4) (hrheadsa : Reads W0 Γ headsa (ints heads)) (hrvaluesa : Reads W0 Γ valuesa (ints values)) (y : Bool) (H : homeAloneS su heads values = some y) : Tr Try.prog 5 #[.agg #[.int .i64 su.nodes, .int .i64 su.lines, .int .i64 su.words, .int .i64 su.sets, .int .i64 su.ways, .int .i64 su.out, .int .i64 su.inn, .slice sua (List.length su.init) sucap, .slice sua1 (List.length su.who) sucap1, .slice sua2 (List.length su.kinds) sucap2, .slice sua3 (List.length su.addrs) sucap3, .slice sua4 (List.length su.values) sucap4], .slice headsa (List.length heads) headscap, .slice valuesa (List.length values) valuescap] W0 (Γ) (fun r Δ => r = .bool y ∧ Δ = Γ) := by
 unfold homeAloneS at H
 refine Tr.enter (fn := Try.f5) (c := C5 []) (args := [.agg #[.int .i64 su.nodes, .int .i64 su.lines, .int .i64 su.words, .int .i64 su.sets, .int .i64 su.ways, .int .i64 su.out, .int .i64 su.inn, .slice sua (List.length su.init) sucap, .slice sua1 (List.length su.who) sucap1, .slice sua2 (List.length su.kinds) sucap2, .slice sua3 (List.length su.addrs) sucap3, .slice sua4 (List.length su.values) sucap4], .slice headsa (List.length heads) headscap, .slice valuesa (List.length values) valuescap]) 220 Try.func5 (by kernel_rfl) (by kernel_rfl) ?_
 refine ae [(0, .agg #[.int .i64 su.nodes, .int .i64 su.lines, .int .i64 su.words, .int .i64 su.sets, .int .i64 su.ways, .int .i64 su.out, .int .i64 su.inn, .slice sua (List.length su.init) sucap, .slice sua1 (List.length su.who) sucap1, .slice sua2 (List.length su.kinds) sucap2, .slice sua3 (List.length su.addrs) sucap3, .slice sua4 (List.length su.values) sucap4]), (1, .slice headsa (List.length heads) headscap), (2, .slice valuesa (List.length values) valuescap)] ?_
 refine aq (x := C5 [0]) (y := C5 [1]) ?_
 refine ar (id := 0) 2 ?_
 refine s_step 3 (by kernel_rfl) (by kernel_rfl) (st_new (T := 24) (cells := #[.int .i64 su.nodes, .int .i64 su.lines, .int .i64 su.words, .int .i64 su.sets, .int .i64 su.ways, .int .i64 su.out, .int .i64 su.inn, .slice sua (List.length su.init) sucap, .slice sua1 (List.length su.who) sucap1, .slice sua2 (List.length su.kinds) sucap2, .slice sua3 (List.length su.addrs) sucap3, .slice sua4 (List.length su.values) sucap4]) (fun a => .pointer (some a)) (fun _ => by kernel_rfl)) ?_
 rintro _ _ ⟨b0_0, rfl, rfl⟩
 refine sp 6 (.bool false) ?_
 refine ops_end ?_
 refine ae [(1, .slice headsa (List.length heads) headscap), (2, .slice valuesa (List.length values) valuescap), (3, .pointer (some ⟨b0_0, 0, none⟩))] ?_
 refine at_then_normal ?_
 refine aq (x := C5 [1,0]) (y := C5 [1,1]) ?_
 refine ar (id := 1) 4 ?_
 refine sl 29 (.agg #[.int .i64 su.nodes, .int .i64 su.lines, .int .i64 su.words, .int .i64 su.sets, .int .i64 su.ways, .int .i64 su.out, .int .i64 su.inn, .slice sua (List.length su.init) sucap, .slice sua1 (List.length su.who) sucap1, .slice sua2 (List.length su.kinds) sucap2, .slice sua3 (List.length su.addrs) sucap3, .slice sua4 (List.length su.values) sucap4]) (loadN (off := 0) (vs := [.int .i64 su.nodes, .int .i64 su.lines, .int .i64 su.words, .int .i64 su.sets, .int .i64 su.ways, .int .i64 su.out, .int .i64 su.inn, .slice sua (List.length su.init) sucap, .slice sua1 (List.length su.who) sucap1, .slice sua2 (List.length su.kinds) sucap2, .slice sua3 (List.length su.addrs) sucap3, .slice sua4 (List.length su.values) sucap4]) 12 (fun _ => by kernel_rfl) (holds_own .here) rfl (by exact ⟨rfl, rfl, rfl, rfl, rfl, rfl, rfl, rfl, rfl, rfl, rfl, rfl, trivial⟩)) ?_
 obtain ⟨y1_1, hy1_1, H⟩ := bindE H
 refine s_call 30 7 #[.agg #[.int .i64 su.nodes, .int .i64 su.lines, .int .i64 su.words, .int .i64 su.sets, .int .i64 su.ways, .int .i64 su.out, .int .i64 su.inn, .slice sua (List.length su.init) sucap, .slice sua1 (List.length su.who) sucap1, .slice sua2 (List.length su.kinds) sucap2, .slice sua3 (List.length su.addrs) sucap3, .slice sua4 (List.length su.values) sucap4]] (by kernel_rfl) (by kernel_rfl) (fun _ => by kernel_rfl) (PlConfigF_tr sua sucap sua1 sucap1 sua2 sucap2 sua3 sucap3 sua4 sucap4 su (Reads.conv (fun w hw => hw.less (.drop .here .refl)) hrsua) hcsua (Reads.conv (fun w hw => hw.less (.drop .here .refl)) hrsua1) hcsua1 (Reads.conv (fun w hw => hw.less (.drop .here .refl)) hrsua2) hcsua2 (Reads.conv (fun w hw => hw.less (.drop .here .refl)) hrsua3) hcsua3 (Reads.conv (fun w hw => hw.less (.drop .here .refl)) hrsua4) hcsua4 y1_1 hy1_1) ?_
 rintro _ _ ⟨a1_1_00, c1_1_00, rfl, rfl⟩
 refine s_step 7 (by kernel_rfl) (by kernel_rfl) (st_new (T := 26) (cells := #[.int .i64 (0), .int .i64 (0), .int .i64 (0), .int .i64 (0), .int .i64 (0), .int .i64 (0), .int .i64 (0), .slice none 0 0]) (fun a => .pointer (some a)) (fun _ => by kernel_rfl)) ?_
 rintro _ _ ⟨b1_2, rfl, rfl⟩
 refine s_do (by kernel_rfl) (by kernel_rfl) (st_store (off := 0) (vs := [.int .i64 y1_1.nodes, .int .i64 y1_1.lines, .int .i64 y1_1.words, .int .i64 y1_1.sets, .int .i64 y1_1.ways, .int .i64 y1_1.out, .int .i64 y1_1.inn, .slice a1_1_00 (List.length y1_1.init) c1_1_00]) (c' := #[.int .i64 y1_1.nodes, .int .i64 y1_1.lines, .int .i64 y1_1.words, .int .i64 y1_1.sets, .int .i64 y1_1.ways, .int .i64 y1_1.out, .int .i64 y1_1.inn, .slice a1_1_00 (List.length y1_1.init) c1_1_00]) (fun _ => by kernel_rfl) .here (by kernel_rfl) (by kernel_rfl) (by kernel_rfl)) ?_
 rintro _ _ ⟨rfl, rfl⟩
 refine ops_end ?_
 refine ae [(1, .slice headsa (List.length heads) headscap), (2, .slice valuesa (List.length values) valuescap), (7, .pointer (some ⟨b1_2, 0, none⟩))] ?_
 refine at_then_normal ?_
 refine aq (x := C5 [1,1,0]) (y := C5 [1,1,1]) ?_
 refine ar (id := 2) 3 ?_
 refine sl 31 (.agg #[.int .i64 y1_1.nodes, .int .i64 y1_1.lines, .int .i64 y1_1.words, .int .i64 y1_1.sets, .int .i64 y1_1.ways, .int .i64 y1_1.out, .int .i64 y1_1.inn, .slice a1_1_00 (List.length y1_1.init) c1_1_00]) (loadN (off := 0) (vs := [.int .i64 y1_1.nodes, .int .i64 y1_1.lines, .int .i64 y1_1.words, .int .i64 y1_1.sets, .int .i64 y1_1.ways, .int .i64 y1_1.out, .int .i64 y1_1.inn, .slice a1_1_00 (List.length y1_1.init) c1_1_00]) 8 (fun _ => by kernel_rfl) (holds_own .here) rfl (by exact ⟨rfl, rfl, rfl, rfl, rfl, rfl, rfl, rfl, trivial⟩)) ?_
 obtain ⟨y2_1, hy2_1, H⟩ := bindE H
 refine At.known (p := (List.length y1_1.init) ≤ c1_1_00) (fun w hw => by have := (RowsA.len (hw.pull (.there .here))).2; simpa using this) ?_
 intro hcap1
 refine s_call 32 8 #[.agg #[.int .i64 y1_1.nodes, .int .i64 y1_1.lines, .int .i64 y1_1.words, .int .i64 y1_1.sets, .int .i64 y1_1.ways, .int .i64 y1_1.out, .int .i64 y1_1.inn, .slice a1_1_00 (List.length y1_1.init) c1_1_00], .int .i64 (0)] (by kernel_rfl) (by kernel_rfl) (fun _ => by kernel_rfl) (Tr.conv (Γ' := (ImmI a1_1_00 y1_1.init) :: (ImmI a1_1_00 y1_1.init) :: (Asn.own b1_2 (.cells #[.int .i64 y1_1.nodes, .int .i64 y1_1.lines, .int .i64 y1_1.words, .int .i64 y1_1.sets, .int .i64 y1_1.ways, .int .i64 y1_1.out, .int .i64 y1_1.inn, .slice a1_1_00 (List.length y1_1.init) c1_1_00] 26 (0, 0))) :: (Asn.own b0_0 (.cells #[.int .i64 su.nodes, .int .i64 su.lines, .int .i64 su.words, .int .i64 su.sets, .int .i64 su.ways, .int .i64 su.out, .int .i64 su.inn, .slice sua (List.length su.init) sucap, .slice sua1 (List.length su.who) sucap1, .slice sua2 (List.length su.kinds) sucap2, .slice sua3 (List.length su.addrs) sucap3, .slice sua4 (List.length su.values) sucap4] 24 (0, 0))) :: Γ) (fun w hw => (Sat.less (.take .here (.take .here (.take .here (.take .here .refl)))) (ImmR.dup (Sat.less (.take .here (.take .here (.take .here .refl))) (RowsA.freeze (Sat.less (.take (.there .here) (.take .here (.take .here .refl))) hw)))))) (HNewF_tr a1_1_00 c1_1_00 y1_1 (0 : Int) hcap1 y2_1 hy2_1)) ?_
 rintro _ _ ⟨b2_1, rfl, rfl⟩
 refine sp 8 (.pointer (some ⟨b2_1, 0, none⟩)) ?_
 refine ops_end ?_
 refine ae [(1, .slice headsa (List.length heads) headscap), (2, .slice valuesa (List.length values) valuescap), (7, .pointer (some ⟨b1_2, 0, none⟩)), (8, .pointer (some ⟨b2_1, 0, none⟩))] ?_
 refine at_then_normal ?_
 refine aq (x := C5 [1,1,1,0]) (y := C5 [1,1,1,1]) ?_
 refine aq (x := C5 [1,1,1,0,0]) (y := C5 [1,1,1,0,1]) ?_
 refine ar (id := 3) 2 ?_
 refine sp 33 (.pointer (some ⟨b2_1, 0, none⟩)) ?_
 refine sp 34 (.bool false) ?_
 refine ops_end ?_
 refine ae [(1, .slice headsa (List.length heads) headscap), (2, .slice valuesa (List.length values) valuescap), (7, .pointer (some ⟨b1_2, 0, none⟩)), (8, .pointer (some ⟨b2_1, 0, none⟩)), (34, .bool false)] ?_
 refine at_then_normal ?_
 refine at_false (t := false) (x := C5 [1,1,1,0,1,0]) (y := C5 [1,1,1,0,1,1]) (o := .tmp 34) (by kernel_rfl) (by kernel_rfl) (by kernel_rfl) rfl ?_
 refine at_skip (by kernel_rfl) ?_
 refine at_then_normal ?_
 refine aq (x := C5 [1,1,1,1,0]) (y := C5 [1,1,1,1,1]) ?_
 refine ar (id := 5) 11 ?_
 refine sp 36 (.pointer (some ⟨b2_1, 0, none⟩)) ?_
 refine sp 37 (.agg #[.int .i64 (1), .int .i64 (0), .int .i64 (0), .int .i64 (1), .int .i64 (0), .int .i64 (0), .int .i64 (0), .bool false, .slice none 0 0]) ?_
 obtain ⟨y5_2, hy5_2, H⟩ := bindE H
 refine s_call 38 10 #[.pointer (some ⟨b2_1, 0, none⟩), .agg #[.int .i64 (1), .int .i64 (0), .int .i64 (0), .int .i64 (1), .int .i64 (0), .int .i64 (0), .int .i64 (0), .bool false, .slice none 0 0]] (by kernel_rfl) (by kernel_rfl) (fun _ => by kernel_rfl) (HHandleF_tr b2_1 y2_1 none 0 (⟨1, 0, 0, 1, 0, 0, 0, false, ([] : List Int)⟩ : PktS) Reads.nil y5_2 hy5_2) ?_
 rintro _ _ ⟨a5_2_00, c5_2_00, rfl, rfl⟩
 refine sp 35 (.tuple #[.agg #[.int .i64 y5_2.1.kind, .int .i64 y5_2.1.src, .int .i64 y5_2.1.dst, .int .i64 y5_2.1.id, .int .i64 y5_2.1.line, .int .i64 y5_2.1.ptr, .int .i64 y5_2.1.state, .bool y5_2.1.flag, .slice a5_2_00 (List.length y5_2.1.data) c5_2_00], .bool y5_2.2.1, .int .i64 y5_2.2.2.1]) ?_
 refine sp 39 (.agg #[.int .i64 y5_2.1.kind, .int .i64 y5_2.1.src, .int .i64 y5_2.1.dst, .int .i64 y5_2.1.id, .int .i64 y5_2.1.line, .int .i64 y5_2.1.ptr, .int .i64 y5_2.1.state, .bool y5_2.1.flag, .slice a5_2_00 (List.length y5_2.1.data) c5_2_00]) ?_
 refine sp 40 (.bool y5_2.2.1) ?_
 refine sp 41 (.int .i64 y5_2.2.2.1) ?_
 refine s_step 9 (by kernel_rfl) (by kernel_rfl) (st_new (T := 32) (cells := #[.int .i64 (0), .int .i64 (0), .int .i64 (0), .int .i64 (0), .int .i64 (0), .int .i64 (0), .int .i64 (0), .bool false, .slice none 0 0]) (fun a => .pointer (some a)) (fun _ => by kernel_rfl)) ?_
 rintro _ _ ⟨b5_7, rfl, rfl⟩
 refine s_do (by kernel_rfl) (by kernel_rfl) (st_store (off := 0) (vs := [.int .i64 y5_2.1.kind, .int .i64 y5_2.1.src, .int .i64 y5_2.1.dst, .int .i64 y5_2.1.id, .int .i64 y5_2.1.line, .int .i64 y5_2.1.ptr, .int .i64 y5_2.1.state, .bool y5_2.1.flag, .slice a5_2_00 (List.length y5_2.1.data) c5_2_00]) (c' := #[.int .i64 y5_2.1.kind, .int .i64 y5_2.1.src, .int .i64 y5_2.1.dst, .int .i64 y5_2.1.id, .int .i64 y5_2.1.line, .int .i64 y5_2.1.ptr, .int .i64 y5_2.1.state, .bool y5_2.1.flag, .slice a5_2_00 (List.length y5_2.1.data) c5_2_00]) (fun _ => by kernel_rfl) .here (by kernel_rfl) (by kernel_rfl) (by kernel_rfl)) ?_
 rintro _ _ ⟨rfl, rfl⟩
 refine sp 10 (.bool y5_2.2.1) ?_
 refine sp 11 (.int .i64 y5_2.2.2.1) ?_
 refine ops_end ?_
 refine ae [(1, .slice headsa (List.length heads) headscap), (2, .slice valuesa (List.length values) valuescap), (7, .pointer (some ⟨b1_2, 0, none⟩)), (8, .pointer (some ⟨b2_1, 0, none⟩)), (9, .pointer (some ⟨b5_7, 0, none⟩)), (10, .bool y5_2.2.1), (11, .int .i64 y5_2.2.2.1)] ?_
 refine at_then_normal ?_
 refine aq (x := C5 [1,1,1,1,1,0]) (y := C5 [1,1,1,1,1,1]) ?_
 refine at_seq_join (x := C5 [1,1,1,1,1,0,0]) (y := C5 [1,1,1,1,1,0,1]) (fun ff ΔΔ => ∃ (e0_57 : Bool), homeAloneS_j0 heads y1_1 values y5_2 e0_57 = some y ∧ ff = [(1, .slice headsa (List.length heads) headscap), (2, .slice valuesa (List.length values) valuescap), (7, .pointer (some ⟨b1_2, 0, none⟩)), (8, .pointer (some ⟨b2_1, 0, none⟩)), (57, .bool e0_57)] ∧ (HomeA b2_1 y5_2.2.2.2) :: (ImmI a1_1_00 y1_1.init) :: (Asn.own b1_2 (.cells #[.int .i64 y1_1.nodes, .int .i64 y1_1.lines, .int .i64 y1_1.words, .int .i64 y1_1.sets, .int .i64 y1_1.ways, .int .i64 y1_1.out, .int .i64 y1_1.inn, .slice a1_1_00 (List.length y1_1.init) c1_1_00] 26 (0, 0))) :: Γ = ΔΔ) (by kernel_rfl) ?_ ?_
 ·rintro _ _ ⟨e0_57, H, rfl, rfl⟩
  rw [homeAloneS_j0] at H
  rcases Bool.eq_false_or_eq_true (e0_57) with h1 | h1
  ·replace H := bifT H h1
   refine at_true (t := e0_57) (x := C5 [1,1,1,1,1,0,1,0]) (y := C5 [1,1,1,1,1,0,1,1]) (o := .tmp 57) (by kernel_rfl) (by kernel_rfl) (by kernel_rfl) h1 ?_
   refine aq (x := C5 [1,1,1,1,1,0,1,0,0]) (y := C5 [1,1,1,1,1,0,1,0,1]) ?_
   refine ar (id := 7) 1 ?_
   refine sp 6 (.bool false) ?_
   refine ops_end ?_
   refine ae [(6, .bool false)] ?_
   refine at_then_normal ?_
   refine at_ret (by kernel_rfl) ?_
   refine at_then_ret ?_
   obtain rfl := someE H
   refine at_backR [.bool false] (Γ) (rs := [.tmp 6]) (by kernel_rfl) (.cons (.tmp (by kernel_rfl)) .nil) (fun w hw => (Sat.less (.drop .here (.drop .here (.drop .here .refl))) hw)) ?_
   exact ⟨rfl, rfl⟩
  ·replace H := bifF H h1
   refine at_false (t := e0_57) (x := C5 [1,1,1,1,1,0,1,0]) (y := C5 [1,1,1,1,1,0,1,1]) (o := .tmp 57) (by kernel_rfl) (by kernel_rfl) (by kernel_rfl) h1 ?_
   refine at_skip (by kernel_rfl) ?_
   refine at_then_normal ?_
   refine aq (x := C5 [1,1,1,1,1,1,0]) (y := C5 [1,1,1,1,1,1,1]) ?_
   refine ar (id := 8) 1 ?_
   refine sp 12 (.int .i64 (0)) ?_
   refine ops_end ?_
   refine ae [(1, .slice headsa (List.length heads) headscap), (2, .slice valuesa (List.length values) valuescap), (7, .pointer (some ⟨b1_2, 0, none⟩)), (8, .pointer (some ⟨b2_1, 0, none⟩)), (12, .int .i64 (0))] ?_
   refine at_then_normal ?_
   refine aq (x := C5 [1,1,1,1,1,1,1,0]) (y := C5 [1,1,1,1,1,1,1,1]) ?_
   refine aq (x := C5 [1,1,1,1,1,1,1,0,0]) (y := C5 [1,1,1,1,1,1,1,0,1]) ?_
   refine ar (id := 9) 1 ?_
   refine sp 13 (.int .i64 (0)) ?_
   refine ops_end ?_
   refine ae [(1, .slice headsa (List.length heads) headscap), (2, .slice valuesa (List.length values) valuescap), (7, .pointer (some ⟨b1_2, 0, none⟩)), (8, .pointer (some ⟨b2_1, 0, none⟩)), (12, .int .i64 (0)), (13, .int .i64 (0))] ?_
   refine at_then_normal ?_
   refine at_block (i := 0) (x := C5 [1,1,1,1,1,1,1,0,1,0]) (by kernel_rfl) ?_
   refine At.conv (Γ' := (HomeA b2_1 y5_2.2.2.2) :: (ImmI a1_1_00 y1_1.init) :: (Asn.own b1_2 (.cells #[.int .i64 y1_1.nodes, .int .i64 y1_1.lines, .int .i64 y1_1.words, .int .i64 y1_1.sets, .int .i64 y1_1.ways, .int .i64 y1_1.out, .int .i64 y1_1.inn, .slice a1_1_00 (List.length y1_1.init) c1_1_00] 26 (0, 0))) :: Γ) (fun w hw => (Sat.less (.take .here (.take .here (.take .here .refl))) hw)) ?_
   refine at_loopR (x := C5 [1,1,1,1,1,1,1,0,1,0,0]) (fun mm ff ΔΔ => ∃ (fuel : Nat) (v1_12 : Int) (v1_13 : Int) (v1_b2_1 : HomeS), homeAloneS_l1 heads y1_1 values (homeAloneS_k1 ) fuel v1_12 v1_13 v1_b2_1 = some y ∧ fuel = mm ∧ ff = [(1, .slice headsa (List.length heads) headscap), (2, .slice valuesa (List.length values) valuescap), (7, .pointer (some ⟨b1_2, 0, none⟩)), (8, .pointer (some ⟨b2_1, 0, none⟩)), (12, .int .i64 v1_12), (13, .int .i64 v1_13)] ∧ (HomeA b2_1 v1_b2_1) :: (ImmI a1_1_00 y1_1.init) :: (Asn.own b1_2 (.cells #[.int .i64 y1_1.nodes, .int .i64 y1_1.lines, .int .i64 y1_1.words, .int .i64 y1_1.sets, .int .i64 y1_1.ways, .int .i64 y1_1.out, .int .i64 y1_1.inn, .slice a1_1_00 (List.length y1_1.init) c1_1_00] 26 (0, 0))) :: Γ = ΔΔ) (64) (by kernel_rfl) [(1, .slice headsa (List.length heads) headscap), (2, .slice valuesa (List.length values) valuescap), (7, .pointer (some ⟨b1_2, 0, none⟩)), (8, .pointer (some ⟨b2_1, 0, none⟩)), (12, .int .i64 0), (13, .int .i64 0)] ⟨by kernel_rfl, by kernel_rfl, by kernel_rfl, by kernel_rfl, by kernel_rfl, by kernel_rfl, trivial⟩ ⟨64, 0, 0, y5_2.2.2.2, H, rfl, rfl, rfl⟩ ?_
   rintro _ _ _ ⟨fuel1, v1_12, v1_13, v1_b2_1, H, rfl, rfl, rfl⟩
   rcases fuel1 with _ | fuel1
   ·exact (noneE H).elim
   rw [homeAloneS_l1] at H
   refine aq (x := C5 [1,1,1,1,1,1,1,0,1,0,0,0]) (y := C5 [1,1,1,1,1,1,1,0,1,0,0,1]) ?_
   refine at_seq_join (x := C5 [1,1,1,1,1,1,1,0,1,0,0,0,0]) (y := C5 [1,1,1,1,1,1,1,0,1,0,0,0,1]) (fun ff ΔΔ => ∃ (e2_65 : Bool), homeAloneS_j2 v1_13 heads y1_1 v1_b2_1 values v1_12 (homeAloneS_l1 heads y1_1 values (homeAloneS_k1 ) fuel1) (homeAloneS_k1 ) e2_65 = some y ∧ ff = [(1, .slice headsa (List.length heads) headscap), (2, .slice valuesa (List.length values) valuescap), (7, .pointer (some ⟨b1_2, 0, none⟩)), (8, .pointer (some ⟨b2_1, 0, none⟩)), (12, .int .i64 v1_12), (13, .int .i64 v1_13), (65, .bool e2_65)] ∧ (HomeA b2_1 v1_b2_1) :: (ImmI a1_1_00 y1_1.init) :: (Asn.own b1_2 (.cells #[.int .i64 y1_1.nodes, .int .i64 y1_1.lines, .int .i64 y1_1.words, .int .i64 y1_1.sets, .int .i64 y1_1.ways, .int .i64 y1_1.out, .int .i64 y1_1.inn, .slice a1_1_00 (List.length y1_1.init) c1_1_00] 26 (0, 0))) :: Γ = ΔΔ) (by kernel_rfl) ?_ ?_
   ·rintro _ _ ⟨e2_65, H, rfl, rfl⟩
    rw [homeAloneS_j2] at H
    rcases Bool.eq_false_or_eq_true (e2_65) with h2 | h2
    ·replace H := bifT H h2
     refine at_true (t := e2_65) (x := C5 [1,1,1,1,1,1,1,0,1,0,0,0,1,0]) (y := C5 [1,1,1,1,1,1,1,0,1,0,0,0,1,1]) (o := .tmp 65) (by kernel_rfl) (by kernel_rfl) (by kernel_rfl) h2 ?_
     refine at_skip (by kernel_rfl) ?_
     refine at_then_normal ?_
     refine at_seq_join (x := C5 [1,1,1,1,1,1,1,0,1,0,0,1,0]) (y := C5 [1,1,1,1,1,1,1,0,1,0,0,1,1]) (fun ff ΔΔ => ∃ (e3_12 : Int) (e3_b2_1 : HomeS), homeAloneS_j3 v1_13 (homeAloneS_l1 heads y1_1 values (homeAloneS_k1 ) fuel1) e3_12 e3_b2_1 = some y ∧ ff = [(1, .slice headsa (List.length heads) headscap), (2, .slice valuesa (List.length values) valuescap), (7, .pointer (some ⟨b1_2, 0, none⟩)), (8, .pointer (some ⟨b2_1, 0, none⟩)), (12, .int .i64 e3_12), (13, .int .i64 v1_13)] ∧ (HomeA b2_1 e3_b2_1) :: (ImmI a1_1_00 y1_1.init) :: (Asn.own b1_2 (.cells #[.int .i64 y1_1.nodes, .int .i64 y1_1.lines, .int .i64 y1_1.words, .int .i64 y1_1.sets, .int .i64 y1_1.ways, .int .i64 y1_1.out, .int .i64 y1_1.inn, .slice a1_1_00 (List.length y1_1.init) c1_1_00] 26 (0, 0))) :: Γ = ΔΔ) (by kernel_rfl) ?_ ?_
     ·rintro _ _ ⟨e3_12, e3_b2_1, H, rfl, rfl⟩
      rw [homeAloneS_j3] at H
      refine ar (id := 11) 3 ?_
      refine sp 66 (.int .i64 v1_13) ?_
      obtain ⟨hc11_1_0, H⟩ := chkE H
      refine sr 67 (.int .i64 (v1_13 + (1 : Int))) (run_eq (v := .int .i64 (IntKind.i64.wrap (v1_13 + (1 : Int)))) (fun _ => by kernel_rfl) (by rw [inR.wrap hc11_1_0])) ?_
      refine sp 13 (.int .i64 (v1_13 + (1 : Int))) ?_
      refine ops_end ?_
      refine ae [(1, .slice headsa (List.length heads) headscap), (2, .slice valuesa (List.length values) valuescap), (7, .pointer (some ⟨b1_2, 0, none⟩)), (8, .pointer (some ⟨b2_1, 0, none⟩)), (12, .int .i64 e3_12), (13, .int .i64 (v1_13 + (1 : Int)))] ?_
      refine at_round_normal ?_
      exact at_roundR fuel1 [(1, .slice headsa (List.length heads) headscap), (2, .slice valuesa (List.length values) valuescap), (7, .pointer (some ⟨b1_2, 0, none⟩)), (8, .pointer (some ⟨b2_1, 0, none⟩)), (12, .int .i64 e3_12), (13, .int .i64 (v1_13 + (1 : Int)))] ((HomeA b2_1 e3_b2_1) :: (ImmI a1_1_00 y1_1.init) :: (Asn.own b1_2 (.cells #[.int .i64 y1_1.nodes, .int .i64 y1_1.lines, .int .i64 y1_1.words, .int .i64 y1_1.sets, .int .i64 y1_1.ways, .int .i64 y1_1.out, .int .i64 y1_1.inn, .slice a1_1_00 (List.length y1_1.init) c1_1_00] 26 (0, 0))) :: Γ) (Nat.lt_succ_self _) ⟨by kernel_rfl, by kernel_rfl, by kernel_rfl, by kernel_rfl, by kernel_rfl, by kernel_rfl, trivial⟩ (fun w hw => (Sat.less (.take .here (.take .here (.take .here .refl))) hw)) ⟨fuel1, e3_12, v1_13 + (1 : Int), e3_b2_1, H, rfl, rfl, rfl⟩
     ·refine at_block (i := 1) (x := C5 [1,1,1,1,1,1,1,0,1,0,0,1,0,0]) (by kernel_rfl) ?_
      refine aq (x := C5 [1,1,1,1,1,1,1,0,1,0,0,1,0,0,0]) (y := C5 [1,1,1,1,1,1,1,0,1,0,0,1,0,0,1]) ?_
      refine at_region_draw (id := 12) (by kernel_rfl) (by kernel_rfl) ?_
      refine dp 0 68 (.slice headsa (List.length heads) headscap) ?_
      refine dp 1 69 (.int .i64 v1_13) ?_
      obtain ⟨hc12_2_0, H⟩ := chkE H
      refine reads_at_draw (Reads.conv (fun w hw => hw.less (.drop .here (.drop .here (.drop .here .refl)))) hrheadsa) (by have := hc12_2_0; omega) ?_
      intro bb1 oo1 ha1
      refine d_pure 2 70 (.pointer (some ⟨bb1, oo1 + ((v1_13).toNat * 1 + 0), none⟩)) (by kernel_rfl) (by kernel_rfl) (by kernel_rfl) (index_at (t := 22) (sz := 1) (E := 3) (a := headsa) (m := (List.length heads)) (c := headscap) (b := bb1) (off := oo1) (i := (v1_13).toNat) (tinfo 3) (fun _ => by kernel_rfl) (by kernel_rfl) (by kernel_rfl) (by kernel_rfl) ha1 (idx_cast hc12_2_0) (idx_nat hc12_2_0) rfl) ?_
      refine dl 3 71 (.int .i64 (nth heads v1_13)) (load1_at (off := oo1 + ((v1_13).toNat * 1 + 0)) (v := .int .i64 (nth heads v1_13)) (fun _ => by kernel_rfl) rfl (reads_cell (k := 1) (Reads.conv (fun w hw => hw.less (.drop .here (.drop .here (.drop .here .refl)))) hrheadsa) (ints_rows _) ha1 (nth_row hc12_2_0) (show [(.int .i64 (nth heads v1_13) : Value)][0]? = some _ from rfl))) ?_
      refine dp 4 72 (.pointer (some ⟨b1_2, 0, none⟩)) ?_
      refine dl 5 73 (.int .i64 y1_1.nodes) (load1 (off := 0) (fun _ => by kernel_rfl) (holds_own (.there (.there .here))) (by kernel_rfl)) ?_
      obtain ⟨y12_6, hy12_6, H⟩ := bindE H
      refine d_quiet 6 74 (.int .i64 y12_6) 9 #[.int .i64 (nth heads v1_13), .int .i64 y1_1.nodes] (by kernel_rfl) (by kernel_rfl) (by kernel_rfl) (fun _ => by kernel_rfl) (fun _ => (WithinF_tr (nth heads v1_13) y1_1.nodes y12_6 hy12_6)) ?_
      refine dp 7 14 (.int .i64 y12_6) ?_
      refine draw_end (by kernel_rfl) ?_
      refine ae [(1, .slice headsa (List.length heads) headscap), (2, .slice valuesa (List.length values) valuescap), (7, .pointer (some ⟨b1_2, 0, none⟩)), (8, .pointer (some ⟨b2_1, 0, none⟩)), (12, .int .i64 v1_12), (13, .int .i64 v1_13), (14, .int .i64 y12_6)] ?_
      refine at_then_normal ?_
      refine aq (x := C5 [1,1,1,1,1,1,1,0,1,0,0,1,0,0,1,0]) (y := C5 [1,1,1,1,1,1,1,0,1,0,0,1,0,0,1,1]) ?_
      refine aq (x := C5 [1,1,1,1,1,1,1,0,1,0,0,1,0,0,1,0,0]) (y := C5 [1,1,1,1,1,1,1,0,1,0,0,1,0,0,1,0,1]) ?_
      refine ar (id := 13) 13 ?_
      refine sp 76 (.pointer (some ⟨b2_1, 0, none⟩)) ?_
      refine sp 77 (.int .i64 y12_6) ?_
      refine sp 78 (.int .i64 v1_13) ?_
      refine sp 79 (.agg #[.int .i64 (1), .int .i64 y12_6, .int .i64 (0), .int .i64 v1_13, .int .i64 (0), .int .i64 (0), .int .i64 (0), .bool false, .slice none 0 0]) ?_
      obtain ⟨y13_4, hy13_4, H⟩ := bindE H
      refine s_call 80 10 #[.pointer (some ⟨b2_1, 0, none⟩), .agg #[.int .i64 (1), .int .i64 y12_6, .int .i64 (0), .int .i64 v1_13, .int .i64 (0), .int .i64 (0), .int .i64 (0), .bool false, .slice none 0 0]] (by kernel_rfl) (by kernel_rfl) (fun _ => by kernel_rfl) (HHandleF_tr b2_1 v1_b2_1 none 0 (⟨1, y12_6, 0, v1_13, 0, 0, 0, false, ([] : List Int)⟩ : PktS) Reads.nil y13_4 hy13_4) ?_
      rintro _ _ ⟨a13_4_00, c13_4_00, rfl, rfl⟩
      refine sp 75 (.tuple #[.agg #[.int .i64 y13_4.1.kind, .int .i64 y13_4.1.src, .int .i64 y13_4.1.dst, .int .i64 y13_4.1.id, .int .i64 y13_4.1.line, .int .i64 y13_4.1.ptr, .int .i64 y13_4.1.state, .bool y13_4.1.flag, .slice a13_4_00 (List.length y13_4.1.data) c13_4_00], .bool y13_4.2.1, .int .i64 y13_4.2.2.1]) ?_
      refine sp 81 (.agg #[.int .i64 y13_4.1.kind, .int .i64 y13_4.1.src, .int .i64 y13_4.1.dst, .int .i64 y13_4.1.id, .int .i64 y13_4.1.line, .int .i64 y13_4.1.ptr, .int .i64 y13_4.1.state, .bool y13_4.1.flag, .slice a13_4_00 (List.length y13_4.1.data) c13_4_00]) ?_
      refine sp 82 (.bool y13_4.2.1) ?_
      refine sp 83 (.int .i64 y13_4.2.2.1) ?_
      refine s_step 15 (by kernel_rfl) (by kernel_rfl) (st_new (T := 32) (cells := #[.int .i64 (0), .int .i64 (0), .int .i64 (0), .int .i64 (0), .int .i64 (0), .int .i64 (0), .int .i64 (0), .bool false, .slice none 0 0]) (fun a => .pointer (some a)) (fun _ => by kernel_rfl)) ?_
      rintro _ _ ⟨b13_9, rfl, rfl⟩
      refine s_do (by kernel_rfl) (by kernel_rfl) (st_store (off := 0) (vs := [.int .i64 y13_4.1.kind, .int .i64 y13_4.1.src, .int .i64 y13_4.1.dst, .int .i64 y13_4.1.id, .int .i64 y13_4.1.line, .int .i64 y13_4.1.ptr, .int .i64 y13_4.1.state, .bool y13_4.1.flag, .slice a13_4_00 (List.length y13_4.1.data) c13_4_00]) (c' := #[.int .i64 y13_4.1.kind, .int .i64 y13_4.1.src, .int .i64 y13_4.1.dst, .int .i64 y13_4.1.id, .int .i64 y13_4.1.line, .int .i64 y13_4.1.ptr, .int .i64 y13_4.1.state, .bool y13_4.1.flag, .slice a13_4_00 (List.length y13_4.1.data) c13_4_00]) (fun _ => by kernel_rfl) .here (by kernel_rfl) (by kernel_rfl) (by kernel_rfl)) ?_
      rintro _ _ ⟨rfl, rfl⟩
      refine sp 16 (.bool y13_4.2.1) ?_
      refine sp 17 (.int .i64 y13_4.2.2.1) ?_
      refine ops_end ?_
      refine ae [(1, .slice headsa (List.length heads) headscap), (2, .slice valuesa (List.length values) valuescap), (7, .pointer (some ⟨b1_2, 0, none⟩)), (8, .pointer (some ⟨b2_1, 0, none⟩)), (12, .int .i64 v1_12), (13, .int .i64 v1_13), (14, .int .i64 y12_6), (16, .bool y13_4.2.1), (17, .int .i64 y13_4.2.2.1)] ?_
      refine at_then_normal ?_
      refine at_seq_join (x := C5 [1,1,1,1,1,1,1,0,1,0,0,1,0,0,1,0,1,0]) (y := C5 [1,1,1,1,1,1,1,0,1,0,0,1,0,0,1,0,1,1]) (fun ff ΔΔ => ∃ (e4_92 : Bool), homeAloneS_j4 y1_1 v1_13 values y12_6 v1_12 y13_4 (homeAloneS_l1 heads y1_1 values (homeAloneS_k1 ) fuel1) e4_92 = some y ∧ ff = [(1, .slice headsa (List.length heads) headscap), (2, .slice valuesa (List.length values) valuescap), (7, .pointer (some ⟨b1_2, 0, none⟩)), (8, .pointer (some ⟨b2_1, 0, none⟩)), (12, .int .i64 v1_12), (13, .int .i64 v1_13), (14, .int .i64 y12_6), (92, .bool e4_92)] ∧ (HomeA b2_1 y13_4.2.2.2) :: (ImmI a1_1_00 y1_1.init) :: (Asn.own b1_2 (.cells #[.int .i64 y1_1.nodes, .int .i64 y1_1.lines, .int .i64 y1_1.words, .int .i64 y1_1.sets, .int .i64 y1_1.ways, .int .i64 y1_1.out, .int .i64 y1_1.inn, .slice a1_1_00 (List.length y1_1.init) c1_1_00] 26 (0, 0))) :: Γ = ΔΔ) (by kernel_rfl) ?_ ?_
      ·rintro _ _ ⟨e4_92, H, rfl, rfl⟩
       rw [homeAloneS_j4] at H
       rcases Bool.eq_false_or_eq_true (e4_92) with h3 | h3
       ·replace H := bifT H h3
        refine at_true (t := e4_92) (x := C5 [1,1,1,1,1,1,1,0,1,0,0,1,0,0,1,0,1,1,0]) (y := C5 [1,1,1,1,1,1,1,0,1,0,0,1,0,0,1,0,1,1,1]) (o := .tmp 92) (by kernel_rfl) (by kernel_rfl) (by kernel_rfl) h3 ?_
        refine aq (x := C5 [1,1,1,1,1,1,1,0,1,0,0,1,0,0,1,0,1,1,0,0]) (y := C5 [1,1,1,1,1,1,1,0,1,0,0,1,0,0,1,0,1,1,0,1]) ?_
        refine ar (id := 15) 1 ?_
        refine sp 6 (.bool false) ?_
        refine ops_end ?_
        refine ae [(6, .bool false)] ?_
        refine at_then_normal ?_
        refine at_ret (by kernel_rfl) ?_
        refine at_then_ret ?_
        refine at_in_ret ?_
        refine at_then_ret ?_
        refine at_then_ret ?_
        refine at_in_ret ?_
        refine at_then_ret ?_
        obtain rfl := someE H
        refine at_backR [.bool false] (Γ) (rs := [.tmp 6]) (by kernel_rfl) (.cons (.tmp (by kernel_rfl)) .nil) (fun w hw => (Sat.less (.drop .here (.drop .here (.drop .here .refl))) hw)) ?_
        exact ⟨rfl, rfl⟩
       ·replace H := bifF H h3
        refine at_false (t := e4_92) (x := C5 [1,1,1,1,1,1,1,0,1,0,0,1,0,0,1,0,1,1,0]) (y := C5 [1,1,1,1,1,1,1,0,1,0,0,1,0,0,1,0,1,1,1]) (o := .tmp 92) (by kernel_rfl) (by kernel_rfl) (by kernel_rfl) h3 ?_
        refine at_skip (by kernel_rfl) ?_
        refine at_then_normal ?_
        refine aq (x := C5 [1,1,1,1,1,1,1,0,1,0,0,1,0,0,1,1,0]) (y := C5 [1,1,1,1,1,1,1,0,1,0,0,1,0,0,1,1,1]) ?_
        refine ar (id := 16) 4 ?_
        refine sp 93 (.pointer (some ⟨b1_2, 2, none⟩)) ?_
        refine sl 94 (.int .i64 y1_1.words) (load1 (off := 2) (fun _ => by kernel_rfl) (holds_own (.there (.there .here))) (by kernel_rfl)) ?_
        obtain ⟨hc16_2_0, H⟩ := chkE H
        obtain ⟨l16_2, hl16_2, H⟩ := letE H
        refine s_step 95 (by kernel_rfl) (by kernel_rfl) (st_make_ints (t := 22) (E := 3) (c := y1_1.words) (tinfo 3) (fun _ => by kernel_rfl) (by kernel_rfl) (by kernel_rfl) (by kernel_rfl) (by kernel_rfl) (by kernel_rfl) hc16_2_0 hl16_2) ?_
        rintro _ _ ⟨b16_2, rfl, rfl⟩
        refine sp 18 (.slice (some ⟨b16_2, 0, none⟩) (List.length l16_2) ((y1_1.words).toNat)) ?_
        refine ops_end ?_
        refine ae [(1, .slice headsa (List.length heads) headscap), (2, .slice valuesa (List.length values) valuescap), (7, .pointer (some ⟨b1_2, 0, none⟩)), (8, .pointer (some ⟨b2_1, 0, none⟩)), (12, .int .i64 v1_12), (13, .int .i64 v1_13), (14, .int .i64 y12_6), (18, .slice (some ⟨b16_2, 0, none⟩) (List.length l16_2) ((y1_1.words).toNat))] ?_
        refine at_then_normal ?_
        refine at_seq_join (x := C5 [1,1,1,1,1,1,1,0,1,0,0,1,0,0,1,1,1,0]) (y := C5 [1,1,1,1,1,1,1,0,1,0,0,1,0,0,1,1,1,1]) (fun ff ΔΔ => ∃ (e5_18x : List Int) (e5_18a : Option Addr) (e5_18c : Nat), homeAloneS_j5 y12_6 v1_12 y13_4 v1_13 (homeAloneS_l1 heads y1_1 values (homeAloneS_k1 ) fuel1) e5_18x = some y ∧ ff = [(1, .slice headsa (List.length heads) headscap), (2, .slice valuesa (List.length values) valuescap), (7, .pointer (some ⟨b1_2, 0, none⟩)), (8, .pointer (some ⟨b2_1, 0, none⟩)), (12, .int .i64 v1_12), (13, .int .i64 v1_13), (14, .int .i64 y12_6), (18, .slice e5_18a (List.length e5_18x) e5_18c)] ∧ (IntsA e5_18a e5_18c e5_18x) :: (HomeA b2_1 y13_4.2.2.2) :: (ImmI a1_1_00 y1_1.init) :: (Asn.own b1_2 (.cells #[.int .i64 y1_1.nodes, .int .i64 y1_1.lines, .int .i64 y1_1.words, .int .i64 y1_1.sets, .int .i64 y1_1.ways, .int .i64 y1_1.out, .int .i64 y1_1.inn, .slice a1_1_00 (List.length y1_1.init) c1_1_00] 26 (0, 0))) :: Γ = ΔΔ) (by kernel_rfl) ?_ ?_
        ·rintro _ _ ⟨e5_18x, e5_18a, e5_18c, H, rfl, rfl⟩
         rw [homeAloneS_j5] at H
         refine at_seq_join (x := C5 [1,1,1,1,1,1,1,0,1,0,0,1,0,0,1,1,1,1,0]) (y := C5 [1,1,1,1,1,1,1,0,1,0,0,1,0,0,1,1,1,1,1]) (fun ff ΔΔ => ∃ (e6_b2_1 : HomeS), homeAloneS_j6 v1_12 y12_6 e5_18x v1_13 (homeAloneS_l1 heads y1_1 values (homeAloneS_k1 ) fuel1) e6_b2_1 = some y ∧ ff = [(1, .slice headsa (List.length heads) headscap), (2, .slice valuesa (List.length values) valuescap), (7, .pointer (some ⟨b1_2, 0, none⟩)), (8, .pointer (some ⟨b2_1, 0, none⟩)), (12, .int .i64 v1_12), (13, .int .i64 v1_13), (14, .int .i64 y12_6), (18, .slice e5_18a (List.length e5_18x) e5_18c)] ∧ (IntsA e5_18a e5_18c e5_18x) :: (HomeA b2_1 e6_b2_1) :: (ImmI a1_1_00 y1_1.init) :: (Asn.own b1_2 (.cells #[.int .i64 y1_1.nodes, .int .i64 y1_1.lines, .int .i64 y1_1.words, .int .i64 y1_1.sets, .int .i64 y1_1.ways, .int .i64 y1_1.out, .int .i64 y1_1.inn, .slice a1_1_00 (List.length y1_1.init) c1_1_00] 26 (0, 0))) :: Γ = ΔΔ) (by kernel_rfl) ?_ ?_
         ·rintro _ _ ⟨e6_b2_1, H, rfl, rfl⟩
          rw [homeAloneS_j6] at H
          refine aq (x := C5 [1,1,1,1,1,1,1,0,1,0,0,1,0,0,1,1,1,1,1,0]) (y := C5 [1,1,1,1,1,1,1,0,1,0,0,1,0,0,1,1,1,1,1,1]) ?_
          refine aq (x := C5 [1,1,1,1,1,1,1,0,1,0,0,1,0,0,1,1,1,1,1,0,0]) (y := C5 [1,1,1,1,1,1,1,0,1,0,0,1,0,0,1,1,1,1,1,0,1]) ?_
          refine ar (id := 23) 14 ?_
          refine sp 123 (.pointer (some ⟨b2_1, 0, none⟩)) ?_
          refine sp 124 (.int .i64 v1_12) ?_
          refine sp 125 (.int .i64 y12_6) ?_
          refine sp 126 (.slice e5_18a (List.length e5_18x) e5_18c) ?_
          refine sp 127 (.agg #[.int .i64 (2), .int .i64 v1_12, .int .i64 (0), .int .i64 (0), .int .i64 (0), .int .i64 y12_6, .int .i64 (1), .bool true, .slice e5_18a (List.length e5_18x) e5_18c]) ?_
          obtain ⟨y23_5, hy23_5, H⟩ := bindE H
          refine s_call 128 10 #[.pointer (some ⟨b2_1, 0, none⟩), .agg #[.int .i64 (2), .int .i64 v1_12, .int .i64 (0), .int .i64 (0), .int .i64 (0), .int .i64 y12_6, .int .i64 (1), .bool true, .slice e5_18a (List.length e5_18x) e5_18c]] (by kernel_rfl) (by kernel_rfl) (fun _ => by kernel_rfl) (Tr.conv (Γ' := (HomeA b2_1 e6_b2_1) :: (IntsA e5_18a e5_18c e5_18x) :: (ImmI a1_1_00 y1_1.init) :: (Asn.own b1_2 (.cells #[.int .i64 y1_1.nodes, .int .i64 y1_1.lines, .int .i64 y1_1.words, .int .i64 y1_1.sets, .int .i64 y1_1.ways, .int .i64 y1_1.out, .int .i64 y1_1.inn, .slice a1_1_00 (List.length y1_1.init) c1_1_00] 26 (0, 0))) :: Γ) (fun w hw => (Sat.less (.take (.there .here) (.take .here (.take .here (.take .here .refl)))) hw)) (HHandleF_tr b2_1 e6_b2_1 e5_18a e5_18c (⟨2, v1_12, 0, 0, 0, y12_6, 1, true, e5_18x⟩ : PktS) (RowsA.reads (k := 1) .here) y23_5 hy23_5)) ?_
          rintro _ _ ⟨a23_5_00, c23_5_00, rfl, rfl⟩
          refine sp 122 (.tuple #[.agg #[.int .i64 y23_5.1.kind, .int .i64 y23_5.1.src, .int .i64 y23_5.1.dst, .int .i64 y23_5.1.id, .int .i64 y23_5.1.line, .int .i64 y23_5.1.ptr, .int .i64 y23_5.1.state, .bool y23_5.1.flag, .slice a23_5_00 (List.length y23_5.1.data) c23_5_00], .bool y23_5.2.1, .int .i64 y23_5.2.2.1]) ?_
          refine sp 129 (.agg #[.int .i64 y23_5.1.kind, .int .i64 y23_5.1.src, .int .i64 y23_5.1.dst, .int .i64 y23_5.1.id, .int .i64 y23_5.1.line, .int .i64 y23_5.1.ptr, .int .i64 y23_5.1.state, .bool y23_5.1.flag, .slice a23_5_00 (List.length y23_5.1.data) c23_5_00]) ?_
          refine sp 130 (.bool y23_5.2.1) ?_
          refine sp 131 (.int .i64 y23_5.2.2.1) ?_
          refine s_step 22 (by kernel_rfl) (by kernel_rfl) (st_new (T := 32) (cells := #[.int .i64 (0), .int .i64 (0), .int .i64 (0), .int .i64 (0), .int .i64 (0), .int .i64 (0), .int .i64 (0), .bool false, .slice none 0 0]) (fun a => .pointer (some a)) (fun _ => by kernel_rfl)) ?_
          rintro _ _ ⟨b23_10, rfl, rfl⟩
          refine s_do (by kernel_rfl) (by kernel_rfl) (st_store (off := 0) (vs := [.int .i64 y23_5.1.kind, .int .i64 y23_5.1.src, .int .i64 y23_5.1.dst, .int .i64 y23_5.1.id, .int .i64 y23_5.1.line, .int .i64 y23_5.1.ptr, .int .i64 y23_5.1.state, .bool y23_5.1.flag, .slice a23_5_00 (List.length y23_5.1.data) c23_5_00]) (c' := #[.int .i64 y23_5.1.kind, .int .i64 y23_5.1.src, .int .i64 y23_5.1.dst, .int .i64 y23_5.1.id, .int .i64 y23_5.1.line, .int .i64 y23_5.1.ptr, .int .i64 y23_5.1.state, .bool y23_5.1.flag, .slice a23_5_00 (List.length y23_5.1.data) c23_5_00]) (fun _ => by kernel_rfl) .here (by kernel_rfl) (by kernel_rfl) (by kernel_rfl)) ?_
          rintro _ _ ⟨rfl, rfl⟩
          refine sp 23 (.bool y23_5.2.1) ?_
          refine sp 24 (.int .i64 y23_5.2.2.1) ?_
          refine ops_end ?_
          refine ae [(1, .slice headsa (List.length heads) headscap), (2, .slice valuesa (List.length values) valuescap), (7, .pointer (some ⟨b1_2, 0, none⟩)), (8, .pointer (some ⟨b2_1, 0, none⟩)), (13, .int .i64 v1_13), (14, .int .i64 y12_6), (18, .slice e5_18a (List.length e5_18x) e5_18c), (23, .bool y23_5.2.1), (24, .int .i64 y23_5.2.2.1)] ?_
          refine at_then_normal ?_
          refine at_seq_join (x := C5 [1,1,1,1,1,1,1,0,1,0,0,1,0,0,1,1,1,1,1,0,1,0]) (y := C5 [1,1,1,1,1,1,1,0,1,0,0,1,0,0,1,1,1,1,1,0,1,1]) (fun ff ΔΔ => ∃ (e7_150 : Bool), homeAloneS_j7 y23_5 v1_13 (homeAloneS_l1 heads y1_1 values (homeAloneS_k1 ) fuel1) y12_6 e5_18x e7_150 = some y ∧ ff = [(1, .slice headsa (List.length heads) headscap), (2, .slice valuesa (List.length values) valuescap), (7, .pointer (some ⟨b1_2, 0, none⟩)), (8, .pointer (some ⟨b2_1, 0, none⟩)), (13, .int .i64 v1_13), (14, .int .i64 y12_6), (18, .slice e5_18a (List.length e5_18x) e5_18c), (150, .bool e7_150)] ∧ (HomeA b2_1 y23_5.2.2.2) :: (IntsA e5_18a e5_18c e5_18x) :: (ImmI a1_1_00 y1_1.init) :: (Asn.own b1_2 (.cells #[.int .i64 y1_1.nodes, .int .i64 y1_1.lines, .int .i64 y1_1.words, .int .i64 y1_1.sets, .int .i64 y1_1.ways, .int .i64 y1_1.out, .int .i64 y1_1.inn, .slice a1_1_00 (List.length y1_1.init) c1_1_00] 26 (0, 0))) :: Γ = ΔΔ) (by kernel_rfl) ?_ ?_
          ·rintro _ _ ⟨e7_150, H, rfl, rfl⟩
           rw [homeAloneS_j7] at H
           rcases Bool.eq_false_or_eq_true (e7_150) with h4 | h4
           ·replace H := bifT H h4
            refine at_true (t := e7_150) (x := C5 [1,1,1,1,1,1,1,0,1,0,0,1,0,0,1,1,1,1,1,0,1,1,0]) (y := C5 [1,1,1,1,1,1,1,0,1,0,0,1,0,0,1,1,1,1,1,0,1,1,1]) (o := .tmp 150) (by kernel_rfl) (by kernel_rfl) (by kernel_rfl) h4 ?_
            refine aq (x := C5 [1,1,1,1,1,1,1,0,1,0,0,1,0,0,1,1,1,1,1,0,1,1,0,0]) (y := C5 [1,1,1,1,1,1,1,0,1,0,0,1,0,0,1,1,1,1,1,0,1,1,0,1]) ?_
            refine ar (id := 25) 1 ?_
            refine sp 6 (.bool false) ?_
            refine ops_end ?_
            refine ae [(6, .bool false)] ?_
            refine at_then_normal ?_
            refine at_ret (by kernel_rfl) ?_
            refine at_then_ret ?_
            refine at_in_ret ?_
            refine at_then_ret ?_
            refine at_then_ret ?_
            refine at_in_ret ?_
            refine at_then_ret ?_
            obtain rfl := someE H
            refine at_backR [.bool false] (Γ) (rs := [.tmp 6]) (by kernel_rfl) (.cons (.tmp (by kernel_rfl)) .nil) (fun w hw => (Sat.less (.drop .here (.drop .here (.drop .here (.drop .here .refl)))) hw)) ?_
            exact ⟨rfl, rfl⟩
           ·replace H := bifF H h4
            refine at_false (t := e7_150) (x := C5 [1,1,1,1,1,1,1,0,1,0,0,1,0,0,1,1,1,1,1,0,1,1,0]) (y := C5 [1,1,1,1,1,1,1,0,1,0,0,1,0,0,1,1,1,1,1,0,1,1,1]) (o := .tmp 150) (by kernel_rfl) (by kernel_rfl) (by kernel_rfl) h4 ?_
            refine at_skip (by kernel_rfl) ?_
            refine at_then_normal ?_
            refine aq (x := C5 [1,1,1,1,1,1,1,0,1,0,0,1,0,0,1,1,1,1,1,1,0]) (y := C5 [1,1,1,1,1,1,1,0,1,0,0,1,0,0,1,1,1,1,1,1,1]) ?_
            refine ar (id := 26) 8 ?_
            refine sp 152 (.pointer (some ⟨b2_1, 0, none⟩)) ?_
            obtain ⟨y26_1, hy26_1, H⟩ := bindE H
            refine s_call 153 16 #[.pointer (some ⟨b2_1, 0, none⟩)] (by kernel_rfl) (by kernel_rfl) (fun _ => by kernel_rfl) (HGrantF_tr b2_1 y23_5.2.2.2 y26_1 hy26_1) ?_
            rintro _ _ ⟨a26_1_00, c26_1_00, rfl, rfl⟩
            refine sp 151 (.tuple #[.agg #[.int .i64 y26_1.1.kind, .int .i64 y26_1.1.src, .int .i64 y26_1.1.dst, .int .i64 y26_1.1.id, .int .i64 y26_1.1.line, .int .i64 y26_1.1.ptr, .int .i64 y26_1.1.state, .bool y26_1.1.flag, .slice a26_1_00 (List.length y26_1.1.data) c26_1_00], .bool y26_1.2.1]) ?_
            refine sp 154 (.agg #[.int .i64 y26_1.1.kind, .int .i64 y26_1.1.src, .int .i64 y26_1.1.dst, .int .i64 y26_1.1.id, .int .i64 y26_1.1.line, .int .i64 y26_1.1.ptr, .int .i64 y26_1.1.state, .bool y26_1.1.flag, .slice a26_1_00 (List.length y26_1.1.data) c26_1_00]) ?_
            refine sp 155 (.bool y26_1.2.1) ?_
            refine s_step 25 (by kernel_rfl) (by kernel_rfl) (st_new (T := 32) (cells := #[.int .i64 (0), .int .i64 (0), .int .i64 (0), .int .i64 (0), .int .i64 (0), .int .i64 (0), .int .i64 (0), .bool false, .slice none 0 0]) (fun a => .pointer (some a)) (fun _ => by kernel_rfl)) ?_
            rintro _ _ ⟨b26_5, rfl, rfl⟩
            refine s_do (by kernel_rfl) (by kernel_rfl) (st_store (off := 0) (vs := [.int .i64 y26_1.1.kind, .int .i64 y26_1.1.src, .int .i64 y26_1.1.dst, .int .i64 y26_1.1.id, .int .i64 y26_1.1.line, .int .i64 y26_1.1.ptr, .int .i64 y26_1.1.state, .bool y26_1.1.flag, .slice a26_1_00 (List.length y26_1.1.data) c26_1_00]) (c' := #[.int .i64 y26_1.1.kind, .int .i64 y26_1.1.src, .int .i64 y26_1.1.dst, .int .i64 y26_1.1.id, .int .i64 y26_1.1.line, .int .i64 y26_1.1.ptr, .int .i64 y26_1.1.state, .bool y26_1.1.flag, .slice a26_1_00 (List.length y26_1.1.data) c26_1_00]) (fun _ => by kernel_rfl) .here (by kernel_rfl) (by kernel_rfl) (by kernel_rfl)) ?_
            rintro _ _ ⟨rfl, rfl⟩
            refine sp 26 (.bool y26_1.2.1) ?_
            refine ops_end ?_
            refine ae [(1, .slice headsa (List.length heads) headscap), (2, .slice valuesa (List.length values) valuescap), (7, .pointer (some ⟨b1_2, 0, none⟩)), (8, .pointer (some ⟨b2_1, 0, none⟩)), (13, .int .i64 v1_13), (14, .int .i64 y12_6), (18, .slice e5_18a (List.length e5_18x) e5_18c), (25, .pointer (some ⟨b26_5, 0, none⟩)), (26, .bool y26_1.2.1)] ?_
            refine at_then_normal ?_
            refine aq (x := C5 [1,1,1,1,1,1,1,0,1,0,0,1,0,0,1,1,1,1,1,1,1,0]) (y := C5 [1,1,1,1,1,1,1,0,1,0,0,1,0,0,1,1,1,1,1,1,1,1]) ?_
            refine at_seq_join (x := C5 [1,1,1,1,1,1,1,0,1,0,0,1,0,0,1,1,1,1,1,1,1,0,0]) (y := C5 [1,1,1,1,1,1,1,0,1,0,0,1,0,0,1,1,1,1,1,1,1,0,1]) (fun ff ΔΔ => ∃ (e8_200 : Bool), homeAloneS_j8 v1_13 (homeAloneS_l1 heads y1_1 values (homeAloneS_k1 ) fuel1) y12_6 y26_1 e8_200 = some y ∧ ff = [(1, .slice headsa (List.length heads) headscap), (2, .slice valuesa (List.length values) valuescap), (7, .pointer (some ⟨b1_2, 0, none⟩)), (8, .pointer (some ⟨b2_1, 0, none⟩)), (13, .int .i64 v1_13), (14, .int .i64 y12_6), (200, .bool e8_200)] ∧ (HomeA b2_1 y26_1.2.2) :: (ImmI a1_1_00 y1_1.init) :: (Asn.own b1_2 (.cells #[.int .i64 y1_1.nodes, .int .i64 y1_1.lines, .int .i64 y1_1.words, .int .i64 y1_1.sets, .int .i64 y1_1.ways, .int .i64 y1_1.out, .int .i64 y1_1.inn, .slice a1_1_00 (List.length y1_1.init) c1_1_00] 26 (0, 0))) :: Γ = ΔΔ) (by kernel_rfl) ?_ ?_
            ·rintro _ _ ⟨e8_200, H, rfl, rfl⟩
             rw [homeAloneS_j8] at H
             rcases Bool.eq_false_or_eq_true (e8_200) with h5 | h5
             ·replace H := bifT H h5
              refine at_true (t := e8_200) (x := C5 [1,1,1,1,1,1,1,0,1,0,0,1,0,0,1,1,1,1,1,1,1,0,1,0]) (y := C5 [1,1,1,1,1,1,1,0,1,0,0,1,0,0,1,1,1,1,1,1,1,0,1,1]) (o := .tmp 200) (by kernel_rfl) (by kernel_rfl) (by kernel_rfl) h5 ?_
              refine aq (x := C5 [1,1,1,1,1,1,1,0,1,0,0,1,0,0,1,1,1,1,1,1,1,0,1,0,0]) (y := C5 [1,1,1,1,1,1,1,0,1,0,0,1,0,0,1,1,1,1,1,1,1,0,1,0,1]) ?_
              refine ar (id := 28) 1 ?_
              refine sp 6 (.bool false) ?_
              refine ops_end ?_
              refine ae [(6, .bool false)] ?_
              refine at_then_normal ?_
              refine at_ret (by kernel_rfl) ?_
              refine at_then_ret ?_
              refine at_in_ret ?_
              refine at_then_ret ?_
              refine at_then_ret ?_
              refine at_in_ret ?_
              refine at_then_ret ?_
              obtain rfl := someE H
              refine at_backR [.bool false] (Γ) (rs := [.tmp 6]) (by kernel_rfl) (.cons (.tmp (by kernel_rfl)) .nil) (fun w hw => (Sat.less (.drop .here (.drop .here (.drop .here .refl))) hw)) ?_
              exact ⟨rfl, rfl⟩
             ·replace H := bifF H h5
              refine at_false (t := e8_200) (x := C5 [1,1,1,1,1,1,1,0,1,0,0,1,0,0,1,1,1,1,1,1,1,0,1,0]) (y := C5 [1,1,1,1,1,1,1,0,1,0,0,1,0,0,1,1,1,1,1,1,1,0,1,1]) (o := .tmp 200) (by kernel_rfl) (by kernel_rfl) (by kernel_rfl) h5 ?_
              refine at_skip (by kernel_rfl) ?_
              refine at_then_normal ?_
              refine ar (id := 29) 2 ?_
              refine sp 201 (.int .i64 y12_6) ?_
              refine sp 12 (.int .i64 y12_6) ?_
              refine ops_end ?_
              refine ae [(1, .slice headsa (List.length heads) headscap), (2, .slice valuesa (List.length values) valuescap), (7, .pointer (some ⟨b1_2, 0, none⟩)), (8, .pointer (some ⟨b2_1, 0, none⟩)), (12, .int .i64 y12_6), (13, .int .i64 v1_13)] ?_
              refine at_in_normal ?_
              refine at_round_normal ?_
              exact at_join_mk [(1, .slice headsa (List.length heads) headscap), (2, .slice valuesa (List.length values) valuescap), (7, .pointer (some ⟨b1_2, 0, none⟩)), (8, .pointer (some ⟨b2_1, 0, none⟩)), (12, .int .i64 y12_6), (13, .int .i64 v1_13)] ((HomeA b2_1 y26_1.2.2) :: (ImmI a1_1_00 y1_1.init) :: (Asn.own b1_2 (.cells #[.int .i64 y1_1.nodes, .int .i64 y1_1.lines, .int .i64 y1_1.words, .int .i64 y1_1.sets, .int .i64 y1_1.ways, .int .i64 y1_1.out, .int .i64 y1_1.inn, .slice a1_1_00 (List.length y1_1.init) c1_1_00] 26 (0, 0))) :: Γ) ⟨by kernel_rfl, by kernel_rfl, by kernel_rfl, by kernel_rfl, by kernel_rfl, by kernel_rfl, trivial⟩ (fun w hw => (Sat.less (.take .here (.take .here (.take .here .refl))) hw)) ⟨y12_6, y26_1.2.2, H, rfl, rfl⟩
            ·refine ar (id := 27) 45 ?_
             refine sp 156 (.bool y26_1.2.1) ?_
             refine sp 157 (.bool !y26_1.2.1) ?_
             rcases Bool.eq_false_or_eq_true (!y26_1.2.1) with h6 | h6
             ·replace H := bifT H h6
              refine sr 158 (.bool true) (run_eq (v := .bool (!y26_1.2.1)) (fun _ => by kernel_rfl) (congrArg Value.bool h6)) ?_
              refine sa 159 ?_
              refine sa 160 ?_
              refine sa 161 ?_
              refine sa 162 ?_
              refine sp 163 (.bool true) ?_
              refine sp 164 (.bool true) ?_
              refine sa 165 ?_
              refine sa 166 ?_
              refine sa 167 ?_
              refine sa 168 ?_
              refine sp 169 (.bool true) ?_
              refine sp 170 (.bool true) ?_
              refine sa 171 ?_
              refine sa 172 ?_
              refine sa 173 ?_
              refine sa 174 ?_
              refine sp 175 (.bool true) ?_
              refine sp 176 (.bool true) ?_
              refine sa 177 ?_
              refine sa 178 ?_
              refine sa 179 ?_
              refine sp 180 (.bool true) ?_
              refine sp 181 (.bool true) ?_
              refine sa 182 ?_
              refine sa 183 ?_
              refine sa 184 ?_
              refine sa 185 ?_
              refine sa 186 ?_
              refine sp 187 (.bool true) ?_
              refine sp 188 (.bool true) ?_
              refine sa 189 ?_
              refine sa 190 ?_
              refine sa 191 ?_
              refine sa 192 ?_
              refine sa 193 ?_
              refine sa 194 ?_
              refine sa 195 ?_
              refine sp 196 (.bool true) ?_
              refine sp 197 (.bool true) ?_
              refine sa 198 ?_
              refine sa 199 ?_
              refine sp 200 (.bool true) ?_
              refine ops_end ?_
              refine ae [(1, .slice headsa (List.length heads) headscap), (2, .slice valuesa (List.length values) valuescap), (7, .pointer (some ⟨b1_2, 0, none⟩)), (8, .pointer (some ⟨b2_1, 0, none⟩)), (13, .int .i64 v1_13), (14, .int .i64 y12_6), (200, .bool true)] ?_
              refine at_round_normal ?_
              exact at_join_mk [(1, .slice headsa (List.length heads) headscap), (2, .slice valuesa (List.length values) valuescap), (7, .pointer (some ⟨b1_2, 0, none⟩)), (8, .pointer (some ⟨b2_1, 0, none⟩)), (13, .int .i64 v1_13), (14, .int .i64 y12_6), (200, .bool true)] ((HomeA b2_1 y26_1.2.2) :: (ImmI a1_1_00 y1_1.init) :: (Asn.own b1_2 (.cells #[.int .i64 y1_1.nodes, .int .i64 y1_1.lines, .int .i64 y1_1.words, .int .i64 y1_1.sets, .int .i64 y1_1.ways, .int .i64 y1_1.out, .int .i64 y1_1.inn, .slice a1_1_00 (List.length y1_1.init) c1_1_00] 26 (0, 0))) :: Γ) ⟨by kernel_rfl, by kernel_rfl, by kernel_rfl, by kernel_rfl, by kernel_rfl, by kernel_rfl, by kernel_rfl, trivial⟩ (fun w hw => (Sat.less (.take (.there (.there .here)) (.take (.there (.there (.there .here))) (.take (.there (.there (.there .here))) (.drop .here (.drop .here (.drop .here .refl)))))) hw)) ⟨true, H, rfl, rfl⟩
             ·replace H := bifF H h6
              refine sr 158 (.bool false) (run_eq (v := .bool (!y26_1.2.1)) (fun _ => by kernel_rfl) (congrArg Value.bool h6)) ?_
              refine sp 159 (.pointer (some ⟨b26_5, 2, none⟩)) ?_
              refine sl 160 (.int .i64 y26_1.1.dst) (load1 (off := 2) (fun _ => by kernel_rfl) (holds_own .here) (by kernel_rfl)) ?_
              refine sp 161 (.int .i64 y12_6) ?_
              refine sp 162 (.bool (!(decide (y26_1.1.dst = y12_6)))) ?_
              refine sp 163 (.bool (!(decide (y26_1.1.dst = y12_6)))) ?_
              rcases Bool.eq_false_or_eq_true (!(decide (y26_1.1.dst = y12_6))) with h7 | h7
              ·replace H := bifT H h7
               refine sr 164 (.bool true) (run_eq (v := .bool (!(decide (y26_1.1.dst = y12_6)))) (fun _ => by kernel_rfl) (congrArg Value.bool h7)) ?_
               refine sa 165 ?_
               refine sa 166 ?_
               refine sa 167 ?_
               refine sa 168 ?_
               refine sp 169 (.bool true) ?_
               refine sp 170 (.bool true) ?_
               refine sa 171 ?_
               refine sa 172 ?_
               refine sa 173 ?_
               refine sa 174 ?_
               refine sp 175 (.bool true) ?_
               refine sp 176 (.bool true) ?_
               refine sa 177 ?_
               refine sa 178 ?_
               refine sa 179 ?_
               refine sp 180 (.bool true) ?_
               refine sp 181 (.bool true) ?_
               refine sa 182 ?_
               refine sa 183 ?_
               refine sa 184 ?_
               refine sa 185 ?_
               refine sa 186 ?_
               refine sp 187 (.bool true) ?_
               refine sp 188 (.bool true) ?_
               refine sa 189 ?_
               refine sa 190 ?_
               refine sa 191 ?_
               refine sa 192 ?_
               refine sa 193 ?_
               refine sa 194 ?_
               refine sa 195 ?_
               refine sp 196 (.bool true) ?_
               refine sp 197 (.bool true) ?_
               refine sa 198 ?_
               refine sa 199 ?_
               refine sp 200 (.bool true) ?_
               refine ops_end ?_
               refine ae [(1, .slice headsa (List.length heads) headscap), (2, .slice valuesa (List.length values) valuescap), (7, .pointer (some ⟨b1_2, 0, none⟩)), (8, .pointer (some ⟨b2_1, 0, none⟩)), (13, .int .i64 v1_13), (14, .int .i64 y12_6), (200, .bool true)] ?_
               refine at_round_normal ?_
               exact at_join_mk [(1, .slice headsa (List.length heads) headscap), (2, .slice valuesa (List.length values) valuescap), (7, .pointer (some ⟨b1_2, 0, none⟩)), (8, .pointer (some ⟨b2_1, 0, none⟩)), (13, .int .i64 v1_13), (14, .int .i64 y12_6), (200, .bool true)] ((HomeA b2_1 y26_1.2.2) :: (ImmI a1_1_00 y1_1.init) :: (Asn.own b1_2 (.cells #[.int .i64 y1_1.nodes, .int .i64 y1_1.lines, .int .i64 y1_1.words, .int .i64 y1_1.sets, .int .i64 y1_1.ways, .int .i64 y1_1.out, .int .i64 y1_1.inn, .slice a1_1_00 (List.length y1_1.init) c1_1_00] 26 (0, 0))) :: Γ) ⟨by kernel_rfl, by kernel_rfl, by kernel_rfl, by kernel_rfl, by kernel_rfl, by kernel_rfl, by kernel_rfl, trivial⟩ (fun w hw => (Sat.less (.take (.there (.there .here)) (.take (.there (.there (.there .here))) (.take (.there (.there (.there .here))) (.drop .here (.drop .here (.drop .here .refl)))))) hw)) ⟨true, H, rfl, rfl⟩
              ·replace H := bifF H h7
               refine sr 164 (.bool false) (run_eq (v := .bool (!(decide (y26_1.1.dst = y12_6)))) (fun _ => by kernel_rfl) (congrArg Value.bool h7)) ?_
               refine sp 165 (.pointer (some ⟨b26_5, 3, none⟩)) ?_
               refine sl 166 (.int .i64 y26_1.1.id) (load1 (off := 3) (fun _ => by kernel_rfl) (holds_own .here) (by kernel_rfl)) ?_
               refine sp 167 (.int .i64 v1_13) ?_
               refine sp 168 (.bool (!(decide (y26_1.1.id = v1_13)))) ?_
               refine sp 169 (.bool (!(decide (y26_1.1.id = v1_13)))) ?_
               rcases Bool.eq_false_or_eq_true (!(decide (y26_1.1.id = v1_13))) with h8 | h8
               ·replace H := bifT H h8
                refine sr 170 (.bool true) (run_eq (v := .bool (!(decide (y26_1.1.id = v1_13)))) (fun _ => by kernel_rfl) (congrArg Value.bool h8)) ?_
                refine sa 171 ?_
                refine sa 172 ?_
                refine sa 173 ?_
                refine sa 174 ?_
                refine sp 175 (.bool true) ?_
                refine sp 176 (.bool true) ?_
                refine sa 177 ?_
                refine sa 178 ?_
                refine sa 179 ?_
                refine sp 180 (.bool true) ?_
                refine sp 181 (.bool true) ?_
                refine sa 182 ?_
                refine sa 183 ?_
                refine sa 184 ?_
                refine sa 185 ?_
                refine sa 186 ?_
                refine sp 187 (.bool true) ?_
                refine sp 188 (.bool true) ?_
                refine sa 189 ?_
                refine sa 190 ?_
                refine sa 191 ?_
                refine sa 192 ?_
                refine sa 193 ?_
                refine sa 194 ?_
                refine sa 195 ?_
                refine sp 196 (.bool true) ?_
                refine sp 197 (.bool true) ?_
                refine sa 198 ?_
                refine sa 199 ?_
                refine sp 200 (.bool true) ?_
                refine ops_end ?_
                refine ae [(1, .slice headsa (List.length heads) headscap), (2, .slice valuesa (List.length values) valuescap), (7, .pointer (some ⟨b1_2, 0, none⟩)), (8, .pointer (some ⟨b2_1, 0, none⟩)), (13, .int .i64 v1_13), (14, .int .i64 y12_6), (200, .bool true)] ?_
                refine at_round_normal ?_
                exact at_join_mk [(1, .slice headsa (List.length heads) headscap), (2, .slice valuesa (List.length values) valuescap), (7, .pointer (some ⟨b1_2, 0, none⟩)), (8, .pointer (some ⟨b2_1, 0, none⟩)), (13, .int .i64 v1_13), (14, .int .i64 y12_6), (200, .bool true)] ((HomeA b2_1 y26_1.2.2) :: (ImmI a1_1_00 y1_1.init) :: (Asn.own b1_2 (.cells #[.int .i64 y1_1.nodes, .int .i64 y1_1.lines, .int .i64 y1_1.words, .int .i64 y1_1.sets, .int .i64 y1_1.ways, .int .i64 y1_1.out, .int .i64 y1_1.inn, .slice a1_1_00 (List.length y1_1.init) c1_1_00] 26 (0, 0))) :: Γ) ⟨by kernel_rfl, by kernel_rfl, by kernel_rfl, by kernel_rfl, by kernel_rfl, by kernel_rfl, by kernel_rfl, trivial⟩ (fun w hw => (Sat.less (.take (.there (.there .here)) (.take (.there (.there (.there .here))) (.take (.there (.there (.there .here))) (.drop .here (.drop .here (.drop .here .refl)))))) hw)) ⟨true, H, rfl, rfl⟩
               ·replace H := bifF H h8
                refine sr 170 (.bool false) (run_eq (v := .bool (!(decide (y26_1.1.id = v1_13)))) (fun _ => by kernel_rfl) (congrArg Value.bool h8)) ?_
                refine sp 171 (.pointer (some ⟨b26_5, 5, none⟩)) ?_
                refine sl 172 (.int .i64 y26_1.1.ptr) (load1 (off := 5) (fun _ => by kernel_rfl) (holds_own .here) (by kernel_rfl)) ?_
                refine sp 173 (.int .i64 y12_6) ?_
                refine sp 174 (.bool (!(decide (y26_1.1.ptr = y12_6)))) ?_
                refine sp 175 (.bool (!(decide (y26_1.1.ptr = y12_6)))) ?_
                rcases Bool.eq_false_or_eq_true (!(decide (y26_1.1.ptr = y12_6))) with h9 | h9
                ·replace H := bifT H h9
                 refine sr 176 (.bool true) (run_eq (v := .bool (!(decide (y26_1.1.ptr = y12_6)))) (fun _ => by kernel_rfl) (congrArg Value.bool h9)) ?_
                 refine sa 177 ?_
                 refine sa 178 ?_
                 refine sa 179 ?_
                 refine sp 180 (.bool true) ?_
                 refine sp 181 (.bool true) ?_
                 refine sa 182 ?_
                 refine sa 183 ?_
                 refine sa 184 ?_
                 refine sa 185 ?_
                 refine sa 186 ?_
                 refine sp 187 (.bool true) ?_
                 refine sp 188 (.bool true) ?_
                 refine sa 189 ?_
                 refine sa 190 ?_
                 refine sa 191 ?_
                 refine sa 192 ?_
                 refine sa 193 ?_
                 refine sa 194 ?_
                 refine sa 195 ?_
                 refine sp 196 (.bool true) ?_
                 refine sp 197 (.bool true) ?_
                 refine sa 198 ?_
                 refine sa 199 ?_
                 refine sp 200 (.bool true) ?_
                 refine ops_end ?_
                 refine ae [(1, .slice headsa (List.length heads) headscap), (2, .slice valuesa (List.length values) valuescap), (7, .pointer (some ⟨b1_2, 0, none⟩)), (8, .pointer (some ⟨b2_1, 0, none⟩)), (13, .int .i64 v1_13), (14, .int .i64 y12_6), (200, .bool true)] ?_
                 refine at_round_normal ?_
                 exact at_join_mk [(1, .slice headsa (List.length heads) headscap), (2, .slice valuesa (List.length values) valuescap), (7, .pointer (some ⟨b1_2, 0, none⟩)), (8, .pointer (some ⟨b2_1, 0, none⟩)), (13, .int .i64 v1_13), (14, .int .i64 y12_6), (200, .bool true)] ((HomeA b2_1 y26_1.2.2) :: (ImmI a1_1_00 y1_1.init) :: (Asn.own b1_2 (.cells #[.int .i64 y1_1.nodes, .int .i64 y1_1.lines, .int .i64 y1_1.words, .int .i64 y1_1.sets, .int .i64 y1_1.ways, .int .i64 y1_1.out, .int .i64 y1_1.inn, .slice a1_1_00 (List.length y1_1.init) c1_1_00] 26 (0, 0))) :: Γ) ⟨by kernel_rfl, by kernel_rfl, by kernel_rfl, by kernel_rfl, by kernel_rfl, by kernel_rfl, by kernel_rfl, trivial⟩ (fun w hw => (Sat.less (.take (.there (.there .here)) (.take (.there (.there (.there .here))) (.take (.there (.there (.there .here))) (.drop .here (.drop .here (.drop .here .refl)))))) hw)) ⟨true, H, rfl, rfl⟩
                ·replace H := bifF H h9
                 refine sr 176 (.bool false) (run_eq (v := .bool (!(decide (y26_1.1.ptr = y12_6)))) (fun _ => by kernel_rfl) (congrArg Value.bool h9)) ?_
                 refine sp 177 (.pointer (some ⟨b26_5, 6, none⟩)) ?_
                 refine sl 178 (.int .i64 y26_1.1.state) (load1 (off := 6) (fun _ => by kernel_rfl) (holds_own .here) (by kernel_rfl)) ?_
                 refine sp 179 (.bool (!(decide (y26_1.1.state = (1 : Int))))) ?_
                 refine sp 180 (.bool (!(decide (y26_1.1.state = (1 : Int))))) ?_
                 rcases Bool.eq_false_or_eq_true (!(decide (y26_1.1.state = (1 : Int)))) with h10 | h10
                 ·replace H := bifT H h10
                  refine sr 181 (.bool true) (run_eq (v := .bool (!(decide (y26_1.1.state = (1 : Int))))) (fun _ => by kernel_rfl) (congrArg Value.bool h10)) ?_
                  refine sa 182 ?_
                  refine sa 183 ?_
                  refine sa 184 ?_
                  refine sa 185 ?_
                  refine sa 186 ?_
                  refine sp 187 (.bool true) ?_
                  refine sp 188 (.bool true) ?_
                  refine sa 189 ?_
                  refine sa 190 ?_
                  refine sa 191 ?_
                  refine sa 192 ?_
                  refine sa 193 ?_
                  refine sa 194 ?_
                  refine sa 195 ?_
                  refine sp 196 (.bool true) ?_
                  refine sp 197 (.bool true) ?_
                  refine sa 198 ?_
                  refine sa 199 ?_
                  refine sp 200 (.bool true) ?_
                  refine ops_end ?_
                  refine ae [(1, .slice headsa (List.length heads) headscap), (2, .slice valuesa (List.length values) valuescap), (7, .pointer (some ⟨b1_2, 0, none⟩)), (8, .pointer (some ⟨b2_1, 0, none⟩)), (13, .int .i64 v1_13), (14, .int .i64 y12_6), (200, .bool true)] ?_
                  refine at_round_normal ?_
                  exact at_join_mk [(1, .slice headsa (List.length heads) headscap), (2, .slice valuesa (List.length values) valuescap), (7, .pointer (some ⟨b1_2, 0, none⟩)), (8, .pointer (some ⟨b2_1, 0, none⟩)), (13, .int .i64 v1_13), (14, .int .i64 y12_6), (200, .bool true)] ((HomeA b2_1 y26_1.2.2) :: (ImmI a1_1_00 y1_1.init) :: (Asn.own b1_2 (.cells #[.int .i64 y1_1.nodes, .int .i64 y1_1.lines, .int .i64 y1_1.words, .int .i64 y1_1.sets, .int .i64 y1_1.ways, .int .i64 y1_1.out, .int .i64 y1_1.inn, .slice a1_1_00 (List.length y1_1.init) c1_1_00] 26 (0, 0))) :: Γ) ⟨by kernel_rfl, by kernel_rfl, by kernel_rfl, by kernel_rfl, by kernel_rfl, by kernel_rfl, by kernel_rfl, trivial⟩ (fun w hw => (Sat.less (.take (.there (.there .here)) (.take (.there (.there (.there .here))) (.take (.there (.there (.there .here))) (.drop .here (.drop .here (.drop .here .refl)))))) hw)) ⟨true, H, rfl, rfl⟩
                 ·replace H := bifF H h10
                  refine sr 181 (.bool false) (run_eq (v := .bool (!(decide (y26_1.1.state = (1 : Int))))) (fun _ => by kernel_rfl) (congrArg Value.bool h10)) ?_
                  refine sp 182 (.pointer (some ⟨b26_5, 8, none⟩)) ?_
                  refine sl 183 (.slice a26_1_00 (List.length y26_1.1.data) c26_1_00) (load1 (off := 8) (fun _ => by kernel_rfl) (holds_own .here) (by kernel_rfl)) ?_
                  refine sp 184 (.slice e5_18a (List.length e5_18x) e5_18c) ?_
                  obtain ⟨y27_29, hy27_29, H⟩ := bindE H
                  refine s_call 185 24 #[.slice a26_1_00 (List.length y26_1.1.data) c26_1_00, .slice e5_18a (List.length e5_18x) e5_18c] (by kernel_rfl) (by kernel_rfl) (fun _ => by kernel_rfl) (KSameF_tr a26_1_00 c26_1_00 y26_1.1.data e5_18a e5_18c e5_18x (RowsA.reads (k := 1) (.there .here)) (RowsA.reads (k := 1) (.there (.there (.there .here)))) y27_29 hy27_29) ?_
                  rintro _ _ ⟨rfl, rfl⟩
                  refine sp 186 (.bool !y27_29) ?_
                  refine sp 187 (.bool !y27_29) ?_
                  rcases Bool.eq_false_or_eq_true (!y27_29) with h11 | h11
                  ·replace H := bifT H h11
                   refine sr 188 (.bool true) (run_eq (v := .bool (!y27_29)) (fun _ => by kernel_rfl) (congrArg Value.bool h11)) ?_
                   refine sa 189 ?_
                   refine sa 190 ?_
                   refine sa 191 ?_
                   refine sa 192 ?_
                   refine sa 193 ?_
                   refine sa 194 ?_
                   refine sa 195 ?_
                   refine sp 196 (.bool true) ?_
                   refine sp 197 (.bool true) ?_
                   refine sa 198 ?_
                   refine sa 199 ?_
                   refine sp 200 (.bool true) ?_
                   refine ops_end ?_
                   refine ae [(1, .slice headsa (List.length heads) headscap), (2, .slice valuesa (List.length values) valuescap), (7, .pointer (some ⟨b1_2, 0, none⟩)), (8, .pointer (some ⟨b2_1, 0, none⟩)), (13, .int .i64 v1_13), (14, .int .i64 y12_6), (200, .bool true)] ?_
                   refine at_round_normal ?_
                   exact at_join_mk [(1, .slice headsa (List.length heads) headscap), (2, .slice valuesa (List.length values) valuescap), (7, .pointer (some ⟨b1_2, 0, none⟩)), (8, .pointer (some ⟨b2_1, 0, none⟩)), (13, .int .i64 v1_13), (14, .int .i64 y12_6), (200, .bool true)] ((HomeA b2_1 y26_1.2.2) :: (ImmI a1_1_00 y1_1.init) :: (Asn.own b1_2 (.cells #[.int .i64 y1_1.nodes, .int .i64 y1_1.lines, .int .i64 y1_1.words, .int .i64 y1_1.sets, .int .i64 y1_1.ways, .int .i64 y1_1.out, .int .i64 y1_1.inn, .slice a1_1_00 (List.length y1_1.init) c1_1_00] 26 (0, 0))) :: Γ) ⟨by kernel_rfl, by kernel_rfl, by kernel_rfl, by kernel_rfl, by kernel_rfl, by kernel_rfl, by kernel_rfl, trivial⟩ (fun w hw => (Sat.less (.take (.there (.there .here)) (.take (.there (.there (.there .here))) (.take (.there (.there (.there .here))) (.drop .here (.drop .here (.drop .here .refl)))))) hw)) ⟨true, H, rfl, rfl⟩
                  ·replace H := bifF H h11
                   refine sr 188 (.bool false) (run_eq (v := .bool (!y27_29)) (fun _ => by kernel_rfl) (congrArg Value.bool h11)) ?_
                   refine sp 189 (.pointer (some ⟨b2_1, 0, none⟩)) ?_
                   refine sp 190 (.pointer (some ⟨b2_1, 0, none⟩)) ?_
                   refine sp 191 (.pointer (some ⟨b2_1, 1, none⟩)) ?_
                   refine HomeA.tox (.there (.there .here)) ?_
                   intro x27_36_b2_1
                   refine HomeXA.open .here ?_
                   refine sl 192 (.pointer (some ⟨x27_36_b2_1.b1, 0, none⟩)) (load1 (off := 1) (fun _ => by kernel_rfl) (holds_own .here) (by kernel_rfl)) ?_
                   obtain ⟨y27_37, hy27_37, H⟩ := bindE H
                   refine s_call 193 11 #[.pointer (some ⟨x27_36_b2_1.b1, 0, none⟩), .int .i64 (0)] (by kernel_rfl) (by kernel_rfl) (fun _ => by kernel_rfl) (Tr.conv (Γ' := (TurnsA x27_36_b2_1.b1 y26_1.2.2.turns) :: (Asn.own b2_1 (.cells #[.pointer (some ⟨x27_36_b2_1.b0, 0, none⟩), .pointer (some ⟨x27_36_b2_1.b1, 0, none⟩), .int .i64 y26_1.2.2.c.nodes, .int .i64 y26_1.2.2.c.lines, .int .i64 y26_1.2.2.c.words, .int .i64 y26_1.2.2.c.sets, .int .i64 y26_1.2.2.c.ways, .int .i64 y26_1.2.2.c.out, .int .i64 y26_1.2.2.c.inn, .slice x27_36_b2_1.a9 (List.length y26_1.2.2.c.init) x27_36_b2_1.c9, .int .i64 y26_1.2.2.node] x27_36_b2_1.T (0, 0))) :: (DirA x27_36_b2_1.b0 y26_1.2.2.dir) :: (ImmI x27_36_b2_1.a9 y26_1.2.2.c.init) :: (Asn.own b26_5 (.cells #[.int .i64 y26_1.1.kind, .int .i64 y26_1.1.src, .int .i64 y26_1.1.dst, .int .i64 y26_1.1.id, .int .i64 y26_1.1.line, .int .i64 y26_1.1.ptr, .int .i64 y26_1.1.state, .bool y26_1.1.flag, .slice a26_1_00 (List.length y26_1.1.data) c26_1_00] 32 (0, 0))) :: (IntsA a26_1_00 c26_1_00 y26_1.1.data) :: (IntsA e5_18a e5_18c e5_18x) :: (ImmI a1_1_00 y1_1.init) :: (Asn.own b1_2 (.cells #[.int .i64 y1_1.nodes, .int .i64 y1_1.lines, .int .i64 y1_1.words, .int .i64 y1_1.sets, .int .i64 y1_1.ways, .int .i64 y1_1.out, .int .i64 y1_1.inn, .slice a1_1_00 (List.length y1_1.init) c1_1_00] 26 (0, 0))) :: Γ) (fun w hw => (Sat.less (.take (.there (.there .here)) (.take .here (.take .here (.take .here (.take .here (.take .here (.take .here (.take .here (.take .here .refl))))))))) hw)) (TOwnerF_tr x27_36_b2_1.b1 y26_1.2.2.turns (0 : Int) y27_37 hy27_37)) ?_
                   rintro _ _ ⟨rfl, rfl⟩
                   refine sp 194 (.int .i64 y12_6) ?_
                   refine sp 195 (.bool (!(decide (y27_37 = y12_6)))) ?_
                   refine sp 196 (.bool (!(decide (y27_37 = y12_6)))) ?_
                   rcases Bool.eq_false_or_eq_true (!(decide (y27_37 = y12_6))) with h12 | h12
                   ·replace H := bifT H h12
                    refine sr 197 (.bool true) (run_eq (v := .bool (!(decide (y27_37 = y12_6)))) (fun _ => by kernel_rfl) (congrArg Value.bool h12)) ?_
                    refine sa 198 ?_
                    refine sa 199 ?_
                    refine sp 200 (.bool true) ?_
                    refine ops_end ?_
                    refine ae [(1, .slice headsa (List.length heads) headscap), (2, .slice valuesa (List.length values) valuescap), (7, .pointer (some ⟨b1_2, 0, none⟩)), (8, .pointer (some ⟨b2_1, 0, none⟩)), (13, .int .i64 v1_13), (14, .int .i64 y12_6), (200, .bool true)] ?_
                    refine at_round_normal ?_
                    refine At.conv (Γ' := (HomeXA b2_1 x27_36_b2_1 y26_1.2.2) :: (ImmI x27_36_b2_1.a9 y26_1.2.2.c.init) :: (Asn.own b26_5 (.cells #[.int .i64 y26_1.1.kind, .int .i64 y26_1.1.src, .int .i64 y26_1.1.dst, .int .i64 y26_1.1.id, .int .i64 y26_1.1.line, .int .i64 y26_1.1.ptr, .int .i64 y26_1.1.state, .bool y26_1.1.flag, .slice a26_1_00 (List.length y26_1.1.data) c26_1_00] 32 (0, 0))) :: (IntsA a26_1_00 c26_1_00 y26_1.1.data) :: (IntsA e5_18a e5_18c e5_18x) :: (ImmI a1_1_00 y1_1.init) :: (Asn.own b1_2 (.cells #[.int .i64 y1_1.nodes, .int .i64 y1_1.lines, .int .i64 y1_1.words, .int .i64 y1_1.sets, .int .i64 y1_1.ways, .int .i64 y1_1.out, .int .i64 y1_1.inn, .slice a1_1_00 (List.length y1_1.init) c1_1_00] 26 (0, 0))) :: Γ) (fun w hw => HomeXA.close (x := x27_36_b2_1) (t := y26_1.2.2) (Sat.less (.take (.there (.there (.there .here))) (.take (.there (.there (.there .here))) (.take (.there (.there .here)) (.take .here (.take .here (.take .here (.take .here (.take .here (.take .here (.take .here .refl)))))))))) (ImmR.dup (Sat.less (.take (.there (.there (.there .here))) (.take .here (.take .here (.take .here (.take .here (.take .here (.take .here (.take .here (.take .here .refl))))))))) hw)))) ?_
                    refine At.conv (Γ' := (HomeA b2_1 y26_1.2.2) :: (ImmI x27_36_b2_1.a9 y26_1.2.2.c.init) :: (Asn.own b26_5 (.cells #[.int .i64 y26_1.1.kind, .int .i64 y26_1.1.src, .int .i64 y26_1.1.dst, .int .i64 y26_1.1.id, .int .i64 y26_1.1.line, .int .i64 y26_1.1.ptr, .int .i64 y26_1.1.state, .bool y26_1.1.flag, .slice a26_1_00 (List.length y26_1.1.data) c26_1_00] 32 (0, 0))) :: (IntsA a26_1_00 c26_1_00 y26_1.1.data) :: (IntsA e5_18a e5_18c e5_18x) :: (ImmI a1_1_00 y1_1.init) :: (Asn.own b1_2 (.cells #[.int .i64 y1_1.nodes, .int .i64 y1_1.lines, .int .i64 y1_1.words, .int .i64 y1_1.sets, .int .i64 y1_1.ways, .int .i64 y1_1.out, .int .i64 y1_1.inn, .slice a1_1_00 (List.length y1_1.init) c1_1_00] 26 (0, 0))) :: Γ) (fun w hw => HomeXA.shut (hw.pull .here)) ?_
                    exact at_join_mk [(1, .slice headsa (List.length heads) headscap), (2, .slice valuesa (List.length values) valuescap), (7, .pointer (some ⟨b1_2, 0, none⟩)), (8, .pointer (some ⟨b2_1, 0, none⟩)), (13, .int .i64 v1_13), (14, .int .i64 y12_6), (200, .bool true)] ((HomeA b2_1 y26_1.2.2) :: (ImmI a1_1_00 y1_1.init) :: (Asn.own b1_2 (.cells #[.int .i64 y1_1.nodes, .int .i64 y1_1.lines, .int .i64 y1_1.words, .int .i64 y1_1.sets, .int .i64 y1_1.ways, .int .i64 y1_1.out, .int .i64 y1_1.inn, .slice a1_1_00 (List.length y1_1.init) c1_1_00] 26 (0, 0))) :: Γ) ⟨by kernel_rfl, by kernel_rfl, by kernel_rfl, by kernel_rfl, by kernel_rfl, by kernel_rfl, by kernel_rfl, trivial⟩ (fun w hw => (Sat.less (.take .here (.take (.there (.there (.there (.there .here)))) (.take (.there (.there (.there (.there .here)))) (.drop .here (.drop .here (.drop .here (.drop .here .refl))))))) hw)) ⟨true, H, rfl, rfl⟩
                   ·replace H := bifF H h12
                    refine sr 197 (.bool false) (run_eq (v := .bool (!(decide (y27_37 = y12_6)))) (fun _ => by kernel_rfl) (congrArg Value.bool h12)) ?_
                    refine sp 198 (.pointer (some ⟨b2_1, 0, none⟩)) ?_
                    refine At.conv (Γ' := (HomeXA b2_1 x27_36_b2_1 y26_1.2.2) :: (ImmI x27_36_b2_1.a9 y26_1.2.2.c.init) :: (Asn.own b26_5 (.cells #[.int .i64 y26_1.1.kind, .int .i64 y26_1.1.src, .int .i64 y26_1.1.dst, .int .i64 y26_1.1.id, .int .i64 y26_1.1.line, .int .i64 y26_1.1.ptr, .int .i64 y26_1.1.state, .bool y26_1.1.flag, .slice a26_1_00 (List.length y26_1.1.data) c26_1_00] 32 (0, 0))) :: (IntsA a26_1_00 c26_1_00 y26_1.1.data) :: (IntsA e5_18a e5_18c e5_18x) :: (ImmI a1_1_00 y1_1.init) :: (Asn.own b1_2 (.cells #[.int .i64 y1_1.nodes, .int .i64 y1_1.lines, .int .i64 y1_1.words, .int .i64 y1_1.sets, .int .i64 y1_1.ways, .int .i64 y1_1.out, .int .i64 y1_1.inn, .slice a1_1_00 (List.length y1_1.init) c1_1_00] 26 (0, 0))) :: Γ) (fun w hw => HomeXA.close (x := x27_36_b2_1) (t := y26_1.2.2) (Sat.less (.take (.there (.there (.there .here))) (.take (.there (.there (.there .here))) (.take (.there (.there .here)) (.take .here (.take .here (.take .here (.take .here (.take .here (.take .here (.take .here .refl)))))))))) (ImmR.dup (Sat.less (.take (.there (.there (.there .here))) (.take .here (.take .here (.take .here (.take .here (.take .here (.take .here (.take .here (.take .here .refl))))))))) hw)))) ?_
                    refine At.conv (Γ' := (HomeA b2_1 y26_1.2.2) :: (ImmI x27_36_b2_1.a9 y26_1.2.2.c.init) :: (Asn.own b26_5 (.cells #[.int .i64 y26_1.1.kind, .int .i64 y26_1.1.src, .int .i64 y26_1.1.dst, .int .i64 y26_1.1.id, .int .i64 y26_1.1.line, .int .i64 y26_1.1.ptr, .int .i64 y26_1.1.state, .bool y26_1.1.flag, .slice a26_1_00 (List.length y26_1.1.data) c26_1_00] 32 (0, 0))) :: (IntsA a26_1_00 c26_1_00 y26_1.1.data) :: (IntsA e5_18a e5_18c e5_18x) :: (ImmI a1_1_00 y1_1.init) :: (Asn.own b1_2 (.cells #[.int .i64 y1_1.nodes, .int .i64 y1_1.lines, .int .i64 y1_1.words, .int .i64 y1_1.sets, .int .i64 y1_1.ways, .int .i64 y1_1.out, .int .i64 y1_1.inn, .slice a1_1_00 (List.length y1_1.init) c1_1_00] 26 (0, 0))) :: Γ) (fun w hw => HomeXA.shut (hw.pull .here)) ?_
                    obtain ⟨y27_43, hy27_43, H⟩ := bindE H
                    refine s_call 199 13 #[.pointer (some ⟨b2_1, 0, none⟩)] (by kernel_rfl) (by kernel_rfl) (fun _ => by kernel_rfl) (HPendingF_tr b2_1 y26_1.2.2 y27_43 hy27_43) ?_
                    rintro _ _ ⟨rfl, rfl⟩
                    refine sp 200 (.bool y27_43) ?_
                    refine ops_end ?_
                    refine ae [(1, .slice headsa (List.length heads) headscap), (2, .slice valuesa (List.length values) valuescap), (7, .pointer (some ⟨b1_2, 0, none⟩)), (8, .pointer (some ⟨b2_1, 0, none⟩)), (13, .int .i64 v1_13), (14, .int .i64 y12_6), (200, .bool y27_43)] ?_
                    refine at_round_normal ?_
                    exact at_join_mk [(1, .slice headsa (List.length heads) headscap), (2, .slice valuesa (List.length values) valuescap), (7, .pointer (some ⟨b1_2, 0, none⟩)), (8, .pointer (some ⟨b2_1, 0, none⟩)), (13, .int .i64 v1_13), (14, .int .i64 y12_6), (200, .bool y27_43)] ((HomeA b2_1 y26_1.2.2) :: (ImmI a1_1_00 y1_1.init) :: (Asn.own b1_2 (.cells #[.int .i64 y1_1.nodes, .int .i64 y1_1.lines, .int .i64 y1_1.words, .int .i64 y1_1.sets, .int .i64 y1_1.ways, .int .i64 y1_1.out, .int .i64 y1_1.inn, .slice a1_1_00 (List.length y1_1.init) c1_1_00] 26 (0, 0))) :: Γ) ⟨by kernel_rfl, by kernel_rfl, by kernel_rfl, by kernel_rfl, by kernel_rfl, by kernel_rfl, by kernel_rfl, trivial⟩ (fun w hw => (Sat.less (.take .here (.take (.there (.there (.there (.there .here)))) (.take (.there (.there (.there (.there .here)))) (.drop .here (.drop .here (.drop .here (.drop .here .refl))))))) hw)) ⟨y27_43, H, rfl, rfl⟩
          ·refine ar (id := 24) 19 ?_
           refine sp 132 (.bool y23_5.2.1) ?_
           refine sp 133 (.bool !y23_5.2.1) ?_
           rcases Bool.eq_false_or_eq_true (!y23_5.2.1) with h13 | h13
           ·replace H := bifT H h13
            refine sr 134 (.bool true) (run_eq (v := .bool (!y23_5.2.1)) (fun _ => by kernel_rfl) (congrArg Value.bool h13)) ?_
            refine sa 135 ?_
            refine sa 136 ?_
            refine sp 137 (.bool true) ?_
            refine sp 138 (.bool true) ?_
            refine sa 139 ?_
            refine sa 140 ?_
            refine sa 141 ?_
            refine sp 142 (.bool true) ?_
            refine sp 143 (.bool true) ?_
            refine sa 144 ?_
            refine sa 145 ?_
            refine sa 146 ?_
            refine sa 147 ?_
            refine sa 148 ?_
            refine sa 149 ?_
            refine sp 150 (.bool true) ?_
            refine ops_end ?_
            refine ae [(1, .slice headsa (List.length heads) headscap), (2, .slice valuesa (List.length values) valuescap), (7, .pointer (some ⟨b1_2, 0, none⟩)), (8, .pointer (some ⟨b2_1, 0, none⟩)), (13, .int .i64 v1_13), (14, .int .i64 y12_6), (18, .slice e5_18a (List.length e5_18x) e5_18c), (150, .bool true)] ?_
            refine at_round_normal ?_
            exact at_join_mk [(1, .slice headsa (List.length heads) headscap), (2, .slice valuesa (List.length values) valuescap), (7, .pointer (some ⟨b1_2, 0, none⟩)), (8, .pointer (some ⟨b2_1, 0, none⟩)), (13, .int .i64 v1_13), (14, .int .i64 y12_6), (18, .slice e5_18a (List.length e5_18x) e5_18c), (150, .bool true)] ((HomeA b2_1 y23_5.2.2.2) :: (IntsA e5_18a e5_18c e5_18x) :: (ImmI a1_1_00 y1_1.init) :: (Asn.own b1_2 (.cells #[.int .i64 y1_1.nodes, .int .i64 y1_1.lines, .int .i64 y1_1.words, .int .i64 y1_1.sets, .int .i64 y1_1.ways, .int .i64 y1_1.out, .int .i64 y1_1.inn, .slice a1_1_00 (List.length y1_1.init) c1_1_00] 26 (0, 0))) :: Γ) ⟨by kernel_rfl, by kernel_rfl, by kernel_rfl, by kernel_rfl, by kernel_rfl, by kernel_rfl, by kernel_rfl, by kernel_rfl, trivial⟩ (fun w hw => (Sat.less (.take (.there (.there .here)) (.take (.there (.there .here)) (.take (.there (.there .here)) (.take (.there (.there .here)) (.drop .here (.drop .here .refl)))))) hw)) ⟨true, H, rfl, rfl⟩
           ·replace H := bifF H h13
            refine sr 134 (.bool false) (run_eq (v := .bool (!y23_5.2.1)) (fun _ => by kernel_rfl) (congrArg Value.bool h13)) ?_
            refine sp 135 (.int .i64 y23_5.2.2.1) ?_
            refine sp 136 (.bool (!(decide (y23_5.2.2.1 = (0 : Int))))) ?_
            refine sp 137 (.bool (!(decide (y23_5.2.2.1 = (0 : Int))))) ?_
            rcases Bool.eq_false_or_eq_true (!(decide (y23_5.2.2.1 = (0 : Int)))) with h14 | h14
            ·replace H := bifT H h14
             refine sr 138 (.bool true) (run_eq (v := .bool (!(decide (y23_5.2.2.1 = (0 : Int))))) (fun _ => by kernel_rfl) (congrArg Value.bool h14)) ?_
             refine sa 139 ?_
             refine sa 140 ?_
             refine sa 141 ?_
             refine sp 142 (.bool true) ?_
             refine sp 143 (.bool true) ?_
             refine sa 144 ?_
             refine sa 145 ?_
             refine sa 146 ?_
             refine sa 147 ?_
             refine sa 148 ?_
             refine sa 149 ?_
             refine sp 150 (.bool true) ?_
             refine ops_end ?_
             refine ae [(1, .slice headsa (List.length heads) headscap), (2, .slice valuesa (List.length values) valuescap), (7, .pointer (some ⟨b1_2, 0, none⟩)), (8, .pointer (some ⟨b2_1, 0, none⟩)), (13, .int .i64 v1_13), (14, .int .i64 y12_6), (18, .slice e5_18a (List.length e5_18x) e5_18c), (150, .bool true)] ?_
             refine at_round_normal ?_
             exact at_join_mk [(1, .slice headsa (List.length heads) headscap), (2, .slice valuesa (List.length values) valuescap), (7, .pointer (some ⟨b1_2, 0, none⟩)), (8, .pointer (some ⟨b2_1, 0, none⟩)), (13, .int .i64 v1_13), (14, .int .i64 y12_6), (18, .slice e5_18a (List.length e5_18x) e5_18c), (150, .bool true)] ((HomeA b2_1 y23_5.2.2.2) :: (IntsA e5_18a e5_18c e5_18x) :: (ImmI a1_1_00 y1_1.init) :: (Asn.own b1_2 (.cells #[.int .i64 y1_1.nodes, .int .i64 y1_1.lines, .int .i64 y1_1.words, .int .i64 y1_1.sets, .int .i64 y1_1.ways, .int .i64 y1_1.out, .int .i64 y1_1.inn, .slice a1_1_00 (List.length y1_1.init) c1_1_00] 26 (0, 0))) :: Γ) ⟨by kernel_rfl, by kernel_rfl, by kernel_rfl, by kernel_rfl, by kernel_rfl, by kernel_rfl, by kernel_rfl, by kernel_rfl, trivial⟩ (fun w hw => (Sat.less (.take (.there (.there .here)) (.take (.there (.there .here)) (.take (.there (.there .here)) (.take (.there (.there .here)) (.drop .here (.drop .here .refl)))))) hw)) ⟨true, H, rfl, rfl⟩
            ·replace H := bifF H h14
             refine sr 138 (.bool false) (run_eq (v := .bool (!(decide (y23_5.2.2.1 = (0 : Int))))) (fun _ => by kernel_rfl) (congrArg Value.bool h14)) ?_
             refine sp 139 (.pointer (some ⟨b2_1, 0, none⟩)) ?_
             obtain ⟨y24_8, hy24_8, H⟩ := bindE H
             refine s_call 140 13 #[.pointer (some ⟨b2_1, 0, none⟩)] (by kernel_rfl) (by kernel_rfl) (fun _ => by kernel_rfl) (Tr.conv (Γ' := (HomeA b2_1 y23_5.2.2.2) :: (Asn.own b23_10 (.cells #[.int .i64 y23_5.1.kind, .int .i64 y23_5.1.src, .int .i64 y23_5.1.dst, .int .i64 y23_5.1.id, .int .i64 y23_5.1.line, .int .i64 y23_5.1.ptr, .int .i64 y23_5.1.state, .bool y23_5.1.flag, .slice a23_5_00 (List.length y23_5.1.data) c23_5_00] 32 (0, 0))) :: (IntsA a23_5_00 c23_5_00 y23_5.1.data) :: (IntsA e5_18a e5_18c e5_18x) :: (ImmI a1_1_00 y1_1.init) :: (Asn.own b1_2 (.cells #[.int .i64 y1_1.nodes, .int .i64 y1_1.lines, .int .i64 y1_1.words, .int .i64 y1_1.sets, .int .i64 y1_1.ways, .int .i64 y1_1.out, .int .i64 y1_1.inn, .slice a1_1_00 (List.length y1_1.init) c1_1_00] 26 (0, 0))) :: Γ) (fun w hw => (Sat.less (.take (.there (.there .here)) (.take .here (.take .here (.take .here (.take .here (.take .here .refl)))))) hw)) (HPendingF_tr b2_1 y23_5.2.2.2 y24_8 hy24_8)) ?_
             rintro _ _ ⟨rfl, rfl⟩
             refine sp 141 (.bool !y24_8) ?_
             refine sp 142 (.bool !y24_8) ?_
             rcases Bool.eq_false_or_eq_true (!y24_8) with h15 | h15
             ·replace H := bifT H h15
              refine sr 143 (.bool true) (run_eq (v := .bool (!y24_8)) (fun _ => by kernel_rfl) (congrArg Value.bool h15)) ?_
              refine sa 144 ?_
              refine sa 145 ?_
              refine sa 146 ?_
              refine sa 147 ?_
              refine sa 148 ?_
              refine sa 149 ?_
              refine sp 150 (.bool true) ?_
              refine ops_end ?_
              refine ae [(1, .slice headsa (List.length heads) headscap), (2, .slice valuesa (List.length values) valuescap), (7, .pointer (some ⟨b1_2, 0, none⟩)), (8, .pointer (some ⟨b2_1, 0, none⟩)), (13, .int .i64 v1_13), (14, .int .i64 y12_6), (18, .slice e5_18a (List.length e5_18x) e5_18c), (150, .bool true)] ?_
              refine at_round_normal ?_
              exact at_join_mk [(1, .slice headsa (List.length heads) headscap), (2, .slice valuesa (List.length values) valuescap), (7, .pointer (some ⟨b1_2, 0, none⟩)), (8, .pointer (some ⟨b2_1, 0, none⟩)), (13, .int .i64 v1_13), (14, .int .i64 y12_6), (18, .slice e5_18a (List.length e5_18x) e5_18c), (150, .bool true)] ((HomeA b2_1 y23_5.2.2.2) :: (IntsA e5_18a e5_18c e5_18x) :: (ImmI a1_1_00 y1_1.init) :: (Asn.own b1_2 (.cells #[.int .i64 y1_1.nodes, .int .i64 y1_1.lines, .int .i64 y1_1.words, .int .i64 y1_1.sets, .int .i64 y1_1.ways, .int .i64 y1_1.out, .int .i64 y1_1.inn, .slice a1_1_00 (List.length y1_1.init) c1_1_00] 26 (0, 0))) :: Γ) ⟨by kernel_rfl, by kernel_rfl, by kernel_rfl, by kernel_rfl, by kernel_rfl, by kernel_rfl, by kernel_rfl, by kernel_rfl, trivial⟩ (fun w hw => (Sat.less (.take .here (.take (.there (.there .here)) (.take (.there (.there .here)) (.take (.there (.there .here)) (.drop .here (.drop .here .refl)))))) hw)) ⟨true, H, rfl, rfl⟩
             ·replace H := bifF H h15
              refine sr 143 (.bool false) (run_eq (v := .bool (!y24_8)) (fun _ => by kernel_rfl) (congrArg Value.bool h15)) ?_
              refine sp 144 (.pointer (some ⟨b2_1, 0, none⟩)) ?_
              refine sp 145 (.pointer (some ⟨b2_1, 0, none⟩)) ?_
              refine sp 146 (.pointer (some ⟨b2_1, 1, none⟩)) ?_
              refine HomeA.tox .here ?_
              intro x24_15_b2_1
              refine HomeXA.open .here ?_
              refine sl 147 (.pointer (some ⟨x24_15_b2_1.b1, 0, none⟩)) (load1 (off := 1) (fun _ => by kernel_rfl) (holds_own .here) (by kernel_rfl)) ?_
              obtain ⟨y24_16, hy24_16, H⟩ := bindE H
              refine s_call 148 11 #[.pointer (some ⟨x24_15_b2_1.b1, 0, none⟩), .int .i64 (0)] (by kernel_rfl) (by kernel_rfl) (fun _ => by kernel_rfl) (Tr.conv (Γ' := (TurnsA x24_15_b2_1.b1 y23_5.2.2.2.turns) :: (Asn.own b2_1 (.cells #[.pointer (some ⟨x24_15_b2_1.b0, 0, none⟩), .pointer (some ⟨x24_15_b2_1.b1, 0, none⟩), .int .i64 y23_5.2.2.2.c.nodes, .int .i64 y23_5.2.2.2.c.lines, .int .i64 y23_5.2.2.2.c.words, .int .i64 y23_5.2.2.2.c.sets, .int .i64 y23_5.2.2.2.c.ways, .int .i64 y23_5.2.2.2.c.out, .int .i64 y23_5.2.2.2.c.inn, .slice x24_15_b2_1.a9 (List.length y23_5.2.2.2.c.init) x24_15_b2_1.c9, .int .i64 y23_5.2.2.2.node] x24_15_b2_1.T (0, 0))) :: (DirA x24_15_b2_1.b0 y23_5.2.2.2.dir) :: (ImmI x24_15_b2_1.a9 y23_5.2.2.2.c.init) :: (Asn.own b23_10 (.cells #[.int .i64 y23_5.1.kind, .int .i64 y23_5.1.src, .int .i64 y23_5.1.dst, .int .i64 y23_5.1.id, .int .i64 y23_5.1.line, .int .i64 y23_5.1.ptr, .int .i64 y23_5.1.state, .bool y23_5.1.flag, .slice a23_5_00 (List.length y23_5.1.data) c23_5_00] 32 (0, 0))) :: (IntsA a23_5_00 c23_5_00 y23_5.1.data) :: (IntsA e5_18a e5_18c e5_18x) :: (ImmI a1_1_00 y1_1.init) :: (Asn.own b1_2 (.cells #[.int .i64 y1_1.nodes, .int .i64 y1_1.lines, .int .i64 y1_1.words, .int .i64 y1_1.sets, .int .i64 y1_1.ways, .int .i64 y1_1.out, .int .i64 y1_1.inn, .slice a1_1_00 (List.length y1_1.init) c1_1_00] 26 (0, 0))) :: Γ) (fun w hw => (Sat.less (.take (.there (.there .here)) (.take .here (.take .here (.take .here (.take .here (.take .here (.take .here (.take .here (.take .here .refl))))))))) hw)) (TOwnerF_tr x24_15_b2_1.b1 y23_5.2.2.2.turns (0 : Int) y24_16 hy24_16)) ?_
              rintro _ _ ⟨rfl, rfl⟩
              refine sp 149 (.bool (!(decide (y24_16 = ((-1) : Int))))) ?_
              refine sp 150 (.bool (!(decide (y24_16 = ((-1) : Int))))) ?_
              refine ops_end ?_
              refine ae [(1, .slice headsa (List.length heads) headscap), (2, .slice valuesa (List.length values) valuescap), (7, .pointer (some ⟨b1_2, 0, none⟩)), (8, .pointer (some ⟨b2_1, 0, none⟩)), (13, .int .i64 v1_13), (14, .int .i64 y12_6), (18, .slice e5_18a (List.length e5_18x) e5_18c), (150, .bool (!(decide (y24_16 = ((-1) : Int)))))] ?_
              refine at_round_normal ?_
              refine At.conv (Γ' := (HomeXA b2_1 x24_15_b2_1 y23_5.2.2.2) :: (ImmI x24_15_b2_1.a9 y23_5.2.2.2.c.init) :: (Asn.own b23_10 (.cells #[.int .i64 y23_5.1.kind, .int .i64 y23_5.1.src, .int .i64 y23_5.1.dst, .int .i64 y23_5.1.id, .int .i64 y23_5.1.line, .int .i64 y23_5.1.ptr, .int .i64 y23_5.1.state, .bool y23_5.1.flag, .slice a23_5_00 (List.length y23_5.1.data) c23_5_00] 32 (0, 0))) :: (IntsA a23_5_00 c23_5_00 y23_5.1.data) :: (IntsA e5_18a e5_18c e5_18x) :: (ImmI a1_1_00 y1_1.init) :: (Asn.own b1_2 (.cells #[.int .i64 y1_1.nodes, .int .i64 y1_1.lines, .int .i64 y1_1.words, .int .i64 y1_1.sets, .int .i64 y1_1.ways, .int .i64 y1_1.out, .int .i64 y1_1.inn, .slice a1_1_00 (List.length y1_1.init) c1_1_00] 26 (0, 0))) :: Γ) (fun w hw => HomeXA.close (x := x24_15_b2_1) (t := y23_5.2.2.2) (Sat.less (.take (.there (.there (.there .here))) (.take (.there (.there (.there .here))) (.take (.there (.there .here)) (.take .here (.take .here (.take .here (.take .here (.take .here (.take .here (.take .here .refl)))))))))) (ImmR.dup (Sat.less (.take (.there (.there (.there .here))) (.take .here (.take .here (.take .here (.take .here (.take .here (.take .here (.take .here (.take .here .refl))))))))) hw)))) ?_
              refine At.conv (Γ' := (HomeA b2_1 y23_5.2.2.2) :: (ImmI x24_15_b2_1.a9 y23_5.2.2.2.c.init) :: (Asn.own b23_10 (.cells #[.int .i64 y23_5.1.kind, .int .i64 y23_5.1.src, .int .i64 y23_5.1.dst, .int .i64 y23_5.1.id, .int .i64 y23_5.1.line, .int .i64 y23_5.1.ptr, .int .i64 y23_5.1.state, .bool y23_5.1.flag, .slice a23_5_00 (List.length y23_5.1.data) c23_5_00] 32 (0, 0))) :: (IntsA a23_5_00 c23_5_00 y23_5.1.data) :: (IntsA e5_18a e5_18c e5_18x) :: (ImmI a1_1_00 y1_1.init) :: (Asn.own b1_2 (.cells #[.int .i64 y1_1.nodes, .int .i64 y1_1.lines, .int .i64 y1_1.words, .int .i64 y1_1.sets, .int .i64 y1_1.ways, .int .i64 y1_1.out, .int .i64 y1_1.inn, .slice a1_1_00 (List.length y1_1.init) c1_1_00] 26 (0, 0))) :: Γ) (fun w hw => HomeXA.shut (hw.pull .here)) ?_
              exact at_join_mk [(1, .slice headsa (List.length heads) headscap), (2, .slice valuesa (List.length values) valuescap), (7, .pointer (some ⟨b1_2, 0, none⟩)), (8, .pointer (some ⟨b2_1, 0, none⟩)), (13, .int .i64 v1_13), (14, .int .i64 y12_6), (18, .slice e5_18a (List.length e5_18x) e5_18c), (150, .bool (!(decide (y24_16 = ((-1) : Int)))))] ((HomeA b2_1 y23_5.2.2.2) :: (IntsA e5_18a e5_18c e5_18x) :: (ImmI a1_1_00 y1_1.init) :: (Asn.own b1_2 (.cells #[.int .i64 y1_1.nodes, .int .i64 y1_1.lines, .int .i64 y1_1.words, .int .i64 y1_1.sets, .int .i64 y1_1.ways, .int .i64 y1_1.out, .int .i64 y1_1.inn, .slice a1_1_00 (List.length y1_1.init) c1_1_00] 26 (0, 0))) :: Γ) ⟨by kernel_rfl, by kernel_rfl, by kernel_rfl, by kernel_rfl, by kernel_rfl, by kernel_rfl, by kernel_rfl, by kernel_rfl, trivial⟩ (fun w hw => (Sat.less (.take .here (.take (.there (.there (.there .here))) (.take (.there (.there (.there .here))) (.take (.there (.there (.there .here))) (.drop .here (.drop .here (.drop .here .refl))))))) hw)) ⟨!(decide (y24_16 = ((-1) : Int))), H, rfl, rfl⟩
         ·refine aq (x := C5 [1,1,1,1,1,1,1,0,1,0,0,1,0,0,1,1,1,1,0,0]) (y := C5 [1,1,1,1,1,1,1,0,1,0,0,1,0,0,1,1,1,1,0,1]) ?_
          refine ar (id := 19) 3 ?_
          refine sp 106 (.int .i64 y12_6) ?_
          refine sp 107 (.int .i64 v1_12) ?_
          refine sp 108 (.bool (!(decide (y12_6 = v1_12)))) ?_
          refine ops_end ?_
          refine ae [(1, .slice headsa (List.length heads) headscap), (2, .slice valuesa (List.length values) valuescap), (7, .pointer (some ⟨b1_2, 0, none⟩)), (8, .pointer (some ⟨b2_1, 0, none⟩)), (12, .int .i64 v1_12), (13, .int .i64 v1_13), (14, .int .i64 y12_6), (18, .slice e5_18a (List.length e5_18x) e5_18c), (108, .bool (!(decide (y12_6 = v1_12))))] ?_
          refine at_then_normal ?_
          rcases Bool.eq_false_or_eq_true (!(decide (y12_6 = v1_12))) with h16 | h16
          ·replace H := bifT H h16
           refine at_true (t := !(decide (y12_6 = v1_12))) (x := C5 [1,1,1,1,1,1,1,0,1,0,0,1,0,0,1,1,1,1,0,1,0]) (y := C5 [1,1,1,1,1,1,1,0,1,0,0,1,0,0,1,1,1,1,0,1,1]) (o := .tmp 108) (by kernel_rfl) (by kernel_rfl) (by kernel_rfl) h16 ?_
           refine aq (x := C5 [1,1,1,1,1,1,1,0,1,0,0,1,0,0,1,1,1,1,0,1,0,0]) (y := C5 [1,1,1,1,1,1,1,0,1,0,0,1,0,0,1,1,1,1,0,1,0,1]) ?_
           refine ar (id := 20) 12 ?_
           refine sp 110 (.pointer (some ⟨b2_1, 0, none⟩)) ?_
           refine sp 111 (.int .i64 y12_6) ?_
           refine sp 112 (.agg #[.int .i64 (2), .int .i64 y12_6, .int .i64 (0), .int .i64 (0), .int .i64 (0), .int .i64 (0), .int .i64 (1), .bool false, .slice none 0 0]) ?_
           obtain ⟨y20_3, hy20_3, H⟩ := bindE H
           refine s_call 113 10 #[.pointer (some ⟨b2_1, 0, none⟩), .agg #[.int .i64 (2), .int .i64 y12_6, .int .i64 (0), .int .i64 (0), .int .i64 (0), .int .i64 (0), .int .i64 (1), .bool false, .slice none 0 0]] (by kernel_rfl) (by kernel_rfl) (fun _ => by kernel_rfl) (Tr.conv (Γ' := (HomeA b2_1 y13_4.2.2.2) :: (IntsA e5_18a e5_18c e5_18x) :: (ImmI a1_1_00 y1_1.init) :: (Asn.own b1_2 (.cells #[.int .i64 y1_1.nodes, .int .i64 y1_1.lines, .int .i64 y1_1.words, .int .i64 y1_1.sets, .int .i64 y1_1.ways, .int .i64 y1_1.out, .int .i64 y1_1.inn, .slice a1_1_00 (List.length y1_1.init) c1_1_00] 26 (0, 0))) :: Γ) (fun w hw => (Sat.less (.take (.there .here) (.take .here (.take .here (.take .here .refl)))) hw)) (HHandleF_tr b2_1 y13_4.2.2.2 none 0 (⟨2, y12_6, 0, 0, 0, 0, 1, false, ([] : List Int)⟩ : PktS) Reads.nil y20_3 hy20_3)) ?_
           rintro _ _ ⟨a20_3_00, c20_3_00, rfl, rfl⟩
           refine sp 109 (.tuple #[.agg #[.int .i64 y20_3.1.kind, .int .i64 y20_3.1.src, .int .i64 y20_3.1.dst, .int .i64 y20_3.1.id, .int .i64 y20_3.1.line, .int .i64 y20_3.1.ptr, .int .i64 y20_3.1.state, .bool y20_3.1.flag, .slice a20_3_00 (List.length y20_3.1.data) c20_3_00], .bool y20_3.2.1, .int .i64 y20_3.2.2.1]) ?_
           refine sp 114 (.agg #[.int .i64 y20_3.1.kind, .int .i64 y20_3.1.src, .int .i64 y20_3.1.dst, .int .i64 y20_3.1.id, .int .i64 y20_3.1.line, .int .i64 y20_3.1.ptr, .int .i64 y20_3.1.state, .bool y20_3.1.flag, .slice a20_3_00 (List.length y20_3.1.data) c20_3_00]) ?_
           refine sp 115 (.bool y20_3.2.1) ?_
           refine sp 116 (.int .i64 y20_3.2.2.1) ?_
           refine s_step 19 (by kernel_rfl) (by kernel_rfl) (st_new (T := 32) (cells := #[.int .i64 (0), .int .i64 (0), .int .i64 (0), .int .i64 (0), .int .i64 (0), .int .i64 (0), .int .i64 (0), .bool false, .slice none 0 0]) (fun a => .pointer (some a)) (fun _ => by kernel_rfl)) ?_
           rintro _ _ ⟨b20_8, rfl, rfl⟩
           refine s_do (by kernel_rfl) (by kernel_rfl) (st_store (off := 0) (vs := [.int .i64 y20_3.1.kind, .int .i64 y20_3.1.src, .int .i64 y20_3.1.dst, .int .i64 y20_3.1.id, .int .i64 y20_3.1.line, .int .i64 y20_3.1.ptr, .int .i64 y20_3.1.state, .bool y20_3.1.flag, .slice a20_3_00 (List.length y20_3.1.data) c20_3_00]) (c' := #[.int .i64 y20_3.1.kind, .int .i64 y20_3.1.src, .int .i64 y20_3.1.dst, .int .i64 y20_3.1.id, .int .i64 y20_3.1.line, .int .i64 y20_3.1.ptr, .int .i64 y20_3.1.state, .bool y20_3.1.flag, .slice a20_3_00 (List.length y20_3.1.data) c20_3_00]) (fun _ => by kernel_rfl) .here (by kernel_rfl) (by kernel_rfl) (by kernel_rfl)) ?_
           rintro _ _ ⟨rfl, rfl⟩
           refine sp 20 (.bool y20_3.2.1) ?_
           refine sp 21 (.int .i64 y20_3.2.2.1) ?_
           refine ops_end ?_
           refine ae [(1, .slice headsa (List.length heads) headscap), (2, .slice valuesa (List.length values) valuescap), (7, .pointer (some ⟨b1_2, 0, none⟩)), (8, .pointer (some ⟨b2_1, 0, none⟩)), (12, .int .i64 v1_12), (13, .int .i64 v1_13), (14, .int .i64 y12_6), (18, .slice e5_18a (List.length e5_18x) e5_18c), (20, .bool y20_3.2.1), (21, .int .i64 y20_3.2.2.1)] ?_
           refine at_then_normal ?_
           refine at_seq_join (x := C5 [1,1,1,1,1,1,1,0,1,0,0,1,0,0,1,1,1,1,0,1,0,1,0]) (y := C5 [1,1,1,1,1,1,1,0,1,0,0,1,0,0,1,1,1,1,0,1,0,1,1]) (fun ff ΔΔ => ∃ (e9_121 : Bool), homeAloneS_j9 v1_12 y12_6 e5_18x v1_13 (homeAloneS_l1 heads y1_1 values (homeAloneS_k1 ) fuel1) y20_3 e9_121 = some y ∧ ff = [(1, .slice headsa (List.length heads) headscap), (2, .slice valuesa (List.length values) valuescap), (7, .pointer (some ⟨b1_2, 0, none⟩)), (8, .pointer (some ⟨b2_1, 0, none⟩)), (12, .int .i64 v1_12), (13, .int .i64 v1_13), (14, .int .i64 y12_6), (18, .slice e5_18a (List.length e5_18x) e5_18c), (121, .bool e9_121)] ∧ (HomeA b2_1 y20_3.2.2.2) :: (IntsA e5_18a e5_18c e5_18x) :: (ImmI a1_1_00 y1_1.init) :: (Asn.own b1_2 (.cells #[.int .i64 y1_1.nodes, .int .i64 y1_1.lines, .int .i64 y1_1.words, .int .i64 y1_1.sets, .int .i64 y1_1.ways, .int .i64 y1_1.out, .int .i64 y1_1.inn, .slice a1_1_00 (List.length y1_1.init) c1_1_00] 26 (0, 0))) :: Γ = ΔΔ) (by kernel_rfl) ?_ ?_
           ·rintro _ _ ⟨e9_121, H, rfl, rfl⟩
            rw [homeAloneS_j9] at H
            rcases Bool.eq_false_or_eq_true (e9_121) with h17 | h17
            ·replace H := bifT H h17
             refine at_true (t := e9_121) (x := C5 [1,1,1,1,1,1,1,0,1,0,0,1,0,0,1,1,1,1,0,1,0,1,1,0]) (y := C5 [1,1,1,1,1,1,1,0,1,0,0,1,0,0,1,1,1,1,0,1,0,1,1,1]) (o := .tmp 121) (by kernel_rfl) (by kernel_rfl) (by kernel_rfl) h17 ?_
             refine aq (x := C5 [1,1,1,1,1,1,1,0,1,0,0,1,0,0,1,1,1,1,0,1,0,1,1,0,0]) (y := C5 [1,1,1,1,1,1,1,0,1,0,0,1,0,0,1,1,1,1,0,1,0,1,1,0,1]) ?_
             refine ar (id := 22) 1 ?_
             refine sp 6 (.bool false) ?_
             refine ops_end ?_
             refine ae [(6, .bool false)] ?_
             refine at_then_normal ?_
             refine at_ret (by kernel_rfl) ?_
             refine at_then_ret ?_
             refine at_in_ret ?_
             refine at_then_ret ?_
             refine at_then_ret ?_
             refine at_in_ret ?_
             refine at_then_ret ?_
             obtain rfl := someE H
             refine at_backR [.bool false] (Γ) (rs := [.tmp 6]) (by kernel_rfl) (.cons (.tmp (by kernel_rfl)) .nil) (fun w hw => (Sat.less (.drop .here (.drop .here (.drop .here (.drop .here .refl)))) hw)) ?_
             exact ⟨rfl, rfl⟩
            ·replace H := bifF H h17
             refine at_false (t := e9_121) (x := C5 [1,1,1,1,1,1,1,0,1,0,0,1,0,0,1,1,1,1,0,1,0,1,1,0]) (y := C5 [1,1,1,1,1,1,1,0,1,0,0,1,0,0,1,1,1,1,0,1,0,1,1,1]) (o := .tmp 121) (by kernel_rfl) (by kernel_rfl) (by kernel_rfl) h17 ?_
             refine at_skip (by kernel_rfl) ?_
             refine at_round_normal ?_
             exact at_join_mk [(1, .slice headsa (List.length heads) headscap), (2, .slice valuesa (List.length values) valuescap), (7, .pointer (some ⟨b1_2, 0, none⟩)), (8, .pointer (some ⟨b2_1, 0, none⟩)), (12, .int .i64 v1_12), (13, .int .i64 v1_13), (14, .int .i64 y12_6), (18, .slice e5_18a (List.length e5_18x) e5_18c)] ((IntsA e5_18a e5_18c e5_18x) :: (HomeA b2_1 y20_3.2.2.2) :: (ImmI a1_1_00 y1_1.init) :: (Asn.own b1_2 (.cells #[.int .i64 y1_1.nodes, .int .i64 y1_1.lines, .int .i64 y1_1.words, .int .i64 y1_1.sets, .int .i64 y1_1.ways, .int .i64 y1_1.out, .int .i64 y1_1.inn, .slice a1_1_00 (List.length y1_1.init) c1_1_00] 26 (0, 0))) :: Γ) ⟨by kernel_rfl, by kernel_rfl, by kernel_rfl, by kernel_rfl, by kernel_rfl, by kernel_rfl, by kernel_rfl, by kernel_rfl, trivial⟩ (fun w hw => (Sat.less (.take (.there .here) (.take .here (.take .here (.take .here .refl)))) hw)) ⟨y20_3.2.2.2, H, rfl, rfl⟩
           ·refine ar (id := 21) 5 ?_
            refine sp 117 (.bool y20_3.2.1) ?_
            rcases Bool.eq_false_or_eq_true (y20_3.2.1) with h18 | h18
            ·replace H := bifT H h18
             refine sr 118 (.bool true) (run_eq (v := .bool (y20_3.2.1)) (fun _ => by kernel_rfl) (congrArg Value.bool h18)) ?_
             refine sa 119 ?_
             refine sa 120 ?_
             refine sp 121 (.bool true) ?_
             refine ops_end ?_
             refine ae [(1, .slice headsa (List.length heads) headscap), (2, .slice valuesa (List.length values) valuescap), (7, .pointer (some ⟨b1_2, 0, none⟩)), (8, .pointer (some ⟨b2_1, 0, none⟩)), (12, .int .i64 v1_12), (13, .int .i64 v1_13), (14, .int .i64 y12_6), (18, .slice e5_18a (List.length e5_18x) e5_18c), (121, .bool true)] ?_
             refine at_round_normal ?_
             exact at_join_mk [(1, .slice headsa (List.length heads) headscap), (2, .slice valuesa (List.length values) valuescap), (7, .pointer (some ⟨b1_2, 0, none⟩)), (8, .pointer (some ⟨b2_1, 0, none⟩)), (12, .int .i64 v1_12), (13, .int .i64 v1_13), (14, .int .i64 y12_6), (18, .slice e5_18a (List.length e5_18x) e5_18c), (121, .bool true)] ((HomeA b2_1 y20_3.2.2.2) :: (IntsA e5_18a e5_18c e5_18x) :: (ImmI a1_1_00 y1_1.init) :: (Asn.own b1_2 (.cells #[.int .i64 y1_1.nodes, .int .i64 y1_1.lines, .int .i64 y1_1.words, .int .i64 y1_1.sets, .int .i64 y1_1.ways, .int .i64 y1_1.out, .int .i64 y1_1.inn, .slice a1_1_00 (List.length y1_1.init) c1_1_00] 26 (0, 0))) :: Γ) ⟨by kernel_rfl, by kernel_rfl, by kernel_rfl, by kernel_rfl, by kernel_rfl, by kernel_rfl, by kernel_rfl, by kernel_rfl, by kernel_rfl, trivial⟩ (fun w hw => (Sat.less (.take (.there (.there .here)) (.take (.there (.there .here)) (.take (.there (.there .here)) (.take (.there (.there .here)) (.drop .here (.drop .here .refl)))))) hw)) ⟨true, H, rfl, rfl⟩
            ·replace H := bifF H h18
             refine sr 118 (.bool false) (run_eq (v := .bool (y20_3.2.1)) (fun _ => by kernel_rfl) (congrArg Value.bool h18)) ?_
             refine sp 119 (.int .i64 y20_3.2.2.1) ?_
             refine sp 120 (.bool (!(decide (y20_3.2.2.1 = (6 : Int))))) ?_
             refine sp 121 (.bool (!(decide (y20_3.2.2.1 = (6 : Int))))) ?_
             refine ops_end ?_
             refine ae [(1, .slice headsa (List.length heads) headscap), (2, .slice valuesa (List.length values) valuescap), (7, .pointer (some ⟨b1_2, 0, none⟩)), (8, .pointer (some ⟨b2_1, 0, none⟩)), (12, .int .i64 v1_12), (13, .int .i64 v1_13), (14, .int .i64 y12_6), (18, .slice e5_18a (List.length e5_18x) e5_18c), (121, .bool (!(decide (y20_3.2.2.1 = (6 : Int)))))] ?_
             refine at_round_normal ?_
             exact at_join_mk [(1, .slice headsa (List.length heads) headscap), (2, .slice valuesa (List.length values) valuescap), (7, .pointer (some ⟨b1_2, 0, none⟩)), (8, .pointer (some ⟨b2_1, 0, none⟩)), (12, .int .i64 v1_12), (13, .int .i64 v1_13), (14, .int .i64 y12_6), (18, .slice e5_18a (List.length e5_18x) e5_18c), (121, .bool (!(decide (y20_3.2.2.1 = (6 : Int)))))] ((HomeA b2_1 y20_3.2.2.2) :: (IntsA e5_18a e5_18c e5_18x) :: (ImmI a1_1_00 y1_1.init) :: (Asn.own b1_2 (.cells #[.int .i64 y1_1.nodes, .int .i64 y1_1.lines, .int .i64 y1_1.words, .int .i64 y1_1.sets, .int .i64 y1_1.ways, .int .i64 y1_1.out, .int .i64 y1_1.inn, .slice a1_1_00 (List.length y1_1.init) c1_1_00] 26 (0, 0))) :: Γ) ⟨by kernel_rfl, by kernel_rfl, by kernel_rfl, by kernel_rfl, by kernel_rfl, by kernel_rfl, by kernel_rfl, by kernel_rfl, by kernel_rfl, trivial⟩ (fun w hw => (Sat.less (.take (.there (.there .here)) (.take (.there (.there .here)) (.take (.there (.there .here)) (.take (.there (.there .here)) (.drop .here (.drop .here .refl)))))) hw)) ⟨!(decide (y20_3.2.2.1 = (6 : Int))), H, rfl, rfl⟩
          ·replace H := bifF H h16
           refine at_false (t := !(decide (y12_6 = v1_12))) (x := C5 [1,1,1,1,1,1,1,0,1,0,0,1,0,0,1,1,1,1,0,1,0]) (y := C5 [1,1,1,1,1,1,1,0,1,0,0,1,0,0,1,1,1,1,0,1,1]) (o := .tmp 108) (by kernel_rfl) (by kernel_rfl) (by kernel_rfl) h16 ?_
           refine at_skip (by kernel_rfl) ?_
           refine at_round_normal ?_
           exact at_join_mk [(1, .slice headsa (List.length heads) headscap), (2, .slice valuesa (List.length values) valuescap), (7, .pointer (some ⟨b1_2, 0, none⟩)), (8, .pointer (some ⟨b2_1, 0, none⟩)), (12, .int .i64 v1_12), (13, .int .i64 v1_13), (14, .int .i64 y12_6), (18, .slice e5_18a (List.length e5_18x) e5_18c)] ((IntsA e5_18a e5_18c e5_18x) :: (HomeA b2_1 y13_4.2.2.2) :: (ImmI a1_1_00 y1_1.init) :: (Asn.own b1_2 (.cells #[.int .i64 y1_1.nodes, .int .i64 y1_1.lines, .int .i64 y1_1.words, .int .i64 y1_1.sets, .int .i64 y1_1.ways, .int .i64 y1_1.out, .int .i64 y1_1.inn, .slice a1_1_00 (List.length y1_1.init) c1_1_00] 26 (0, 0))) :: Γ) ⟨by kernel_rfl, by kernel_rfl, by kernel_rfl, by kernel_rfl, by kernel_rfl, by kernel_rfl, by kernel_rfl, by kernel_rfl, trivial⟩ (fun w hw => (Sat.less (.take .here (.take .here (.take .here (.take .here .refl)))) hw)) ⟨y13_4.2.2.2, H, rfl, rfl⟩
        ·refine aq (x := C5 [1,1,1,1,1,1,1,0,1,0,0,1,0,0,1,1,1,0,0]) (y := C5 [1,1,1,1,1,1,1,0,1,0,0,1,0,0,1,1,1,0,1]) ?_
         refine ar (id := 17) 4 ?_
         refine sp 96 (.int .i64 v1_13) ?_
         refine sp 97 (.slice valuesa (List.length values) valuescap) ?_
         refine sp 98 (.int .i64 (((List.length values) : Nat) : Int)) ?_
         refine sp 99 (.bool (decide (v1_13 < (((List.length values) : Nat) : Int)))) ?_
         refine ops_end ?_
         refine ae [(1, .slice headsa (List.length heads) headscap), (2, .slice valuesa (List.length values) valuescap), (7, .pointer (some ⟨b1_2, 0, none⟩)), (8, .pointer (some ⟨b2_1, 0, none⟩)), (12, .int .i64 v1_12), (13, .int .i64 v1_13), (14, .int .i64 y12_6), (18, .slice (some ⟨b16_2, 0, none⟩) (List.length l16_2) ((y1_1.words).toNat)), (99, .bool (decide (v1_13 < (((List.length values) : Nat) : Int))))] ?_
         refine at_then_normal ?_
         rcases Bool.eq_false_or_eq_true (decide (v1_13 < (((List.length values) : Nat) : Int))) with h19 | h19
         ·replace H := bifT H h19
          refine at_true (t := decide (v1_13 < (((List.length values) : Nat) : Int))) (x := C5 [1,1,1,1,1,1,1,0,1,0,0,1,0,0,1,1,1,0,1,0]) (y := C5 [1,1,1,1,1,1,1,0,1,0,0,1,0,0,1,1,1,0,1,1]) (o := .tmp 99) (by kernel_rfl) (by kernel_rfl) (by kernel_rfl) h19 ?_
          refine ar (id := 18) 7 ?_
          refine sp 100 (.slice (some ⟨b16_2, 0, none⟩) (List.length l16_2) ((y1_1.words).toNat)) ?_
          refine sp 101 (.slice valuesa (List.length values) valuescap) ?_
          refine sp 102 (.int .i64 v1_13) ?_
          obtain ⟨hc18_3_0, H⟩ := chkE H
          refine reads_at (Reads.conv (fun w hw => hw.less (.drop .here (.drop .here (.drop .here (.drop .here .refl))))) hrvaluesa) (by have := hc18_3_0; omega) ?_
          intro bb2 oo2 ha2
          refine sr 103 (.pointer (some ⟨bb2, oo2 + ((v1_13).toNat * 1 + 0), none⟩)) (index_at (t := 22) (sz := 1) (E := 3) (a := valuesa) (m := (List.length values)) (c := valuescap) (b := bb2) (off := oo2) (i := (v1_13).toNat) (tinfo 3) (fun _ => by kernel_rfl) (by kernel_rfl) (by kernel_rfl) (by kernel_rfl) ha2 (idx_cast hc18_3_0) (idx_nat hc18_3_0) rfl) ?_
          refine sl 104 (.int .i64 (nth values v1_13)) (load1_at (off := oo2 + ((v1_13).toNat * 1 + 0)) (v := .int .i64 (nth values v1_13)) (fun _ => by kernel_rfl) rfl (reads_cell (k := 1) (Reads.conv (fun w hw => hw.less (.drop .here (.drop .here (.drop .here (.drop .here .refl))))) hrvaluesa) (ints_rows _) ha2 (nth_row hc18_3_0) (show [(.int .i64 (nth values v1_13) : Value)][0]? = some _ from rfl))) ?_
          obtain ⟨hc18_5_0, H⟩ := chkE H
          refine rows_at .here (by have := hc18_5_0; simp only [ints_length]; omega) ?_
          intro bb3 oo3 ha3
          refine sr 105 (.pointer (some ⟨bb3, oo3 + (((0 : Int)).toNat * 1 + 0), none⟩)) (index_at (t := 22) (sz := 1) (E := 3) (a := some ⟨b16_2, 0, none⟩) (m := (List.length l16_2)) (c := ((y1_1.words).toNat)) (b := bb3) (off := oo3) (i := ((0 : Int)).toNat) (tinfo 3) (fun _ => by kernel_rfl) (by kernel_rfl) (by kernel_rfl) (by kernel_rfl) ha3 (idx_cast hc18_5_0) (idx_nat hc18_5_0) rfl) ?_
          obtain ⟨w18_6, hw18_6, H⟩ := letE H
          refine s_do (by kernel_rfl) (by kernel_rfl) (st_to_int (st_row (k := 1) (off := oo3) (i := ((0 : Int)).toNat) (j := 0) (row := [.int .i64 (nth l16_2 (0 : Int))]) (row' := [.int .i64 (nth values v1_13)]) (vs := [.int .i64 (nth values v1_13)]) (fun _ => by kernel_rfl) .here ha3 (nth_row hc18_5_0) rfl (by kernel_rfl) (by kernel_rfl) rfl)) ?_
          rintro _ _ ⟨rfl, rfl⟩
          have hsw18_6 : w18_6 = List.set l16_2 ((0 : Int)).toNat (nth values v1_13) := hw18_6.symm
          rw [← hsw18_6]
          have hnw18_6 : List.length l16_2 = List.length w18_6 := by rw [hsw18_6]; simp
          rw [hnw18_6]
          refine ops_end ?_
          refine ae [(1, .slice headsa (List.length heads) headscap), (2, .slice valuesa (List.length values) valuescap), (7, .pointer (some ⟨b1_2, 0, none⟩)), (8, .pointer (some ⟨b2_1, 0, none⟩)), (12, .int .i64 v1_12), (13, .int .i64 v1_13), (14, .int .i64 y12_6), (18, .slice (some ⟨b16_2, 0, none⟩) (List.length w18_6) ((y1_1.words).toNat))] ?_
          refine at_round_normal ?_
          exact at_join_mk [(1, .slice headsa (List.length heads) headscap), (2, .slice valuesa (List.length values) valuescap), (7, .pointer (some ⟨b1_2, 0, none⟩)), (8, .pointer (some ⟨b2_1, 0, none⟩)), (12, .int .i64 v1_12), (13, .int .i64 v1_13), (14, .int .i64 y12_6), (18, .slice (some ⟨b16_2, 0, none⟩) (List.length w18_6) ((y1_1.words).toNat))] ((IntsA (some ⟨b16_2, 0, none⟩) ((y1_1.words).toNat) w18_6) :: (HomeA b2_1 y13_4.2.2.2) :: (ImmI a1_1_00 y1_1.init) :: (Asn.own b1_2 (.cells #[.int .i64 y1_1.nodes, .int .i64 y1_1.lines, .int .i64 y1_1.words, .int .i64 y1_1.sets, .int .i64 y1_1.ways, .int .i64 y1_1.out, .int .i64 y1_1.inn, .slice a1_1_00 (List.length y1_1.init) c1_1_00] 26 (0, 0))) :: Γ) ⟨by kernel_rfl, by kernel_rfl, by kernel_rfl, by kernel_rfl, by kernel_rfl, by kernel_rfl, by kernel_rfl, by kernel_rfl, trivial⟩ (fun w hw => (Sat.less (.take .here (.take .here (.take .here (.take .here .refl)))) hw)) ⟨w18_6, some ⟨b16_2, 0, none⟩, ((y1_1.words).toNat), H, rfl, rfl⟩
         ·replace H := bifF H h19
          refine at_false (t := decide (v1_13 < (((List.length values) : Nat) : Int))) (x := C5 [1,1,1,1,1,1,1,0,1,0,0,1,0,0,1,1,1,0,1,0]) (y := C5 [1,1,1,1,1,1,1,0,1,0,0,1,0,0,1,1,1,0,1,1]) (o := .tmp 99) (by kernel_rfl) (by kernel_rfl) (by kernel_rfl) h19 ?_
          refine at_skip (by kernel_rfl) ?_
          refine at_round_normal ?_
          exact at_join_mk [(1, .slice headsa (List.length heads) headscap), (2, .slice valuesa (List.length values) valuescap), (7, .pointer (some ⟨b1_2, 0, none⟩)), (8, .pointer (some ⟨b2_1, 0, none⟩)), (12, .int .i64 v1_12), (13, .int .i64 v1_13), (14, .int .i64 y12_6), (18, .slice (some ⟨b16_2, 0, none⟩) (List.length l16_2) ((y1_1.words).toNat))] ((IntsA (some ⟨b16_2, 0, none⟩) ((y1_1.words).toNat) l16_2) :: (HomeA b2_1 y13_4.2.2.2) :: (ImmI a1_1_00 y1_1.init) :: (Asn.own b1_2 (.cells #[.int .i64 y1_1.nodes, .int .i64 y1_1.lines, .int .i64 y1_1.words, .int .i64 y1_1.sets, .int .i64 y1_1.ways, .int .i64 y1_1.out, .int .i64 y1_1.inn, .slice a1_1_00 (List.length y1_1.init) c1_1_00] 26 (0, 0))) :: Γ) ⟨by kernel_rfl, by kernel_rfl, by kernel_rfl, by kernel_rfl, by kernel_rfl, by kernel_rfl, by kernel_rfl, by kernel_rfl, trivial⟩ (fun w hw => (Sat.less (.take .here (.take .here (.take .here (.take .here .refl)))) hw)) ⟨l16_2, some ⟨b16_2, 0, none⟩, ((y1_1.words).toNat), H, rfl, rfl⟩
      ·refine ar (id := 14) 9 ?_
       refine sp 84 (.bool y13_4.2.1) ?_
       rcases Bool.eq_false_or_eq_true (y13_4.2.1) with h20 | h20
       ·replace H := bifT H h20
        refine sr 85 (.bool true) (run_eq (v := .bool (y13_4.2.1)) (fun _ => by kernel_rfl) (congrArg Value.bool h20)) ?_
        refine sa 86 ?_
        refine sa 87 ?_
        refine sp 88 (.bool true) ?_
        refine sp 89 (.bool true) ?_
        refine sa 90 ?_
        refine sa 91 ?_
        refine sp 92 (.bool true) ?_
        refine ops_end ?_
        refine ae [(1, .slice headsa (List.length heads) headscap), (2, .slice valuesa (List.length values) valuescap), (7, .pointer (some ⟨b1_2, 0, none⟩)), (8, .pointer (some ⟨b2_1, 0, none⟩)), (12, .int .i64 v1_12), (13, .int .i64 v1_13), (14, .int .i64 y12_6), (92, .bool true)] ?_
        refine at_round_normal ?_
        exact at_join_mk [(1, .slice headsa (List.length heads) headscap), (2, .slice valuesa (List.length values) valuescap), (7, .pointer (some ⟨b1_2, 0, none⟩)), (8, .pointer (some ⟨b2_1, 0, none⟩)), (12, .int .i64 v1_12), (13, .int .i64 v1_13), (14, .int .i64 y12_6), (92, .bool true)] ((HomeA b2_1 y13_4.2.2.2) :: (ImmI a1_1_00 y1_1.init) :: (Asn.own b1_2 (.cells #[.int .i64 y1_1.nodes, .int .i64 y1_1.lines, .int .i64 y1_1.words, .int .i64 y1_1.sets, .int .i64 y1_1.ways, .int .i64 y1_1.out, .int .i64 y1_1.inn, .slice a1_1_00 (List.length y1_1.init) c1_1_00] 26 (0, 0))) :: Γ) ⟨by kernel_rfl, by kernel_rfl, by kernel_rfl, by kernel_rfl, by kernel_rfl, by kernel_rfl, by kernel_rfl, by kernel_rfl, trivial⟩ (fun w hw => (Sat.less (.take (.there (.there .here)) (.take (.there (.there .here)) (.take (.there (.there .here)) (.drop .here (.drop .here .refl))))) hw)) ⟨true, H, rfl, rfl⟩
       ·replace H := bifF H h20
        refine sr 85 (.bool false) (run_eq (v := .bool (y13_4.2.1)) (fun _ => by kernel_rfl) (congrArg Value.bool h20)) ?_
        refine sp 86 (.int .i64 y13_4.2.2.1) ?_
        refine sp 87 (.bool (!(decide (y13_4.2.2.1 = (0 : Int))))) ?_
        refine sp 88 (.bool (!(decide (y13_4.2.2.1 = (0 : Int))))) ?_
        rcases Bool.eq_false_or_eq_true (!(decide (y13_4.2.2.1 = (0 : Int)))) with h21 | h21
        ·replace H := bifT H h21
         refine sr 89 (.bool true) (run_eq (v := .bool (!(decide (y13_4.2.2.1 = (0 : Int))))) (fun _ => by kernel_rfl) (congrArg Value.bool h21)) ?_
         refine sa 90 ?_
         refine sa 91 ?_
         refine sp 92 (.bool true) ?_
         refine ops_end ?_
         refine ae [(1, .slice headsa (List.length heads) headscap), (2, .slice valuesa (List.length values) valuescap), (7, .pointer (some ⟨b1_2, 0, none⟩)), (8, .pointer (some ⟨b2_1, 0, none⟩)), (12, .int .i64 v1_12), (13, .int .i64 v1_13), (14, .int .i64 y12_6), (92, .bool true)] ?_
         refine at_round_normal ?_
         exact at_join_mk [(1, .slice headsa (List.length heads) headscap), (2, .slice valuesa (List.length values) valuescap), (7, .pointer (some ⟨b1_2, 0, none⟩)), (8, .pointer (some ⟨b2_1, 0, none⟩)), (12, .int .i64 v1_12), (13, .int .i64 v1_13), (14, .int .i64 y12_6), (92, .bool true)] ((HomeA b2_1 y13_4.2.2.2) :: (ImmI a1_1_00 y1_1.init) :: (Asn.own b1_2 (.cells #[.int .i64 y1_1.nodes, .int .i64 y1_1.lines, .int .i64 y1_1.words, .int .i64 y1_1.sets, .int .i64 y1_1.ways, .int .i64 y1_1.out, .int .i64 y1_1.inn, .slice a1_1_00 (List.length y1_1.init) c1_1_00] 26 (0, 0))) :: Γ) ⟨by kernel_rfl, by kernel_rfl, by kernel_rfl, by kernel_rfl, by kernel_rfl, by kernel_rfl, by kernel_rfl, by kernel_rfl, trivial⟩ (fun w hw => (Sat.less (.take (.there (.there .here)) (.take (.there (.there .here)) (.take (.there (.there .here)) (.drop .here (.drop .here .refl))))) hw)) ⟨true, H, rfl, rfl⟩
        ·replace H := bifF H h21
         refine sr 89 (.bool false) (run_eq (v := .bool (!(decide (y13_4.2.2.1 = (0 : Int))))) (fun _ => by kernel_rfl) (congrArg Value.bool h21)) ?_
         refine sp 90 (.pointer (some ⟨b2_1, 0, none⟩)) ?_
         obtain ⟨y14_7, hy14_7, H⟩ := bindE H
         refine s_call 91 13 #[.pointer (some ⟨b2_1, 0, none⟩)] (by kernel_rfl) (by kernel_rfl) (fun _ => by kernel_rfl) (Tr.conv (Γ' := (HomeA b2_1 y13_4.2.2.2) :: (Asn.own b13_9 (.cells #[.int .i64 y13_4.1.kind, .int .i64 y13_4.1.src, .int .i64 y13_4.1.dst, .int .i64 y13_4.1.id, .int .i64 y13_4.1.line, .int .i64 y13_4.1.ptr, .int .i64 y13_4.1.state, .bool y13_4.1.flag, .slice a13_4_00 (List.length y13_4.1.data) c13_4_00] 32 (0, 0))) :: (IntsA a13_4_00 c13_4_00 y13_4.1.data) :: (ImmI a1_1_00 y1_1.init) :: (Asn.own b1_2 (.cells #[.int .i64 y1_1.nodes, .int .i64 y1_1.lines, .int .i64 y1_1.words, .int .i64 y1_1.sets, .int .i64 y1_1.ways, .int .i64 y1_1.out, .int .i64 y1_1.inn, .slice a1_1_00 (List.length y1_1.init) c1_1_00] 26 (0, 0))) :: Γ) (fun w hw => (Sat.less (.take (.there (.there .here)) (.take .here (.take .here (.take .here (.take .here .refl))))) hw)) (HPendingF_tr b2_1 y13_4.2.2.2 y14_7 hy14_7)) ?_
         rintro _ _ ⟨rfl, rfl⟩
         refine sp 92 (.bool y14_7) ?_
         refine ops_end ?_
         refine ae [(1, .slice headsa (List.length heads) headscap), (2, .slice valuesa (List.length values) valuescap), (7, .pointer (some ⟨b1_2, 0, none⟩)), (8, .pointer (some ⟨b2_1, 0, none⟩)), (12, .int .i64 v1_12), (13, .int .i64 v1_13), (14, .int .i64 y12_6), (92, .bool y14_7)] ?_
         refine at_round_normal ?_
         exact at_join_mk [(1, .slice headsa (List.length heads) headscap), (2, .slice valuesa (List.length values) valuescap), (7, .pointer (some ⟨b1_2, 0, none⟩)), (8, .pointer (some ⟨b2_1, 0, none⟩)), (12, .int .i64 v1_12), (13, .int .i64 v1_13), (14, .int .i64 y12_6), (92, .bool y14_7)] ((HomeA b2_1 y13_4.2.2.2) :: (ImmI a1_1_00 y1_1.init) :: (Asn.own b1_2 (.cells #[.int .i64 y1_1.nodes, .int .i64 y1_1.lines, .int .i64 y1_1.words, .int .i64 y1_1.sets, .int .i64 y1_1.ways, .int .i64 y1_1.out, .int .i64 y1_1.inn, .slice a1_1_00 (List.length y1_1.init) c1_1_00] 26 (0, 0))) :: Γ) ⟨by kernel_rfl, by kernel_rfl, by kernel_rfl, by kernel_rfl, by kernel_rfl, by kernel_rfl, by kernel_rfl, by kernel_rfl, trivial⟩ (fun w hw => (Sat.less (.take .here (.take (.there (.there .here)) (.take (.there (.there .here)) (.drop .here (.drop .here .refl))))) hw)) ⟨y14_7, H, rfl, rfl⟩
    ·replace H := bifF H h2
     refine at_false (t := e2_65) (x := C5 [1,1,1,1,1,1,1,0,1,0,0,0,1,0]) (y := C5 [1,1,1,1,1,1,1,0,1,0,0,0,1,1]) (o := .tmp 65) (by kernel_rfl) (by kernel_rfl) (by kernel_rfl) h2 ?_
     refine at_exit (i := 0) (by kernel_rfl) ?_
     refine at_then_exit ?_
     refine at_then_exit ?_
     rw [homeAloneS_k1] at H
     refine ae [(1, .slice headsa (List.length heads) headscap), (2, .slice valuesa (List.length values) valuescap), (7, .pointer (some ⟨b1_2, 0, none⟩)), (8, .pointer (some ⟨b2_1, 0, none⟩)), (12, .int .i64 v1_12), (13, .int .i64 v1_13)] ?_
     refine At.conv (Γ' := (HomeA b2_1 v1_b2_1) :: (ImmI a1_1_00 y1_1.init) :: (Asn.own b1_2 (.cells #[.int .i64 y1_1.nodes, .int .i64 y1_1.lines, .int .i64 y1_1.words, .int .i64 y1_1.sets, .int .i64 y1_1.ways, .int .i64 y1_1.out, .int .i64 y1_1.inn, .slice a1_1_00 (List.length y1_1.init) c1_1_00] 26 (0, 0))) :: Γ) (fun w hw => (Sat.less (.take .here (.take .here (.take .here .refl))) hw)) ?_
     refine at_in_here ?_
     refine at_then_normal ?_
     refine aq (x := C5 [1,1,1,1,1,1,1,1,0]) (y := C5 [1,1,1,1,1,1,1,1,1]) ?_
     refine ar (id := 30) 8 ?_
     refine sp 203 (.pointer (some ⟨b2_1, 0, none⟩)) ?_
     obtain ⟨y30_1, hy30_1, H⟩ := bindE H
     refine s_call 204 16 #[.pointer (some ⟨b2_1, 0, none⟩)] (by kernel_rfl) (by kernel_rfl) (fun _ => by kernel_rfl) (HGrantF_tr b2_1 v1_b2_1 y30_1 hy30_1) ?_
     rintro _ _ ⟨a30_1_00, c30_1_00, rfl, rfl⟩
     refine sp 202 (.tuple #[.agg #[.int .i64 y30_1.1.kind, .int .i64 y30_1.1.src, .int .i64 y30_1.1.dst, .int .i64 y30_1.1.id, .int .i64 y30_1.1.line, .int .i64 y30_1.1.ptr, .int .i64 y30_1.1.state, .bool y30_1.1.flag, .slice a30_1_00 (List.length y30_1.1.data) c30_1_00], .bool y30_1.2.1]) ?_
     refine sp 205 (.agg #[.int .i64 y30_1.1.kind, .int .i64 y30_1.1.src, .int .i64 y30_1.1.dst, .int .i64 y30_1.1.id, .int .i64 y30_1.1.line, .int .i64 y30_1.1.ptr, .int .i64 y30_1.1.state, .bool y30_1.1.flag, .slice a30_1_00 (List.length y30_1.1.data) c30_1_00]) ?_
     refine sp 206 (.bool y30_1.2.1) ?_
     refine s_step 27 (by kernel_rfl) (by kernel_rfl) (st_new (T := 32) (cells := #[.int .i64 (0), .int .i64 (0), .int .i64 (0), .int .i64 (0), .int .i64 (0), .int .i64 (0), .int .i64 (0), .bool false, .slice none 0 0]) (fun a => .pointer (some a)) (fun _ => by kernel_rfl)) ?_
     rintro _ _ ⟨b30_5, rfl, rfl⟩
     refine s_do (by kernel_rfl) (by kernel_rfl) (st_store (off := 0) (vs := [.int .i64 y30_1.1.kind, .int .i64 y30_1.1.src, .int .i64 y30_1.1.dst, .int .i64 y30_1.1.id, .int .i64 y30_1.1.line, .int .i64 y30_1.1.ptr, .int .i64 y30_1.1.state, .bool y30_1.1.flag, .slice a30_1_00 (List.length y30_1.1.data) c30_1_00]) (c' := #[.int .i64 y30_1.1.kind, .int .i64 y30_1.1.src, .int .i64 y30_1.1.dst, .int .i64 y30_1.1.id, .int .i64 y30_1.1.line, .int .i64 y30_1.1.ptr, .int .i64 y30_1.1.state, .bool y30_1.1.flag, .slice a30_1_00 (List.length y30_1.1.data) c30_1_00]) (fun _ => by kernel_rfl) .here (by kernel_rfl) (by kernel_rfl) (by kernel_rfl)) ?_
     rintro _ _ ⟨rfl, rfl⟩
     refine sp 28 (.bool y30_1.2.1) ?_
     refine ops_end ?_
     refine ae [(8, .pointer (some ⟨b2_1, 0, none⟩)), (28, .bool y30_1.2.1)] ?_
     refine at_then_normal ?_
     refine aq (x := C5 [1,1,1,1,1,1,1,1,1,0]) (y := C5 [1,1,1,1,1,1,1,1,1,1]) ?_
     refine ar (id := 31) 14 ?_
     refine sp 207 (.bool y30_1.2.1) ?_
     refine sp 208 (.bool !y30_1.2.1) ?_
     rcases Bool.eq_false_or_eq_true (!y30_1.2.1) with h22 | h22
     ·replace H := bifT H h22
      refine sr 209 (.bool true) (run_eq (v := .bool (!y30_1.2.1)) (fun _ => by kernel_rfl) (congrArg Value.bool h22)) ?_
      refine sp 210 (.pointer (some ⟨b2_1, 0, none⟩)) ?_
      refine sp 211 (.pointer (some ⟨b2_1, 0, none⟩)) ?_
      refine sp 212 (.pointer (some ⟨b2_1, 1, none⟩)) ?_
      refine HomeA.tox (.there (.there .here)) ?_
      intro x31_6_b2_1
      refine HomeXA.open .here ?_
      refine sl 213 (.pointer (some ⟨x31_6_b2_1.b1, 0, none⟩)) (load1 (off := 1) (fun _ => by kernel_rfl) (holds_own .here) (by kernel_rfl)) ?_
      obtain ⟨y31_7, hy31_7, H⟩ := bindE H
      refine s_call 214 12 #[.pointer (some ⟨x31_6_b2_1.b1, 0, none⟩), .int .i64 (0)] (by kernel_rfl) (by kernel_rfl) (fun _ => by kernel_rfl) (Tr.conv (Γ' := (TurnsA x31_6_b2_1.b1 y30_1.2.2.turns) :: (Asn.own b2_1 (.cells #[.pointer (some ⟨x31_6_b2_1.b0, 0, none⟩), .pointer (some ⟨x31_6_b2_1.b1, 0, none⟩), .int .i64 y30_1.2.2.c.nodes, .int .i64 y30_1.2.2.c.lines, .int .i64 y30_1.2.2.c.words, .int .i64 y30_1.2.2.c.sets, .int .i64 y30_1.2.2.c.ways, .int .i64 y30_1.2.2.c.out, .int .i64 y30_1.2.2.c.inn, .slice x31_6_b2_1.a9 (List.length y30_1.2.2.c.init) x31_6_b2_1.c9, .int .i64 y30_1.2.2.node] x31_6_b2_1.T (0, 0))) :: (DirA x31_6_b2_1.b0 y30_1.2.2.dir) :: (ImmI x31_6_b2_1.a9 y30_1.2.2.c.init) :: (Asn.own b30_5 (.cells #[.int .i64 y30_1.1.kind, .int .i64 y30_1.1.src, .int .i64 y30_1.1.dst, .int .i64 y30_1.1.id, .int .i64 y30_1.1.line, .int .i64 y30_1.1.ptr, .int .i64 y30_1.1.state, .bool y30_1.1.flag, .slice a30_1_00 (List.length y30_1.1.data) c30_1_00] 32 (0, 0))) :: (IntsA a30_1_00 c30_1_00 y30_1.1.data) :: (ImmI a1_1_00 y1_1.init) :: (Asn.own b1_2 (.cells #[.int .i64 y1_1.nodes, .int .i64 y1_1.lines, .int .i64 y1_1.words, .int .i64 y1_1.sets, .int .i64 y1_1.ways, .int .i64 y1_1.out, .int .i64 y1_1.inn, .slice a1_1_00 (List.length y1_1.init) c1_1_00] 26 (0, 0))) :: Γ) (fun w hw => (Sat.less (.take (.there (.there .here)) (.take .here (.take .here (.take .here (.take .here (.take .here (.take .here (.take .here .refl)))))))) hw)) (TWaitingF_tr x31_6_b2_1.b1 y30_1.2.2.turns (0 : Int) y31_7 hy31_7)) ?_
      rintro _ _ ⟨rfl, rfl⟩
      refine sp 215 (.bool (decide (y31_7 = (0 : Int)))) ?_
      refine sp 216 (.bool (decide (y31_7 = (0 : Int)))) ?_
      rcases Bool.eq_false_or_eq_true (decide (y31_7 = (0 : Int))) with h23 | h23
      ·replace H := bifT H h23
       refine sr 217 (.bool true) (run_eq (v := .bool (decide (y31_7 = (0 : Int)))) (fun _ => by kernel_rfl) (congrArg Value.bool h23)) ?_
       obtain ⟨y31_11, hy31_11, H⟩ := bindE H
       refine s_call 218 14 #[] (by kernel_rfl) (by kernel_rfl) (fun _ => by kernel_rfl) (W11F_tr  y31_11 hy31_11) ?_
       rintro _ _ ⟨rfl, rfl⟩
       refine sp 219 (.bool y31_11) ?_
       refine sp 6 (.bool y31_11) ?_
       refine ops_end ?_
       refine ae [(6, .bool y31_11)] ?_
       refine at_then_normal ?_
       refine at_ret (by kernel_rfl) ?_
       refine At.conv (Γ' := (HomeXA b2_1 x31_6_b2_1 y30_1.2.2) :: (ImmI x31_6_b2_1.a9 y30_1.2.2.c.init) :: (Asn.own b30_5 (.cells #[.int .i64 y30_1.1.kind, .int .i64 y30_1.1.src, .int .i64 y30_1.1.dst, .int .i64 y30_1.1.id, .int .i64 y30_1.1.line, .int .i64 y30_1.1.ptr, .int .i64 y30_1.1.state, .bool y30_1.1.flag, .slice a30_1_00 (List.length y30_1.1.data) c30_1_00] 32 (0, 0))) :: (IntsA a30_1_00 c30_1_00 y30_1.1.data) :: (ImmI a1_1_00 y1_1.init) :: (Asn.own b1_2 (.cells #[.int .i64 y1_1.nodes, .int .i64 y1_1.lines, .int .i64 y1_1.words, .int .i64 y1_1.sets, .int .i64 y1_1.ways, .int .i64 y1_1.out, .int .i64 y1_1.inn, .slice a1_1_00 (List.length y1_1.init) c1_1_00] 26 (0, 0))) :: Γ) (fun w hw => HomeXA.close (x := x31_6_b2_1) (t := y30_1.2.2) (Sat.less (.take (.there (.there (.there .here))) (.take (.there (.there (.there .here))) (.take (.there (.there .here)) (.take .here (.take .here (.take .here (.take .here (.take .here (.take .here .refl))))))))) (ImmR.dup (Sat.less (.take (.there (.there (.there .here))) (.take .here (.take .here (.take .here (.take .here (.take .here (.take .here (.take .here .refl)))))))) hw)))) ?_
       refine At.conv (Γ' := (HomeA b2_1 y30_1.2.2) :: (ImmI x31_6_b2_1.a9 y30_1.2.2.c.init) :: (Asn.own b30_5 (.cells #[.int .i64 y30_1.1.kind, .int .i64 y30_1.1.src, .int .i64 y30_1.1.dst, .int .i64 y30_1.1.id, .int .i64 y30_1.1.line, .int .i64 y30_1.1.ptr, .int .i64 y30_1.1.state, .bool y30_1.1.flag, .slice a30_1_00 (List.length y30_1.1.data) c30_1_00] 32 (0, 0))) :: (IntsA a30_1_00 c30_1_00 y30_1.1.data) :: (ImmI a1_1_00 y1_1.init) :: (Asn.own b1_2 (.cells #[.int .i64 y1_1.nodes, .int .i64 y1_1.lines, .int .i64 y1_1.words, .int .i64 y1_1.sets, .int .i64 y1_1.ways, .int .i64 y1_1.out, .int .i64 y1_1.inn, .slice a1_1_00 (List.length y1_1.init) c1_1_00] 26 (0, 0))) :: Γ) (fun w hw => HomeXA.shut (hw.pull .here)) ?_
       obtain rfl := someE H
       refine at_backR [.bool y31_11] (Γ) (rs := [.tmp 6]) (by kernel_rfl) (.cons (.tmp (by kernel_rfl)) .nil) (fun w hw => (Sat.less (.drop .here (.drop .here (.drop .here (.drop .here (.drop .here (.drop .here .refl)))))) hw)) ?_
       exact ⟨rfl, rfl⟩
      ·replace H := bifF H h23
       refine sr 217 (.bool false) (run_eq (v := .bool (decide (y31_7 = (0 : Int)))) (fun _ => by kernel_rfl) (congrArg Value.bool h23)) ?_
       refine sa 218 ?_
       refine sp 219 (.bool false) ?_
       refine sp 6 (.bool false) ?_
       refine ops_end ?_
       refine ae [(6, .bool false)] ?_
       refine at_then_normal ?_
       refine at_ret (by kernel_rfl) ?_
       refine At.conv (Γ' := (HomeXA b2_1 x31_6_b2_1 y30_1.2.2) :: (ImmI x31_6_b2_1.a9 y30_1.2.2.c.init) :: (Asn.own b30_5 (.cells #[.int .i64 y30_1.1.kind, .int .i64 y30_1.1.src, .int .i64 y30_1.1.dst, .int .i64 y30_1.1.id, .int .i64 y30_1.1.line, .int .i64 y30_1.1.ptr, .int .i64 y30_1.1.state, .bool y30_1.1.flag, .slice a30_1_00 (List.length y30_1.1.data) c30_1_00] 32 (0, 0))) :: (IntsA a30_1_00 c30_1_00 y30_1.1.data) :: (ImmI a1_1_00 y1_1.init) :: (Asn.own b1_2 (.cells #[.int .i64 y1_1.nodes, .int .i64 y1_1.lines, .int .i64 y1_1.words, .int .i64 y1_1.sets, .int .i64 y1_1.ways, .int .i64 y1_1.out, .int .i64 y1_1.inn, .slice a1_1_00 (List.length y1_1.init) c1_1_00] 26 (0, 0))) :: Γ) (fun w hw => HomeXA.close (x := x31_6_b2_1) (t := y30_1.2.2) (Sat.less (.take (.there (.there (.there .here))) (.take (.there (.there (.there .here))) (.take (.there (.there .here)) (.take .here (.take .here (.take .here (.take .here (.take .here (.take .here .refl))))))))) (ImmR.dup (Sat.less (.take (.there (.there (.there .here))) (.take .here (.take .here (.take .here (.take .here (.take .here (.take .here (.take .here .refl)))))))) hw)))) ?_
       refine At.conv (Γ' := (HomeA b2_1 y30_1.2.2) :: (ImmI x31_6_b2_1.a9 y30_1.2.2.c.init) :: (Asn.own b30_5 (.cells #[.int .i64 y30_1.1.kind, .int .i64 y30_1.1.src, .int .i64 y30_1.1.dst, .int .i64 y30_1.1.id, .int .i64 y30_1.1.line, .int .i64 y30_1.1.ptr, .int .i64 y30_1.1.state, .bool y30_1.1.flag, .slice a30_1_00 (List.length y30_1.1.data) c30_1_00] 32 (0, 0))) :: (IntsA a30_1_00 c30_1_00 y30_1.1.data) :: (ImmI a1_1_00 y1_1.init) :: (Asn.own b1_2 (.cells #[.int .i64 y1_1.nodes, .int .i64 y1_1.lines, .int .i64 y1_1.words, .int .i64 y1_1.sets, .int .i64 y1_1.ways, .int .i64 y1_1.out, .int .i64 y1_1.inn, .slice a1_1_00 (List.length y1_1.init) c1_1_00] 26 (0, 0))) :: Γ) (fun w hw => HomeXA.shut (hw.pull .here)) ?_
       obtain rfl := someE H
       refine at_backR [.bool false] (Γ) (rs := [.tmp 6]) (by kernel_rfl) (.cons (.tmp (by kernel_rfl)) .nil) (fun w hw => (Sat.less (.drop .here (.drop .here (.drop .here (.drop .here (.drop .here (.drop .here .refl)))))) hw)) ?_
       exact ⟨rfl, rfl⟩
     ·replace H := bifF H h22
      refine sr 209 (.bool false) (run_eq (v := .bool (!y30_1.2.1)) (fun _ => by kernel_rfl) (congrArg Value.bool h22)) ?_
      refine sa 210 ?_
      refine sa 211 ?_
      refine sa 212 ?_
      refine sa 213 ?_
      refine sa 214 ?_
      refine sa 215 ?_
      refine sp 216 (.bool false) ?_
      refine sp 217 (.bool false) ?_
      refine sa 218 ?_
      refine sp 219 (.bool false) ?_
      refine sp 6 (.bool false) ?_
      refine ops_end ?_
      refine ae [(6, .bool false)] ?_
      refine at_then_normal ?_
      refine at_ret (by kernel_rfl) ?_
      obtain rfl := someE H
      refine at_backR [.bool false] (Γ) (rs := [.tmp 6]) (by kernel_rfl) (.cons (.tmp (by kernel_rfl)) .nil) (fun w hw => (Sat.less (.drop .here (.drop .here (.drop .here (.drop .here (.drop .here .refl))))) hw)) ?_
      exact ⟨rfl, rfl⟩
   ·refine ar (id := 10) 8 ?_
    refine sp 58 (.int .i64 v1_13) ?_
    refine sp 59 (.slice headsa (List.length heads) headscap) ?_
    refine sp 60 (.int .i64 (((List.length heads) : Nat) : Int)) ?_
    refine sp 61 (.bool (decide (v1_13 < (((List.length heads) : Nat) : Int)))) ?_
    rcases Bool.eq_false_or_eq_true (decide (v1_13 < (((List.length heads) : Nat) : Int))) with h24 | h24
    ·replace H := bifT H h24
     refine sr 62 (.bool true) (run_eq (v := .bool (decide (v1_13 < (((List.length heads) : Nat) : Int)))) (fun _ => by kernel_rfl) (congrArg Value.bool h24)) ?_
     refine sp 63 (.int .i64 v1_13) ?_
     refine sp 64 (.bool (decide (v1_13 < (8 : Int)))) ?_
     refine sp 65 (.bool (decide (v1_13 < (8 : Int)))) ?_
     refine ops_end ?_
     refine ae [(1, .slice headsa (List.length heads) headscap), (2, .slice valuesa (List.length values) valuescap), (7, .pointer (some ⟨b1_2, 0, none⟩)), (8, .pointer (some ⟨b2_1, 0, none⟩)), (12, .int .i64 v1_12), (13, .int .i64 v1_13), (65, .bool (decide (v1_13 < (8 : Int))))] ?_
     refine at_round_normal ?_
     exact at_join_mk [(1, .slice headsa (List.length heads) headscap), (2, .slice valuesa (List.length values) valuescap), (7, .pointer (some ⟨b1_2, 0, none⟩)), (8, .pointer (some ⟨b2_1, 0, none⟩)), (12, .int .i64 v1_12), (13, .int .i64 v1_13), (65, .bool (decide (v1_13 < (8 : Int))))] ((HomeA b2_1 v1_b2_1) :: (ImmI a1_1_00 y1_1.init) :: (Asn.own b1_2 (.cells #[.int .i64 y1_1.nodes, .int .i64 y1_1.lines, .int .i64 y1_1.words, .int .i64 y1_1.sets, .int .i64 y1_1.ways, .int .i64 y1_1.out, .int .i64 y1_1.inn, .slice a1_1_00 (List.length y1_1.init) c1_1_00] 26 (0, 0))) :: Γ) ⟨by kernel_rfl, by kernel_rfl, by kernel_rfl, by kernel_rfl, by kernel_rfl, by kernel_rfl, by kernel_rfl, trivial⟩ (fun w hw => (Sat.less (.take .here (.take .here (.take .here .refl))) hw)) ⟨decide (v1_13 < (8 : Int)), H, rfl, rfl⟩
    ·replace H := bifF H h24
     refine sr 62 (.bool false) (run_eq (v := .bool (decide (v1_13 < (((List.length heads) : Nat) : Int)))) (fun _ => by kernel_rfl) (congrArg Value.bool h24)) ?_
     refine sa 63 ?_
     refine sa 64 ?_
     refine sp 65 (.bool false) ?_
     refine ops_end ?_
     refine ae [(1, .slice headsa (List.length heads) headscap), (2, .slice valuesa (List.length values) valuescap), (7, .pointer (some ⟨b1_2, 0, none⟩)), (8, .pointer (some ⟨b2_1, 0, none⟩)), (12, .int .i64 v1_12), (13, .int .i64 v1_13), (65, .bool false)] ?_
     refine at_round_normal ?_
     exact at_join_mk [(1, .slice headsa (List.length heads) headscap), (2, .slice valuesa (List.length values) valuescap), (7, .pointer (some ⟨b1_2, 0, none⟩)), (8, .pointer (some ⟨b2_1, 0, none⟩)), (12, .int .i64 v1_12), (13, .int .i64 v1_13), (65, .bool false)] ((HomeA b2_1 v1_b2_1) :: (ImmI a1_1_00 y1_1.init) :: (Asn.own b1_2 (.cells #[.int .i64 y1_1.nodes, .int .i64 y1_1.lines, .int .i64 y1_1.words, .int .i64 y1_1.sets, .int .i64 y1_1.ways, .int .i64 y1_1.out, .int .i64 y1_1.inn, .slice a1_1_00 (List.length y1_1.init) c1_1_00] 26 (0, 0))) :: Γ) ⟨by kernel_rfl, by kernel_rfl, by kernel_rfl, by kernel_rfl, by kernel_rfl, by kernel_rfl, by kernel_rfl, trivial⟩ (fun w hw => (Sat.less (.take .here (.take .here (.take .here .refl))) hw)) ⟨false, H, rfl, rfl⟩
 ·refine ar (id := 6) 16 ?_
  refine sp 42 (.bool y5_2.2.1) ?_
  refine sp 43 (.bool !y5_2.2.1) ?_
  rcases Bool.eq_false_or_eq_true (!y5_2.2.1) with h25 | h25
  ·replace H := bifT H h25
   refine sr 44 (.bool true) (run_eq (v := .bool (!y5_2.2.1)) (fun _ => by kernel_rfl) (congrArg Value.bool h25)) ?_
   refine sa 45 ?_
   refine sa 46 ?_
   refine sp 47 (.bool true) ?_
   refine sp 48 (.bool true) ?_
   refine sa 49 ?_
   refine sa 50 ?_
   refine sa 51 ?_
   refine sp 52 (.bool true) ?_
   refine sp 53 (.bool true) ?_
   refine sa 54 ?_
   refine sa 55 ?_
   refine sa 56 ?_
   refine sp 57 (.bool true) ?_
   refine ops_end ?_
   refine ae [(1, .slice headsa (List.length heads) headscap), (2, .slice valuesa (List.length values) valuescap), (7, .pointer (some ⟨b1_2, 0, none⟩)), (8, .pointer (some ⟨b2_1, 0, none⟩)), (57, .bool true)] ?_
   refine at_round_normal ?_
   exact at_join_mk [(1, .slice headsa (List.length heads) headscap), (2, .slice valuesa (List.length values) valuescap), (7, .pointer (some ⟨b1_2, 0, none⟩)), (8, .pointer (some ⟨b2_1, 0, none⟩)), (57, .bool true)] ((HomeA b2_1 y5_2.2.2.2) :: (ImmI a1_1_00 y1_1.init) :: (Asn.own b1_2 (.cells #[.int .i64 y1_1.nodes, .int .i64 y1_1.lines, .int .i64 y1_1.words, .int .i64 y1_1.sets, .int .i64 y1_1.ways, .int .i64 y1_1.out, .int .i64 y1_1.inn, .slice a1_1_00 (List.length y1_1.init) c1_1_00] 26 (0, 0))) :: Γ) ⟨by kernel_rfl, by kernel_rfl, by kernel_rfl, by kernel_rfl, by kernel_rfl, trivial⟩ (fun w hw => (Sat.less (.take (.there (.there .here)) (.take (.there (.there .here)) (.take (.there (.there .here)) (.drop .here (.drop .here (.drop .here .refl)))))) hw)) ⟨true, H, rfl, rfl⟩
  ·replace H := bifF H h25
   refine sr 44 (.bool false) (run_eq (v := .bool (!y5_2.2.1)) (fun _ => by kernel_rfl) (congrArg Value.bool h25)) ?_
   refine sp 45 (.int .i64 y5_2.2.2.1) ?_
   refine sp 46 (.bool (!(decide (y5_2.2.2.1 = (0 : Int))))) ?_
   refine sp 47 (.bool (!(decide (y5_2.2.2.1 = (0 : Int))))) ?_
   rcases Bool.eq_false_or_eq_true (!(decide (y5_2.2.2.1 = (0 : Int)))) with h26 | h26
   ·replace H := bifT H h26
    refine sr 48 (.bool true) (run_eq (v := .bool (!(decide (y5_2.2.2.1 = (0 : Int))))) (fun _ => by kernel_rfl) (congrArg Value.bool h26)) ?_
    refine sa 49 ?_
    refine sa 50 ?_
    refine sa 51 ?_
    refine sp 52 (.bool true) ?_
    refine sp 53 (.bool true) ?_
    refine sa 54 ?_
    refine sa 55 ?_
    refine sa 56 ?_
    refine sp 57 (.bool true) ?_
    refine ops_end ?_
    refine ae [(1, .slice headsa (List.length heads) headscap), (2, .slice valuesa (List.length values) valuescap), (7, .pointer (some ⟨b1_2, 0, none⟩)), (8, .pointer (some ⟨b2_1, 0, none⟩)), (57, .bool true)] ?_
    refine at_round_normal ?_
    exact at_join_mk [(1, .slice headsa (List.length heads) headscap), (2, .slice valuesa (List.length values) valuescap), (7, .pointer (some ⟨b1_2, 0, none⟩)), (8, .pointer (some ⟨b2_1, 0, none⟩)), (57, .bool true)] ((HomeA b2_1 y5_2.2.2.2) :: (ImmI a1_1_00 y1_1.init) :: (Asn.own b1_2 (.cells #[.int .i64 y1_1.nodes, .int .i64 y1_1.lines, .int .i64 y1_1.words, .int .i64 y1_1.sets, .int .i64 y1_1.ways, .int .i64 y1_1.out, .int .i64 y1_1.inn, .slice a1_1_00 (List.length y1_1.init) c1_1_00] 26 (0, 0))) :: Γ) ⟨by kernel_rfl, by kernel_rfl, by kernel_rfl, by kernel_rfl, by kernel_rfl, trivial⟩ (fun w hw => (Sat.less (.take (.there (.there .here)) (.take (.there (.there .here)) (.take (.there (.there .here)) (.drop .here (.drop .here (.drop .here .refl)))))) hw)) ⟨true, H, rfl, rfl⟩
   ·replace H := bifF H h26
    refine sr 48 (.bool false) (run_eq (v := .bool (!(decide (y5_2.2.2.1 = (0 : Int))))) (fun _ => by kernel_rfl) (congrArg Value.bool h26)) ?_
    refine sp 49 (.pointer (some ⟨b5_7, 5, none⟩)) ?_
    refine sl 50 (.int .i64 y5_2.1.ptr) (load1 (off := 5) (fun _ => by kernel_rfl) (holds_own .here) (by kernel_rfl)) ?_
    refine sp 51 (.bool (!(decide (y5_2.1.ptr = ((-1) : Int))))) ?_
    refine sp 52 (.bool (!(decide (y5_2.1.ptr = ((-1) : Int))))) ?_
    rcases Bool.eq_false_or_eq_true (!(decide (y5_2.1.ptr = ((-1) : Int)))) with h27 | h27
    ·replace H := bifT H h27
     refine sr 53 (.bool true) (run_eq (v := .bool (!(decide (y5_2.1.ptr = ((-1) : Int))))) (fun _ => by kernel_rfl) (congrArg Value.bool h27)) ?_
     refine sa 54 ?_
     refine sa 55 ?_
     refine sa 56 ?_
     refine sp 57 (.bool true) ?_
     refine ops_end ?_
     refine ae [(1, .slice headsa (List.length heads) headscap), (2, .slice valuesa (List.length values) valuescap), (7, .pointer (some ⟨b1_2, 0, none⟩)), (8, .pointer (some ⟨b2_1, 0, none⟩)), (57, .bool true)] ?_
     refine at_round_normal ?_
     exact at_join_mk [(1, .slice headsa (List.length heads) headscap), (2, .slice valuesa (List.length values) valuescap), (7, .pointer (some ⟨b1_2, 0, none⟩)), (8, .pointer (some ⟨b2_1, 0, none⟩)), (57, .bool true)] ((HomeA b2_1 y5_2.2.2.2) :: (ImmI a1_1_00 y1_1.init) :: (Asn.own b1_2 (.cells #[.int .i64 y1_1.nodes, .int .i64 y1_1.lines, .int .i64 y1_1.words, .int .i64 y1_1.sets, .int .i64 y1_1.ways, .int .i64 y1_1.out, .int .i64 y1_1.inn, .slice a1_1_00 (List.length y1_1.init) c1_1_00] 26 (0, 0))) :: Γ) ⟨by kernel_rfl, by kernel_rfl, by kernel_rfl, by kernel_rfl, by kernel_rfl, trivial⟩ (fun w hw => (Sat.less (.take (.there (.there .here)) (.take (.there (.there .here)) (.take (.there (.there .here)) (.drop .here (.drop .here (.drop .here .refl)))))) hw)) ⟨true, H, rfl, rfl⟩
    ·replace H := bifF H h27
     refine sr 53 (.bool false) (run_eq (v := .bool (!(decide (y5_2.1.ptr = ((-1) : Int))))) (fun _ => by kernel_rfl) (congrArg Value.bool h27)) ?_
     refine sp 54 (.pointer (some ⟨b5_7, 6, none⟩)) ?_
     refine sl 55 (.int .i64 y5_2.1.state) (load1 (off := 6) (fun _ => by kernel_rfl) (holds_own .here) (by kernel_rfl)) ?_
     refine sp 56 (.bool (!(decide (y5_2.1.state = (0 : Int))))) ?_
     refine sp 57 (.bool (!(decide (y5_2.1.state = (0 : Int))))) ?_
     refine ops_end ?_
     refine ae [(1, .slice headsa (List.length heads) headscap), (2, .slice valuesa (List.length values) valuescap), (7, .pointer (some ⟨b1_2, 0, none⟩)), (8, .pointer (some ⟨b2_1, 0, none⟩)), (57, .bool (!(decide (y5_2.1.state = (0 : Int)))))] ?_
     refine at_round_normal ?_
     exact at_join_mk [(1, .slice headsa (List.length heads) headscap), (2, .slice valuesa (List.length values) valuescap), (7, .pointer (some ⟨b1_2, 0, none⟩)), (8, .pointer (some ⟨b2_1, 0, none⟩)), (57, .bool (!(decide (y5_2.1.state = (0 : Int)))))] ((HomeA b2_1 y5_2.2.2.2) :: (ImmI a1_1_00 y1_1.init) :: (Asn.own b1_2 (.cells #[.int .i64 y1_1.nodes, .int .i64 y1_1.lines, .int .i64 y1_1.words, .int .i64 y1_1.sets, .int .i64 y1_1.ways, .int .i64 y1_1.out, .int .i64 y1_1.inn, .slice a1_1_00 (List.length y1_1.init) c1_1_00] 26 (0, 0))) :: Γ) ⟨by kernel_rfl, by kernel_rfl, by kernel_rfl, by kernel_rfl, by kernel_rfl, trivial⟩ (fun w hw => (Sat.less (.take (.there (.there .here)) (.take (.there (.there .here)) (.take (.there (.there .here)) (.drop .here (.drop .here (.drop .here .refl)))))) hw)) ⟨!(decide (y5_2.1.state = (0 : Int))), H, rfl, rfl⟩
end Go.Proofs.Ytcigheahollkcaa
