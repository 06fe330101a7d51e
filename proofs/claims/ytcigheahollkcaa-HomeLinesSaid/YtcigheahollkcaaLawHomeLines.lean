/- The law HomeLines: its walk. -/
import Derived.Test.YtcigheahollkcaaHoA
namespace Go.Proofs.Ytcigheahollkcaa
open Go Go.RowKit
set_option linter.unusedVariables false
set_option linter.unusedSimpArgs false
def wakes11S : Option (Bool) :=
 (hnewS (⟨2, 1, 1, 1, 1, 1, 1, ([] : List Int)⟩ : CfgS) (0 : Int)).bind fun y1_1 => (hhandleS y1_1 (⟨1, 1, 0, 7, 0, 0, 0, false, ([] : List Int)⟩ : PktS)).bind fun y4_2 => (bif y4_2.2.1 then (bif decide (y4_2.2.2.1 = (0 : Int)) then (bif decide (y4_2.1.kind = (7 : Int)) then (bif decide (y4_2.1.state = (0 : Int)) then (bif decide (y4_2.1.dst = (1 : Int)) then (bif decide (y4_2.1.id = (7 : Int)) then (townerS y4_2.2.2.2.turns (0 : Int)).bind fun y5_30 => some (decide (y5_30 = (1 : Int))) else some false) else some false) else some false) else some false) else some false) else some false)
noncomputable def C14 (p : List Nat) : Code := codeAt (bodyOf Try.f14) p
set_option maxRecDepth 100000 in
set_option maxHeartbeats 8000000 in
theorem W11F_tr {W0 : World} {Γ : List Asn}   (y : Bool) (H : wakes11S = some y) : Tr Try.prog 14 #[] W0 (Γ) (fun r Δ => r = .bool y ∧ Δ = Γ) := by
 unfold wakes11S at H
 refine Tr.enter (fn := Try.f14) (c := C14 []) (args := []) 49 Try.func14 (by kernel_rfl) (by kernel_rfl) ?_
 refine At.env [] trivial ?_
 refine aq (x := C14 [0]) (y := C14 [1]) ?_
 refine ar (id := 0) 1 ?_
 refine sp 0 (.bool false) ?_
 refine ops_end ?_
 refine At.env [] trivial ?_
 refine at_then_normal ?_
 refine aq (x := C14 [1,0]) (y := C14 [1,1]) ?_
 refine ar (id := 1) 3 ?_
 refine sp 5 (.agg #[.int .i64 (2), .int .i64 (1), .int .i64 (1), .int .i64 (1), .int .i64 (1), .int .i64 (1), .int .i64 (1), .slice none 0 0]) ?_
 obtain ⟨y1_1, hy1_1, H⟩ := bindE H
 refine s_call 6 8 #[.agg #[.int .i64 (2), .int .i64 (1), .int .i64 (1), .int .i64 (1), .int .i64 (1), .int .i64 (1), .int .i64 (1), .slice none 0 0], .int .i64 (0)] (by kernel_rfl) (by kernel_rfl) (fun _ => by kernel_rfl) (Tr.conv (Γ' := (ImmI none ([] : List Int)) :: Γ) (fun w hw => (Sat.less (.take .here .refl) (ImmR.nil_mk (k := 1) (a := none) hw))) (HNewF_tr none 0 (⟨2, 1, 1, 1, 1, 1, 1, ([] : List Int)⟩ : CfgS) (0 : Int) (Nat.le_refl _) y1_1 hy1_1)) ?_
 rintro _ _ ⟨b1_1, rfl, rfl⟩
 refine sp 1 (.pointer (some ⟨b1_1, 0, none⟩)) ?_
 refine ops_end ?_
 refine ae [(1, .pointer (some ⟨b1_1, 0, none⟩))] ?_
 refine at_then_normal ?_
 refine aq (x := C14 [1,1,0]) (y := C14 [1,1,1]) ?_
 refine aq (x := C14 [1,1,0,0]) (y := C14 [1,1,0,1]) ?_
 refine ar (id := 2) 2 ?_
 refine sp 7 (.pointer (some ⟨b1_1, 0, none⟩)) ?_
 refine sp 8 (.bool false) ?_
 refine ops_end ?_
 refine ae [(1, .pointer (some ⟨b1_1, 0, none⟩)), (8, .bool false)] ?_
 refine at_then_normal ?_
 refine at_false (t := false) (x := C14 [1,1,0,1,0]) (y := C14 [1,1,0,1,1]) (o := .tmp 8) (by kernel_rfl) (by kernel_rfl) (by kernel_rfl) rfl ?_
 refine at_skip (by kernel_rfl) ?_
 refine at_then_normal ?_
 refine aq (x := C14 [1,1,1,0]) (y := C14 [1,1,1,1]) ?_
 refine ar (id := 4) 11 ?_
 refine sp 10 (.pointer (some ⟨b1_1, 0, none⟩)) ?_
 refine sp 11 (.agg #[.int .i64 (1), .int .i64 (1), .int .i64 (0), .int .i64 (7), .int .i64 (0), .int .i64 (0), .int .i64 (0), .bool false, .slice none 0 0]) ?_
 obtain ⟨y4_2, hy4_2, H⟩ := bindE H
 refine s_call 12 10 #[.pointer (some ⟨b1_1, 0, none⟩), .agg #[.int .i64 (1), .int .i64 (1), .int .i64 (0), .int .i64 (7), .int .i64 (0), .int .i64 (0), .int .i64 (0), .bool false, .slice none 0 0]] (by kernel_rfl) (by kernel_rfl) (fun _ => by kernel_rfl) (HHandleF_tr b1_1 y1_1 none 0 (⟨1, 1, 0, 7, 0, 0, 0, false, ([] : List Int)⟩ : PktS) Reads.nil y4_2 hy4_2) ?_
 rintro _ _ ⟨a4_2_00, c4_2_00, rfl, rfl⟩
 refine sp 9 (.tuple #[.agg #[.int .i64 y4_2.1.kind, .int .i64 y4_2.1.src, .int .i64 y4_2.1.dst, .int .i64 y4_2.1.id, .int .i64 y4_2.1.line, .int .i64 y4_2.1.ptr, .int .i64 y4_2.1.state, .bool y4_2.1.flag, .slice a4_2_00 (List.length y4_2.1.data) c4_2_00], .bool y4_2.2.1, .int .i64 y4_2.2.2.1]) ?_
 refine sp 13 (.agg #[.int .i64 y4_2.1.kind, .int .i64 y4_2.1.src, .int .i64 y4_2.1.dst, .int .i64 y4_2.1.id, .int .i64 y4_2.1.line, .int .i64 y4_2.1.ptr, .int .i64 y4_2.1.state, .bool y4_2.1.flag, .slice a4_2_00 (List.length y4_2.1.data) c4_2_00]) ?_
 refine sp 14 (.bool y4_2.2.1) ?_
 refine sp 15 (.int .i64 y4_2.2.2.1) ?_
 refine s_step 2 (by kernel_rfl) (by kernel_rfl) (st_new (T := 32) (cells := #[.int .i64 (0), .int .i64 (0), .int .i64 (0), .int .i64 (0), .int .i64 (0), .int .i64 (0), .int .i64 (0), .bool false, .slice none 0 0]) (fun a => .pointer (some a)) (fun _ => by kernel_rfl)) ?_
 rintro _ _ ⟨b4_7, rfl, rfl⟩
 refine s_do (by kernel_rfl) (by kernel_rfl) (st_store (off := 0) (vs := [.int .i64 y4_2.1.kind, .int .i64 y4_2.1.src, .int .i64 y4_2.1.dst, .int .i64 y4_2.1.id, .int .i64 y4_2.1.line, .int .i64 y4_2.1.ptr, .int .i64 y4_2.1.state, .bool y4_2.1.flag, .slice a4_2_00 (List.length y4_2.1.data) c4_2_00]) (c' := #[.int .i64 y4_2.1.kind, .int .i64 y4_2.1.src, .int .i64 y4_2.1.dst, .int .i64 y4_2.1.id, .int .i64 y4_2.1.line, .int .i64 y4_2.1.ptr, .int .i64 y4_2.1.state, .bool y4_2.1.flag, .slice a4_2_00 (List.length y4_2.1.data) c4_2_00]) (fun _ => by kernel_rfl) .here (by kernel_rfl) (by kernel_rfl) (by kernel_rfl)) ?_
 rintro _ _ ⟨rfl, rfl⟩
 refine sp 3 (.bool y4_2.2.1) ?_
 refine sp 4 (.int .i64 y4_2.2.2.1) ?_
 refine ops_end ?_
 refine ae [(1, .pointer (some ⟨b1_1, 0, none⟩)), (2, .pointer (some ⟨b4_7, 0, none⟩)), (3, .bool y4_2.2.1), (4, .int .i64 y4_2.2.2.1)] ?_
 refine at_then_normal ?_
 refine aq (x := C14 [1,1,1,1,0]) (y := C14 [1,1,1,1,1]) ?_
 refine ar (id := 5) 34 ?_
 refine sp 16 (.bool y4_2.2.1) ?_
 rcases Bool.eq_false_or_eq_true (y4_2.2.1) with h1 | h1
 ·replace H := bifT H h1
  refine sr 17 (.bool true) (run_eq (v := .bool (y4_2.2.1)) (fun _ => by kernel_rfl) (congrArg Value.bool h1)) ?_
  refine sp 18 (.int .i64 y4_2.2.2.1) ?_
  refine sp 19 (.bool (decide (y4_2.2.2.1 = (0 : Int)))) ?_
  refine sp 20 (.bool (decide (y4_2.2.2.1 = (0 : Int)))) ?_
  rcases Bool.eq_false_or_eq_true (decide (y4_2.2.2.1 = (0 : Int))) with h2 | h2
  ·replace H := bifT H h2
   refine sr 21 (.bool true) (run_eq (v := .bool (decide (y4_2.2.2.1 = (0 : Int)))) (fun _ => by kernel_rfl) (congrArg Value.bool h2)) ?_
   refine sp 22 (.pointer (some ⟨b4_7, 0, none⟩)) ?_
   refine sl 23 (.int .i64 y4_2.1.kind) (load1 (off := 0) (fun _ => by kernel_rfl) (holds_own .here) (by kernel_rfl)) ?_
   refine sp 24 (.bool (decide (y4_2.1.kind = (7 : Int)))) ?_
   refine sp 25 (.bool (decide (y4_2.1.kind = (7 : Int)))) ?_
   rcases Bool.eq_false_or_eq_true (decide (y4_2.1.kind = (7 : Int))) with h3 | h3
   ·replace H := bifT H h3
    refine sr 26 (.bool true) (run_eq (v := .bool (decide (y4_2.1.kind = (7 : Int)))) (fun _ => by kernel_rfl) (congrArg Value.bool h3)) ?_
    refine sp 27 (.pointer (some ⟨b4_7, 6, none⟩)) ?_
    refine sl 28 (.int .i64 y4_2.1.state) (load1 (off := 6) (fun _ => by kernel_rfl) (holds_own .here) (by kernel_rfl)) ?_
    refine sp 29 (.bool (decide (y4_2.1.state = (0 : Int)))) ?_
    refine sp 30 (.bool (decide (y4_2.1.state = (0 : Int)))) ?_
    rcases Bool.eq_false_or_eq_true (decide (y4_2.1.state = (0 : Int))) with h4 | h4
    ·replace H := bifT H h4
     refine sr 31 (.bool true) (run_eq (v := .bool (decide (y4_2.1.state = (0 : Int)))) (fun _ => by kernel_rfl) (congrArg Value.bool h4)) ?_
     refine sp 32 (.pointer (some ⟨b4_7, 2, none⟩)) ?_
     refine sl 33 (.int .i64 y4_2.1.dst) (load1 (off := 2) (fun _ => by kernel_rfl) (holds_own .here) (by kernel_rfl)) ?_
     refine sp 34 (.bool (decide (y4_2.1.dst = (1 : Int)))) ?_
     refine sp 35 (.bool (decide (y4_2.1.dst = (1 : Int)))) ?_
     rcases Bool.eq_false_or_eq_true (decide (y4_2.1.dst = (1 : Int))) with h5 | h5
     ·replace H := bifT H h5
      refine sr 36 (.bool true) (run_eq (v := .bool (decide (y4_2.1.dst = (1 : Int)))) (fun _ => by kernel_rfl) (congrArg Value.bool h5)) ?_
      refine sp 37 (.pointer (some ⟨b4_7, 3, none⟩)) ?_
      refine sl 38 (.int .i64 y4_2.1.id) (load1 (off := 3) (fun _ => by kernel_rfl) (holds_own .here) (by kernel_rfl)) ?_
      refine sp 39 (.bool (decide (y4_2.1.id = (7 : Int)))) ?_
      refine sp 40 (.bool (decide (y4_2.1.id = (7 : Int)))) ?_
      rcases Bool.eq_false_or_eq_true (decide (y4_2.1.id = (7 : Int))) with h6 | h6
      ·replace H := bifT H h6
       refine sr 41 (.bool true) (run_eq (v := .bool (decide (y4_2.1.id = (7 : Int)))) (fun _ => by kernel_rfl) (congrArg Value.bool h6)) ?_
       refine sp 42 (.pointer (some ⟨b1_1, 0, none⟩)) ?_
       refine sp 43 (.pointer (some ⟨b1_1, 0, none⟩)) ?_
       refine sp 44 (.pointer (some ⟨b1_1, 1, none⟩)) ?_
       refine HomeA.tox (.there (.there .here)) ?_
       intro x5_29_b1_1
       refine HomeXA.open .here ?_
       refine sl 45 (.pointer (some ⟨x5_29_b1_1.b1, 0, none⟩)) (load1 (off := 1) (fun _ => by kernel_rfl) (holds_own .here) (by kernel_rfl)) ?_
       obtain ⟨y5_30, hy5_30, H⟩ := bindE H
       refine s_call 46 11 #[.pointer (some ⟨x5_29_b1_1.b1, 0, none⟩), .int .i64 (0)] (by kernel_rfl) (by kernel_rfl) (fun _ => by kernel_rfl) (Tr.conv (Γ' := (TurnsA x5_29_b1_1.b1 y4_2.2.2.2.turns) :: (Asn.own b1_1 (.cells #[.pointer (some ⟨x5_29_b1_1.b0, 0, none⟩), .pointer (some ⟨x5_29_b1_1.b1, 0, none⟩), .int .i64 y4_2.2.2.2.c.nodes, .int .i64 y4_2.2.2.2.c.lines, .int .i64 y4_2.2.2.2.c.words, .int .i64 y4_2.2.2.2.c.sets, .int .i64 y4_2.2.2.2.c.ways, .int .i64 y4_2.2.2.2.c.out, .int .i64 y4_2.2.2.2.c.inn, .slice x5_29_b1_1.a9 (List.length y4_2.2.2.2.c.init) x5_29_b1_1.c9, .int .i64 y4_2.2.2.2.node] x5_29_b1_1.T (0, 0))) :: (DirA x5_29_b1_1.b0 y4_2.2.2.2.dir) :: (ImmI x5_29_b1_1.a9 y4_2.2.2.2.c.init) :: (Asn.own b4_7 (.cells #[.int .i64 y4_2.1.kind, .int .i64 y4_2.1.src, .int .i64 y4_2.1.dst, .int .i64 y4_2.1.id, .int .i64 y4_2.1.line, .int .i64 y4_2.1.ptr, .int .i64 y4_2.1.state, .bool y4_2.1.flag, .slice a4_2_00 (List.length y4_2.1.data) c4_2_00] 32 (0, 0))) :: (IntsA a4_2_00 c4_2_00 y4_2.1.data) :: Γ) (fun w hw => (Sat.less (.take (.there (.there .here)) (.take .here (.take .here (.take .here (.take .here (.take .here .refl)))))) hw)) (TOwnerF_tr x5_29_b1_1.b1 y4_2.2.2.2.turns (0 : Int) y5_30 hy5_30)) ?_
       rintro _ _ ⟨rfl, rfl⟩
       refine sp 47 (.bool (decide (y5_30 = (1 : Int)))) ?_
       refine sp 48 (.bool (decide (y5_30 = (1 : Int)))) ?_
       refine sp 0 (.bool (decide (y5_30 = (1 : Int)))) ?_
       refine ops_end ?_
       refine ae [(0, .bool (decide (y5_30 = (1 : Int))))] ?_
       refine at_then_normal ?_
       refine at_ret (by kernel_rfl) ?_
       refine At.conv (Γ' := (HomeXA b1_1 x5_29_b1_1 y4_2.2.2.2) :: (ImmI x5_29_b1_1.a9 y4_2.2.2.2.c.init) :: (Asn.own b4_7 (.cells #[.int .i64 y4_2.1.kind, .int .i64 y4_2.1.src, .int .i64 y4_2.1.dst, .int .i64 y4_2.1.id, .int .i64 y4_2.1.line, .int .i64 y4_2.1.ptr, .int .i64 y4_2.1.state, .bool y4_2.1.flag, .slice a4_2_00 (List.length y4_2.1.data) c4_2_00] 32 (0, 0))) :: (IntsA a4_2_00 c4_2_00 y4_2.1.data) :: Γ) (fun w hw => HomeXA.close (x := x5_29_b1_1) (t := y4_2.2.2.2) (Sat.less (.take (.there (.there (.there .here))) (.take (.there (.there (.there .here))) (.take (.there (.there .here)) (.take .here (.take .here (.take .here (.take .here .refl))))))) (ImmR.dup (Sat.less (.take (.there (.there (.there .here))) (.take .here (.take .here (.take .here (.take .here (.take .here .refl)))))) hw)))) ?_
       refine At.conv (Γ' := (HomeA b1_1 y4_2.2.2.2) :: (ImmI x5_29_b1_1.a9 y4_2.2.2.2.c.init) :: (Asn.own b4_7 (.cells #[.int .i64 y4_2.1.kind, .int .i64 y4_2.1.src, .int .i64 y4_2.1.dst, .int .i64 y4_2.1.id, .int .i64 y4_2.1.line, .int .i64 y4_2.1.ptr, .int .i64 y4_2.1.state, .bool y4_2.1.flag, .slice a4_2_00 (List.length y4_2.1.data) c4_2_00] 32 (0, 0))) :: (IntsA a4_2_00 c4_2_00 y4_2.1.data) :: Γ) (fun w hw => HomeXA.shut (hw.pull .here)) ?_
       obtain rfl := someE H
       refine at_backR [.bool (decide (y5_30 = (1 : Int)))] (Γ) (rs := [.tmp 0]) (by kernel_rfl) (.cons (.tmp (by kernel_rfl)) .nil) (fun w hw => (Sat.less (.drop .here (.drop .here (.drop .here (.drop .here .refl)))) hw)) ?_
       exact ⟨rfl, rfl⟩
      ·replace H := bifF H h6
       refine sr 41 (.bool false) (run_eq (v := .bool (decide (y4_2.1.id = (7 : Int)))) (fun _ => by kernel_rfl) (congrArg Value.bool h6)) ?_
       refine sa 42 ?_
       refine sa 43 ?_
       refine sa 44 ?_
       refine sa 45 ?_
       refine sa 46 ?_
       refine sa 47 ?_
       refine sp 48 (.bool false) ?_
       refine sp 0 (.bool false) ?_
       refine ops_end ?_
       refine ae [(0, .bool false)] ?_
       refine at_then_normal ?_
       refine at_ret (by kernel_rfl) ?_
       obtain rfl := someE H
       refine at_backR [.bool false] (Γ) (rs := [.tmp 0]) (by kernel_rfl) (.cons (.tmp (by kernel_rfl)) .nil) (fun w hw => (Sat.less (.drop .here (.drop .here (.drop .here .refl))) hw)) ?_
       exact ⟨rfl, rfl⟩
     ·replace H := bifF H h5
      refine sr 36 (.bool false) (run_eq (v := .bool (decide (y4_2.1.dst = (1 : Int)))) (fun _ => by kernel_rfl) (congrArg Value.bool h5)) ?_
      refine sa 37 ?_
      refine sa 38 ?_
      refine sa 39 ?_
      refine sp 40 (.bool false) ?_
      refine sp 41 (.bool false) ?_
      refine sa 42 ?_
      refine sa 43 ?_
      refine sa 44 ?_
      refine sa 45 ?_
      refine sa 46 ?_
      refine sa 47 ?_
      refine sp 48 (.bool false) ?_
      refine sp 0 (.bool false) ?_
      refine ops_end ?_
      refine ae [(0, .bool false)] ?_
      refine at_then_normal ?_
      refine at_ret (by kernel_rfl) ?_
      obtain rfl := someE H
      refine at_backR [.bool false] (Γ) (rs := [.tmp 0]) (by kernel_rfl) (.cons (.tmp (by kernel_rfl)) .nil) (fun w hw => (Sat.less (.drop .here (.drop .here (.drop .here .refl))) hw)) ?_
      exact ⟨rfl, rfl⟩
    ·replace H := bifF H h4
     refine sr 31 (.bool false) (run_eq (v := .bool (decide (y4_2.1.state = (0 : Int)))) (fun _ => by kernel_rfl) (congrArg Value.bool h4)) ?_
     refine sa 32 ?_
     refine sa 33 ?_
     refine sa 34 ?_
     refine sp 35 (.bool false) ?_
     refine sp 36 (.bool false) ?_
     refine sa 37 ?_
     refine sa 38 ?_
     refine sa 39 ?_
     refine sp 40 (.bool false) ?_
     refine sp 41 (.bool false) ?_
     refine sa 42 ?_
     refine sa 43 ?_
     refine sa 44 ?_
     refine sa 45 ?_
     refine sa 46 ?_
     refine sa 47 ?_
     refine sp 48 (.bool false) ?_
     refine sp 0 (.bool false) ?_
     refine ops_end ?_
     refine ae [(0, .bool false)] ?_
     refine at_then_normal ?_
     refine at_ret (by kernel_rfl) ?_
     obtain rfl := someE H
     refine at_backR [.bool false] (Γ) (rs := [.tmp 0]) (by kernel_rfl) (.cons (.tmp (by kernel_rfl)) .nil) (fun w hw => (Sat.less (.drop .here (.drop .here (.drop .here .refl))) hw)) ?_
     exact ⟨rfl, rfl⟩
   ·replace H := bifF H h3
    refine sr 26 (.bool false) (run_eq (v := .bool (decide (y4_2.1.kind = (7 : Int)))) (fun _ => by kernel_rfl) (congrArg Value.bool h3)) ?_
    refine sa 27 ?_
    refine sa 28 ?_
    refine sa 29 ?_
    refine sp 30 (.bool false) ?_
    refine sp 31 (.bool false) ?_
    refine sa 32 ?_
    refine sa 33 ?_
    refine sa 34 ?_
    refine sp 35 (.bool false) ?_
    refine sp 36 (.bool false) ?_
    refine sa 37 ?_
    refine sa 38 ?_
    refine sa 39 ?_
    refine sp 40 (.bool false) ?_
    refine sp 41 (.bool false) ?_
    refine sa 42 ?_
    refine sa 43 ?_
    refine sa 44 ?_
    refine sa 45 ?_
    refine sa 46 ?_
    refine sa 47 ?_
    refine sp 48 (.bool false) ?_
    refine sp 0 (.bool false) ?_
    refine ops_end ?_
    refine ae [(0, .bool false)] ?_
    refine at_then_normal ?_
    refine at_ret (by kernel_rfl) ?_
    obtain rfl := someE H
    refine at_backR [.bool false] (Γ) (rs := [.tmp 0]) (by kernel_rfl) (.cons (.tmp (by kernel_rfl)) .nil) (fun w hw => (Sat.less (.drop .here (.drop .here (.drop .here .refl))) hw)) ?_
    exact ⟨rfl, rfl⟩
  ·replace H := bifF H h2
   refine sr 21 (.bool false) (run_eq (v := .bool (decide (y4_2.2.2.1 = (0 : Int)))) (fun _ => by kernel_rfl) (congrArg Value.bool h2)) ?_
   refine sa 22 ?_
   refine sa 23 ?_
   refine sa 24 ?_
   refine sp 25 (.bool false) ?_
   refine sp 26 (.bool false) ?_
   refine sa 27 ?_
   refine sa 28 ?_
   refine sa 29 ?_
   refine sp 30 (.bool false) ?_
   refine sp 31 (.bool false) ?_
   refine sa 32 ?_
   refine sa 33 ?_
   refine sa 34 ?_
   refine sp 35 (.bool false) ?_
   refine sp 36 (.bool false) ?_
   refine sa 37 ?_
   refine sa 38 ?_
   refine sa 39 ?_
   refine sp 40 (.bool false) ?_
   refine sp 41 (.bool false) ?_
   refine sa 42 ?_
   refine sa 43 ?_
   refine sa 44 ?_
   refine sa 45 ?_
   refine sa 46 ?_
   refine sa 47 ?_
   refine sp 48 (.bool false) ?_
   refine sp 0 (.bool false) ?_
   refine ops_end ?_
   refine ae [(0, .bool false)] ?_
   refine at_then_normal ?_
   refine at_ret (by kernel_rfl) ?_
   obtain rfl := someE H
   refine at_backR [.bool false] (Γ) (rs := [.tmp 0]) (by kernel_rfl) (.cons (.tmp (by kernel_rfl)) .nil) (fun w hw => (Sat.less (.drop .here (.drop .here (.drop .here .refl))) hw)) ?_
   exact ⟨rfl, rfl⟩
 ·replace H := bifF H h1
  refine sr 17 (.bool false) (run_eq (v := .bool (y4_2.2.1)) (fun _ => by kernel_rfl) (congrArg Value.bool h1)) ?_
  refine sa 18 ?_
  refine sa 19 ?_
  refine sp 20 (.bool false) ?_
  refine sp 21 (.bool false) ?_
  refine sa 22 ?_
  refine sa 23 ?_
  refine sa 24 ?_
  refine sp 25 (.bool false) ?_
  refine sp 26 (.bool false) ?_
  refine sa 27 ?_
  refine sa 28 ?_
  refine sa 29 ?_
  refine sp 30 (.bool false) ?_
  refine sp 31 (.bool false) ?_
  refine sa 32 ?_
  refine sa 33 ?_
  refine sa 34 ?_
  refine sp 35 (.bool false) ?_
  refine sp 36 (.bool false) ?_
  refine sa 37 ?_
  refine sa 38 ?_
  refine sa 39 ?_
  refine sp 40 (.bool false) ?_
  refine sp 41 (.bool false) ?_
  refine sa 42 ?_
  refine sa 43 ?_
  refine sa 44 ?_
  refine sa 45 ?_
  refine sa 46 ?_
  refine sa 47 ?_
  refine sp 48 (.bool false) ?_
  refine sp 0 (.bool false) ?_
  refine ops_end ?_
  refine ae [(0, .bool false)] ?_
  refine at_then_normal ?_
  refine at_ret (by kernel_rfl) ?_
  obtain rfl := someE H
  refine at_backR [.bool false] (Γ) (rs := [.tmp 0]) (by kernel_rfl) (.cons (.tmp (by kernel_rfl)) .nil) (fun w hw => (Sat.less (.drop .here (.drop .here (.drop .here .refl))) hw)) ?_
  exact ⟨rfl, rfl⟩
def homeLinesS_j4 (y24_4 : PktS × Bool × Int × HomeS) (e0_9x : List Int) (y21_7 : Int) (y1_1 : CfgS) (v : Int) (v1_18 : Int) (r1 : (List Int) → Int → HomeS → Option (Bool)) (w23_5 : List Int) (e4_148 : Bool) : Option (Bool) :=
 (bif e4_148 then some false else (hgrantS y24_4.2.2.2).bind fun y27_1 => (bif !y27_1.2.1 then some false else (bif !(decide (y27_1.1.line = (nth e0_9x y21_7))) then some false else (bif !(decide (y27_1.1.id = (wr ((100 : Int) + (nth e0_9x y21_7))))) then some false else (bif !(decide (y27_1.1.state = (2 : Int))) then some false else (bif !(decide (y27_1.1.ptr = (0 : Int))) then some false else (bif !(decide ((((List.length y27_1.1.data) : Nat) : Int) = y1_1.words)) then some false else chk (0 ≤ (0 : Int) ∧ (0 : Int) < ((y27_1.1.data.length : Nat) : Int)) ((bif !(decide ((nth y27_1.1.data (0 : Int)) = (wr (v + (nth e0_9x y21_7))))) then some false else chk (inR (v1_18 + (1 : Int))) (r1 w23_5 (v1_18 + (1 : Int)) y27_1.2.2))))))))))
def homeLinesS_j3 (v1_18 : Int) (r1 : (List Int) → Int → HomeS → Option (Bool)) (v1_17x : List Int) (v1_b3_1 : HomeS) (v : Int) (e0_9x : List Int) (y21_7 : Int) (y1_1 : CfgS) (e3_128 : Bool) : Option (Bool) :=
 (bif e3_128 then chk (inR (v1_18 + (1 : Int))) (r1 v1_17x (v1_18 + (1 : Int)) v1_b3_1) else chk (0 ≤ (0 : Int) ∧ (0 : Int) < ((v1_17x.length : Nat) : Int)) (letP (setI v1_17x (0 : Int) (wr (v + (nth e0_9x y21_7)))) fun w23_5 => (hhandleS v1_b3_1 (⟨2, 0, 0, 0, nth e0_9x y21_7, 0, 2, true, w23_5⟩ : PktS)).bind fun y24_4 => (bif !y24_4.2.1 then homeLinesS_j4 y24_4 e0_9x y21_7 y1_1 v v1_18 r1 w23_5 true else homeLinesS_j4 y24_4 e0_9x y21_7 y1_1 v v1_18 r1 w23_5 (!(decide (y24_4.2.2.1 = (0 : Int)))))))
def homeLinesS_j2 (v1_18 : Int) (order : List Int) (e0_9x : List Int) (v1_b3_1 : HomeS) (r1 : (List Int) → Int → HomeS → Option (Bool)) (v1_17x : List Int) (v : Int) (y1_1 : CfgS) (k1 : (List Int) → Int → HomeS → Option (Bool)) (e2_100 : Bool) : Option (Bool) :=
 (bif e2_100 then chk (0 ≤ v1_18 ∧ v1_18 < ((order.length : Nat) : Int)) ((withinS (nth order v1_18) (((List.length e0_9x) : Nat) : Int)).bind fun y21_7 => chk (0 ≤ y21_7 ∧ y21_7 < ((e0_9x.length : Nat) : Int)) ((townerS v1_b3_1.turns (nth e0_9x y21_7)).bind fun y22_5 => (bif decide (y22_5 = ((-1) : Int)) then homeLinesS_j3 v1_18 r1 v1_17x v1_b3_1 v e0_9x y21_7 y1_1 true else (twaitingS v1_b3_1.turns (nth e0_9x y21_7)).bind fun y22_13 => homeLinesS_j3 v1_18 r1 v1_17x v1_b3_1 v e0_9x y21_7 y1_1 (decide (y22_13 = (0 : Int)))))) else k1 v1_17x v1_18 v1_b3_1)
def homeLinesS_k1 (e1_17x : List Int) (e1_18 : Int) (e1_b3_1 : HomeS) : Option (Bool) :=
 (hpendingS e1_b3_1).bind fun y30_1 => (bif !y30_1 then (wakes11S).bind fun y30_4 => some y30_4 else some false)
def homeLinesS_l1 (order : List Int) (e0_9x : List Int) (v : Int) (y1_1 : CfgS) (k1 : (List Int) → Int → HomeS → Option (Bool)) : Nat → (List Int) → Int → HomeS → Option (Bool)
 | 0 => fun _ _ _ => none
 | m + 1 => fun v1_17x v1_18 v1_b3_1 => (bif decide (v1_18 < (((List.length order) : Nat) : Int)) then homeLinesS_j2 v1_18 order e0_9x v1_b3_1 (homeLinesS_l1 order e0_9x v y1_1 k1 m) v1_17x v y1_1 k1 (decide (v1_18 < (10 : Int))) else homeLinesS_j2 v1_18 order e0_9x v1_b3_1 (homeLinesS_l1 order e0_9x v y1_1 k1 m) v1_17x v y1_1 k1 false)
def homeLinesS_j6 (r0 : (List Int) → Int → HomeS → Option (Bool)) (l10_3 : List Int) (v0_10 : Int) (u2_3 : Int) (y14_5 : PktS × Bool × Int × HomeS) (e6_89 : Bool) : Option (Bool) :=
 (bif e6_89 then some false else r0 l10_3 (wr (v0_10 + u2_3)) y14_5.2.2.2)
def homeLinesS_j5 (v0_10 : Int) (y11_4 : PktS × Bool × Int × HomeS) (r0 : (List Int) → Int → HomeS → Option (Bool)) (l10_3 : List Int) (u2_3 : Int) (e5_74 : Bool) : Option (Bool) :=
 (bif e5_74 then some false else chk (inR ((100 : Int) + v0_10)) ((hhandleS y11_4.2.2.2 (⟨1, 0, 0, (100 : Int) + v0_10, v0_10, 0, 0, false, ([] : List Int)⟩ : PktS)).bind fun y14_5 => (bif y14_5.2.1 then homeLinesS_j6 r0 l10_3 v0_10 u2_3 y14_5 true else homeLinesS_j6 r0 l10_3 v0_10 u2_3 y14_5 (!(decide (y14_5.2.2.1 = (0 : Int)))))))
def homeLinesS_k0 (y1_1 : CfgS) (order : List Int) (v : Int) (e0_9x : List Int) (e0_10 : Int) (e0_b3_1 : HomeS) : Option (Bool) :=
 chk (0 ≤ y1_1.words ∧ y1_1.words ≤ 1099511627776) (letP (List.replicate (y1_1.words).toNat (0 : Int)) fun l17_2 => homeLinesS_l1 order e0_9x v y1_1 (homeLinesS_k1 ) 64 l17_2 0 e0_b3_1)
def homeLinesS_l0 (y1_1 : CfgS) (u2_3 : Int) (k0 : (List Int) → Int → HomeS → Option (Bool)) : Nat → (List Int) → Int → HomeS → Option (Bool)
 | 0 => fun _ _ _ => none
 | m + 1 => fun v0_9x v0_10 v0_b3_1 => (bif decide (v0_10 < y1_1.lines) then letP ([v0_10] : List Int) fun l10_2 => chk ((v0_9x ++ l10_2).length ≤ 1099511627776) (letP (v0_9x ++ l10_2) fun l10_3 => (hhandleS v0_b3_1 (⟨1, 0, 0, v0_10, v0_10, 0, 0, false, ([] : List Int)⟩ : PktS)).bind fun y11_4 => (bif !y11_4.2.1 then homeLinesS_j5 v0_10 y11_4 (homeLinesS_l0 y1_1 u2_3 k0 m) l10_3 u2_3 true else (bif !(decide (y11_4.2.2.1 = (0 : Int))) then homeLinesS_j5 v0_10 y11_4 (homeLinesS_l0 y1_1 u2_3 k0 m) l10_3 u2_3 true else (bif !(decide (y11_4.1.line = v0_10)) then homeLinesS_j5 v0_10 y11_4 (homeLinesS_l0 y1_1 u2_3 k0 m) l10_3 u2_3 true else homeLinesS_j5 v0_10 y11_4 (homeLinesS_l0 y1_1 u2_3 k0 m) l10_3 u2_3 (!(decide (y11_4.1.id = v0_10))))))) else k0 v0_9x v0_10 v0_b3_1)
def homeLinesS (su : SetupS) (order : List Int) (v : Int) : Option (Bool) :=
 (plconfigS su).bind fun y1_1 => letP (wr ((1 : Int) + (y1_1.nodes.tmod (2 : Int)))) fun u2_3 => (hnewS (⟨u2_3, y1_1.lines, y1_1.words, y1_1.sets, y1_1.ways, y1_1.out, y1_1.inn, y1_1.init⟩ : CfgS) (0 : Int)).bind fun y3_1 => homeLinesS_l0 y1_1 u2_3 (homeLinesS_k0 y1_1 order v) 64 ([] : List Int) 0 y3_1
noncomputable def C6 (p : List Nat) : Code := codeAt (bodyOf Try.f6) p
set_option maxRecDepth 100000 in
set_option maxHeartbeats 8000000 in
theorem HomeLinesF_tr {W0 : World} {Γ : List Asn} (sua : Option Addr) (sucap : Nat) (sua1 : Option Addr) (sucap1 : Nat) (sua2 : Option Addr) (sucap2 : Nat) (sua3 : Option Addr) (sucap3 : Nat) (sua4 : Option Addr) (sucap4 : Nat) (su : SetupS) (ordera : Option Addr) (ordercap : Nat) (order : List Int) (v : Int) (hrsua : Reads W0 Γ sua (ints su.init)) (hcsua : su.init.length ≤ sucap) (hrsua1 : Reads W0 Γ sua1 (ints su.who)) (hcsua1 : su.who.length ≤ sucap1) (hrsua2 : Reads W0 Γ sua2 (ints su.kinds)) (hcsua2 : su.kinds.length ≤ sucap2) (hrsua3 : Reads W0 Γ sua3 (ints su.addrs)) (hcsua3 : su.addrs.length ≤ sucap3) (hrsua4 : Reads W0 Γ sua4 (ints su.values)) (hcsua4 : su.values.length ≤ sucap4) (hrordera : Reads W0 Γ ordera (ints order)) (y : Bool) (H : homeLinesS su order v = some y) : Tr Try.prog 6 #[.agg #[.int .i64 su.nodes, .int .i64 su.lines, .int .i64 su.words, .int .i64 su.sets, .int .i64 su.ways, .int .i64 su.out, .int .i64 su.inn, .slice sua (List.length su.init) sucap, .slice sua1 (List.length su.who) sucap1, .slice sua2 (List.length su.kinds) sucap2, .slice sua3 (List.length su.addrs) sucap3, .slice sua4 (List.length su.values) sucap4], .slice ordera (List.length order) ordercap, .int .i64 v] W0 (Γ) (fun r Δ => r = .bool y ∧ Δ = Γ) := by
 unfold homeLinesS at H
 refine Tr.enter (fn := Try.f6) (c := C6 []) (args := [.agg #[.int .i64 su.nodes, .int .i64 su.lines, .int .i64 su.words, .int .i64 su.sets, .int .i64 su.ways, .int .i64 su.out, .int .i64 su.inn, .slice sua (List.length su.init) sucap, .slice sua1 (List.length su.who) sucap1, .slice sua2 (List.length su.kinds) sucap2, .slice sua3 (List.length su.addrs) sucap3, .slice sua4 (List.length su.values) sucap4], .slice ordera (List.length order) ordercap, .int .i64 v]) 203 Try.func6 (by kernel_rfl) (by kernel_rfl) ?_
 refine ae [(0, .agg #[.int .i64 su.nodes, .int .i64 su.lines, .int .i64 su.words, .int .i64 su.sets, .int .i64 su.ways, .int .i64 su.out, .int .i64 su.inn, .slice sua (List.length su.init) sucap, .slice sua1 (List.length su.who) sucap1, .slice sua2 (List.length su.kinds) sucap2, .slice sua3 (List.length su.addrs) sucap3, .slice sua4 (List.length su.values) sucap4]), (1, .slice ordera (List.length order) ordercap), (2, .int .i64 v)] ?_
 refine aq (x := C6 [0]) (y := C6 [1]) ?_
 refine ar (id := 0) 2 ?_
 refine s_step 3 (by kernel_rfl) (by kernel_rfl) (st_new (T := 24) (cells := #[.int .i64 su.nodes, .int .i64 su.lines, .int .i64 su.words, .int .i64 su.sets, .int .i64 su.ways, .int .i64 su.out, .int .i64 su.inn, .slice sua (List.length su.init) sucap, .slice sua1 (List.length su.who) sucap1, .slice sua2 (List.length su.kinds) sucap2, .slice sua3 (List.length su.addrs) sucap3, .slice sua4 (List.length su.values) sucap4]) (fun a => .pointer (some a)) (fun _ => by kernel_rfl)) ?_
 rintro _ _ ⟨b0_0, rfl, rfl⟩
 refine sp 6 (.bool false) ?_
 refine ops_end ?_
 refine ae [(1, .slice ordera (List.length order) ordercap), (2, .int .i64 v), (3, .pointer (some ⟨b0_0, 0, none⟩))] ?_
 refine at_then_normal ?_
 refine aq (x := C6 [1,0]) (y := C6 [1,1]) ?_
 refine ar (id := 1) 4 ?_
 refine sl 25 (.agg #[.int .i64 su.nodes, .int .i64 su.lines, .int .i64 su.words, .int .i64 su.sets, .int .i64 su.ways, .int .i64 su.out, .int .i64 su.inn, .slice sua (List.length su.init) sucap, .slice sua1 (List.length su.who) sucap1, .slice sua2 (List.length su.kinds) sucap2, .slice sua3 (List.length su.addrs) sucap3, .slice sua4 (List.length su.values) sucap4]) (loadN (off := 0) (vs := [.int .i64 su.nodes, .int .i64 su.lines, .int .i64 su.words, .int .i64 su.sets, .int .i64 su.ways, .int .i64 su.out, .int .i64 su.inn, .slice sua (List.length su.init) sucap, .slice sua1 (List.length su.who) sucap1, .slice sua2 (List.length su.kinds) sucap2, .slice sua3 (List.length su.addrs) sucap3, .slice sua4 (List.length su.values) sucap4]) 12 (fun _ => by kernel_rfl) (holds_own .here) rfl (by exact ⟨rfl, rfl, rfl, rfl, rfl, rfl, rfl, rfl, rfl, rfl, rfl, rfl, trivial⟩)) ?_
 obtain ⟨y1_1, hy1_1, H⟩ := bindE H
 refine s_call 26 7 #[.agg #[.int .i64 su.nodes, .int .i64 su.lines, .int .i64 su.words, .int .i64 su.sets, .int .i64 su.ways, .int .i64 su.out, .int .i64 su.inn, .slice sua (List.length su.init) sucap, .slice sua1 (List.length su.who) sucap1, .slice sua2 (List.length su.kinds) sucap2, .slice sua3 (List.length su.addrs) sucap3, .slice sua4 (List.length su.values) sucap4]] (by kernel_rfl) (by kernel_rfl) (fun _ => by kernel_rfl) (PlConfigF_tr sua sucap sua1 sucap1 sua2 sucap2 sua3 sucap3 sua4 sucap4 su (Reads.conv (fun w hw => hw.less (.drop .here .refl)) hrsua) hcsua (Reads.conv (fun w hw => hw.less (.drop .here .refl)) hrsua1) hcsua1 (Reads.conv (fun w hw => hw.less (.drop .here .refl)) hrsua2) hcsua2 (Reads.conv (fun w hw => hw.less (.drop .here .refl)) hrsua3) hcsua3 (Reads.conv (fun w hw => hw.less (.drop .here .refl)) hrsua4) hcsua4 y1_1 hy1_1) ?_
 rintro _ _ ⟨a1_1_00, c1_1_00, rfl, rfl⟩
 refine s_step 7 (by kernel_rfl) (by kernel_rfl) (st_new (T := 26) (cells := #[.int .i64 (0), .int .i64 (0), .int .i64 (0), .int .i64 (0), .int .i64 (0), .int .i64 (0), .int .i64 (0), .slice none 0 0]) (fun a => .pointer (some a)) (fun _ => by kernel_rfl)) ?_
 rintro _ _ ⟨b1_2, rfl, rfl⟩
 refine s_do (by kernel_rfl) (by kernel_rfl) (st_store (off := 0) (vs := [.int .i64 y1_1.nodes, .int .i64 y1_1.lines, .int .i64 y1_1.words, .int .i64 y1_1.sets, .int .i64 y1_1.ways, .int .i64 y1_1.out, .int .i64 y1_1.inn, .slice a1_1_00 (List.length y1_1.init) c1_1_00]) (c' := #[.int .i64 y1_1.nodes, .int .i64 y1_1.lines, .int .i64 y1_1.words, .int .i64 y1_1.sets, .int .i64 y1_1.ways, .int .i64 y1_1.out, .int .i64 y1_1.inn, .slice a1_1_00 (List.length y1_1.init) c1_1_00]) (fun _ => by kernel_rfl) .here (by kernel_rfl) (by kernel_rfl) (by kernel_rfl)) ?_
 rintro _ _ ⟨rfl, rfl⟩
 refine ops_end ?_
 refine ae [(1, .slice ordera (List.length order) ordercap), (2, .int .i64 v), (7, .pointer (some ⟨b1_2, 0, none⟩))] ?_
 refine at_then_normal ?_
 refine aq (x := C6 [1,1,0]) (y := C6 [1,1,1]) ?_
 refine ar (id := 2) 6 ?_
 refine sp 27 (.pointer (some ⟨b1_2, 0, none⟩)) ?_
 refine sl 28 (.int .i64 y1_1.nodes) (load1 (off := 0) (fun _ => by kernel_rfl) (holds_own .here) (by kernel_rfl)) ?_
 refine sr 29 (.int .i64 (y1_1.nodes.tmod (2 : Int))) (run_remP (a := y1_1.nodes) (b := 2) (fun _ => by kernel_rfl) (by decide)) ?_
 obtain ⟨u2_3, hu2_3, H⟩ := letE H
 refine sr 30 (.int .i64 u2_3) (run_eq (v := .int .i64 (wr ((1 : Int) + (y1_1.nodes.tmod (2 : Int))))) (fun _ => by kernel_rfl) (by rw [hu2_3])) ?_
 refine sp 31 (.pointer (some ⟨b1_2, 0, none⟩)) ?_
 refine s_do (by kernel_rfl) (by kernel_rfl) (st_store (off := 0) (vs := [.int .i64 u2_3]) (c' := #[.int .i64 u2_3, .int .i64 y1_1.lines, .int .i64 y1_1.words, .int .i64 y1_1.sets, .int .i64 y1_1.ways, .int .i64 y1_1.out, .int .i64 y1_1.inn, .slice a1_1_00 (List.length y1_1.init) c1_1_00]) (fun _ => by kernel_rfl) .here (by kernel_rfl) (by kernel_rfl) (by kernel_rfl)) ?_
 rintro _ _ ⟨rfl, rfl⟩
 refine ops_end ?_
 refine ae [(1, .slice ordera (List.length order) ordercap), (2, .int .i64 v), (7, .pointer (some ⟨b1_2, 0, none⟩))] ?_
 refine at_then_normal ?_
 refine aq (x := C6 [1,1,1,0]) (y := C6 [1,1,1,1]) ?_
 refine ar (id := 3) 3 ?_
 refine sl 32 (.agg #[.int .i64 u2_3, .int .i64 y1_1.lines, .int .i64 y1_1.words, .int .i64 y1_1.sets, .int .i64 y1_1.ways, .int .i64 y1_1.out, .int .i64 y1_1.inn, .slice a1_1_00 (List.length y1_1.init) c1_1_00]) (loadN (off := 0) (vs := [.int .i64 u2_3, .int .i64 y1_1.lines, .int .i64 y1_1.words, .int .i64 y1_1.sets, .int .i64 y1_1.ways, .int .i64 y1_1.out, .int .i64 y1_1.inn, .slice a1_1_00 (List.length y1_1.init) c1_1_00]) 8 (fun _ => by kernel_rfl) (holds_own .here) rfl (by exact ⟨rfl, rfl, rfl, rfl, rfl, rfl, rfl, rfl, trivial⟩)) ?_
 obtain ⟨y3_1, hy3_1, H⟩ := bindE H
 refine At.known (p := (List.length y1_1.init) ≤ c1_1_00) (fun w hw => by have := (RowsA.len (hw.pull (.there .here))).2; simpa using this) ?_
 intro hcap1
 refine s_call 33 8 #[.agg #[.int .i64 u2_3, .int .i64 y1_1.lines, .int .i64 y1_1.words, .int .i64 y1_1.sets, .int .i64 y1_1.ways, .int .i64 y1_1.out, .int .i64 y1_1.inn, .slice a1_1_00 (List.length y1_1.init) c1_1_00], .int .i64 (0)] (by kernel_rfl) (by kernel_rfl) (fun _ => by kernel_rfl) (Tr.conv (Γ' := (ImmI a1_1_00 y1_1.init) :: (ImmI a1_1_00 y1_1.init) :: (Asn.own b1_2 (.cells #[.int .i64 u2_3, .int .i64 y1_1.lines, .int .i64 y1_1.words, .int .i64 y1_1.sets, .int .i64 y1_1.ways, .int .i64 y1_1.out, .int .i64 y1_1.inn, .slice a1_1_00 (List.length y1_1.init) c1_1_00] 26 (0, 0))) :: (Asn.own b0_0 (.cells #[.int .i64 su.nodes, .int .i64 su.lines, .int .i64 su.words, .int .i64 su.sets, .int .i64 su.ways, .int .i64 su.out, .int .i64 su.inn, .slice sua (List.length su.init) sucap, .slice sua1 (List.length su.who) sucap1, .slice sua2 (List.length su.kinds) sucap2, .slice sua3 (List.length su.addrs) sucap3, .slice sua4 (List.length su.values) sucap4] 24 (0, 0))) :: Γ) (fun w hw => (Sat.less (.take .here (.take .here (.take .here (.take .here .refl)))) (ImmR.dup (Sat.less (.take .here (.take .here (.take .here .refl))) (RowsA.freeze (Sat.less (.take (.there .here) (.take .here (.take .here .refl))) hw)))))) (HNewF_tr a1_1_00 c1_1_00 (⟨u2_3, y1_1.lines, y1_1.words, y1_1.sets, y1_1.ways, y1_1.out, y1_1.inn, y1_1.init⟩ : CfgS) (0 : Int) hcap1 y3_1 hy3_1)) ?_
 rintro _ _ ⟨b3_1, rfl, rfl⟩
 refine sp 8 (.pointer (some ⟨b3_1, 0, none⟩)) ?_
 refine ops_end ?_
 refine ae [(1, .slice ordera (List.length order) ordercap), (2, .int .i64 v), (7, .pointer (some ⟨b1_2, 0, none⟩)), (8, .pointer (some ⟨b3_1, 0, none⟩))] ?_
 refine at_then_normal ?_
 refine aq (x := C6 [1,1,1,1,0]) (y := C6 [1,1,1,1,1]) ?_
 refine aq (x := C6 [1,1,1,1,0,0]) (y := C6 [1,1,1,1,0,1]) ?_
 refine ar (id := 4) 2 ?_
 refine sp 34 (.pointer (some ⟨b3_1, 0, none⟩)) ?_
 refine sp 35 (.bool false) ?_
 refine ops_end ?_
 refine ae [(1, .slice ordera (List.length order) ordercap), (2, .int .i64 v), (7, .pointer (some ⟨b1_2, 0, none⟩)), (8, .pointer (some ⟨b3_1, 0, none⟩)), (35, .bool false)] ?_
 refine at_then_normal ?_
 refine at_false (t := false) (x := C6 [1,1,1,1,0,1,0]) (y := C6 [1,1,1,1,0,1,1]) (o := .tmp 35) (by kernel_rfl) (by kernel_rfl) (by kernel_rfl) rfl ?_
 refine at_skip (by kernel_rfl) ?_
 refine at_then_normal ?_
 refine aq (x := C6 [1,1,1,1,1,0]) (y := C6 [1,1,1,1,1,1]) ?_
 refine ar (id := 6) 1 ?_
 refine sp 9 (.slice none 0 0) ?_
 refine ops_end ?_
 refine ae [(1, .slice ordera (List.length order) ordercap), (2, .int .i64 v), (7, .pointer (some ⟨b1_2, 0, none⟩)), (8, .pointer (some ⟨b3_1, 0, none⟩)), (9, .slice none 0 0)] ?_
 refine at_then_normal ?_
 refine aq (x := C6 [1,1,1,1,1,1,0]) (y := C6 [1,1,1,1,1,1,1]) ?_
 refine aq (x := C6 [1,1,1,1,1,1,0,0]) (y := C6 [1,1,1,1,1,1,0,1]) ?_
 refine ar (id := 7) 1 ?_
 refine sp 10 (.int .i64 (0)) ?_
 refine ops_end ?_
 refine ae [(1, .slice ordera (List.length order) ordercap), (2, .int .i64 v), (7, .pointer (some ⟨b1_2, 0, none⟩)), (8, .pointer (some ⟨b3_1, 0, none⟩)), (9, .slice none 0 0), (10, .int .i64 (0))] ?_
 refine at_then_normal ?_
 refine at_block (i := 0) (x := C6 [1,1,1,1,1,1,0,1,0]) (by kernel_rfl) ?_
 refine At.conv (Γ' := (IntsA none 0 ([] : List Int)) :: (HomeA b3_1 y3_1) :: (ImmI a1_1_00 y1_1.init) :: (Asn.own b1_2 (.cells #[.int .i64 u2_3, .int .i64 y1_1.lines, .int .i64 y1_1.words, .int .i64 y1_1.sets, .int .i64 y1_1.ways, .int .i64 y1_1.out, .int .i64 y1_1.inn, .slice a1_1_00 (List.length y1_1.init) c1_1_00] 26 (0, 0))) :: Γ) (fun w hw => (Sat.less (.take .here (.take .here (.take .here (.take .here (.drop .here .refl))))) (RowsA.none_mk (k := 1) (a := none) hw))) ?_
 refine at_loopR (x := C6 [1,1,1,1,1,1,0,1,0,0]) (fun mm ff ΔΔ => ∃ (fuel : Nat) (v0_9x : List Int) (v0_10 : Int) (v0_b3_1 : HomeS) (v0_9a : Option Addr) (v0_9c : Nat), homeLinesS_l0 y1_1 u2_3 (homeLinesS_k0 y1_1 order v) fuel v0_9x v0_10 v0_b3_1 = some y ∧ fuel = mm ∧ ff = [(1, .slice ordera (List.length order) ordercap), (2, .int .i64 v), (7, .pointer (some ⟨b1_2, 0, none⟩)), (8, .pointer (some ⟨b3_1, 0, none⟩)), (9, .slice v0_9a (List.length v0_9x) v0_9c), (10, .int .i64 v0_10)] ∧ (IntsA v0_9a v0_9c v0_9x) :: (HomeA b3_1 v0_b3_1) :: (ImmI a1_1_00 y1_1.init) :: (Asn.own b1_2 (.cells #[.int .i64 u2_3, .int .i64 y1_1.lines, .int .i64 y1_1.words, .int .i64 y1_1.sets, .int .i64 y1_1.ways, .int .i64 y1_1.out, .int .i64 y1_1.inn, .slice a1_1_00 (List.length y1_1.init) c1_1_00] 26 (0, 0))) :: Γ = ΔΔ) (64) (by kernel_rfl) [(1, .slice ordera (List.length order) ordercap), (2, .int .i64 v), (7, .pointer (some ⟨b1_2, 0, none⟩)), (8, .pointer (some ⟨b3_1, 0, none⟩)), (9, .slice none (List.length ([] : List Int)) 0), (10, .int .i64 0)] ⟨by kernel_rfl, by kernel_rfl, by kernel_rfl, by kernel_rfl, by kernel_rfl, by kernel_rfl, trivial⟩ ⟨64, ([] : List Int), 0, y3_1, none, 0, H, rfl, rfl, rfl⟩ ?_
 rintro _ _ _ ⟨fuel1, v0_9x, v0_10, v0_b3_1, v0_9a, v0_9c, H, rfl, rfl, rfl⟩
 rcases fuel1 with _ | fuel1
 ·exact (noneE H).elim
 rw [homeLinesS_l0] at H
 refine aq (x := C6 [1,1,1,1,1,1,0,1,0,0,0]) (y := C6 [1,1,1,1,1,1,0,1,0,0,1]) ?_
 refine aq (x := C6 [1,1,1,1,1,1,0,1,0,0,0,0]) (y := C6 [1,1,1,1,1,1,0,1,0,0,0,1]) ?_
 refine ar (id := 8) 4 ?_
 refine sp 36 (.int .i64 v0_10) ?_
 refine sp 37 (.pointer (some ⟨b1_2, 1, none⟩)) ?_
 refine sl 38 (.int .i64 y1_1.lines) (load1 (off := 1) (fun _ => by kernel_rfl) (holds_own (.there (.there (.there .here)))) (by kernel_rfl)) ?_
 refine sp 39 (.bool (decide (v0_10 < y1_1.lines))) ?_
 refine ops_end ?_
 refine ae [(1, .slice ordera (List.length order) ordercap), (2, .int .i64 v), (7, .pointer (some ⟨b1_2, 0, none⟩)), (8, .pointer (some ⟨b3_1, 0, none⟩)), (9, .slice v0_9a (List.length v0_9x) v0_9c), (10, .int .i64 v0_10), (39, .bool (decide (v0_10 < y1_1.lines)))] ?_
 refine at_then_normal ?_
 rcases Bool.eq_false_or_eq_true (decide (v0_10 < y1_1.lines)) with h1 | h1
 ·replace H := bifT H h1
  refine at_true (t := decide (v0_10 < y1_1.lines)) (x := C6 [1,1,1,1,1,1,0,1,0,0,0,1,0]) (y := C6 [1,1,1,1,1,1,0,1,0,0,0,1,1]) (o := .tmp 39) (by kernel_rfl) (by kernel_rfl) (by kernel_rfl) h1 ?_
  refine at_skip (by kernel_rfl) ?_
  refine at_then_normal ?_
  refine aq (x := C6 [1,1,1,1,1,1,0,1,0,0,1,0]) (y := C6 [1,1,1,1,1,1,0,1,0,0,1,1]) ?_
  refine at_block (i := 1) (x := C6 [1,1,1,1,1,1,0,1,0,0,1,0,0]) (by kernel_rfl) ?_
  refine aq (x := C6 [1,1,1,1,1,1,0,1,0,0,1,0,0,0]) (y := C6 [1,1,1,1,1,1,0,1,0,0,1,0,0,1]) ?_
  refine ar (id := 10) 5 ?_
  refine sp 44 (.slice v0_9a (List.length v0_9x) v0_9c) ?_
  refine sp 45 (.int .i64 v0_10) ?_
  obtain ⟨l10_2, hl10_2, H⟩ := letE H
  refine s_step 46 (by kernel_rfl) (by kernel_rfl) (st_new_ints (T := 3) (xs := l10_2) 1 hl10_2 (fun _ => by kernel_rfl) (by kernel_rfl)) ?_
  rintro _ _ ⟨b10_2, rfl, rfl⟩
  obtain ⟨hc10_3_0, H⟩ := chkE H
  obtain ⟨l10_3, hl10_3, H⟩ := letE H
  refine s_step 47 (by kernel_rfl) (by kernel_rfl) (st_append_ints (xs := v0_9x) (ys := l10_2) (zs := l10_3) (m1 := (List.length v0_9x)) (m2 := (List.length l10_2)) (m := List.length l10_3) (cap2 := 1) 22 22 3 (tinfo 3) (fun _ => by kernel_rfl) (by kernel_rfl) (by kernel_rfl) (by kernel_rfl) (by kernel_rfl) (by kernel_rfl) (.there .here) (RowsA.reads (k := 1) .here) (by first | rfl | simp) (by first | rfl | simp) (by rw [← hl10_3]; first | done | simp) (by rw [← hl10_3]; first | done | simp) (by rw [← hl10_3]; exact hc10_3_0)) ?_
  rintro _ _ ⟨a10_3, c10_3, rfl, rfl⟩
  refine sp 9 (.slice a10_3 (List.length l10_3) c10_3) ?_
  refine ops_end ?_
  refine ae [(1, .slice ordera (List.length order) ordercap), (2, .int .i64 v), (7, .pointer (some ⟨b1_2, 0, none⟩)), (8, .pointer (some ⟨b3_1, 0, none⟩)), (9, .slice a10_3 (List.length l10_3) c10_3), (10, .int .i64 v0_10)] ?_
  refine at_then_normal ?_
  refine aq (x := C6 [1,1,1,1,1,1,0,1,0,0,1,0,0,1,0]) (y := C6 [1,1,1,1,1,1,0,1,0,0,1,0,0,1,1]) ?_
  refine ar (id := 11) 13 ?_
  refine sp 49 (.pointer (some ⟨b3_1, 0, none⟩)) ?_
  refine sp 50 (.int .i64 v0_10) ?_
  refine sp 51 (.int .i64 v0_10) ?_
  refine sp 52 (.agg #[.int .i64 (1), .int .i64 (0), .int .i64 (0), .int .i64 v0_10, .int .i64 v0_10, .int .i64 (0), .int .i64 (0), .bool false, .slice none 0 0]) ?_
  obtain ⟨y11_4, hy11_4, H⟩ := bindE H
  refine s_call 53 10 #[.pointer (some ⟨b3_1, 0, none⟩), .agg #[.int .i64 (1), .int .i64 (0), .int .i64 (0), .int .i64 v0_10, .int .i64 v0_10, .int .i64 (0), .int .i64 (0), .bool false, .slice none 0 0]] (by kernel_rfl) (by kernel_rfl) (fun _ => by kernel_rfl) (Tr.conv (Γ' := (HomeA b3_1 v0_b3_1) :: (IntsA a10_3 c10_3 l10_3) :: (IntsA (some ⟨b10_2, 0, none⟩) 1 l10_2) :: (ImmI a1_1_00 y1_1.init) :: (Asn.own b1_2 (.cells #[.int .i64 u2_3, .int .i64 y1_1.lines, .int .i64 y1_1.words, .int .i64 y1_1.sets, .int .i64 y1_1.ways, .int .i64 y1_1.out, .int .i64 y1_1.inn, .slice a1_1_00 (List.length y1_1.init) c1_1_00] 26 (0, 0))) :: Γ) (fun w hw => (Sat.less (.take (.there (.there .here)) (.take .here (.take .here (.take .here (.take .here .refl))))) hw)) (HHandleF_tr b3_1 v0_b3_1 none 0 (⟨1, 0, 0, v0_10, v0_10, 0, 0, false, ([] : List Int)⟩ : PktS) Reads.nil y11_4 hy11_4)) ?_
  rintro _ _ ⟨a11_4_00, c11_4_00, rfl, rfl⟩
  refine sp 48 (.tuple #[.agg #[.int .i64 y11_4.1.kind, .int .i64 y11_4.1.src, .int .i64 y11_4.1.dst, .int .i64 y11_4.1.id, .int .i64 y11_4.1.line, .int .i64 y11_4.1.ptr, .int .i64 y11_4.1.state, .bool y11_4.1.flag, .slice a11_4_00 (List.length y11_4.1.data) c11_4_00], .bool y11_4.2.1, .int .i64 y11_4.2.2.1]) ?_
  refine sp 54 (.agg #[.int .i64 y11_4.1.kind, .int .i64 y11_4.1.src, .int .i64 y11_4.1.dst, .int .i64 y11_4.1.id, .int .i64 y11_4.1.line, .int .i64 y11_4.1.ptr, .int .i64 y11_4.1.state, .bool y11_4.1.flag, .slice a11_4_00 (List.length y11_4.1.data) c11_4_00]) ?_
  refine sp 55 (.bool y11_4.2.1) ?_
  refine sp 56 (.int .i64 y11_4.2.2.1) ?_
  refine s_step 11 (by kernel_rfl) (by kernel_rfl) (st_new (T := 32) (cells := #[.int .i64 (0), .int .i64 (0), .int .i64 (0), .int .i64 (0), .int .i64 (0), .int .i64 (0), .int .i64 (0), .bool false, .slice none 0 0]) (fun a => .pointer (some a)) (fun _ => by kernel_rfl)) ?_
  rintro _ _ ⟨b11_9, rfl, rfl⟩
  refine s_do (by kernel_rfl) (by kernel_rfl) (st_store (off := 0) (vs := [.int .i64 y11_4.1.kind, .int .i64 y11_4.1.src, .int .i64 y11_4.1.dst, .int .i64 y11_4.1.id, .int .i64 y11_4.1.line, .int .i64 y11_4.1.ptr, .int .i64 y11_4.1.state, .bool y11_4.1.flag, .slice a11_4_00 (List.length y11_4.1.data) c11_4_00]) (c' := #[.int .i64 y11_4.1.kind, .int .i64 y11_4.1.src, .int .i64 y11_4.1.dst, .int .i64 y11_4.1.id, .int .i64 y11_4.1.line, .int .i64 y11_4.1.ptr, .int .i64 y11_4.1.state, .bool y11_4.1.flag, .slice a11_4_00 (List.length y11_4.1.data) c11_4_00]) (fun _ => by kernel_rfl) .here (by kernel_rfl) (by kernel_rfl) (by kernel_rfl)) ?_
  rintro _ _ ⟨rfl, rfl⟩
  refine sp 12 (.bool y11_4.2.1) ?_
  refine sp 13 (.int .i64 y11_4.2.2.1) ?_
  refine ops_end ?_
  refine ae [(1, .slice ordera (List.length order) ordercap), (2, .int .i64 v), (7, .pointer (some ⟨b1_2, 0, none⟩)), (8, .pointer (some ⟨b3_1, 0, none⟩)), (9, .slice a10_3 (List.length l10_3) c10_3), (10, .int .i64 v0_10), (11, .pointer (some ⟨b11_9, 0, none⟩)), (12, .bool y11_4.2.1), (13, .int .i64 y11_4.2.2.1)] ?_
  refine at_then_normal ?_
  refine aq (x := C6 [1,1,1,1,1,1,0,1,0,0,1,0,0,1,1,0]) (y := C6 [1,1,1,1,1,1,0,1,0,0,1,0,0,1,1,1]) ?_
  refine at_seq_join (x := C6 [1,1,1,1,1,1,0,1,0,0,1,0,0,1,1,0,0]) (y := C6 [1,1,1,1,1,1,0,1,0,0,1,0,0,1,1,0,1]) (fun ff ΔΔ => ∃ (e5_74 : Bool), homeLinesS_j5 v0_10 y11_4 (homeLinesS_l0 y1_1 u2_3 (homeLinesS_k0 y1_1 order v) fuel1) l10_3 u2_3 e5_74 = some y ∧ ff = [(1, .slice ordera (List.length order) ordercap), (2, .int .i64 v), (7, .pointer (some ⟨b1_2, 0, none⟩)), (8, .pointer (some ⟨b3_1, 0, none⟩)), (9, .slice a10_3 (List.length l10_3) c10_3), (10, .int .i64 v0_10), (74, .bool e5_74)] ∧ (HomeA b3_1 y11_4.2.2.2) :: (IntsA a10_3 c10_3 l10_3) :: (ImmI a1_1_00 y1_1.init) :: (Asn.own b1_2 (.cells #[.int .i64 u2_3, .int .i64 y1_1.lines, .int .i64 y1_1.words, .int .i64 y1_1.sets, .int .i64 y1_1.ways, .int .i64 y1_1.out, .int .i64 y1_1.inn, .slice a1_1_00 (List.length y1_1.init) c1_1_00] 26 (0, 0))) :: Γ = ΔΔ) (by kernel_rfl) ?_ ?_
  ·rintro _ _ ⟨e5_74, H, rfl, rfl⟩
   rw [homeLinesS_j5] at H
   rcases Bool.eq_false_or_eq_true (e5_74) with h2 | h2
   ·replace H := bifT H h2
    refine at_true (t := e5_74) (x := C6 [1,1,1,1,1,1,0,1,0,0,1,0,0,1,1,0,1,0]) (y := C6 [1,1,1,1,1,1,0,1,0,0,1,0,0,1,1,0,1,1]) (o := .tmp 74) (by kernel_rfl) (by kernel_rfl) (by kernel_rfl) h2 ?_
    refine aq (x := C6 [1,1,1,1,1,1,0,1,0,0,1,0,0,1,1,0,1,0,0]) (y := C6 [1,1,1,1,1,1,0,1,0,0,1,0,0,1,1,0,1,0,1]) ?_
    refine ar (id := 13) 1 ?_
    refine sp 6 (.bool false) ?_
    refine ops_end ?_
    refine ae [(6, .bool false)] ?_
    refine at_then_normal ?_
    refine at_ret (by kernel_rfl) ?_
    refine at_then_ret ?_
    refine at_in_ret ?_
    refine at_then_ret ?_
    refine at_then_ret ?_
    refine at_in_ret ?_
    refine at_then_ret ?_
    obtain rfl := someE H
    refine at_backR [.bool false] (Γ) (rs := [.tmp 6]) (by kernel_rfl) (.cons (.tmp (by kernel_rfl)) .nil) (fun w hw => (Sat.less (.drop .here (.drop .here (.drop .here (.drop .here .refl)))) hw)) ?_
    exact ⟨rfl, rfl⟩
   ·replace H := bifF H h2
    refine at_false (t := e5_74) (x := C6 [1,1,1,1,1,1,0,1,0,0,1,0,0,1,1,0,1,0]) (y := C6 [1,1,1,1,1,1,0,1,0,0,1,0,0,1,1,0,1,1]) (o := .tmp 74) (by kernel_rfl) (by kernel_rfl) (by kernel_rfl) h2 ?_
    refine at_skip (by kernel_rfl) ?_
    refine at_then_normal ?_
    refine aq (x := C6 [1,1,1,1,1,1,0,1,0,0,1,0,0,1,1,1,0]) (y := C6 [1,1,1,1,1,1,0,1,0,0,1,0,0,1,1,1,1]) ?_
    refine ar (id := 14) 14 ?_
    refine sp 76 (.pointer (some ⟨b3_1, 0, none⟩)) ?_
    refine sp 77 (.int .i64 v0_10) ?_
    refine sp 78 (.int .i64 v0_10) ?_
    obtain ⟨hc14_3_0, H⟩ := chkE H
    refine sr 79 (.int .i64 ((100 : Int) + v0_10)) (run_eq (v := .int .i64 (IntKind.i64.wrap ((100 : Int) + v0_10))) (fun _ => by kernel_rfl) (by rw [inR.wrap hc14_3_0])) ?_
    refine sp 80 (.agg #[.int .i64 (1), .int .i64 (0), .int .i64 (0), .int .i64 ((100 : Int) + v0_10), .int .i64 v0_10, .int .i64 (0), .int .i64 (0), .bool false, .slice none 0 0]) ?_
    obtain ⟨y14_5, hy14_5, H⟩ := bindE H
    refine s_call 81 10 #[.pointer (some ⟨b3_1, 0, none⟩), .agg #[.int .i64 (1), .int .i64 (0), .int .i64 (0), .int .i64 ((100 : Int) + v0_10), .int .i64 v0_10, .int .i64 (0), .int .i64 (0), .bool false, .slice none 0 0]] (by kernel_rfl) (by kernel_rfl) (fun _ => by kernel_rfl) (HHandleF_tr b3_1 y11_4.2.2.2 none 0 (⟨1, 0, 0, (100 : Int) + v0_10, v0_10, 0, 0, false, ([] : List Int)⟩ : PktS) Reads.nil y14_5 hy14_5) ?_
    rintro _ _ ⟨a14_5_00, c14_5_00, rfl, rfl⟩
    refine sp 75 (.tuple #[.agg #[.int .i64 y14_5.1.kind, .int .i64 y14_5.1.src, .int .i64 y14_5.1.dst, .int .i64 y14_5.1.id, .int .i64 y14_5.1.line, .int .i64 y14_5.1.ptr, .int .i64 y14_5.1.state, .bool y14_5.1.flag, .slice a14_5_00 (List.length y14_5.1.data) c14_5_00], .bool y14_5.2.1, .int .i64 y14_5.2.2.1]) ?_
    refine sp 82 (.agg #[.int .i64 y14_5.1.kind, .int .i64 y14_5.1.src, .int .i64 y14_5.1.dst, .int .i64 y14_5.1.id, .int .i64 y14_5.1.line, .int .i64 y14_5.1.ptr, .int .i64 y14_5.1.state, .bool y14_5.1.flag, .slice a14_5_00 (List.length y14_5.1.data) c14_5_00]) ?_
    refine sp 83 (.bool y14_5.2.1) ?_
    refine sp 84 (.int .i64 y14_5.2.2.1) ?_
    refine s_step 14 (by kernel_rfl) (by kernel_rfl) (st_new (T := 32) (cells := #[.int .i64 (0), .int .i64 (0), .int .i64 (0), .int .i64 (0), .int .i64 (0), .int .i64 (0), .int .i64 (0), .bool false, .slice none 0 0]) (fun a => .pointer (some a)) (fun _ => by kernel_rfl)) ?_
    rintro _ _ ⟨b14_10, rfl, rfl⟩
    refine s_do (by kernel_rfl) (by kernel_rfl) (st_store (off := 0) (vs := [.int .i64 y14_5.1.kind, .int .i64 y14_5.1.src, .int .i64 y14_5.1.dst, .int .i64 y14_5.1.id, .int .i64 y14_5.1.line, .int .i64 y14_5.1.ptr, .int .i64 y14_5.1.state, .bool y14_5.1.flag, .slice a14_5_00 (List.length y14_5.1.data) c14_5_00]) (c' := #[.int .i64 y14_5.1.kind, .int .i64 y14_5.1.src, .int .i64 y14_5.1.dst, .int .i64 y14_5.1.id, .int .i64 y14_5.1.line, .int .i64 y14_5.1.ptr, .int .i64 y14_5.1.state, .bool y14_5.1.flag, .slice a14_5_00 (List.length y14_5.1.data) c14_5_00]) (fun _ => by kernel_rfl) .here (by kernel_rfl) (by kernel_rfl) (by kernel_rfl)) ?_
    rintro _ _ ⟨rfl, rfl⟩
    refine sp 15 (.bool y14_5.2.1) ?_
    refine sp 16 (.int .i64 y14_5.2.2.1) ?_
    refine ops_end ?_
    refine ae [(1, .slice ordera (List.length order) ordercap), (2, .int .i64 v), (7, .pointer (some ⟨b1_2, 0, none⟩)), (8, .pointer (some ⟨b3_1, 0, none⟩)), (9, .slice a10_3 (List.length l10_3) c10_3), (10, .int .i64 v0_10), (15, .bool y14_5.2.1), (16, .int .i64 y14_5.2.2.1)] ?_
    refine at_then_normal ?_
    refine at_seq_join (x := C6 [1,1,1,1,1,1,0,1,0,0,1,0,0,1,1,1,1,0]) (y := C6 [1,1,1,1,1,1,0,1,0,0,1,0,0,1,1,1,1,1]) (fun ff ΔΔ => ∃ (e6_89 : Bool), homeLinesS_j6 (homeLinesS_l0 y1_1 u2_3 (homeLinesS_k0 y1_1 order v) fuel1) l10_3 v0_10 u2_3 y14_5 e6_89 = some y ∧ ff = [(1, .slice ordera (List.length order) ordercap), (2, .int .i64 v), (7, .pointer (some ⟨b1_2, 0, none⟩)), (8, .pointer (some ⟨b3_1, 0, none⟩)), (9, .slice a10_3 (List.length l10_3) c10_3), (10, .int .i64 v0_10), (89, .bool e6_89)] ∧ (HomeA b3_1 y14_5.2.2.2) :: (IntsA a10_3 c10_3 l10_3) :: (ImmI a1_1_00 y1_1.init) :: (Asn.own b1_2 (.cells #[.int .i64 u2_3, .int .i64 y1_1.lines, .int .i64 y1_1.words, .int .i64 y1_1.sets, .int .i64 y1_1.ways, .int .i64 y1_1.out, .int .i64 y1_1.inn, .slice a1_1_00 (List.length y1_1.init) c1_1_00] 26 (0, 0))) :: Γ = ΔΔ) (by kernel_rfl) ?_ ?_
    ·rintro _ _ ⟨e6_89, H, rfl, rfl⟩
     rw [homeLinesS_j6] at H
     rcases Bool.eq_false_or_eq_true (e6_89) with h3 | h3
     ·replace H := bifT H h3
      refine at_true (t := e6_89) (x := C6 [1,1,1,1,1,1,0,1,0,0,1,0,0,1,1,1,1,1,0]) (y := C6 [1,1,1,1,1,1,0,1,0,0,1,0,0,1,1,1,1,1,1]) (o := .tmp 89) (by kernel_rfl) (by kernel_rfl) (by kernel_rfl) h3 ?_
      refine aq (x := C6 [1,1,1,1,1,1,0,1,0,0,1,0,0,1,1,1,1,1,0,0]) (y := C6 [1,1,1,1,1,1,0,1,0,0,1,0,0,1,1,1,1,1,0,1]) ?_
      refine ar (id := 16) 1 ?_
      refine sp 6 (.bool false) ?_
      refine ops_end ?_
      refine ae [(6, .bool false)] ?_
      refine at_then_normal ?_
      refine at_ret (by kernel_rfl) ?_
      refine at_in_ret ?_
      refine at_then_ret ?_
      refine at_then_ret ?_
      refine at_in_ret ?_
      refine at_then_ret ?_
      obtain rfl := someE H
      refine at_backR [.bool false] (Γ) (rs := [.tmp 6]) (by kernel_rfl) (.cons (.tmp (by kernel_rfl)) .nil) (fun w hw => (Sat.less (.drop .here (.drop .here (.drop .here (.drop .here .refl)))) hw)) ?_
      exact ⟨rfl, rfl⟩
     ·replace H := bifF H h3
      refine at_false (t := e6_89) (x := C6 [1,1,1,1,1,1,0,1,0,0,1,0,0,1,1,1,1,1,0]) (y := C6 [1,1,1,1,1,1,0,1,0,0,1,0,0,1,1,1,1,1,1]) (o := .tmp 89) (by kernel_rfl) (by kernel_rfl) (by kernel_rfl) h3 ?_
      refine at_skip (by kernel_rfl) ?_
      refine at_in_normal ?_
      refine at_then_normal ?_
      refine ar (id := 9) 5 ?_
      refine sp 40 (.int .i64 v0_10) ?_
      refine sp 41 (.pointer (some ⟨b1_2, 0, none⟩)) ?_
      refine sl 42 (.int .i64 u2_3) (load1 (off := 0) (fun _ => by kernel_rfl) (holds_own (.there (.there (.there .here)))) (by kernel_rfl)) ?_
      refine sp 43 (.int .i64 (wr (v0_10 + u2_3))) ?_
      refine sp 10 (.int .i64 (wr (v0_10 + u2_3))) ?_
      refine ops_end ?_
      refine ae [(1, .slice ordera (List.length order) ordercap), (2, .int .i64 v), (7, .pointer (some ⟨b1_2, 0, none⟩)), (8, .pointer (some ⟨b3_1, 0, none⟩)), (9, .slice a10_3 (List.length l10_3) c10_3), (10, .int .i64 (wr (v0_10 + u2_3)))] ?_
      refine at_round_normal ?_
      exact at_roundR fuel1 [(1, .slice ordera (List.length order) ordercap), (2, .int .i64 v), (7, .pointer (some ⟨b1_2, 0, none⟩)), (8, .pointer (some ⟨b3_1, 0, none⟩)), (9, .slice a10_3 (List.length l10_3) c10_3), (10, .int .i64 (wr (v0_10 + u2_3)))] ((IntsA a10_3 c10_3 l10_3) :: (HomeA b3_1 y14_5.2.2.2) :: (ImmI a1_1_00 y1_1.init) :: (Asn.own b1_2 (.cells #[.int .i64 u2_3, .int .i64 y1_1.lines, .int .i64 y1_1.words, .int .i64 y1_1.sets, .int .i64 y1_1.ways, .int .i64 y1_1.out, .int .i64 y1_1.inn, .slice a1_1_00 (List.length y1_1.init) c1_1_00] 26 (0, 0))) :: Γ) (Nat.lt_succ_self _) ⟨by kernel_rfl, by kernel_rfl, by kernel_rfl, by kernel_rfl, by kernel_rfl, by kernel_rfl, trivial⟩ (fun w hw => (Sat.less (.take (.there .here) (.take .here (.take .here (.take .here .refl)))) hw)) ⟨fuel1, l10_3, wr (v0_10 + u2_3), y14_5.2.2.2, a10_3, c10_3, H, rfl, rfl, rfl⟩
    ·refine ar (id := 15) 5 ?_
     refine sp 85 (.bool y14_5.2.1) ?_
     rcases Bool.eq_false_or_eq_true (y14_5.2.1) with h4 | h4
     ·replace H := bifT H h4
      refine sr 86 (.bool true) (run_eq (v := .bool (y14_5.2.1)) (fun _ => by kernel_rfl) (congrArg Value.bool h4)) ?_
      refine sa 87 ?_
      refine sa 88 ?_
      refine sp 89 (.bool true) ?_
      refine ops_end ?_
      refine ae [(1, .slice ordera (List.length order) ordercap), (2, .int .i64 v), (7, .pointer (some ⟨b1_2, 0, none⟩)), (8, .pointer (some ⟨b3_1, 0, none⟩)), (9, .slice a10_3 (List.length l10_3) c10_3), (10, .int .i64 v0_10), (89, .bool true)] ?_
      refine at_round_normal ?_
      exact at_join_mk [(1, .slice ordera (List.length order) ordercap), (2, .int .i64 v), (7, .pointer (some ⟨b1_2, 0, none⟩)), (8, .pointer (some ⟨b3_1, 0, none⟩)), (9, .slice a10_3 (List.length l10_3) c10_3), (10, .int .i64 v0_10), (89, .bool true)] ((HomeA b3_1 y14_5.2.2.2) :: (IntsA a10_3 c10_3 l10_3) :: (ImmI a1_1_00 y1_1.init) :: (Asn.own b1_2 (.cells #[.int .i64 u2_3, .int .i64 y1_1.lines, .int .i64 y1_1.words, .int .i64 y1_1.sets, .int .i64 y1_1.ways, .int .i64 y1_1.out, .int .i64 y1_1.inn, .slice a1_1_00 (List.length y1_1.init) c1_1_00] 26 (0, 0))) :: Γ) ⟨by kernel_rfl, by kernel_rfl, by kernel_rfl, by kernel_rfl, by kernel_rfl, by kernel_rfl, by kernel_rfl, trivial⟩ (fun w hw => (Sat.less (.take (.there (.there .here)) (.take (.there (.there .here)) (.take (.there (.there .here)) (.take (.there (.there .here)) (.drop .here (.drop .here .refl)))))) hw)) ⟨true, H, rfl, rfl⟩
     ·replace H := bifF H h4
      refine sr 86 (.bool false) (run_eq (v := .bool (y14_5.2.1)) (fun _ => by kernel_rfl) (congrArg Value.bool h4)) ?_
      refine sp 87 (.int .i64 y14_5.2.2.1) ?_
      refine sp 88 (.bool (!(decide (y14_5.2.2.1 = (0 : Int))))) ?_
      refine sp 89 (.bool (!(decide (y14_5.2.2.1 = (0 : Int))))) ?_
      refine ops_end ?_
      refine ae [(1, .slice ordera (List.length order) ordercap), (2, .int .i64 v), (7, .pointer (some ⟨b1_2, 0, none⟩)), (8, .pointer (some ⟨b3_1, 0, none⟩)), (9, .slice a10_3 (List.length l10_3) c10_3), (10, .int .i64 v0_10), (89, .bool (!(decide (y14_5.2.2.1 = (0 : Int)))))] ?_
      refine at_round_normal ?_
      exact at_join_mk [(1, .slice ordera (List.length order) ordercap), (2, .int .i64 v), (7, .pointer (some ⟨b1_2, 0, none⟩)), (8, .pointer (some ⟨b3_1, 0, none⟩)), (9, .slice a10_3 (List.length l10_3) c10_3), (10, .int .i64 v0_10), (89, .bool (!(decide (y14_5.2.2.1 = (0 : Int)))))] ((HomeA b3_1 y14_5.2.2.2) :: (IntsA a10_3 c10_3 l10_3) :: (ImmI a1_1_00 y1_1.init) :: (Asn.own b1_2 (.cells #[.int .i64 u2_3, .int .i64 y1_1.lines, .int .i64 y1_1.words, .int .i64 y1_1.sets, .int .i64 y1_1.ways, .int .i64 y1_1.out, .int .i64 y1_1.inn, .slice a1_1_00 (List.length y1_1.init) c1_1_00] 26 (0, 0))) :: Γ) ⟨by kernel_rfl, by kernel_rfl, by kernel_rfl, by kernel_rfl, by kernel_rfl, by kernel_rfl, by kernel_rfl, trivial⟩ (fun w hw => (Sat.less (.take (.there (.there .here)) (.take (.there (.there .here)) (.take (.there (.there .here)) (.take (.there (.there .here)) (.drop .here (.drop .here .refl)))))) hw)) ⟨!(decide (y14_5.2.2.1 = (0 : Int))), H, rfl, rfl⟩
  ·refine ar (id := 12) 18 ?_
   refine sp 57 (.bool y11_4.2.1) ?_
   refine sp 58 (.bool !y11_4.2.1) ?_
   rcases Bool.eq_false_or_eq_true (!y11_4.2.1) with h5 | h5
   ·replace H := bifT H h5
    refine sr 59 (.bool true) (run_eq (v := .bool (!y11_4.2.1)) (fun _ => by kernel_rfl) (congrArg Value.bool h5)) ?_
    refine sa 60 ?_
    refine sa 61 ?_
    refine sp 62 (.bool true) ?_
    refine sp 63 (.bool true) ?_
    refine sa 64 ?_
    refine sa 65 ?_
    refine sa 66 ?_
    refine sa 67 ?_
    refine sp 68 (.bool true) ?_
    refine sp 69 (.bool true) ?_
    refine sa 70 ?_
    refine sa 71 ?_
    refine sa 72 ?_
    refine sa 73 ?_
    refine sp 74 (.bool true) ?_
    refine ops_end ?_
    refine ae [(1, .slice ordera (List.length order) ordercap), (2, .int .i64 v), (7, .pointer (some ⟨b1_2, 0, none⟩)), (8, .pointer (some ⟨b3_1, 0, none⟩)), (9, .slice a10_3 (List.length l10_3) c10_3), (10, .int .i64 v0_10), (74, .bool true)] ?_
    refine at_round_normal ?_
    exact at_join_mk [(1, .slice ordera (List.length order) ordercap), (2, .int .i64 v), (7, .pointer (some ⟨b1_2, 0, none⟩)), (8, .pointer (some ⟨b3_1, 0, none⟩)), (9, .slice a10_3 (List.length l10_3) c10_3), (10, .int .i64 v0_10), (74, .bool true)] ((HomeA b3_1 y11_4.2.2.2) :: (IntsA a10_3 c10_3 l10_3) :: (ImmI a1_1_00 y1_1.init) :: (Asn.own b1_2 (.cells #[.int .i64 u2_3, .int .i64 y1_1.lines, .int .i64 y1_1.words, .int .i64 y1_1.sets, .int .i64 y1_1.ways, .int .i64 y1_1.out, .int .i64 y1_1.inn, .slice a1_1_00 (List.length y1_1.init) c1_1_00] 26 (0, 0))) :: Γ) ⟨by kernel_rfl, by kernel_rfl, by kernel_rfl, by kernel_rfl, by kernel_rfl, by kernel_rfl, by kernel_rfl, trivial⟩ (fun w hw => (Sat.less (.take (.there (.there .here)) (.take (.there (.there .here)) (.take (.there (.there (.there .here))) (.take (.there (.there (.there .here))) (.drop .here (.drop .here (.drop .here .refl))))))) hw)) ⟨true, H, rfl, rfl⟩
   ·replace H := bifF H h5
    refine sr 59 (.bool false) (run_eq (v := .bool (!y11_4.2.1)) (fun _ => by kernel_rfl) (congrArg Value.bool h5)) ?_
    refine sp 60 (.int .i64 y11_4.2.2.1) ?_
    refine sp 61 (.bool (!(decide (y11_4.2.2.1 = (0 : Int))))) ?_
    refine sp 62 (.bool (!(decide (y11_4.2.2.1 = (0 : Int))))) ?_
    rcases Bool.eq_false_or_eq_true (!(decide (y11_4.2.2.1 = (0 : Int)))) with h6 | h6
    ·replace H := bifT H h6
     refine sr 63 (.bool true) (run_eq (v := .bool (!(decide (y11_4.2.2.1 = (0 : Int))))) (fun _ => by kernel_rfl) (congrArg Value.bool h6)) ?_
     refine sa 64 ?_
     refine sa 65 ?_
     refine sa 66 ?_
     refine sa 67 ?_
     refine sp 68 (.bool true) ?_
     refine sp 69 (.bool true) ?_
     refine sa 70 ?_
     refine sa 71 ?_
     refine sa 72 ?_
     refine sa 73 ?_
     refine sp 74 (.bool true) ?_
     refine ops_end ?_
     refine ae [(1, .slice ordera (List.length order) ordercap), (2, .int .i64 v), (7, .pointer (some ⟨b1_2, 0, none⟩)), (8, .pointer (some ⟨b3_1, 0, none⟩)), (9, .slice a10_3 (List.length l10_3) c10_3), (10, .int .i64 v0_10), (74, .bool true)] ?_
     refine at_round_normal ?_
     exact at_join_mk [(1, .slice ordera (List.length order) ordercap), (2, .int .i64 v), (7, .pointer (some ⟨b1_2, 0, none⟩)), (8, .pointer (some ⟨b3_1, 0, none⟩)), (9, .slice a10_3 (List.length l10_3) c10_3), (10, .int .i64 v0_10), (74, .bool true)] ((HomeA b3_1 y11_4.2.2.2) :: (IntsA a10_3 c10_3 l10_3) :: (ImmI a1_1_00 y1_1.init) :: (Asn.own b1_2 (.cells #[.int .i64 u2_3, .int .i64 y1_1.lines, .int .i64 y1_1.words, .int .i64 y1_1.sets, .int .i64 y1_1.ways, .int .i64 y1_1.out, .int .i64 y1_1.inn, .slice a1_1_00 (List.length y1_1.init) c1_1_00] 26 (0, 0))) :: Γ) ⟨by kernel_rfl, by kernel_rfl, by kernel_rfl, by kernel_rfl, by kernel_rfl, by kernel_rfl, by kernel_rfl, trivial⟩ (fun w hw => (Sat.less (.take (.there (.there .here)) (.take (.there (.there .here)) (.take (.there (.there (.there .here))) (.take (.there (.there (.there .here))) (.drop .here (.drop .here (.drop .here .refl))))))) hw)) ⟨true, H, rfl, rfl⟩
    ·replace H := bifF H h6
     refine sr 63 (.bool false) (run_eq (v := .bool (!(decide (y11_4.2.2.1 = (0 : Int))))) (fun _ => by kernel_rfl) (congrArg Value.bool h6)) ?_
     refine sp 64 (.pointer (some ⟨b11_9, 4, none⟩)) ?_
     refine sl 65 (.int .i64 y11_4.1.line) (load1 (off := 4) (fun _ => by kernel_rfl) (holds_own .here) (by kernel_rfl)) ?_
     refine sp 66 (.int .i64 v0_10) ?_
     refine sp 67 (.bool (!(decide (y11_4.1.line = v0_10)))) ?_
     refine sp 68 (.bool (!(decide (y11_4.1.line = v0_10)))) ?_
     rcases Bool.eq_false_or_eq_true (!(decide (y11_4.1.line = v0_10))) with h7 | h7
     ·replace H := bifT H h7
      refine sr 69 (.bool true) (run_eq (v := .bool (!(decide (y11_4.1.line = v0_10)))) (fun _ => by kernel_rfl) (congrArg Value.bool h7)) ?_
      refine sa 70 ?_
      refine sa 71 ?_
      refine sa 72 ?_
      refine sa 73 ?_
      refine sp 74 (.bool true) ?_
      refine ops_end ?_
      refine ae [(1, .slice ordera (List.length order) ordercap), (2, .int .i64 v), (7, .pointer (some ⟨b1_2, 0, none⟩)), (8, .pointer (some ⟨b3_1, 0, none⟩)), (9, .slice a10_3 (List.length l10_3) c10_3), (10, .int .i64 v0_10), (74, .bool true)] ?_
      refine at_round_normal ?_
      exact at_join_mk [(1, .slice ordera (List.length order) ordercap), (2, .int .i64 v), (7, .pointer (some ⟨b1_2, 0, none⟩)), (8, .pointer (some ⟨b3_1, 0, none⟩)), (9, .slice a10_3 (List.length l10_3) c10_3), (10, .int .i64 v0_10), (74, .bool true)] ((HomeA b3_1 y11_4.2.2.2) :: (IntsA a10_3 c10_3 l10_3) :: (ImmI a1_1_00 y1_1.init) :: (Asn.own b1_2 (.cells #[.int .i64 u2_3, .int .i64 y1_1.lines, .int .i64 y1_1.words, .int .i64 y1_1.sets, .int .i64 y1_1.ways, .int .i64 y1_1.out, .int .i64 y1_1.inn, .slice a1_1_00 (List.length y1_1.init) c1_1_00] 26 (0, 0))) :: Γ) ⟨by kernel_rfl, by kernel_rfl, by kernel_rfl, by kernel_rfl, by kernel_rfl, by kernel_rfl, by kernel_rfl, trivial⟩ (fun w hw => (Sat.less (.take (.there (.there .here)) (.take (.there (.there .here)) (.take (.there (.there (.there .here))) (.take (.there (.there (.there .here))) (.drop .here (.drop .here (.drop .here .refl))))))) hw)) ⟨true, H, rfl, rfl⟩
     ·replace H := bifF H h7
      refine sr 69 (.bool false) (run_eq (v := .bool (!(decide (y11_4.1.line = v0_10)))) (fun _ => by kernel_rfl) (congrArg Value.bool h7)) ?_
      refine sp 70 (.pointer (some ⟨b11_9, 3, none⟩)) ?_
      refine sl 71 (.int .i64 y11_4.1.id) (load1 (off := 3) (fun _ => by kernel_rfl) (holds_own .here) (by kernel_rfl)) ?_
      refine sp 72 (.int .i64 v0_10) ?_
      refine sp 73 (.bool (!(decide (y11_4.1.id = v0_10)))) ?_
      refine sp 74 (.bool (!(decide (y11_4.1.id = v0_10)))) ?_
      refine ops_end ?_
      refine ae [(1, .slice ordera (List.length order) ordercap), (2, .int .i64 v), (7, .pointer (some ⟨b1_2, 0, none⟩)), (8, .pointer (some ⟨b3_1, 0, none⟩)), (9, .slice a10_3 (List.length l10_3) c10_3), (10, .int .i64 v0_10), (74, .bool (!(decide (y11_4.1.id = v0_10))))] ?_
      refine at_round_normal ?_
      exact at_join_mk [(1, .slice ordera (List.length order) ordercap), (2, .int .i64 v), (7, .pointer (some ⟨b1_2, 0, none⟩)), (8, .pointer (some ⟨b3_1, 0, none⟩)), (9, .slice a10_3 (List.length l10_3) c10_3), (10, .int .i64 v0_10), (74, .bool (!(decide (y11_4.1.id = v0_10))))] ((HomeA b3_1 y11_4.2.2.2) :: (IntsA a10_3 c10_3 l10_3) :: (ImmI a1_1_00 y1_1.init) :: (Asn.own b1_2 (.cells #[.int .i64 u2_3, .int .i64 y1_1.lines, .int .i64 y1_1.words, .int .i64 y1_1.sets, .int .i64 y1_1.ways, .int .i64 y1_1.out, .int .i64 y1_1.inn, .slice a1_1_00 (List.length y1_1.init) c1_1_00] 26 (0, 0))) :: Γ) ⟨by kernel_rfl, by kernel_rfl, by kernel_rfl, by kernel_rfl, by kernel_rfl, by kernel_rfl, by kernel_rfl, trivial⟩ (fun w hw => (Sat.less (.take (.there (.there .here)) (.take (.there (.there .here)) (.take (.there (.there (.there .here))) (.take (.there (.there (.there .here))) (.drop .here (.drop .here (.drop .here .refl))))))) hw)) ⟨!(decide (y11_4.1.id = v0_10)), H, rfl, rfl⟩
 ·replace H := bifF H h1
  refine at_false (t := decide (v0_10 < y1_1.lines)) (x := C6 [1,1,1,1,1,1,0,1,0,0,0,1,0]) (y := C6 [1,1,1,1,1,1,0,1,0,0,0,1,1]) (o := .tmp 39) (by kernel_rfl) (by kernel_rfl) (by kernel_rfl) h1 ?_
  refine at_exit (i := 0) (by kernel_rfl) ?_
  refine at_then_exit ?_
  refine at_then_exit ?_
  rw [homeLinesS_k0] at H
  refine ae [(1, .slice ordera (List.length order) ordercap), (2, .int .i64 v), (7, .pointer (some ⟨b1_2, 0, none⟩)), (8, .pointer (some ⟨b3_1, 0, none⟩)), (9, .slice v0_9a (List.length v0_9x) v0_9c), (10, .int .i64 v0_10)] ?_
  refine At.conv (Γ' := (IntsA v0_9a v0_9c v0_9x) :: (HomeA b3_1 v0_b3_1) :: (ImmI a1_1_00 y1_1.init) :: (Asn.own b1_2 (.cells #[.int .i64 u2_3, .int .i64 y1_1.lines, .int .i64 y1_1.words, .int .i64 y1_1.sets, .int .i64 y1_1.ways, .int .i64 y1_1.out, .int .i64 y1_1.inn, .slice a1_1_00 (List.length y1_1.init) c1_1_00] 26 (0, 0))) :: Γ) (fun w hw => (Sat.less (.take .here (.take .here (.take .here (.take .here .refl)))) hw)) ?_
  refine at_in_here ?_
  refine at_then_normal ?_
  refine aq (x := C6 [1,1,1,1,1,1,1,0]) (y := C6 [1,1,1,1,1,1,1,1]) ?_
  refine ar (id := 17) 4 ?_
  refine sp 90 (.pointer (some ⟨b1_2, 2, none⟩)) ?_
  refine sl 91 (.int .i64 y1_1.words) (load1 (off := 2) (fun _ => by kernel_rfl) (holds_own (.there (.there (.there .here)))) (by kernel_rfl)) ?_
  obtain ⟨hc17_2_0, H⟩ := chkE H
  obtain ⟨l17_2, hl17_2, H⟩ := letE H
  refine s_step 92 (by kernel_rfl) (by kernel_rfl) (st_make_ints (t := 22) (E := 3) (c := y1_1.words) (tinfo 3) (fun _ => by kernel_rfl) (by kernel_rfl) (by kernel_rfl) (by kernel_rfl) (by kernel_rfl) (by kernel_rfl) hc17_2_0 hl17_2) ?_
  rintro _ _ ⟨b17_2, rfl, rfl⟩
  refine sp 17 (.slice (some ⟨b17_2, 0, none⟩) (List.length l17_2) ((y1_1.words).toNat)) ?_
  refine ops_end ?_
  refine ae [(1, .slice ordera (List.length order) ordercap), (2, .int .i64 v), (7, .pointer (some ⟨b1_2, 0, none⟩)), (8, .pointer (some ⟨b3_1, 0, none⟩)), (9, .slice v0_9a (List.length v0_9x) v0_9c), (17, .slice (some ⟨b17_2, 0, none⟩) (List.length l17_2) ((y1_1.words).toNat))] ?_
  refine at_then_normal ?_
  refine aq (x := C6 [1,1,1,1,1,1,1,1,0]) (y := C6 [1,1,1,1,1,1,1,1,1]) ?_
  refine aq (x := C6 [1,1,1,1,1,1,1,1,0,0]) (y := C6 [1,1,1,1,1,1,1,1,0,1]) ?_
  refine ar (id := 18) 1 ?_
  refine sp 18 (.int .i64 (0)) ?_
  refine ops_end ?_
  refine ae [(1, .slice ordera (List.length order) ordercap), (2, .int .i64 v), (7, .pointer (some ⟨b1_2, 0, none⟩)), (8, .pointer (some ⟨b3_1, 0, none⟩)), (9, .slice v0_9a (List.length v0_9x) v0_9c), (17, .slice (some ⟨b17_2, 0, none⟩) (List.length l17_2) ((y1_1.words).toNat)), (18, .int .i64 (0))] ?_
  refine at_then_normal ?_
  refine at_block (i := 2) (x := C6 [1,1,1,1,1,1,1,1,0,1,0]) (by kernel_rfl) ?_
  refine At.conv (Γ' := (IntsA (some ⟨b17_2, 0, none⟩) ((y1_1.words).toNat) l17_2) :: (IntsA v0_9a v0_9c v0_9x) :: (HomeA b3_1 v0_b3_1) :: (ImmI a1_1_00 y1_1.init) :: (Asn.own b1_2 (.cells #[.int .i64 u2_3, .int .i64 y1_1.lines, .int .i64 y1_1.words, .int .i64 y1_1.sets, .int .i64 y1_1.ways, .int .i64 y1_1.out, .int .i64 y1_1.inn, .slice a1_1_00 (List.length y1_1.init) c1_1_00] 26 (0, 0))) :: Γ) (fun w hw => (Sat.less (.take .here (.take .here (.take .here (.take .here (.take .here .refl))))) hw)) ?_
  refine at_loopR (x := C6 [1,1,1,1,1,1,1,1,0,1,0,0]) (fun mm ff ΔΔ => ∃ (fuel : Nat) (v1_17x : List Int) (v1_18 : Int) (v1_b3_1 : HomeS) (v1_17a : Option Addr) (v1_17c : Nat), homeLinesS_l1 order v0_9x v y1_1 (homeLinesS_k1 ) fuel v1_17x v1_18 v1_b3_1 = some y ∧ fuel = mm ∧ ff = [(1, .slice ordera (List.length order) ordercap), (2, .int .i64 v), (7, .pointer (some ⟨b1_2, 0, none⟩)), (8, .pointer (some ⟨b3_1, 0, none⟩)), (9, .slice v0_9a (List.length v0_9x) v0_9c), (17, .slice v1_17a (List.length v1_17x) v1_17c), (18, .int .i64 v1_18)] ∧ (IntsA v1_17a v1_17c v1_17x) :: (IntsA v0_9a v0_9c v0_9x) :: (HomeA b3_1 v1_b3_1) :: (ImmI a1_1_00 y1_1.init) :: (Asn.own b1_2 (.cells #[.int .i64 u2_3, .int .i64 y1_1.lines, .int .i64 y1_1.words, .int .i64 y1_1.sets, .int .i64 y1_1.ways, .int .i64 y1_1.out, .int .i64 y1_1.inn, .slice a1_1_00 (List.length y1_1.init) c1_1_00] 26 (0, 0))) :: Γ = ΔΔ) (64) (by kernel_rfl) [(1, .slice ordera (List.length order) ordercap), (2, .int .i64 v), (7, .pointer (some ⟨b1_2, 0, none⟩)), (8, .pointer (some ⟨b3_1, 0, none⟩)), (9, .slice v0_9a (List.length v0_9x) v0_9c), (17, .slice (some ⟨b17_2, 0, none⟩) (List.length l17_2) ((y1_1.words).toNat)), (18, .int .i64 0)] ⟨by kernel_rfl, by kernel_rfl, by kernel_rfl, by kernel_rfl, by kernel_rfl, by kernel_rfl, by kernel_rfl, trivial⟩ ⟨64, l17_2, 0, v0_b3_1, some ⟨b17_2, 0, none⟩, ((y1_1.words).toNat), H, rfl, rfl, rfl⟩ ?_
  rintro _ _ _ ⟨fuel2, v1_17x, v1_18, v1_b3_1, v1_17a, v1_17c, H, rfl, rfl, rfl⟩
  rcases fuel2 with _ | fuel2
  ·exact (noneE H).elim
  rw [homeLinesS_l1] at H
  refine aq (x := C6 [1,1,1,1,1,1,1,1,0,1,0,0,0]) (y := C6 [1,1,1,1,1,1,1,1,0,1,0,0,1]) ?_
  refine at_seq_join (x := C6 [1,1,1,1,1,1,1,1,0,1,0,0,0,0]) (y := C6 [1,1,1,1,1,1,1,1,0,1,0,0,0,1]) (fun ff ΔΔ => ∃ (e2_100 : Bool), homeLinesS_j2 v1_18 order v0_9x v1_b3_1 (homeLinesS_l1 order v0_9x v y1_1 (homeLinesS_k1 ) fuel2) v1_17x v y1_1 (homeLinesS_k1 ) e2_100 = some y ∧ ff = [(1, .slice ordera (List.length order) ordercap), (2, .int .i64 v), (7, .pointer (some ⟨b1_2, 0, none⟩)), (8, .pointer (some ⟨b3_1, 0, none⟩)), (9, .slice v0_9a (List.length v0_9x) v0_9c), (17, .slice v1_17a (List.length v1_17x) v1_17c), (18, .int .i64 v1_18), (100, .bool e2_100)] ∧ (IntsA v1_17a v1_17c v1_17x) :: (IntsA v0_9a v0_9c v0_9x) :: (HomeA b3_1 v1_b3_1) :: (ImmI a1_1_00 y1_1.init) :: (Asn.own b1_2 (.cells #[.int .i64 u2_3, .int .i64 y1_1.lines, .int .i64 y1_1.words, .int .i64 y1_1.sets, .int .i64 y1_1.ways, .int .i64 y1_1.out, .int .i64 y1_1.inn, .slice a1_1_00 (List.length y1_1.init) c1_1_00] 26 (0, 0))) :: Γ = ΔΔ) (by kernel_rfl) ?_ ?_
  ·rintro _ _ ⟨e2_100, H, rfl, rfl⟩
   rw [homeLinesS_j2] at H
   rcases Bool.eq_false_or_eq_true (e2_100) with h8 | h8
   ·replace H := bifT H h8
    refine at_true (t := e2_100) (x := C6 [1,1,1,1,1,1,1,1,0,1,0,0,0,1,0]) (y := C6 [1,1,1,1,1,1,1,1,0,1,0,0,0,1,1]) (o := .tmp 100) (by kernel_rfl) (by kernel_rfl) (by kernel_rfl) h8 ?_
    refine at_skip (by kernel_rfl) ?_
    refine at_then_normal ?_
    refine aq (x := C6 [1,1,1,1,1,1,1,1,0,1,0,0,1,0]) (y := C6 [1,1,1,1,1,1,1,1,0,1,0,0,1,1]) ?_
    refine at_block (i := 3) (x := C6 [1,1,1,1,1,1,1,1,0,1,0,0,1,0,0]) (by kernel_rfl) ?_
    refine aq (x := C6 [1,1,1,1,1,1,1,1,0,1,0,0,1,0,0,0]) (y := C6 [1,1,1,1,1,1,1,1,0,1,0,0,1,0,0,1]) ?_
    refine ar (id := 21) 11 ?_
    refine sp 103 (.slice v0_9a (List.length v0_9x) v0_9c) ?_
    refine sp 104 (.slice ordera (List.length order) ordercap) ?_
    refine sp 105 (.int .i64 v1_18) ?_
    obtain ⟨hc21_3_0, H⟩ := chkE H
    refine reads_at (Reads.conv (fun w hw => hw.less (.drop .here (.drop .here (.drop .here (.drop .here (.drop .here .refl)))))) hrordera) (by have := hc21_3_0; omega) ?_
    intro bb1 oo1 ha1
    refine sr 106 (.pointer (some ⟨bb1, oo1 + ((v1_18).toNat * 1 + 0), none⟩)) (index_at (t := 22) (sz := 1) (E := 3) (a := ordera) (m := (List.length order)) (c := ordercap) (b := bb1) (off := oo1) (i := (v1_18).toNat) (tinfo 3) (fun _ => by kernel_rfl) (by kernel_rfl) (by kernel_rfl) (by kernel_rfl) ha1 (idx_cast hc21_3_0) (idx_nat hc21_3_0) rfl) ?_
    refine sl 107 (.int .i64 (nth order v1_18)) (load1_at (off := oo1 + ((v1_18).toNat * 1 + 0)) (v := .int .i64 (nth order v1_18)) (fun _ => by kernel_rfl) rfl (reads_cell (k := 1) (Reads.conv (fun w hw => hw.less (.drop .here (.drop .here (.drop .here (.drop .here (.drop .here .refl)))))) hrordera) (ints_rows _) ha1 (nth_row hc21_3_0) (show [(.int .i64 (nth order v1_18) : Value)][0]? = some _ from rfl))) ?_
    refine sp 108 (.slice v0_9a (List.length v0_9x) v0_9c) ?_
    refine sp 109 (.int .i64 (((List.length v0_9x) : Nat) : Int)) ?_
    obtain ⟨y21_7, hy21_7, H⟩ := bindE H
    refine s_quiet 110 (.int .i64 y21_7) 9 #[.int .i64 (nth order v1_18), .int .i64 (((List.length v0_9x) : Nat) : Int)] (by kernel_rfl) (by kernel_rfl) (fun _ => by kernel_rfl) (WithinF_tr (nth order v1_18) (((List.length v0_9x) : Nat) : Int) y21_7 hy21_7) ?_
    obtain ⟨hc21_8_0, H⟩ := chkE H
    refine rows_at (.there .here) (by have := hc21_8_0; simp only [ints_length]; omega) ?_
    intro bb2 oo2 ha2
    refine sr 111 (.pointer (some ⟨bb2, oo2 + ((y21_7).toNat * 1 + 0), none⟩)) (index_at (t := 22) (sz := 1) (E := 3) (a := v0_9a) (m := (List.length v0_9x)) (c := v0_9c) (b := bb2) (off := oo2) (i := (y21_7).toNat) (tinfo 3) (fun _ => by kernel_rfl) (by kernel_rfl) (by kernel_rfl) (by kernel_rfl) ha2 (idx_cast hc21_8_0) (idx_nat hc21_8_0) rfl) ?_
    refine sl 112 (.int .i64 (nth v0_9x y21_7)) (load1_at (off := oo2 + ((y21_7).toNat * 1 + 0)) (v := .int .i64 (nth v0_9x y21_7)) (fun _ => by kernel_rfl) rfl (reads_cell (k := 1) (RowsA.reads (k := 1) (.there .here)) (ints_rows _) ha2 (nth_row hc21_8_0) (show [(.int .i64 (nth v0_9x y21_7) : Value)][0]? = some _ from rfl))) ?_
    refine sp 19 (.int .i64 (nth v0_9x y21_7)) ?_
    refine ops_end ?_
    refine ae [(1, .slice ordera (List.length order) ordercap), (2, .int .i64 v), (7, .pointer (some ⟨b1_2, 0, none⟩)), (8, .pointer (some ⟨b3_1, 0, none⟩)), (9, .slice v0_9a (List.length v0_9x) v0_9c), (17, .slice v1_17a (List.length v1_17x) v1_17c), (18, .int .i64 v1_18), (19, .int .i64 (nth v0_9x y21_7))] ?_
    refine at_then_normal ?_
    refine aq (x := C6 [1,1,1,1,1,1,1,1,0,1,0,0,1,0,0,1,0]) (y := C6 [1,1,1,1,1,1,1,1,0,1,0,0,1,0,0,1,1]) ?_
    refine at_seq_join (x := C6 [1,1,1,1,1,1,1,1,0,1,0,0,1,0,0,1,0,0]) (y := C6 [1,1,1,1,1,1,1,1,0,1,0,0,1,0,0,1,0,1]) (fun ff ΔΔ => ∃ (e3_128 : Bool), homeLinesS_j3 v1_18 (homeLinesS_l1 order v0_9x v y1_1 (homeLinesS_k1 ) fuel2) v1_17x v1_b3_1 v v0_9x y21_7 y1_1 e3_128 = some y ∧ ff = [(1, .slice ordera (List.length order) ordercap), (2, .int .i64 v), (7, .pointer (some ⟨b1_2, 0, none⟩)), (8, .pointer (some ⟨b3_1, 0, none⟩)), (9, .slice v0_9a (List.length v0_9x) v0_9c), (17, .slice v1_17a (List.length v1_17x) v1_17c), (18, .int .i64 v1_18), (19, .int .i64 (nth v0_9x y21_7)), (128, .bool e3_128)] ∧ (IntsA v1_17a v1_17c v1_17x) :: (IntsA v0_9a v0_9c v0_9x) :: (HomeA b3_1 v1_b3_1) :: (ImmI a1_1_00 y1_1.init) :: (Asn.own b1_2 (.cells #[.int .i64 u2_3, .int .i64 y1_1.lines, .int .i64 y1_1.words, .int .i64 y1_1.sets, .int .i64 y1_1.ways, .int .i64 y1_1.out, .int .i64 y1_1.inn, .slice a1_1_00 (List.length y1_1.init) c1_1_00] 26 (0, 0))) :: Γ = ΔΔ) (by kernel_rfl) ?_ ?_
    ·rintro _ _ ⟨e3_128, H, rfl, rfl⟩
     rw [homeLinesS_j3] at H
     rcases Bool.eq_false_or_eq_true (e3_128) with h9 | h9
     ·replace H := bifT H h9
      refine at_true (t := e3_128) (x := C6 [1,1,1,1,1,1,1,1,0,1,0,0,1,0,0,1,0,1,0]) (y := C6 [1,1,1,1,1,1,1,1,0,1,0,0,1,0,0,1,0,1,1]) (o := .tmp 128) (by kernel_rfl) (by kernel_rfl) (by kernel_rfl) h9 ?_
      refine at_exit (i := 3) (by kernel_rfl) ?_
      refine at_then_exit ?_
      refine at_in_here ?_
      refine at_then_normal ?_
      refine ar (id := 20) 3 ?_
      refine sp 101 (.int .i64 v1_18) ?_
      obtain ⟨hc20_1_0, H⟩ := chkE H
      refine sr 102 (.int .i64 (v1_18 + (1 : Int))) (run_eq (v := .int .i64 (IntKind.i64.wrap (v1_18 + (1 : Int)))) (fun _ => by kernel_rfl) (by rw [inR.wrap hc20_1_0])) ?_
      refine sp 18 (.int .i64 (v1_18 + (1 : Int))) ?_
      refine ops_end ?_
      refine ae [(1, .slice ordera (List.length order) ordercap), (2, .int .i64 v), (7, .pointer (some ⟨b1_2, 0, none⟩)), (8, .pointer (some ⟨b3_1, 0, none⟩)), (9, .slice v0_9a (List.length v0_9x) v0_9c), (17, .slice v1_17a (List.length v1_17x) v1_17c), (18, .int .i64 (v1_18 + (1 : Int)))] ?_
      refine at_round_normal ?_
      exact at_roundR fuel2 [(1, .slice ordera (List.length order) ordercap), (2, .int .i64 v), (7, .pointer (some ⟨b1_2, 0, none⟩)), (8, .pointer (some ⟨b3_1, 0, none⟩)), (9, .slice v0_9a (List.length v0_9x) v0_9c), (17, .slice v1_17a (List.length v1_17x) v1_17c), (18, .int .i64 (v1_18 + (1 : Int)))] ((IntsA v1_17a v1_17c v1_17x) :: (IntsA v0_9a v0_9c v0_9x) :: (HomeA b3_1 v1_b3_1) :: (ImmI a1_1_00 y1_1.init) :: (Asn.own b1_2 (.cells #[.int .i64 u2_3, .int .i64 y1_1.lines, .int .i64 y1_1.words, .int .i64 y1_1.sets, .int .i64 y1_1.ways, .int .i64 y1_1.out, .int .i64 y1_1.inn, .slice a1_1_00 (List.length y1_1.init) c1_1_00] 26 (0, 0))) :: Γ) (Nat.lt_succ_self _) ⟨by kernel_rfl, by kernel_rfl, by kernel_rfl, by kernel_rfl, by kernel_rfl, by kernel_rfl, by kernel_rfl, trivial⟩ (fun w hw => (Sat.less (.take .here (.take .here (.take .here (.take .here (.take .here .refl))))) hw)) ⟨fuel2, v1_17x, v1_18 + (1 : Int), v1_b3_1, v1_17a, v1_17c, H, rfl, rfl, rfl⟩
     ·replace H := bifF H h9
      refine at_false (t := e3_128) (x := C6 [1,1,1,1,1,1,1,1,0,1,0,0,1,0,0,1,0,1,0]) (y := C6 [1,1,1,1,1,1,1,1,0,1,0,0,1,0,0,1,0,1,1]) (o := .tmp 128) (by kernel_rfl) (by kernel_rfl) (by kernel_rfl) h9 ?_
      refine at_skip (by kernel_rfl) ?_
      refine at_then_normal ?_
      refine aq (x := C6 [1,1,1,1,1,1,1,1,0,1,0,0,1,0,0,1,1,0]) (y := C6 [1,1,1,1,1,1,1,1,0,1,0,0,1,0,0,1,1,1]) ?_
      refine ar (id := 23) 6 ?_
      refine sp 129 (.slice v1_17a (List.length v1_17x) v1_17c) ?_
      refine sp 130 (.int .i64 v) ?_
      refine sp 131 (.int .i64 (nth v0_9x y21_7)) ?_
      refine sp 132 (.int .i64 (wr (v + (nth v0_9x y21_7)))) ?_
      obtain ⟨hc23_4_0, H⟩ := chkE H
      refine rows_at .here (by have := hc23_4_0; simp only [ints_length]; omega) ?_
      intro bb3 oo3 ha3
      refine sr 133 (.pointer (some ⟨bb3, oo3 + (((0 : Int)).toNat * 1 + 0), none⟩)) (index_at (t := 22) (sz := 1) (E := 3) (a := v1_17a) (m := (List.length v1_17x)) (c := v1_17c) (b := bb3) (off := oo3) (i := ((0 : Int)).toNat) (tinfo 3) (fun _ => by kernel_rfl) (by kernel_rfl) (by kernel_rfl) (by kernel_rfl) ha3 (idx_cast hc23_4_0) (idx_nat hc23_4_0) rfl) ?_
      obtain ⟨w23_5, hw23_5, H⟩ := letE H
      refine s_do (by kernel_rfl) (by kernel_rfl) (st_to_int (st_row (k := 1) (off := oo3) (i := ((0 : Int)).toNat) (j := 0) (row := [.int .i64 (nth v1_17x (0 : Int))]) (row' := [.int .i64 (wr (v + (nth v0_9x y21_7)))]) (vs := [.int .i64 (wr (v + (nth v0_9x y21_7)))]) (fun _ => by kernel_rfl) .here ha3 (nth_row hc23_4_0) rfl (by kernel_rfl) (by kernel_rfl) rfl)) ?_
      rintro _ _ ⟨rfl, rfl⟩
      have hsw23_5 : w23_5 = List.set v1_17x ((0 : Int)).toNat (wr (v + (nth v0_9x y21_7))) := hw23_5.symm
      rw [← hsw23_5]
      have hnw23_5 : List.length v1_17x = List.length w23_5 := by rw [hsw23_5]; simp
      rw [hnw23_5]
      refine ops_end ?_
      refine ae [(1, .slice ordera (List.length order) ordercap), (2, .int .i64 v), (7, .pointer (some ⟨b1_2, 0, none⟩)), (8, .pointer (some ⟨b3_1, 0, none⟩)), (9, .slice v0_9a (List.length v0_9x) v0_9c), (17, .slice v1_17a (List.length w23_5) v1_17c), (18, .int .i64 v1_18), (19, .int .i64 (nth v0_9x y21_7))] ?_
      refine at_then_normal ?_
      refine aq (x := C6 [1,1,1,1,1,1,1,1,0,1,0,0,1,0,0,1,1,1,0]) (y := C6 [1,1,1,1,1,1,1,1,0,1,0,0,1,0,0,1,1,1,1]) ?_
      refine aq (x := C6 [1,1,1,1,1,1,1,1,0,1,0,0,1,0,0,1,1,1,0,0]) (y := C6 [1,1,1,1,1,1,1,1,0,1,0,0,1,0,0,1,1,1,0,1]) ?_
      refine ar (id := 24) 13 ?_
      refine sp 135 (.pointer (some ⟨b3_1, 0, none⟩)) ?_
      refine sp 136 (.int .i64 (nth v0_9x y21_7)) ?_
      refine sp 137 (.slice v1_17a (List.length w23_5) v1_17c) ?_
      refine sp 138 (.agg #[.int .i64 (2), .int .i64 (0), .int .i64 (0), .int .i64 (0), .int .i64 (nth v0_9x y21_7), .int .i64 (0), .int .i64 (2), .bool true, .slice v1_17a (List.length w23_5) v1_17c]) ?_
      obtain ⟨y24_4, hy24_4, H⟩ := bindE H
      refine s_call 139 10 #[.pointer (some ⟨b3_1, 0, none⟩), .agg #[.int .i64 (2), .int .i64 (0), .int .i64 (0), .int .i64 (0), .int .i64 (nth v0_9x y21_7), .int .i64 (0), .int .i64 (2), .bool true, .slice v1_17a (List.length w23_5) v1_17c]] (by kernel_rfl) (by kernel_rfl) (fun _ => by kernel_rfl) (Tr.conv (Γ' := (HomeA b3_1 v1_b3_1) :: (IntsA v1_17a v1_17c w23_5) :: (IntsA v0_9a v0_9c v0_9x) :: (ImmI a1_1_00 y1_1.init) :: (Asn.own b1_2 (.cells #[.int .i64 u2_3, .int .i64 y1_1.lines, .int .i64 y1_1.words, .int .i64 y1_1.sets, .int .i64 y1_1.ways, .int .i64 y1_1.out, .int .i64 y1_1.inn, .slice a1_1_00 (List.length y1_1.init) c1_1_00] 26 (0, 0))) :: Γ) (fun w hw => (Sat.less (.take (.there (.there .here)) (.take .here (.take .here (.take .here (.take .here .refl))))) hw)) (HHandleF_tr b3_1 v1_b3_1 v1_17a v1_17c (⟨2, 0, 0, 0, nth v0_9x y21_7, 0, 2, true, w23_5⟩ : PktS) (RowsA.reads (k := 1) .here) y24_4 hy24_4)) ?_
      rintro _ _ ⟨a24_4_00, c24_4_00, rfl, rfl⟩
      refine sp 134 (.tuple #[.agg #[.int .i64 y24_4.1.kind, .int .i64 y24_4.1.src, .int .i64 y24_4.1.dst, .int .i64 y24_4.1.id, .int .i64 y24_4.1.line, .int .i64 y24_4.1.ptr, .int .i64 y24_4.1.state, .bool y24_4.1.flag, .slice a24_4_00 (List.length y24_4.1.data) c24_4_00], .bool y24_4.2.1, .int .i64 y24_4.2.2.1]) ?_
      refine sp 140 (.agg #[.int .i64 y24_4.1.kind, .int .i64 y24_4.1.src, .int .i64 y24_4.1.dst, .int .i64 y24_4.1.id, .int .i64 y24_4.1.line, .int .i64 y24_4.1.ptr, .int .i64 y24_4.1.state, .bool y24_4.1.flag, .slice a24_4_00 (List.length y24_4.1.data) c24_4_00]) ?_
      refine sp 141 (.bool y24_4.2.1) ?_
      refine sp 142 (.int .i64 y24_4.2.2.1) ?_
      refine s_step 20 (by kernel_rfl) (by kernel_rfl) (st_new (T := 32) (cells := #[.int .i64 (0), .int .i64 (0), .int .i64 (0), .int .i64 (0), .int .i64 (0), .int .i64 (0), .int .i64 (0), .bool false, .slice none 0 0]) (fun a => .pointer (some a)) (fun _ => by kernel_rfl)) ?_
      rintro _ _ ⟨b24_9, rfl, rfl⟩
      refine s_do (by kernel_rfl) (by kernel_rfl) (st_store (off := 0) (vs := [.int .i64 y24_4.1.kind, .int .i64 y24_4.1.src, .int .i64 y24_4.1.dst, .int .i64 y24_4.1.id, .int .i64 y24_4.1.line, .int .i64 y24_4.1.ptr, .int .i64 y24_4.1.state, .bool y24_4.1.flag, .slice a24_4_00 (List.length y24_4.1.data) c24_4_00]) (c' := #[.int .i64 y24_4.1.kind, .int .i64 y24_4.1.src, .int .i64 y24_4.1.dst, .int .i64 y24_4.1.id, .int .i64 y24_4.1.line, .int .i64 y24_4.1.ptr, .int .i64 y24_4.1.state, .bool y24_4.1.flag, .slice a24_4_00 (List.length y24_4.1.data) c24_4_00]) (fun _ => by kernel_rfl) .here (by kernel_rfl) (by kernel_rfl) (by kernel_rfl)) ?_
      rintro _ _ ⟨rfl, rfl⟩
      refine sp 21 (.bool y24_4.2.1) ?_
      refine sp 22 (.int .i64 y24_4.2.2.1) ?_
      refine ops_end ?_
      refine ae [(1, .slice ordera (List.length order) ordercap), (2, .int .i64 v), (7, .pointer (some ⟨b1_2, 0, none⟩)), (8, .pointer (some ⟨b3_1, 0, none⟩)), (9, .slice v0_9a (List.length v0_9x) v0_9c), (17, .slice v1_17a (List.length w23_5) v1_17c), (18, .int .i64 v1_18), (19, .int .i64 (nth v0_9x y21_7)), (21, .bool y24_4.2.1), (22, .int .i64 y24_4.2.2.1)] ?_
      refine at_then_normal ?_
      refine at_seq_join (x := C6 [1,1,1,1,1,1,1,1,0,1,0,0,1,0,0,1,1,1,0,1,0]) (y := C6 [1,1,1,1,1,1,1,1,0,1,0,0,1,0,0,1,1,1,0,1,1]) (fun ff ΔΔ => ∃ (e4_148 : Bool), homeLinesS_j4 y24_4 v0_9x y21_7 y1_1 v v1_18 (homeLinesS_l1 order v0_9x v y1_1 (homeLinesS_k1 ) fuel2) w23_5 e4_148 = some y ∧ ff = [(1, .slice ordera (List.length order) ordercap), (2, .int .i64 v), (7, .pointer (some ⟨b1_2, 0, none⟩)), (8, .pointer (some ⟨b3_1, 0, none⟩)), (9, .slice v0_9a (List.length v0_9x) v0_9c), (17, .slice v1_17a (List.length w23_5) v1_17c), (18, .int .i64 v1_18), (19, .int .i64 (nth v0_9x y21_7)), (148, .bool e4_148)] ∧ (HomeA b3_1 y24_4.2.2.2) :: (IntsA v1_17a v1_17c w23_5) :: (IntsA v0_9a v0_9c v0_9x) :: (ImmI a1_1_00 y1_1.init) :: (Asn.own b1_2 (.cells #[.int .i64 u2_3, .int .i64 y1_1.lines, .int .i64 y1_1.words, .int .i64 y1_1.sets, .int .i64 y1_1.ways, .int .i64 y1_1.out, .int .i64 y1_1.inn, .slice a1_1_00 (List.length y1_1.init) c1_1_00] 26 (0, 0))) :: Γ = ΔΔ) (by kernel_rfl) ?_ ?_
      ·rintro _ _ ⟨e4_148, H, rfl, rfl⟩
       rw [homeLinesS_j4] at H
       rcases Bool.eq_false_or_eq_true (e4_148) with h10 | h10
       ·replace H := bifT H h10
        refine at_true (t := e4_148) (x := C6 [1,1,1,1,1,1,1,1,0,1,0,0,1,0,0,1,1,1,0,1,1,0]) (y := C6 [1,1,1,1,1,1,1,1,0,1,0,0,1,0,0,1,1,1,0,1,1,1]) (o := .tmp 148) (by kernel_rfl) (by kernel_rfl) (by kernel_rfl) h10 ?_
        refine aq (x := C6 [1,1,1,1,1,1,1,1,0,1,0,0,1,0,0,1,1,1,0,1,1,0,0]) (y := C6 [1,1,1,1,1,1,1,1,0,1,0,0,1,0,0,1,1,1,0,1,1,0,1]) ?_
        refine ar (id := 26) 1 ?_
        refine sp 6 (.bool false) ?_
        refine ops_end ?_
        refine ae [(6, .bool false)] ?_
        refine at_then_normal ?_
        refine at_ret (by kernel_rfl) ?_
        refine at_then_ret ?_
        refine at_in_ret ?_
        refine at_then_ret ?_
        refine at_then_ret ?_
        refine at_in_ret ?_
        refine at_then_ret ?_
        obtain rfl := someE H
        refine at_backR [.bool false] (Γ) (rs := [.tmp 6]) (by kernel_rfl) (.cons (.tmp (by kernel_rfl)) .nil) (fun w hw => (Sat.less (.drop .here (.drop .here (.drop .here (.drop .here (.drop .here .refl))))) hw)) ?_
        exact ⟨rfl, rfl⟩
       ·replace H := bifF H h10
        refine at_false (t := e4_148) (x := C6 [1,1,1,1,1,1,1,1,0,1,0,0,1,0,0,1,1,1,0,1,1,0]) (y := C6 [1,1,1,1,1,1,1,1,0,1,0,0,1,0,0,1,1,1,0,1,1,1]) (o := .tmp 148) (by kernel_rfl) (by kernel_rfl) (by kernel_rfl) h10 ?_
        refine at_skip (by kernel_rfl) ?_
        refine at_then_normal ?_
        refine aq (x := C6 [1,1,1,1,1,1,1,1,0,1,0,0,1,0,0,1,1,1,1,0]) (y := C6 [1,1,1,1,1,1,1,1,0,1,0,0,1,0,0,1,1,1,1,1]) ?_
        refine ar (id := 27) 8 ?_
        refine sp 150 (.pointer (some ⟨b3_1, 0, none⟩)) ?_
        obtain ⟨y27_1, hy27_1, H⟩ := bindE H
        refine s_call 151 16 #[.pointer (some ⟨b3_1, 0, none⟩)] (by kernel_rfl) (by kernel_rfl) (fun _ => by kernel_rfl) (HGrantF_tr b3_1 y24_4.2.2.2 y27_1 hy27_1) ?_
        rintro _ _ ⟨a27_1_00, c27_1_00, rfl, rfl⟩
        refine sp 149 (.tuple #[.agg #[.int .i64 y27_1.1.kind, .int .i64 y27_1.1.src, .int .i64 y27_1.1.dst, .int .i64 y27_1.1.id, .int .i64 y27_1.1.line, .int .i64 y27_1.1.ptr, .int .i64 y27_1.1.state, .bool y27_1.1.flag, .slice a27_1_00 (List.length y27_1.1.data) c27_1_00], .bool y27_1.2.1]) ?_
        refine sp 152 (.agg #[.int .i64 y27_1.1.kind, .int .i64 y27_1.1.src, .int .i64 y27_1.1.dst, .int .i64 y27_1.1.id, .int .i64 y27_1.1.line, .int .i64 y27_1.1.ptr, .int .i64 y27_1.1.state, .bool y27_1.1.flag, .slice a27_1_00 (List.length y27_1.1.data) c27_1_00]) ?_
        refine sp 153 (.bool y27_1.2.1) ?_
        refine s_step 23 (by kernel_rfl) (by kernel_rfl) (st_new (T := 32) (cells := #[.int .i64 (0), .int .i64 (0), .int .i64 (0), .int .i64 (0), .int .i64 (0), .int .i64 (0), .int .i64 (0), .bool false, .slice none 0 0]) (fun a => .pointer (some a)) (fun _ => by kernel_rfl)) ?_
        rintro _ _ ⟨b27_5, rfl, rfl⟩
        refine s_do (by kernel_rfl) (by kernel_rfl) (st_store (off := 0) (vs := [.int .i64 y27_1.1.kind, .int .i64 y27_1.1.src, .int .i64 y27_1.1.dst, .int .i64 y27_1.1.id, .int .i64 y27_1.1.line, .int .i64 y27_1.1.ptr, .int .i64 y27_1.1.state, .bool y27_1.1.flag, .slice a27_1_00 (List.length y27_1.1.data) c27_1_00]) (c' := #[.int .i64 y27_1.1.kind, .int .i64 y27_1.1.src, .int .i64 y27_1.1.dst, .int .i64 y27_1.1.id, .int .i64 y27_1.1.line, .int .i64 y27_1.1.ptr, .int .i64 y27_1.1.state, .bool y27_1.1.flag, .slice a27_1_00 (List.length y27_1.1.data) c27_1_00]) (fun _ => by kernel_rfl) .here (by kernel_rfl) (by kernel_rfl) (by kernel_rfl)) ?_
        rintro _ _ ⟨rfl, rfl⟩
        refine sp 24 (.bool y27_1.2.1) ?_
        refine ops_end ?_
        refine ae [(1, .slice ordera (List.length order) ordercap), (2, .int .i64 v), (7, .pointer (some ⟨b1_2, 0, none⟩)), (8, .pointer (some ⟨b3_1, 0, none⟩)), (9, .slice v0_9a (List.length v0_9x) v0_9c), (17, .slice v1_17a (List.length w23_5) v1_17c), (18, .int .i64 v1_18), (19, .int .i64 (nth v0_9x y21_7)), (23, .pointer (some ⟨b27_5, 0, none⟩)), (24, .bool y27_1.2.1)] ?_
        refine at_then_normal ?_
        refine aq (x := C6 [1,1,1,1,1,1,1,1,0,1,0,0,1,0,0,1,1,1,1,1,0]) (y := C6 [1,1,1,1,1,1,1,1,0,1,0,0,1,0,0,1,1,1,1,1,1]) ?_
        refine ar (id := 28) 43 ?_
        refine sp 154 (.bool y27_1.2.1) ?_
        refine sp 155 (.bool !y27_1.2.1) ?_
        rcases Bool.eq_false_or_eq_true (!y27_1.2.1) with h11 | h11
        ·replace H := bifT H h11
         refine sr 156 (.bool true) (run_eq (v := .bool (!y27_1.2.1)) (fun _ => by kernel_rfl) (congrArg Value.bool h11)) ?_
         refine sa 157 ?_
         refine sa 158 ?_
         refine sa 159 ?_
         refine sa 160 ?_
         refine sp 161 (.bool true) ?_
         refine sp 162 (.bool true) ?_
         refine sa 163 ?_
         refine sa 164 ?_
         refine sa 165 ?_
         refine sa 166 ?_
         refine sa 167 ?_
         refine sp 168 (.bool true) ?_
         refine sp 169 (.bool true) ?_
         refine sa 170 ?_
         refine sa 171 ?_
         refine sa 172 ?_
         refine sp 173 (.bool true) ?_
         refine sp 174 (.bool true) ?_
         refine sa 175 ?_
         refine sa 176 ?_
         refine sa 177 ?_
         refine sp 178 (.bool true) ?_
         refine sp 179 (.bool true) ?_
         refine sa 180 ?_
         refine sa 181 ?_
         refine sa 182 ?_
         refine sa 183 ?_
         refine sa 184 ?_
         refine sa 185 ?_
         refine sp 186 (.bool true) ?_
         refine sp 187 (.bool true) ?_
         refine sa 188 ?_
         refine sa 189 ?_
         refine sa 190 ?_
         refine sa 191 ?_
         refine sa 192 ?_
         refine sa 193 ?_
         refine sa 194 ?_
         refine sa 195 ?_
         refine sp 196 (.bool true) ?_
         refine ops_end ?_
         refine ae [(1, .slice ordera (List.length order) ordercap), (2, .int .i64 v), (7, .pointer (some ⟨b1_2, 0, none⟩)), (8, .pointer (some ⟨b3_1, 0, none⟩)), (9, .slice v0_9a (List.length v0_9x) v0_9c), (17, .slice v1_17a (List.length w23_5) v1_17c), (18, .int .i64 v1_18), (196, .bool true)] ?_
         refine at_then_normal ?_
         refine at_true (t := true) (x := C6 [1,1,1,1,1,1,1,1,0,1,0,0,1,0,0,1,1,1,1,1,1,0]) (y := C6 [1,1,1,1,1,1,1,1,0,1,0,0,1,0,0,1,1,1,1,1,1,1]) (o := .tmp 196) (by kernel_rfl) (by kernel_rfl) (by kernel_rfl) rfl ?_
         refine aq (x := C6 [1,1,1,1,1,1,1,1,0,1,0,0,1,0,0,1,1,1,1,1,1,0,0]) (y := C6 [1,1,1,1,1,1,1,1,0,1,0,0,1,0,0,1,1,1,1,1,1,0,1]) ?_
         refine ar (id := 29) 1 ?_
         refine sp 6 (.bool false) ?_
         refine ops_end ?_
         refine ae [(6, .bool false)] ?_
         refine at_then_normal ?_
         refine at_ret (by kernel_rfl) ?_
         refine at_in_ret ?_
         refine at_then_ret ?_
         refine at_then_ret ?_
         refine at_in_ret ?_
         refine at_then_ret ?_
         obtain rfl := someE H
         refine at_backR [.bool false] (Γ) (rs := [.tmp 6]) (by kernel_rfl) (.cons (.tmp (by kernel_rfl)) .nil) (fun w hw => (Sat.less (.drop .here (.drop .here (.drop .here (.drop .here (.drop .here (.drop .here (.drop .here .refl))))))) hw)) ?_
         exact ⟨rfl, rfl⟩
        ·replace H := bifF H h11
         refine sr 156 (.bool false) (run_eq (v := .bool (!y27_1.2.1)) (fun _ => by kernel_rfl) (congrArg Value.bool h11)) ?_
         refine sp 157 (.pointer (some ⟨b27_5, 4, none⟩)) ?_
         refine sl 158 (.int .i64 y27_1.1.line) (load1 (off := 4) (fun _ => by kernel_rfl) (holds_own .here) (by kernel_rfl)) ?_
         refine sp 159 (.int .i64 (nth v0_9x y21_7)) ?_
         refine sp 160 (.bool (!(decide (y27_1.1.line = (nth v0_9x y21_7))))) ?_
         refine sp 161 (.bool (!(decide (y27_1.1.line = (nth v0_9x y21_7))))) ?_
         rcases Bool.eq_false_or_eq_true (!(decide (y27_1.1.line = (nth v0_9x y21_7)))) with h12 | h12
         ·replace H := bifT H h12
          refine sr 162 (.bool true) (run_eq (v := .bool (!(decide (y27_1.1.line = (nth v0_9x y21_7))))) (fun _ => by kernel_rfl) (congrArg Value.bool h12)) ?_
          refine sa 163 ?_
          refine sa 164 ?_
          refine sa 165 ?_
          refine sa 166 ?_
          refine sa 167 ?_
          refine sp 168 (.bool true) ?_
          refine sp 169 (.bool true) ?_
          refine sa 170 ?_
          refine sa 171 ?_
          refine sa 172 ?_
          refine sp 173 (.bool true) ?_
          refine sp 174 (.bool true) ?_
          refine sa 175 ?_
          refine sa 176 ?_
          refine sa 177 ?_
          refine sp 178 (.bool true) ?_
          refine sp 179 (.bool true) ?_
          refine sa 180 ?_
          refine sa 181 ?_
          refine sa 182 ?_
          refine sa 183 ?_
          refine sa 184 ?_
          refine sa 185 ?_
          refine sp 186 (.bool true) ?_
          refine sp 187 (.bool true) ?_
          refine sa 188 ?_
          refine sa 189 ?_
          refine sa 190 ?_
          refine sa 191 ?_
          refine sa 192 ?_
          refine sa 193 ?_
          refine sa 194 ?_
          refine sa 195 ?_
          refine sp 196 (.bool true) ?_
          refine ops_end ?_
          refine ae [(1, .slice ordera (List.length order) ordercap), (2, .int .i64 v), (7, .pointer (some ⟨b1_2, 0, none⟩)), (8, .pointer (some ⟨b3_1, 0, none⟩)), (9, .slice v0_9a (List.length v0_9x) v0_9c), (17, .slice v1_17a (List.length w23_5) v1_17c), (18, .int .i64 v1_18), (196, .bool true)] ?_
          refine at_then_normal ?_
          refine at_true (t := true) (x := C6 [1,1,1,1,1,1,1,1,0,1,0,0,1,0,0,1,1,1,1,1,1,0]) (y := C6 [1,1,1,1,1,1,1,1,0,1,0,0,1,0,0,1,1,1,1,1,1,1]) (o := .tmp 196) (by kernel_rfl) (by kernel_rfl) (by kernel_rfl) rfl ?_
          refine aq (x := C6 [1,1,1,1,1,1,1,1,0,1,0,0,1,0,0,1,1,1,1,1,1,0,0]) (y := C6 [1,1,1,1,1,1,1,1,0,1,0,0,1,0,0,1,1,1,1,1,1,0,1]) ?_
          refine ar (id := 29) 1 ?_
          refine sp 6 (.bool false) ?_
          refine ops_end ?_
          refine ae [(6, .bool false)] ?_
          refine at_then_normal ?_
          refine at_ret (by kernel_rfl) ?_
          refine at_in_ret ?_
          refine at_then_ret ?_
          refine at_then_ret ?_
          refine at_in_ret ?_
          refine at_then_ret ?_
          obtain rfl := someE H
          refine at_backR [.bool false] (Γ) (rs := [.tmp 6]) (by kernel_rfl) (.cons (.tmp (by kernel_rfl)) .nil) (fun w hw => (Sat.less (.drop .here (.drop .here (.drop .here (.drop .here (.drop .here (.drop .here (.drop .here .refl))))))) hw)) ?_
          exact ⟨rfl, rfl⟩
         ·replace H := bifF H h12
          refine sr 162 (.bool false) (run_eq (v := .bool (!(decide (y27_1.1.line = (nth v0_9x y21_7))))) (fun _ => by kernel_rfl) (congrArg Value.bool h12)) ?_
          refine sp 163 (.pointer (some ⟨b27_5, 3, none⟩)) ?_
          refine sl 164 (.int .i64 y27_1.1.id) (load1 (off := 3) (fun _ => by kernel_rfl) (holds_own .here) (by kernel_rfl)) ?_
          refine sp 165 (.int .i64 (nth v0_9x y21_7)) ?_
          refine sp 166 (.int .i64 (wr ((100 : Int) + (nth v0_9x y21_7)))) ?_
          refine sp 167 (.bool (!(decide (y27_1.1.id = (wr ((100 : Int) + (nth v0_9x y21_7))))))) ?_
          refine sp 168 (.bool (!(decide (y27_1.1.id = (wr ((100 : Int) + (nth v0_9x y21_7))))))) ?_
          rcases Bool.eq_false_or_eq_true (!(decide (y27_1.1.id = (wr ((100 : Int) + (nth v0_9x y21_7)))))) with h13 | h13
          ·replace H := bifT H h13
           refine sr 169 (.bool true) (run_eq (v := .bool (!(decide (y27_1.1.id = (wr ((100 : Int) + (nth v0_9x y21_7))))))) (fun _ => by kernel_rfl) (congrArg Value.bool h13)) ?_
           refine sa 170 ?_
           refine sa 171 ?_
           refine sa 172 ?_
           refine sp 173 (.bool true) ?_
           refine sp 174 (.bool true) ?_
           refine sa 175 ?_
           refine sa 176 ?_
           refine sa 177 ?_
           refine sp 178 (.bool true) ?_
           refine sp 179 (.bool true) ?_
           refine sa 180 ?_
           refine sa 181 ?_
           refine sa 182 ?_
           refine sa 183 ?_
           refine sa 184 ?_
           refine sa 185 ?_
           refine sp 186 (.bool true) ?_
           refine sp 187 (.bool true) ?_
           refine sa 188 ?_
           refine sa 189 ?_
           refine sa 190 ?_
           refine sa 191 ?_
           refine sa 192 ?_
           refine sa 193 ?_
           refine sa 194 ?_
           refine sa 195 ?_
           refine sp 196 (.bool true) ?_
           refine ops_end ?_
           refine ae [(1, .slice ordera (List.length order) ordercap), (2, .int .i64 v), (7, .pointer (some ⟨b1_2, 0, none⟩)), (8, .pointer (some ⟨b3_1, 0, none⟩)), (9, .slice v0_9a (List.length v0_9x) v0_9c), (17, .slice v1_17a (List.length w23_5) v1_17c), (18, .int .i64 v1_18), (196, .bool true)] ?_
           refine at_then_normal ?_
           refine at_true (t := true) (x := C6 [1,1,1,1,1,1,1,1,0,1,0,0,1,0,0,1,1,1,1,1,1,0]) (y := C6 [1,1,1,1,1,1,1,1,0,1,0,0,1,0,0,1,1,1,1,1,1,1]) (o := .tmp 196) (by kernel_rfl) (by kernel_rfl) (by kernel_rfl) rfl ?_
           refine aq (x := C6 [1,1,1,1,1,1,1,1,0,1,0,0,1,0,0,1,1,1,1,1,1,0,0]) (y := C6 [1,1,1,1,1,1,1,1,0,1,0,0,1,0,0,1,1,1,1,1,1,0,1]) ?_
           refine ar (id := 29) 1 ?_
           refine sp 6 (.bool false) ?_
           refine ops_end ?_
           refine ae [(6, .bool false)] ?_
           refine at_then_normal ?_
           refine at_ret (by kernel_rfl) ?_
           refine at_in_ret ?_
           refine at_then_ret ?_
           refine at_then_ret ?_
           refine at_in_ret ?_
           refine at_then_ret ?_
           obtain rfl := someE H
           refine at_backR [.bool false] (Γ) (rs := [.tmp 6]) (by kernel_rfl) (.cons (.tmp (by kernel_rfl)) .nil) (fun w hw => (Sat.less (.drop .here (.drop .here (.drop .here (.drop .here (.drop .here (.drop .here (.drop .here .refl))))))) hw)) ?_
           exact ⟨rfl, rfl⟩
          ·replace H := bifF H h13
           refine sr 169 (.bool false) (run_eq (v := .bool (!(decide (y27_1.1.id = (wr ((100 : Int) + (nth v0_9x y21_7))))))) (fun _ => by kernel_rfl) (congrArg Value.bool h13)) ?_
           refine sp 170 (.pointer (some ⟨b27_5, 6, none⟩)) ?_
           refine sl 171 (.int .i64 y27_1.1.state) (load1 (off := 6) (fun _ => by kernel_rfl) (holds_own .here) (by kernel_rfl)) ?_
           refine sp 172 (.bool (!(decide (y27_1.1.state = (2 : Int))))) ?_
           refine sp 173 (.bool (!(decide (y27_1.1.state = (2 : Int))))) ?_
           rcases Bool.eq_false_or_eq_true (!(decide (y27_1.1.state = (2 : Int)))) with h14 | h14
           ·replace H := bifT H h14
            refine sr 174 (.bool true) (run_eq (v := .bool (!(decide (y27_1.1.state = (2 : Int))))) (fun _ => by kernel_rfl) (congrArg Value.bool h14)) ?_
            refine sa 175 ?_
            refine sa 176 ?_
            refine sa 177 ?_
            refine sp 178 (.bool true) ?_
            refine sp 179 (.bool true) ?_
            refine sa 180 ?_
            refine sa 181 ?_
            refine sa 182 ?_
            refine sa 183 ?_
            refine sa 184 ?_
            refine sa 185 ?_
            refine sp 186 (.bool true) ?_
            refine sp 187 (.bool true) ?_
            refine sa 188 ?_
            refine sa 189 ?_
            refine sa 190 ?_
            refine sa 191 ?_
            refine sa 192 ?_
            refine sa 193 ?_
            refine sa 194 ?_
            refine sa 195 ?_
            refine sp 196 (.bool true) ?_
            refine ops_end ?_
            refine ae [(1, .slice ordera (List.length order) ordercap), (2, .int .i64 v), (7, .pointer (some ⟨b1_2, 0, none⟩)), (8, .pointer (some ⟨b3_1, 0, none⟩)), (9, .slice v0_9a (List.length v0_9x) v0_9c), (17, .slice v1_17a (List.length w23_5) v1_17c), (18, .int .i64 v1_18), (196, .bool true)] ?_
            refine at_then_normal ?_
            refine at_true (t := true) (x := C6 [1,1,1,1,1,1,1,1,0,1,0,0,1,0,0,1,1,1,1,1,1,0]) (y := C6 [1,1,1,1,1,1,1,1,0,1,0,0,1,0,0,1,1,1,1,1,1,1]) (o := .tmp 196) (by kernel_rfl) (by kernel_rfl) (by kernel_rfl) rfl ?_
            refine aq (x := C6 [1,1,1,1,1,1,1,1,0,1,0,0,1,0,0,1,1,1,1,1,1,0,0]) (y := C6 [1,1,1,1,1,1,1,1,0,1,0,0,1,0,0,1,1,1,1,1,1,0,1]) ?_
            refine ar (id := 29) 1 ?_
            refine sp 6 (.bool false) ?_
            refine ops_end ?_
            refine ae [(6, .bool false)] ?_
            refine at_then_normal ?_
            refine at_ret (by kernel_rfl) ?_
            refine at_in_ret ?_
            refine at_then_ret ?_
            refine at_then_ret ?_
            refine at_in_ret ?_
            refine at_then_ret ?_
            obtain rfl := someE H
            refine at_backR [.bool false] (Γ) (rs := [.tmp 6]) (by kernel_rfl) (.cons (.tmp (by kernel_rfl)) .nil) (fun w hw => (Sat.less (.drop .here (.drop .here (.drop .here (.drop .here (.drop .here (.drop .here (.drop .here .refl))))))) hw)) ?_
            exact ⟨rfl, rfl⟩
           ·replace H := bifF H h14
            refine sr 174 (.bool false) (run_eq (v := .bool (!(decide (y27_1.1.state = (2 : Int))))) (fun _ => by kernel_rfl) (congrArg Value.bool h14)) ?_
            refine sp 175 (.pointer (some ⟨b27_5, 5, none⟩)) ?_
            refine sl 176 (.int .i64 y27_1.1.ptr) (load1 (off := 5) (fun _ => by kernel_rfl) (holds_own .here) (by kernel_rfl)) ?_
            refine sp 177 (.bool (!(decide (y27_1.1.ptr = (0 : Int))))) ?_
            refine sp 178 (.bool (!(decide (y27_1.1.ptr = (0 : Int))))) ?_
            rcases Bool.eq_false_or_eq_true (!(decide (y27_1.1.ptr = (0 : Int)))) with h15 | h15
            ·replace H := bifT H h15
             refine sr 179 (.bool true) (run_eq (v := .bool (!(decide (y27_1.1.ptr = (0 : Int))))) (fun _ => by kernel_rfl) (congrArg Value.bool h15)) ?_
             refine sa 180 ?_
             refine sa 181 ?_
             refine sa 182 ?_
             refine sa 183 ?_
             refine sa 184 ?_
             refine sa 185 ?_
             refine sp 186 (.bool true) ?_
             refine sp 187 (.bool true) ?_
             refine sa 188 ?_
             refine sa 189 ?_
             refine sa 190 ?_
             refine sa 191 ?_
             refine sa 192 ?_
             refine sa 193 ?_
             refine sa 194 ?_
             refine sa 195 ?_
             refine sp 196 (.bool true) ?_
             refine ops_end ?_
             refine ae [(1, .slice ordera (List.length order) ordercap), (2, .int .i64 v), (7, .pointer (some ⟨b1_2, 0, none⟩)), (8, .pointer (some ⟨b3_1, 0, none⟩)), (9, .slice v0_9a (List.length v0_9x) v0_9c), (17, .slice v1_17a (List.length w23_5) v1_17c), (18, .int .i64 v1_18), (196, .bool true)] ?_
             refine at_then_normal ?_
             refine at_true (t := true) (x := C6 [1,1,1,1,1,1,1,1,0,1,0,0,1,0,0,1,1,1,1,1,1,0]) (y := C6 [1,1,1,1,1,1,1,1,0,1,0,0,1,0,0,1,1,1,1,1,1,1]) (o := .tmp 196) (by kernel_rfl) (by kernel_rfl) (by kernel_rfl) rfl ?_
             refine aq (x := C6 [1,1,1,1,1,1,1,1,0,1,0,0,1,0,0,1,1,1,1,1,1,0,0]) (y := C6 [1,1,1,1,1,1,1,1,0,1,0,0,1,0,0,1,1,1,1,1,1,0,1]) ?_
             refine ar (id := 29) 1 ?_
             refine sp 6 (.bool false) ?_
             refine ops_end ?_
             refine ae [(6, .bool false)] ?_
             refine at_then_normal ?_
             refine at_ret (by kernel_rfl) ?_
             refine at_in_ret ?_
             refine at_then_ret ?_
             refine at_then_ret ?_
             refine at_in_ret ?_
             refine at_then_ret ?_
             obtain rfl := someE H
             refine at_backR [.bool false] (Γ) (rs := [.tmp 6]) (by kernel_rfl) (.cons (.tmp (by kernel_rfl)) .nil) (fun w hw => (Sat.less (.drop .here (.drop .here (.drop .here (.drop .here (.drop .here (.drop .here (.drop .here .refl))))))) hw)) ?_
             exact ⟨rfl, rfl⟩
            ·replace H := bifF H h15
             refine sr 179 (.bool false) (run_eq (v := .bool (!(decide (y27_1.1.ptr = (0 : Int))))) (fun _ => by kernel_rfl) (congrArg Value.bool h15)) ?_
             refine sp 180 (.pointer (some ⟨b27_5, 8, none⟩)) ?_
             refine sl 181 (.slice a27_1_00 (List.length y27_1.1.data) c27_1_00) (load1 (off := 8) (fun _ => by kernel_rfl) (holds_own .here) (by kernel_rfl)) ?_
             refine sp 182 (.int .i64 (((List.length y27_1.1.data) : Nat) : Int)) ?_
             refine sp 183 (.pointer (some ⟨b1_2, 2, none⟩)) ?_
             refine sl 184 (.int .i64 y1_1.words) (load1 (off := 2) (fun _ => by kernel_rfl) (holds_own (.there (.there (.there (.there (.there (.there .here))))))) (by kernel_rfl)) ?_
             refine sp 185 (.bool (!(decide ((((List.length y27_1.1.data) : Nat) : Int) = y1_1.words)))) ?_
             refine sp 186 (.bool (!(decide ((((List.length y27_1.1.data) : Nat) : Int) = y1_1.words)))) ?_
             rcases Bool.eq_false_or_eq_true (!(decide ((((List.length y27_1.1.data) : Nat) : Int) = y1_1.words))) with h16 | h16
             ·replace H := bifT H h16
              refine sr 187 (.bool true) (run_eq (v := .bool (!(decide ((((List.length y27_1.1.data) : Nat) : Int) = y1_1.words)))) (fun _ => by kernel_rfl) (congrArg Value.bool h16)) ?_
              refine sa 188 ?_
              refine sa 189 ?_
              refine sa 190 ?_
              refine sa 191 ?_
              refine sa 192 ?_
              refine sa 193 ?_
              refine sa 194 ?_
              refine sa 195 ?_
              refine sp 196 (.bool true) ?_
              refine ops_end ?_
              refine ae [(1, .slice ordera (List.length order) ordercap), (2, .int .i64 v), (7, .pointer (some ⟨b1_2, 0, none⟩)), (8, .pointer (some ⟨b3_1, 0, none⟩)), (9, .slice v0_9a (List.length v0_9x) v0_9c), (17, .slice v1_17a (List.length w23_5) v1_17c), (18, .int .i64 v1_18), (196, .bool true)] ?_
              refine at_then_normal ?_
              refine at_true (t := true) (x := C6 [1,1,1,1,1,1,1,1,0,1,0,0,1,0,0,1,1,1,1,1,1,0]) (y := C6 [1,1,1,1,1,1,1,1,0,1,0,0,1,0,0,1,1,1,1,1,1,1]) (o := .tmp 196) (by kernel_rfl) (by kernel_rfl) (by kernel_rfl) rfl ?_
              refine aq (x := C6 [1,1,1,1,1,1,1,1,0,1,0,0,1,0,0,1,1,1,1,1,1,0,0]) (y := C6 [1,1,1,1,1,1,1,1,0,1,0,0,1,0,0,1,1,1,1,1,1,0,1]) ?_
              refine ar (id := 29) 1 ?_
              refine sp 6 (.bool false) ?_
              refine ops_end ?_
              refine ae [(6, .bool false)] ?_
              refine at_then_normal ?_
              refine at_ret (by kernel_rfl) ?_
              refine at_in_ret ?_
              refine at_then_ret ?_
              refine at_then_ret ?_
              refine at_in_ret ?_
              refine at_then_ret ?_
              obtain rfl := someE H
              refine at_backR [.bool false] (Γ) (rs := [.tmp 6]) (by kernel_rfl) (.cons (.tmp (by kernel_rfl)) .nil) (fun w hw => (Sat.less (.drop .here (.drop .here (.drop .here (.drop .here (.drop .here (.drop .here (.drop .here .refl))))))) hw)) ?_
              exact ⟨rfl, rfl⟩
             ·replace H := bifF H h16
              refine sr 187 (.bool false) (run_eq (v := .bool (!(decide ((((List.length y27_1.1.data) : Nat) : Int) = y1_1.words)))) (fun _ => by kernel_rfl) (congrArg Value.bool h16)) ?_
              refine sp 188 (.pointer (some ⟨b27_5, 8, none⟩)) ?_
              refine sl 189 (.slice a27_1_00 (List.length y27_1.1.data) c27_1_00) (load1 (off := 8) (fun _ => by kernel_rfl) (holds_own .here) (by kernel_rfl)) ?_
              obtain ⟨hc28_36_0, H⟩ := chkE H
              refine rows_at (.there .here) (by have := hc28_36_0; simp only [ints_length]; omega) ?_
              intro bb4 oo4 ha4
              refine sr 190 (.pointer (some ⟨bb4, oo4 + (((0 : Int)).toNat * 1 + 0), none⟩)) (index_at (t := 22) (sz := 1) (E := 3) (a := a27_1_00) (m := (List.length y27_1.1.data)) (c := c27_1_00) (b := bb4) (off := oo4) (i := ((0 : Int)).toNat) (tinfo 3) (fun _ => by kernel_rfl) (by kernel_rfl) (by kernel_rfl) (by kernel_rfl) ha4 (idx_cast hc28_36_0) (idx_nat hc28_36_0) rfl) ?_
              refine sl 191 (.int .i64 (nth y27_1.1.data (0 : Int))) (load1_at (off := oo4 + (((0 : Int)).toNat * 1 + 0)) (v := .int .i64 (nth y27_1.1.data (0 : Int))) (fun _ => by kernel_rfl) rfl (reads_cell (k := 1) (RowsA.reads (k := 1) (.there .here)) (ints_rows _) ha4 (nth_row hc28_36_0) (show [(.int .i64 (nth y27_1.1.data (0 : Int)) : Value)][0]? = some _ from rfl))) ?_
              refine sp 192 (.int .i64 v) ?_
              refine sp 193 (.int .i64 (nth v0_9x y21_7)) ?_
              refine sp 194 (.int .i64 (wr (v + (nth v0_9x y21_7)))) ?_
              refine sp 195 (.bool (!(decide ((nth y27_1.1.data (0 : Int)) = (wr (v + (nth v0_9x y21_7))))))) ?_
              refine sp 196 (.bool (!(decide ((nth y27_1.1.data (0 : Int)) = (wr (v + (nth v0_9x y21_7))))))) ?_
              refine ops_end ?_
              refine ae [(1, .slice ordera (List.length order) ordercap), (2, .int .i64 v), (7, .pointer (some ⟨b1_2, 0, none⟩)), (8, .pointer (some ⟨b3_1, 0, none⟩)), (9, .slice v0_9a (List.length v0_9x) v0_9c), (17, .slice v1_17a (List.length w23_5) v1_17c), (18, .int .i64 v1_18), (196, .bool (!(decide ((nth y27_1.1.data (0 : Int)) = (wr (v + (nth v0_9x y21_7)))))))] ?_
              refine at_then_normal ?_
              rcases Bool.eq_false_or_eq_true (!(decide ((nth y27_1.1.data (0 : Int)) = (wr (v + (nth v0_9x y21_7)))))) with h17 | h17
              ·replace H := bifT H h17
               refine at_true (t := !(decide ((nth y27_1.1.data (0 : Int)) = (wr (v + (nth v0_9x y21_7)))))) (x := C6 [1,1,1,1,1,1,1,1,0,1,0,0,1,0,0,1,1,1,1,1,1,0]) (y := C6 [1,1,1,1,1,1,1,1,0,1,0,0,1,0,0,1,1,1,1,1,1,1]) (o := .tmp 196) (by kernel_rfl) (by kernel_rfl) (by kernel_rfl) h17 ?_
               refine aq (x := C6 [1,1,1,1,1,1,1,1,0,1,0,0,1,0,0,1,1,1,1,1,1,0,0]) (y := C6 [1,1,1,1,1,1,1,1,0,1,0,0,1,0,0,1,1,1,1,1,1,0,1]) ?_
               refine ar (id := 29) 1 ?_
               refine sp 6 (.bool false) ?_
               refine ops_end ?_
               refine ae [(6, .bool false)] ?_
               refine at_then_normal ?_
               refine at_ret (by kernel_rfl) ?_
               refine at_in_ret ?_
               refine at_then_ret ?_
               refine at_then_ret ?_
               refine at_in_ret ?_
               refine at_then_ret ?_
               obtain rfl := someE H
               refine at_backR [.bool false] (Γ) (rs := [.tmp 6]) (by kernel_rfl) (.cons (.tmp (by kernel_rfl)) .nil) (fun w hw => (Sat.less (.drop .here (.drop .here (.drop .here (.drop .here (.drop .here (.drop .here (.drop .here .refl))))))) hw)) ?_
               exact ⟨rfl, rfl⟩
              ·replace H := bifF H h17
               refine at_false (t := !(decide ((nth y27_1.1.data (0 : Int)) = (wr (v + (nth v0_9x y21_7)))))) (x := C6 [1,1,1,1,1,1,1,1,0,1,0,0,1,0,0,1,1,1,1,1,1,0]) (y := C6 [1,1,1,1,1,1,1,1,0,1,0,0,1,0,0,1,1,1,1,1,1,1]) (o := .tmp 196) (by kernel_rfl) (by kernel_rfl) (by kernel_rfl) h17 ?_
               refine at_skip (by kernel_rfl) ?_
               refine at_in_normal ?_
               refine at_then_normal ?_
               refine ar (id := 20) 3 ?_
               refine sp 101 (.int .i64 v1_18) ?_
               obtain ⟨hc20_1_0, H⟩ := chkE H
               refine sr 102 (.int .i64 (v1_18 + (1 : Int))) (run_eq (v := .int .i64 (IntKind.i64.wrap (v1_18 + (1 : Int)))) (fun _ => by kernel_rfl) (by rw [inR.wrap hc20_1_0])) ?_
               refine sp 18 (.int .i64 (v1_18 + (1 : Int))) ?_
               refine ops_end ?_
               refine ae [(1, .slice ordera (List.length order) ordercap), (2, .int .i64 v), (7, .pointer (some ⟨b1_2, 0, none⟩)), (8, .pointer (some ⟨b3_1, 0, none⟩)), (9, .slice v0_9a (List.length v0_9x) v0_9c), (17, .slice v1_17a (List.length w23_5) v1_17c), (18, .int .i64 (v1_18 + (1 : Int)))] ?_
               refine at_round_normal ?_
               exact at_roundR fuel2 [(1, .slice ordera (List.length order) ordercap), (2, .int .i64 v), (7, .pointer (some ⟨b1_2, 0, none⟩)), (8, .pointer (some ⟨b3_1, 0, none⟩)), (9, .slice v0_9a (List.length v0_9x) v0_9c), (17, .slice v1_17a (List.length w23_5) v1_17c), (18, .int .i64 (v1_18 + (1 : Int)))] ((IntsA v1_17a v1_17c w23_5) :: (IntsA v0_9a v0_9c v0_9x) :: (HomeA b3_1 y27_1.2.2) :: (ImmI a1_1_00 y1_1.init) :: (Asn.own b1_2 (.cells #[.int .i64 u2_3, .int .i64 y1_1.lines, .int .i64 y1_1.words, .int .i64 y1_1.sets, .int .i64 y1_1.ways, .int .i64 y1_1.out, .int .i64 y1_1.inn, .slice a1_1_00 (List.length y1_1.init) c1_1_00] 26 (0, 0))) :: Γ) (Nat.lt_succ_self _) ⟨by kernel_rfl, by kernel_rfl, by kernel_rfl, by kernel_rfl, by kernel_rfl, by kernel_rfl, by kernel_rfl, trivial⟩ (fun w hw => (Sat.less (.take (.there (.there (.there .here))) (.take (.there (.there (.there .here))) (.take (.there (.there .here)) (.take (.there (.there .here)) (.take (.there (.there .here)) (.drop .here (.drop .here .refl))))))) hw)) ⟨fuel2, w23_5, v1_18 + (1 : Int), y27_1.2.2, v1_17a, v1_17c, H, rfl, rfl, rfl⟩
      ·refine ar (id := 25) 6 ?_
       refine sp 143 (.bool y24_4.2.1) ?_
       refine sp 144 (.bool !y24_4.2.1) ?_
       rcases Bool.eq_false_or_eq_true (!y24_4.2.1) with h18 | h18
       ·replace H := bifT H h18
        refine sr 145 (.bool true) (run_eq (v := .bool (!y24_4.2.1)) (fun _ => by kernel_rfl) (congrArg Value.bool h18)) ?_
        refine sa 146 ?_
        refine sa 147 ?_
        refine sp 148 (.bool true) ?_
        refine ops_end ?_
        refine ae [(1, .slice ordera (List.length order) ordercap), (2, .int .i64 v), (7, .pointer (some ⟨b1_2, 0, none⟩)), (8, .pointer (some ⟨b3_1, 0, none⟩)), (9, .slice v0_9a (List.length v0_9x) v0_9c), (17, .slice v1_17a (List.length w23_5) v1_17c), (18, .int .i64 v1_18), (19, .int .i64 (nth v0_9x y21_7)), (148, .bool true)] ?_
        refine at_round_normal ?_
        exact at_join_mk [(1, .slice ordera (List.length order) ordercap), (2, .int .i64 v), (7, .pointer (some ⟨b1_2, 0, none⟩)), (8, .pointer (some ⟨b3_1, 0, none⟩)), (9, .slice v0_9a (List.length v0_9x) v0_9c), (17, .slice v1_17a (List.length w23_5) v1_17c), (18, .int .i64 v1_18), (19, .int .i64 (nth v0_9x y21_7)), (148, .bool true)] ((HomeA b3_1 y24_4.2.2.2) :: (IntsA v1_17a v1_17c w23_5) :: (IntsA v0_9a v0_9c v0_9x) :: (ImmI a1_1_00 y1_1.init) :: (Asn.own b1_2 (.cells #[.int .i64 u2_3, .int .i64 y1_1.lines, .int .i64 y1_1.words, .int .i64 y1_1.sets, .int .i64 y1_1.ways, .int .i64 y1_1.out, .int .i64 y1_1.inn, .slice a1_1_00 (List.length y1_1.init) c1_1_00] 26 (0, 0))) :: Γ) ⟨by kernel_rfl, by kernel_rfl, by kernel_rfl, by kernel_rfl, by kernel_rfl, by kernel_rfl, by kernel_rfl, by kernel_rfl, by kernel_rfl, trivial⟩ (fun w hw => (Sat.less (.take (.there (.there .here)) (.take (.there (.there .here)) (.take (.there (.there .here)) (.take (.there (.there .here)) (.take (.there (.there .here)) (.drop .here (.drop .here .refl))))))) hw)) ⟨true, H, rfl, rfl⟩
       ·replace H := bifF H h18
        refine sr 145 (.bool false) (run_eq (v := .bool (!y24_4.2.1)) (fun _ => by kernel_rfl) (congrArg Value.bool h18)) ?_
        refine sp 146 (.int .i64 y24_4.2.2.1) ?_
        refine sp 147 (.bool (!(decide (y24_4.2.2.1 = (0 : Int))))) ?_
        refine sp 148 (.bool (!(decide (y24_4.2.2.1 = (0 : Int))))) ?_
        refine ops_end ?_
        refine ae [(1, .slice ordera (List.length order) ordercap), (2, .int .i64 v), (7, .pointer (some ⟨b1_2, 0, none⟩)), (8, .pointer (some ⟨b3_1, 0, none⟩)), (9, .slice v0_9a (List.length v0_9x) v0_9c), (17, .slice v1_17a (List.length w23_5) v1_17c), (18, .int .i64 v1_18), (19, .int .i64 (nth v0_9x y21_7)), (148, .bool (!(decide (y24_4.2.2.1 = (0 : Int)))))] ?_
        refine at_round_normal ?_
        exact at_join_mk [(1, .slice ordera (List.length order) ordercap), (2, .int .i64 v), (7, .pointer (some ⟨b1_2, 0, none⟩)), (8, .pointer (some ⟨b3_1, 0, none⟩)), (9, .slice v0_9a (List.length v0_9x) v0_9c), (17, .slice v1_17a (List.length w23_5) v1_17c), (18, .int .i64 v1_18), (19, .int .i64 (nth v0_9x y21_7)), (148, .bool (!(decide (y24_4.2.2.1 = (0 : Int)))))] ((HomeA b3_1 y24_4.2.2.2) :: (IntsA v1_17a v1_17c w23_5) :: (IntsA v0_9a v0_9c v0_9x) :: (ImmI a1_1_00 y1_1.init) :: (Asn.own b1_2 (.cells #[.int .i64 u2_3, .int .i64 y1_1.lines, .int .i64 y1_1.words, .int .i64 y1_1.sets, .int .i64 y1_1.ways, .int .i64 y1_1.out, .int .i64 y1_1.inn, .slice a1_1_00 (List.length y1_1.init) c1_1_00] 26 (0, 0))) :: Γ) ⟨by kernel_rfl, by kernel_rfl, by kernel_rfl, by kernel_rfl, by kernel_rfl, by kernel_rfl, by kernel_rfl, by kernel_rfl, by kernel_rfl, trivial⟩ (fun w hw => (Sat.less (.take (.there (.there .here)) (.take (.there (.there .here)) (.take (.there (.there .here)) (.take (.there (.there .here)) (.take (.there (.there .here)) (.drop .here (.drop .here .refl))))))) hw)) ⟨!(decide (y24_4.2.2.1 = (0 : Int))), H, rfl, rfl⟩
    ·refine ar (id := 22) 16 ?_
     refine sp 113 (.pointer (some ⟨b3_1, 0, none⟩)) ?_
     refine sp 114 (.pointer (some ⟨b3_1, 0, none⟩)) ?_
     refine sp 115 (.pointer (some ⟨b3_1, 1, none⟩)) ?_
     refine HomeA.tox (.there (.there .here)) ?_
     intro x22_3_b3_1
     refine HomeXA.open .here ?_
     refine sl 116 (.pointer (some ⟨x22_3_b3_1.b1, 0, none⟩)) (load1 (off := 1) (fun _ => by kernel_rfl) (holds_own .here) (by kernel_rfl)) ?_
     refine sp 117 (.int .i64 (nth v0_9x y21_7)) ?_
     obtain ⟨y22_5, hy22_5, H⟩ := bindE H
     refine s_call 118 11 #[.pointer (some ⟨x22_3_b3_1.b1, 0, none⟩), .int .i64 (nth v0_9x y21_7)] (by kernel_rfl) (by kernel_rfl) (fun _ => by kernel_rfl) (Tr.conv (Γ' := (TurnsA x22_3_b3_1.b1 v1_b3_1.turns) :: (Asn.own b3_1 (.cells #[.pointer (some ⟨x22_3_b3_1.b0, 0, none⟩), .pointer (some ⟨x22_3_b3_1.b1, 0, none⟩), .int .i64 v1_b3_1.c.nodes, .int .i64 v1_b3_1.c.lines, .int .i64 v1_b3_1.c.words, .int .i64 v1_b3_1.c.sets, .int .i64 v1_b3_1.c.ways, .int .i64 v1_b3_1.c.out, .int .i64 v1_b3_1.c.inn, .slice x22_3_b3_1.a9 (List.length v1_b3_1.c.init) x22_3_b3_1.c9, .int .i64 v1_b3_1.node] x22_3_b3_1.T (0, 0))) :: (DirA x22_3_b3_1.b0 v1_b3_1.dir) :: (ImmI x22_3_b3_1.a9 v1_b3_1.c.init) :: (IntsA v1_17a v1_17c v1_17x) :: (IntsA v0_9a v0_9c v0_9x) :: (ImmI a1_1_00 y1_1.init) :: (Asn.own b1_2 (.cells #[.int .i64 u2_3, .int .i64 y1_1.lines, .int .i64 y1_1.words, .int .i64 y1_1.sets, .int .i64 y1_1.ways, .int .i64 y1_1.out, .int .i64 y1_1.inn, .slice a1_1_00 (List.length y1_1.init) c1_1_00] 26 (0, 0))) :: Γ) (fun w hw => (Sat.less (.take (.there (.there .here)) (.take .here (.take .here (.take .here (.take .here (.take .here (.take .here (.take .here .refl)))))))) hw)) (TOwnerF_tr x22_3_b3_1.b1 v1_b3_1.turns (nth v0_9x y21_7) y22_5 hy22_5)) ?_
     rintro _ _ ⟨rfl, rfl⟩
     refine sp 119 (.bool (decide (y22_5 = ((-1) : Int)))) ?_
     rcases Bool.eq_false_or_eq_true (decide (y22_5 = ((-1) : Int))) with h19 | h19
     ·replace H := bifT H h19
      refine sr 120 (.bool true) (run_eq (v := .bool (decide (y22_5 = ((-1) : Int)))) (fun _ => by kernel_rfl) (congrArg Value.bool h19)) ?_
      refine sa 121 ?_
      refine sa 122 ?_
      refine sa 123 ?_
      refine sa 124 ?_
      refine sa 125 ?_
      refine sa 126 ?_
      refine sa 127 ?_
      refine sp 128 (.bool true) ?_
      refine ops_end ?_
      refine ae [(1, .slice ordera (List.length order) ordercap), (2, .int .i64 v), (7, .pointer (some ⟨b1_2, 0, none⟩)), (8, .pointer (some ⟨b3_1, 0, none⟩)), (9, .slice v0_9a (List.length v0_9x) v0_9c), (17, .slice v1_17a (List.length v1_17x) v1_17c), (18, .int .i64 v1_18), (19, .int .i64 (nth v0_9x y21_7)), (128, .bool true)] ?_
      refine at_round_normal ?_
      refine At.conv (Γ' := (HomeXA b3_1 x22_3_b3_1 v1_b3_1) :: (ImmI x22_3_b3_1.a9 v1_b3_1.c.init) :: (IntsA v1_17a v1_17c v1_17x) :: (IntsA v0_9a v0_9c v0_9x) :: (ImmI a1_1_00 y1_1.init) :: (Asn.own b1_2 (.cells #[.int .i64 u2_3, .int .i64 y1_1.lines, .int .i64 y1_1.words, .int .i64 y1_1.sets, .int .i64 y1_1.ways, .int .i64 y1_1.out, .int .i64 y1_1.inn, .slice a1_1_00 (List.length y1_1.init) c1_1_00] 26 (0, 0))) :: Γ) (fun w hw => HomeXA.close (x := x22_3_b3_1) (t := v1_b3_1) (Sat.less (.take (.there (.there (.there .here))) (.take (.there (.there (.there .here))) (.take (.there (.there .here)) (.take .here (.take .here (.take .here (.take .here (.take .here (.take .here .refl))))))))) (ImmR.dup (Sat.less (.take (.there (.there (.there .here))) (.take .here (.take .here (.take .here (.take .here (.take .here (.take .here (.take .here .refl)))))))) hw)))) ?_
      refine At.conv (Γ' := (HomeA b3_1 v1_b3_1) :: (ImmI x22_3_b3_1.a9 v1_b3_1.c.init) :: (IntsA v1_17a v1_17c v1_17x) :: (IntsA v0_9a v0_9c v0_9x) :: (ImmI a1_1_00 y1_1.init) :: (Asn.own b1_2 (.cells #[.int .i64 u2_3, .int .i64 y1_1.lines, .int .i64 y1_1.words, .int .i64 y1_1.sets, .int .i64 y1_1.ways, .int .i64 y1_1.out, .int .i64 y1_1.inn, .slice a1_1_00 (List.length y1_1.init) c1_1_00] 26 (0, 0))) :: Γ) (fun w hw => HomeXA.shut (hw.pull .here)) ?_
      exact at_join_mk [(1, .slice ordera (List.length order) ordercap), (2, .int .i64 v), (7, .pointer (some ⟨b1_2, 0, none⟩)), (8, .pointer (some ⟨b3_1, 0, none⟩)), (9, .slice v0_9a (List.length v0_9x) v0_9c), (17, .slice v1_17a (List.length v1_17x) v1_17c), (18, .int .i64 v1_18), (19, .int .i64 (nth v0_9x y21_7)), (128, .bool true)] ((IntsA v1_17a v1_17c v1_17x) :: (IntsA v0_9a v0_9c v0_9x) :: (HomeA b3_1 v1_b3_1) :: (ImmI a1_1_00 y1_1.init) :: (Asn.own b1_2 (.cells #[.int .i64 u2_3, .int .i64 y1_1.lines, .int .i64 y1_1.words, .int .i64 y1_1.sets, .int .i64 y1_1.ways, .int .i64 y1_1.out, .int .i64 y1_1.inn, .slice a1_1_00 (List.length y1_1.init) c1_1_00] 26 (0, 0))) :: Γ) ⟨by kernel_rfl, by kernel_rfl, by kernel_rfl, by kernel_rfl, by kernel_rfl, by kernel_rfl, by kernel_rfl, by kernel_rfl, by kernel_rfl, trivial⟩ (fun w hw => (Sat.less (.take (.there (.there .here)) (.take (.there (.there .here)) (.take .here (.take (.there .here) (.take (.there .here) (.drop .here .refl)))))) hw)) ⟨true, H, rfl, rfl⟩
     ·replace H := bifF H h19
      refine sr 120 (.bool false) (run_eq (v := .bool (decide (y22_5 = ((-1) : Int)))) (fun _ => by kernel_rfl) (congrArg Value.bool h19)) ?_
      refine sp 121 (.pointer (some ⟨b3_1, 0, none⟩)) ?_
      refine sp 122 (.pointer (some ⟨b3_1, 0, none⟩)) ?_
      refine sp 123 (.pointer (some ⟨b3_1, 1, none⟩)) ?_
      refine sl 124 (.pointer (some ⟨x22_3_b3_1.b1, 0, none⟩)) (load1 (off := 1) (fun _ => by kernel_rfl) (holds_own (.there .here)) (by kernel_rfl)) ?_
      refine sp 125 (.int .i64 (nth v0_9x y21_7)) ?_
      obtain ⟨y22_13, hy22_13, H⟩ := bindE H
      refine s_call 126 12 #[.pointer (some ⟨x22_3_b3_1.b1, 0, none⟩), .int .i64 (nth v0_9x y21_7)] (by kernel_rfl) (by kernel_rfl) (fun _ => by kernel_rfl) (TWaitingF_tr x22_3_b3_1.b1 v1_b3_1.turns (nth v0_9x y21_7) y22_13 hy22_13) ?_
      rintro _ _ ⟨rfl, rfl⟩
      refine sp 127 (.bool (decide (y22_13 = (0 : Int)))) ?_
      refine sp 128 (.bool (decide (y22_13 = (0 : Int)))) ?_
      refine ops_end ?_
      refine ae [(1, .slice ordera (List.length order) ordercap), (2, .int .i64 v), (7, .pointer (some ⟨b1_2, 0, none⟩)), (8, .pointer (some ⟨b3_1, 0, none⟩)), (9, .slice v0_9a (List.length v0_9x) v0_9c), (17, .slice v1_17a (List.length v1_17x) v1_17c), (18, .int .i64 v1_18), (19, .int .i64 (nth v0_9x y21_7)), (128, .bool (decide (y22_13 = (0 : Int))))] ?_
      refine at_round_normal ?_
      refine At.conv (Γ' := (HomeXA b3_1 x22_3_b3_1 v1_b3_1) :: (ImmI x22_3_b3_1.a9 v1_b3_1.c.init) :: (IntsA v1_17a v1_17c v1_17x) :: (IntsA v0_9a v0_9c v0_9x) :: (ImmI a1_1_00 y1_1.init) :: (Asn.own b1_2 (.cells #[.int .i64 u2_3, .int .i64 y1_1.lines, .int .i64 y1_1.words, .int .i64 y1_1.sets, .int .i64 y1_1.ways, .int .i64 y1_1.out, .int .i64 y1_1.inn, .slice a1_1_00 (List.length y1_1.init) c1_1_00] 26 (0, 0))) :: Γ) (fun w hw => HomeXA.close (x := x22_3_b3_1) (t := v1_b3_1) (Sat.less (.take (.there (.there (.there .here))) (.take (.there (.there (.there .here))) (.take (.there (.there .here)) (.take .here (.take .here (.take .here (.take .here (.take .here (.take .here .refl))))))))) (ImmR.dup (Sat.less (.take (.there (.there (.there .here))) (.take .here (.take .here (.take .here (.take .here (.take .here (.take .here (.take .here .refl)))))))) hw)))) ?_
      refine At.conv (Γ' := (HomeA b3_1 v1_b3_1) :: (ImmI x22_3_b3_1.a9 v1_b3_1.c.init) :: (IntsA v1_17a v1_17c v1_17x) :: (IntsA v0_9a v0_9c v0_9x) :: (ImmI a1_1_00 y1_1.init) :: (Asn.own b1_2 (.cells #[.int .i64 u2_3, .int .i64 y1_1.lines, .int .i64 y1_1.words, .int .i64 y1_1.sets, .int .i64 y1_1.ways, .int .i64 y1_1.out, .int .i64 y1_1.inn, .slice a1_1_00 (List.length y1_1.init) c1_1_00] 26 (0, 0))) :: Γ) (fun w hw => HomeXA.shut (hw.pull .here)) ?_
      exact at_join_mk [(1, .slice ordera (List.length order) ordercap), (2, .int .i64 v), (7, .pointer (some ⟨b1_2, 0, none⟩)), (8, .pointer (some ⟨b3_1, 0, none⟩)), (9, .slice v0_9a (List.length v0_9x) v0_9c), (17, .slice v1_17a (List.length v1_17x) v1_17c), (18, .int .i64 v1_18), (19, .int .i64 (nth v0_9x y21_7)), (128, .bool (decide (y22_13 = (0 : Int))))] ((IntsA v1_17a v1_17c v1_17x) :: (IntsA v0_9a v0_9c v0_9x) :: (HomeA b3_1 v1_b3_1) :: (ImmI a1_1_00 y1_1.init) :: (Asn.own b1_2 (.cells #[.int .i64 u2_3, .int .i64 y1_1.lines, .int .i64 y1_1.words, .int .i64 y1_1.sets, .int .i64 y1_1.ways, .int .i64 y1_1.out, .int .i64 y1_1.inn, .slice a1_1_00 (List.length y1_1.init) c1_1_00] 26 (0, 0))) :: Γ) ⟨by kernel_rfl, by kernel_rfl, by kernel_rfl, by kernel_rfl, by kernel_rfl, by kernel_rfl, by kernel_rfl, by kernel_rfl, by kernel_rfl, trivial⟩ (fun w hw => (Sat.less (.take (.there (.there .here)) (.take (.there (.there .here)) (.take .here (.take (.there .here) (.take (.there .here) (.drop .here .refl)))))) hw)) ⟨decide (y22_13 = (0 : Int)), H, rfl, rfl⟩
   ·replace H := bifF H h8
    refine at_false (t := e2_100) (x := C6 [1,1,1,1,1,1,1,1,0,1,0,0,0,1,0]) (y := C6 [1,1,1,1,1,1,1,1,0,1,0,0,0,1,1]) (o := .tmp 100) (by kernel_rfl) (by kernel_rfl) (by kernel_rfl) h8 ?_
    refine at_exit (i := 2) (by kernel_rfl) ?_
    refine at_then_exit ?_
    refine at_then_exit ?_
    rw [homeLinesS_k1] at H
    refine ae [(1, .slice ordera (List.length order) ordercap), (2, .int .i64 v), (7, .pointer (some ⟨b1_2, 0, none⟩)), (8, .pointer (some ⟨b3_1, 0, none⟩)), (9, .slice v0_9a (List.length v0_9x) v0_9c), (17, .slice v1_17a (List.length v1_17x) v1_17c), (18, .int .i64 v1_18)] ?_
    refine At.conv (Γ' := (IntsA v1_17a v1_17c v1_17x) :: (IntsA v0_9a v0_9c v0_9x) :: (HomeA b3_1 v1_b3_1) :: (ImmI a1_1_00 y1_1.init) :: (Asn.own b1_2 (.cells #[.int .i64 u2_3, .int .i64 y1_1.lines, .int .i64 y1_1.words, .int .i64 y1_1.sets, .int .i64 y1_1.ways, .int .i64 y1_1.out, .int .i64 y1_1.inn, .slice a1_1_00 (List.length y1_1.init) c1_1_00] 26 (0, 0))) :: Γ) (fun w hw => (Sat.less (.take .here (.take .here (.take .here (.take .here (.take .here .refl))))) hw)) ?_
    refine at_in_here ?_
    refine at_then_normal ?_
    refine aq (x := C6 [1,1,1,1,1,1,1,1,1,0]) (y := C6 [1,1,1,1,1,1,1,1,1,1]) ?_
    refine ar (id := 30) 7 ?_
    refine sp 197 (.pointer (some ⟨b3_1, 0, none⟩)) ?_
    obtain ⟨y30_1, hy30_1, H⟩ := bindE H
    refine s_call 198 13 #[.pointer (some ⟨b3_1, 0, none⟩)] (by kernel_rfl) (by kernel_rfl) (fun _ => by kernel_rfl) (Tr.conv (Γ' := (HomeA b3_1 v1_b3_1) :: (IntsA v1_17a v1_17c v1_17x) :: (IntsA v0_9a v0_9c v0_9x) :: (ImmI a1_1_00 y1_1.init) :: (Asn.own b1_2 (.cells #[.int .i64 u2_3, .int .i64 y1_1.lines, .int .i64 y1_1.words, .int .i64 y1_1.sets, .int .i64 y1_1.ways, .int .i64 y1_1.out, .int .i64 y1_1.inn, .slice a1_1_00 (List.length y1_1.init) c1_1_00] 26 (0, 0))) :: Γ) (fun w hw => (Sat.less (.take (.there (.there .here)) (.take .here (.take .here (.take .here (.take .here .refl))))) hw)) (HPendingF_tr b3_1 v1_b3_1 y30_1 hy30_1)) ?_
    rintro _ _ ⟨rfl, rfl⟩
    refine sp 199 (.bool !y30_1) ?_
    rcases Bool.eq_false_or_eq_true (!y30_1) with h20 | h20
    ·replace H := bifT H h20
     refine sr 200 (.bool true) (run_eq (v := .bool (!y30_1)) (fun _ => by kernel_rfl) (congrArg Value.bool h20)) ?_
     obtain ⟨y30_4, hy30_4, H⟩ := bindE H
     refine s_call 201 14 #[] (by kernel_rfl) (by kernel_rfl) (fun _ => by kernel_rfl) (W11F_tr  y30_4 hy30_4) ?_
     rintro _ _ ⟨rfl, rfl⟩
     refine sp 202 (.bool y30_4) ?_
     refine sp 6 (.bool y30_4) ?_
     refine ops_end ?_
     refine ae [(6, .bool y30_4)] ?_
     refine at_then_normal ?_
     refine at_ret (by kernel_rfl) ?_
     obtain rfl := someE H
     refine at_backR [.bool y30_4] (Γ) (rs := [.tmp 6]) (by kernel_rfl) (.cons (.tmp (by kernel_rfl)) .nil) (fun w hw => (Sat.less (.drop .here (.drop .here (.drop .here (.drop .here (.drop .here .refl))))) hw)) ?_
     exact ⟨rfl, rfl⟩
    ·replace H := bifF H h20
     refine sr 200 (.bool false) (run_eq (v := .bool (!y30_1)) (fun _ => by kernel_rfl) (congrArg Value.bool h20)) ?_
     refine sa 201 ?_
     refine sp 202 (.bool false) ?_
     refine sp 6 (.bool false) ?_
     refine ops_end ?_
     refine ae [(6, .bool false)] ?_
     refine at_then_normal ?_
     refine at_ret (by kernel_rfl) ?_
     obtain rfl := someE H
     refine at_backR [.bool false] (Γ) (rs := [.tmp 6]) (by kernel_rfl) (.cons (.tmp (by kernel_rfl)) .nil) (fun w hw => (Sat.less (.drop .here (.drop .here (.drop .here (.drop .here (.drop .here .refl))))) hw)) ?_
     exact ⟨rfl, rfl⟩
  ·refine ar (id := 19) 8 ?_
   refine sp 93 (.int .i64 v1_18) ?_
   refine sp 94 (.slice ordera (List.length order) ordercap) ?_
   refine sp 95 (.int .i64 (((List.length order) : Nat) : Int)) ?_
   refine sp 96 (.bool (decide (v1_18 < (((List.length order) : Nat) : Int)))) ?_
   rcases Bool.eq_false_or_eq_true (decide (v1_18 < (((List.length order) : Nat) : Int))) with h21 | h21
   ·replace H := bifT H h21
    refine sr 97 (.bool true) (run_eq (v := .bool (decide (v1_18 < (((List.length order) : Nat) : Int)))) (fun _ => by kernel_rfl) (congrArg Value.bool h21)) ?_
    refine sp 98 (.int .i64 v1_18) ?_
    refine sp 99 (.bool (decide (v1_18 < (10 : Int)))) ?_
    refine sp 100 (.bool (decide (v1_18 < (10 : Int)))) ?_
    refine ops_end ?_
    refine ae [(1, .slice ordera (List.length order) ordercap), (2, .int .i64 v), (7, .pointer (some ⟨b1_2, 0, none⟩)), (8, .pointer (some ⟨b3_1, 0, none⟩)), (9, .slice v0_9a (List.length v0_9x) v0_9c), (17, .slice v1_17a (List.length v1_17x) v1_17c), (18, .int .i64 v1_18), (100, .bool (decide (v1_18 < (10 : Int))))] ?_
    refine at_round_normal ?_
    exact at_join_mk [(1, .slice ordera (List.length order) ordercap), (2, .int .i64 v), (7, .pointer (some ⟨b1_2, 0, none⟩)), (8, .pointer (some ⟨b3_1, 0, none⟩)), (9, .slice v0_9a (List.length v0_9x) v0_9c), (17, .slice v1_17a (List.length v1_17x) v1_17c), (18, .int .i64 v1_18), (100, .bool (decide (v1_18 < (10 : Int))))] ((IntsA v1_17a v1_17c v1_17x) :: (IntsA v0_9a v0_9c v0_9x) :: (HomeA b3_1 v1_b3_1) :: (ImmI a1_1_00 y1_1.init) :: (Asn.own b1_2 (.cells #[.int .i64 u2_3, .int .i64 y1_1.lines, .int .i64 y1_1.words, .int .i64 y1_1.sets, .int .i64 y1_1.ways, .int .i64 y1_1.out, .int .i64 y1_1.inn, .slice a1_1_00 (List.length y1_1.init) c1_1_00] 26 (0, 0))) :: Γ) ⟨by kernel_rfl, by kernel_rfl, by kernel_rfl, by kernel_rfl, by kernel_rfl, by kernel_rfl, by kernel_rfl, by kernel_rfl, trivial⟩ (fun w hw => (Sat.less (.take .here (.take .here (.take .here (.take .here (.take .here .refl))))) hw)) ⟨decide (v1_18 < (10 : Int)), H, rfl, rfl⟩
   ·replace H := bifF H h21
    refine sr 97 (.bool false) (run_eq (v := .bool (decide (v1_18 < (((List.length order) : Nat) : Int)))) (fun _ => by kernel_rfl) (congrArg Value.bool h21)) ?_
    refine sa 98 ?_
    refine sa 99 ?_
    refine sp 100 (.bool false) ?_
    refine ops_end ?_
    refine ae [(1, .slice ordera (List.length order) ordercap), (2, .int .i64 v), (7, .pointer (some ⟨b1_2, 0, none⟩)), (8, .pointer (some ⟨b3_1, 0, none⟩)), (9, .slice v0_9a (List.length v0_9x) v0_9c), (17, .slice v1_17a (List.length v1_17x) v1_17c), (18, .int .i64 v1_18), (100, .bool false)] ?_
    refine at_round_normal ?_
    exact at_join_mk [(1, .slice ordera (List.length order) ordercap), (2, .int .i64 v), (7, .pointer (some ⟨b1_2, 0, none⟩)), (8, .pointer (some ⟨b3_1, 0, none⟩)), (9, .slice v0_9a (List.length v0_9x) v0_9c), (17, .slice v1_17a (List.length v1_17x) v1_17c), (18, .int .i64 v1_18), (100, .bool false)] ((IntsA v1_17a v1_17c v1_17x) :: (IntsA v0_9a v0_9c v0_9x) :: (HomeA b3_1 v1_b3_1) :: (ImmI a1_1_00 y1_1.init) :: (Asn.own b1_2 (.cells #[.int .i64 u2_3, .int .i64 y1_1.lines, .int .i64 y1_1.words, .int .i64 y1_1.sets, .int .i64 y1_1.ways, .int .i64 y1_1.out, .int .i64 y1_1.inn, .slice a1_1_00 (List.length y1_1.init) c1_1_00] 26 (0, 0))) :: Γ) ⟨by kernel_rfl, by kernel_rfl, by kernel_rfl, by kernel_rfl, by kernel_rfl, by kernel_rfl, by kernel_rfl, by kernel_rfl, trivial⟩ (fun w hw => (Sat.less (.take .here (.take .here (.take .here (.take .here (.take .here .refl))))) hw)) ⟨false, H, rfl, rfl⟩
end Go.Proofs.Ytcigheahollkcaa
