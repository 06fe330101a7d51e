/- The law HomeErrors: its walk. -/
import Derived.Test.YtcigheahollkcaaHoA
namespace Go.Proofs.Ytcigheahollkcaa
open Go Go.RowKit
set_option linter.unusedVariables false
set_option linter.unusedSimpArgs false
structure HeE where
 kind : Int
 src : Int
 dst : Int
 id : Int
 line : Int
 ptr : Int
 state : Int
 flag : Bool
 data : List Int
 e : Int
def heERow (p : HeE) (a : Option Addr) (c : Nat) : List Value := [.int .i64 p.kind, .int .i64 p.src, .int .i64 p.dst, .int .i64 p.id, .int .i64 p.line, .int .i64 p.ptr, .int .i64 p.state, .bool p.flag, .slice a p.data.length c, .int .i64 p.e]
instance recHeE : Rec HeE := ⟨10, heERow, fun p => p.data, ⟨0, 0, 0, 0, 0, 0, 0, false, [], 0⟩, by decide, fun _ _ _ => rfl, fun _ _ _ => rfl, fun x a c a' c' h => by simp [heERow] at h; exact .inl h.1, fun x a c a' c' h => by simp [heERow] at h; exact .inl h.2⟩
def wakes11S : Option (Bool) :=
 (hnewS (⟨2, 1, 1, 1, 1, 1, 1, ([] : List Int)⟩ : CfgS) (0 : Int)).bind fun y1_1 => (hhandleS y1_1 (⟨1, 1, 0, 7, 0, 0, 0, false, ([] : List Int)⟩ : PktS)).bind fun y4_2 => (bif y4_2.2.1 then (bif decide (y4_2.2.2.1 = (0 : Int)) then (bif decide (y4_2.1.kind = (7 : Int)) then (bif decide (y4_2.1.state = (0 : Int)) then (bif decide (y4_2.1.dst = (1 : Int)) then (bif decide (y4_2.1.id = (7 : Int)) then (townerS y4_2.2.2.2.turns (0 : Int)).bind fun y5_30 => some (decide (y5_30 = (1 : Int))) else some false) else some false) else some false) else some false) else some false) else some false)
noncomputable def C14 (p : List Nat) : Code := codeAt (bodyOf Try.f14) p
set_option maxRecDepth 100000 in
set_option maxHeartbeats 8000000 in
theorem W11F_tr {W0 : World} {Γ : List Asn}   (y : Bool) (H : wakes11S = some y) : Tr Try.prog 14 #[] W0 (Γ) (fun r Δ => r = .bool y ∧ Δ = Γ) := by
 unfold wakes11S at H
 refine Tr.enter (fn := Try.f14) (c := C14 []) (args := []) 49 Try.func14 (by kernel_rfl) (by kernel_rfl) ?_
 refine At.env [] trivial ?_
 refine aq (x := C14 [0]) (y := C14 [1]) ?_
 refine ar (id := 0) 1 ?_
 refine sp 0 (.bool false) ?_
 refine ops_end ?_
 refine At.env [] trivial ?_
 refine at_then_normal ?_
 refine aq (x := C14 [1,0]) (y := C14 [1,1]) ?_
 refine ar (id := 1) 3 ?_
 refine sp 5 (.agg #[.int .i64 (2), .int .i64 (1), .int .i64 (1), .int .i64 (1), .int .i64 (1), .int .i64 (1), .int .i64 (1), .slice none 0 0]) ?_
 obtain ⟨y1_1, hy1_1, H⟩ := bindE H
 refine s_call 6 8 #[.agg #[.int .i64 (2), .int .i64 (1), .int .i64 (1), .int .i64 (1), .int .i64 (1), .int .i64 (1), .int .i64 (1), .slice none 0 0], .int .i64 (0)] (by kernel_rfl) (by kernel_rfl) (fun _ => by kernel_rfl) (Tr.conv (Γ' := (ImmI none ([] : List Int)) :: Γ) (fun w hw => (Sat.less (.take .here .refl) (ImmR.nil_mk (k := 1) (a := none) hw))) (HNewF_tr none 0 (⟨2, 1, 1, 1, 1, 1, 1, ([] : List Int)⟩ : CfgS) (0 : Int) (Nat.le_refl _) y1_1 hy1_1)) ?_
 rintro _ _ ⟨b1_1, rfl, rfl⟩
 refine sp 1 (.pointer (some ⟨b1_1, 0, none⟩)) ?_
 refine ops_end ?_
 refine ae [(1, .pointer (some ⟨b1_1, 0, none⟩))] ?_
 refine at_then_normal ?_
 refine aq (x := C14 [1,1,0]) (y := C14 [1,1,1]) ?_
 refine aq (x := C14 [1,1,0,0]) (y := C14 [1,1,0,1]) ?_
 refine ar (id := 2) 2 ?_
 refine sp 7 (.pointer (some ⟨b1_1, 0, none⟩)) ?_
 refine sp 8 (.bool false) ?_
 refine ops_end ?_
 refine ae [(1, .pointer (some ⟨b1_1, 0, none⟩)), (8, .bool false)] ?_
 refine at_then_normal ?_
 refine at_false (t := false) (x := C14 [1,1,0,1,0]) (y := C14 [1,1,0,1,1]) (o := .tmp 8) (by kernel_rfl) (by kernel_rfl) (by kernel_rfl) rfl ?_
 refine at_skip (by kernel_rfl) ?_
 refine at_then_normal ?_
 refine aq (x := C14 [1,1,1,0]) (y := C14 [1,1,1,1]) ?_
 refine ar (id := 4) 11 ?_
 refine sp 10 (.pointer (some ⟨b1_1, 0, none⟩)) ?_
 refine sp 11 (.agg #[.int .i64 (1), .int .i64 (1), .int .i64 (0), .int .i64 (7), .int .i64 (0), .int .i64 (0), .int .i64 (0), .bool false, .slice none 0 0]) ?_
 obtain ⟨y4_2, hy4_2, H⟩ := bindE H
 refine s_call 12 10 #[.pointer (some ⟨b1_1, 0, none⟩), .agg #[.int .i64 (1), .int .i64 (1), .int .i64 (0), .int .i64 (7), .int .i64 (0), .int .i64 (0), .int .i64 (0), .bool false, .slice none 0 0]] (by kernel_rfl) (by kernel_rfl) (fun _ => by kernel_rfl) (HHandleF_tr b1_1 y1_1 none 0 (⟨1, 1, 0, 7, 0, 0, 0, false, ([] : List Int)⟩ : PktS) Reads.nil y4_2 hy4_2) ?_
 rintro _ _ ⟨a4_2_00, c4_2_00, rfl, rfl⟩
 refine sp 9 (.tuple #[.agg #[.int .i64 y4_2.1.kind, .int .i64 y4_2.1.src, .int .i64 y4_2.1.dst, .int .i64 y4_2.1.id, .int .i64 y4_2.1.line, .int .i64 y4_2.1.ptr, .int .i64 y4_2.1.state, .bool y4_2.1.flag, .slice a4_2_00 (List.length y4_2.1.data) c4_2_00], .bool y4_2.2.1, .int .i64 y4_2.2.2.1]) ?_
 refine sp 13 (.agg #[.int .i64 y4_2.1.kind, .int .i64 y4_2.1.src, .int .i64 y4_2.1.dst, .int .i64 y4_2.1.id, .int .i64 y4_2.1.line, .int .i64 y4_2.1.ptr, .int .i64 y4_2.1.state, .bool y4_2.1.flag, .slice a4_2_00 (List.length y4_2.1.data) c4_2_00]) ?_
 refine sp 14 (.bool y4_2.2.1) ?_
 refine sp 15 (.int .i64 y4_2.2.2.1) ?_
 refine s_step 2 (by kernel_rfl) (by kernel_rfl) (st_new (T := 32) (cells := #[.int .i64 (0), .int .i64 (0), .int .i64 (0), .int .i64 (0), .int .i64 (0), .int .i64 (0), .int .i64 (0), .bool false, .slice none 0 0]) (fun a => .pointer (some a)) (fun _ => by kernel_rfl)) ?_
 rintro _ _ ⟨b4_7, rfl, rfl⟩
 refine s_do (by kernel_rfl) (by kernel_rfl) (st_store (off := 0) (vs := [.int .i64 y4_2.1.kind, .int .i64 y4_2.1.src, .int .i64 y4_2.1.dst, .int .i64 y4_2.1.id, .int .i64 y4_2.1.line, .int .i64 y4_2.1.ptr, .int .i64 y4_2.1.state, .bool y4_2.1.flag, .slice a4_2_00 (List.length y4_2.1.data) c4_2_00]) (c' := #[.int .i64 y4_2.1.kind, .int .i64 y4_2.1.src, .int .i64 y4_2.1.dst, .int .i64 y4_2.1.id, .int .i64 y4_2.1.line, .int .i64 y4_2.1.ptr, .int .i64 y4_2.1.state, .bool y4_2.1.flag, .slice a4_2_00 (List.length y4_2.1.data) c4_2_00]) (fun _ => by kernel_rfl) .here (by kernel_rfl) (by kernel_rfl) (by kernel_rfl)) ?_
 rintro _ _ ⟨rfl, rfl⟩
 refine sp 3 (.bool y4_2.2.1) ?_
 refine sp 4 (.int .i64 y4_2.2.2.1) ?_
 refine ops_end ?_
 refine ae [(1, .pointer (some ⟨b1_1, 0, none⟩)), (2, .pointer (some ⟨b4_7, 0, none⟩)), (3, .bool y4_2.2.1), (4, .int .i64 y4_2.2.2.1)] ?_
 refine at_then_normal ?_
 refine aq (x := C14 [1,1,1,1,0]) (y := C14 [1,1,1,1,1]) ?_
 refine ar (id := 5) 34 ?_
 refine sp 16 (.bool y4_2.2.1) ?_
 rcases Bool.eq_false_or_eq_true (y4_2.2.1) with h1 | h1
 ·replace H := bifT H h1
  refine sr 17 (.bool true) (run_eq (v := .bool (y4_2.2.1)) (fun _ => by kernel_rfl) (congrArg Value.bool h1)) ?_
  refine sp 18 (.int .i64 y4_2.2.2.1) ?_
  refine sp 19 (.bool (decide (y4_2.2.2.1 = (0 : Int)))) ?_
  refine sp 20 (.bool (decide (y4_2.2.2.1 = (0 : Int)))) ?_
  rcases Bool.eq_false_or_eq_true (decide (y4_2.2.2.1 = (0 : Int))) with h2 | h2
  ·replace H := bifT H h2
   refine sr 21 (.bool true) (run_eq (v := .bool (decide (y4_2.2.2.1 = (0 : Int)))) (fun _ => by kernel_rfl) (congrArg Value.bool h2)) ?_
   refine sp 22 (.pointer (some ⟨b4_7, 0, none⟩)) ?_
   refine sl 23 (.int .i64 y4_2.1.kind) (load1 (off := 0) (fun _ => by kernel_rfl) (holds_own .here) (by kernel_rfl)) ?_
   refine sp 24 (.bool (decide (y4_2.1.kind = (7 : Int)))) ?_
   refine sp 25 (.bool (decide (y4_2.1.kind = (7 : Int)))) ?_
   rcases Bool.eq_false_or_eq_true (decide (y4_2.1.kind = (7 : Int))) with h3 | h3
   ·replace H := bifT H h3
    refine sr 26 (.bool true) (run_eq (v := .bool (decide (y4_2.1.kind = (7 : Int)))) (fun _ => by kernel_rfl) (congrArg Value.bool h3)) ?_
    refine sp 27 (.pointer (some ⟨b4_7, 6, none⟩)) ?_
    refine sl 28 (.int .i64 y4_2.1.state) (load1 (off := 6) (fun _ => by kernel_rfl) (holds_own .here) (by kernel_rfl)) ?_
    refine sp 29 (.bool (decide (y4_2.1.state = (0 : Int)))) ?_
    refine sp 30 (.bool (decide (y4_2.1.state = (0 : Int)))) ?_
    rcases Bool.eq_false_or_eq_true (decide (y4_2.1.state = (0 : Int))) with h4 | h4
    ·replace H := bifT H h4
     refine sr 31 (.bool true) (run_eq (v := .bool (decide (y4_2.1.state = (0 : Int)))) (fun _ => by kernel_rfl) (congrArg Value.bool h4)) ?_
     refine sp 32 (.pointer (some ⟨b4_7, 2, none⟩)) ?_
     refine sl 33 (.int .i64 y4_2.1.dst) (load1 (off := 2) (fun _ => by kernel_rfl) (holds_own .here) (by kernel_rfl)) ?_
     refine sp 34 (.bool (decide (y4_2.1.dst = (1 : Int)))) ?_
     refine sp 35 (.bool (decide (y4_2.1.dst = (1 : Int)))) ?_
     rcases Bool.eq_false_or_eq_true (decide (y4_2.1.dst = (1 : Int))) with h5 | h5
     ·replace H := bifT H h5
      refine sr 36 (.bool true) (run_eq (v := .bool (decide (y4_2.1.dst = (1 : Int)))) (fun _ => by kernel_rfl) (congrArg Value.bool h5)) ?_
      refine sp 37 (.pointer (some ⟨b4_7, 3, none⟩)) ?_
      refine sl 38 (.int .i64 y4_2.1.id) (load1 (off := 3) (fun _ => by kernel_rfl) (holds_own .here) (by kernel_rfl)) ?_
      refine sp 39 (.bool (decide (y4_2.1.id = (7 : Int)))) ?_
      refine sp 40 (.bool (decide (y4_2.1.id = (7 : Int)))) ?_
      rcases Bool.eq_false_or_eq_true (decide (y4_2.1.id = (7 : Int))) with h6 | h6
      ·replace H := bifT H h6
       refine sr 41 (.bool true) (run_eq (v := .bool (decide (y4_2.1.id = (7 : Int)))) (fun _ => by kernel_rfl) (congrArg Value.bool h6)) ?_
       refine sp 42 (.pointer (some ⟨b1_1, 0, none⟩)) ?_
       refine sp 43 (.pointer (some ⟨b1_1, 0, none⟩)) ?_
       refine sp 44 (.pointer (some ⟨b1_1, 1, none⟩)) ?_
       refine HomeA.tox (.there (.there .here)) ?_
       intro x5_29_b1_1
       refine HomeXA.open .here ?_
       refine sl 45 (.pointer (some ⟨x5_29_b1_1.b1, 0, none⟩)) (load1 (off := 1) (fun _ => by kernel_rfl) (holds_own .here) (by kernel_rfl)) ?_
       obtain ⟨y5_30, hy5_30, H⟩ := bindE H
       refine s_call 46 11 #[.pointer (some ⟨x5_29_b1_1.b1, 0, none⟩), .int .i64 (0)] (by kernel_rfl) (by kernel_rfl) (fun _ => by kernel_rfl) (Tr.conv (Γ' := (TurnsA x5_29_b1_1.b1 y4_2.2.2.2.turns) :: (Asn.own b1_1 (.cells #[.pointer (some ⟨x5_29_b1_1.b0, 0, none⟩), .pointer (some ⟨x5_29_b1_1.b1, 0, none⟩), .int .i64 y4_2.2.2.2.c.nodes, .int .i64 y4_2.2.2.2.c.lines, .int .i64 y4_2.2.2.2.c.words, .int .i64 y4_2.2.2.2.c.sets, .int .i64 y4_2.2.2.2.c.ways, .int .i64 y4_2.2.2.2.c.out, .int .i64 y4_2.2.2.2.c.inn, .slice x5_29_b1_1.a9 (List.length y4_2.2.2.2.c.init) x5_29_b1_1.c9, .int .i64 y4_2.2.2.2.node] x5_29_b1_1.T (0, 0))) :: (DirA x5_29_b1_1.b0 y4_2.2.2.2.dir) :: (ImmI x5_29_b1_1.a9 y4_2.2.2.2.c.init) :: (Asn.own b4_7 (.cells #[.int .i64 y4_2.1.kind, .int .i64 y4_2.1.src, .int .i64 y4_2.1.dst, .int .i64 y4_2.1.id, .int .i64 y4_2.1.line, .int .i64 y4_2.1.ptr, .int .i64 y4_2.1.state, .bool y4_2.1.flag, .slice a4_2_00 (List.length y4_2.1.data) c4_2_00] 32 (0, 0))) :: (IntsA a4_2_00 c4_2_00 y4_2.1.data) :: Γ) (fun w hw => (Sat.less (.take (.there (.there .here)) (.take .here (.take .here (.take .here (.take .here (.take .here .refl)))))) hw)) (TOwnerF_tr x5_29_b1_1.b1 y4_2.2.2.2.turns (0 : Int) y5_30 hy5_30)) ?_
       rintro _ _ ⟨rfl, rfl⟩
       refine sp 47 (.bool (decide (y5_30 = (1 : Int)))) ?_
       refine sp 48 (.bool (decide (y5_30 = (1 : Int)))) ?_
       refine sp 0 (.bool (decide (y5_30 = (1 : Int)))) ?_
       refine ops_end ?_
       refine ae [(0, .bool (decide (y5_30 = (1 : Int))))] ?_
       refine at_then_normal ?_
       refine at_ret (by kernel_rfl) ?_
       refine At.conv (Γ' := (HomeXA b1_1 x5_29_b1_1 y4_2.2.2.2) :: (ImmI x5_29_b1_1.a9 y4_2.2.2.2.c.init) :: (Asn.own b4_7 (.cells #[.int .i64 y4_2.1.kind, .int .i64 y4_2.1.src, .int .i64 y4_2.1.dst, .int .i64 y4_2.1.id, .int .i64 y4_2.1.line, .int .i64 y4_2.1.ptr, .int .i64 y4_2.1.state, .bool y4_2.1.flag, .slice a4_2_00 (List.length y4_2.1.data) c4_2_00] 32 (0, 0))) :: (IntsA a4_2_00 c4_2_00 y4_2.1.data) :: Γ) (fun w hw => HomeXA.close (x := x5_29_b1_1) (t := y4_2.2.2.2) (Sat.less (.take (.there (.there (.there .here))) (.take (.there (.there (.there .here))) (.take (.there (.there .here)) (.take .here (.take .here (.take .here (.take .here .refl))))))) (ImmR.dup (Sat.less (.take (.there (.there (.there .here))) (.take .here (.take .here (.take .here (.take .here (.take .here .refl)))))) hw)))) ?_
       refine At.conv (Γ' := (HomeA b1_1 y4_2.2.2.2) :: (ImmI x5_29_b1_1.a9 y4_2.2.2.2.c.init) :: (Asn.own b4_7 (.cells #[.int .i64 y4_2.1.kind, .int .i64 y4_2.1.src, .int .i64 y4_2.1.dst, .int .i64 y4_2.1.id, .int .i64 y4_2.1.line, .int .i64 y4_2.1.ptr, .int .i64 y4_2.1.state, .bool y4_2.1.flag, .slice a4_2_00 (List.length y4_2.1.data) c4_2_00] 32 (0, 0))) :: (IntsA a4_2_00 c4_2_00 y4_2.1.data) :: Γ) (fun w hw => HomeXA.shut (hw.pull .here)) ?_
       obtain rfl := someE H
       refine at_backR [.bool (decide (y5_30 = (1 : Int)))] (Γ) (rs := [.tmp 0]) (by kernel_rfl) (.cons (.tmp (by kernel_rfl)) .nil) (fun w hw => (Sat.less (.drop .here (.drop .here (.drop .here (.drop .here .refl)))) hw)) ?_
       exact ⟨rfl, rfl⟩
      ·replace H := bifF H h6
       refine sr 41 (.bool false) (run_eq (v := .bool (decide (y4_2.1.id = (7 : Int)))) (fun _ => by kernel_rfl) (congrArg Value.bool h6)) ?_
       refine sa 42 ?_
       refine sa 43 ?_
       refine sa 44 ?_
       refine sa 45 ?_
       refine sa 46 ?_
       refine sa 47 ?_
       refine sp 48 (.bool false) ?_
       refine sp 0 (.bool false) ?_
       refine ops_end ?_
       refine ae [(0, .bool false)] ?_
       refine at_then_normal ?_
       refine at_ret (by kernel_rfl) ?_
       obtain rfl := someE H
       refine at_backR [.bool false] (Γ) (rs := [.tmp 0]) (by kernel_rfl) (.cons (.tmp (by kernel_rfl)) .nil) (fun w hw => (Sat.less (.drop .here (.drop .here (.drop .here .refl))) hw)) ?_
       exact ⟨rfl, rfl⟩
     ·replace H := bifF H h5
      refine sr 36 (.bool false) (run_eq (v := .bool (decide (y4_2.1.dst = (1 : Int)))) (fun _ => by kernel_rfl) (congrArg Value.bool h5)) ?_
      refine sa 37 ?_
      refine sa 38 ?_
      refine sa 39 ?_
      refine sp 40 (.bool false) ?_
      refine sp 41 (.bool false) ?_
      refine sa 42 ?_
      refine sa 43 ?_
      refine sa 44 ?_
      refine sa 45 ?_
      refine sa 46 ?_
      refine sa 47 ?_
      refine sp 48 (.bool false) ?_
      refine sp 0 (.bool false) ?_
      refine ops_end ?_
      refine ae [(0, .bool false)] ?_
      refine at_then_normal ?_
      refine at_ret (by kernel_rfl) ?_
      obtain rfl := someE H
      refine at_backR [.bool false] (Γ) (rs := [.tmp 0]) (by kernel_rfl) (.cons (.tmp (by kernel_rfl)) .nil) (fun w hw => (Sat.less (.drop .here (.drop .here (.drop .here .refl))) hw)) ?_
      exact ⟨rfl, rfl⟩
    ·replace H := bifF H h4
     refine sr 31 (.bool false) (run_eq (v := .bool (decide (y4_2.1.state = (0 : Int)))) (fun _ => by kernel_rfl) (congrArg Value.bool h4)) ?_
     refine sa 32 ?_
     refine sa 33 ?_
     refine sa 34 ?_
     refine sp 35 (.bool false) ?_
     refine sp 36 (.bool false) ?_
     refine sa 37 ?_
     refine sa 38 ?_
     refine sa 39 ?_
     refine sp 40 (.bool false) ?_
     refine sp 41 (.bool false) ?_
     refine sa 42 ?_
     refine sa 43 ?_
     refine sa 44 ?_
     refine sa 45 ?_
     refine sa 46 ?_
     refine sa 47 ?_
     refine sp 48 (.bool false) ?_
     refine sp 0 (.bool false) ?_
     refine ops_end ?_
     refine ae [(0, .bool false)] ?_
     refine at_then_normal ?_
     refine at_ret (by kernel_rfl) ?_
     obtain rfl := someE H
     refine at_backR [.bool false] (Γ) (rs := [.tmp 0]) (by kernel_rfl) (.cons (.tmp (by kernel_rfl)) .nil) (fun w hw => (Sat.less (.drop .here (.drop .here (.drop .here .refl))) hw)) ?_
     exact ⟨rfl, rfl⟩
   ·replace H := bifF H h3
    refine sr 26 (.bool false) (run_eq (v := .bool (decide (y4_2.1.kind = (7 : Int)))) (fun _ => by kernel_rfl) (congrArg Value.bool h3)) ?_
    refine sa 27 ?_
    refine sa 28 ?_
    refine sa 29 ?_
    refine sp 30 (.bool false) ?_
    refine sp 31 (.bool false) ?_
    refine sa 32 ?_
    refine sa 33 ?_
    refine sa 34 ?_
    refine sp 35 (.bool false) ?_
    refine sp 36 (.bool false) ?_
    refine sa 37 ?_
    refine sa 38 ?_
    refine sa 39 ?_
    refine sp 40 (.bool false) ?_
    refine sp 41 (.bool false) ?_
    refine sa 42 ?_
    refine sa 43 ?_
    refine sa 44 ?_
    refine sa 45 ?_
    refine sa 46 ?_
    refine sa 47 ?_
    refine sp 48 (.bool false) ?_
    refine sp 0 (.bool false) ?_
    refine ops_end ?_
    refine ae [(0, .bool false)] ?_
    refine at_then_normal ?_
    refine at_ret (by kernel_rfl) ?_
    obtain rfl := someE H
    refine at_backR [.bool false] (Γ) (rs := [.tmp 0]) (by kernel_rfl) (.cons (.tmp (by kernel_rfl)) .nil) (fun w hw => (Sat.less (.drop .here (.drop .here (.drop .here .refl))) hw)) ?_
    exact ⟨rfl, rfl⟩
  ·replace H := bifF H h2
   refine sr 21 (.bool false) (run_eq (v := .bool (decide (y4_2.2.2.1 = (0 : Int)))) (fun _ => by kernel_rfl) (congrArg Value.bool h2)) ?_
   refine sa 22 ?_
   refine sa 23 ?_
   refine sa 24 ?_
   refine sp 25 (.bool false) ?_
   refine sp 26 (.bool false) ?_
   refine sa 27 ?_
   refine sa 28 ?_
   refine sa 29 ?_
   refine sp 30 (.bool false) ?_
   refine sp 31 (.bool false) ?_
   refine sa 32 ?_
   refine sa 33 ?_
   refine sa 34 ?_
   refine sp 35 (.bool false) ?_
   refine sp 36 (.bool false) ?_
   refine sa 37 ?_
   refine sa 38 ?_
   refine sa 39 ?_
   refine sp 40 (.bool false) ?_
   refine sp 41 (.bool false) ?_
   refine sa 42 ?_
   refine sa 43 ?_
   refine sa 44 ?_
   refine sa 45 ?_
   refine sa 46 ?_
   refine sa 47 ?_
   refine sp 48 (.bool false) ?_
   refine sp 0 (.bool false) ?_
   refine ops_end ?_
   refine ae [(0, .bool false)] ?_
   refine at_then_normal ?_
   refine at_ret (by kernel_rfl) ?_
   obtain rfl := someE H
   refine at_backR [.bool false] (Γ) (rs := [.tmp 0]) (by kernel_rfl) (.cons (.tmp (by kernel_rfl)) .nil) (fun w hw => (Sat.less (.drop .here (.drop .here (.drop .here .refl))) hw)) ?_
   exact ⟨rfl, rfl⟩
 ·replace H := bifF H h1
  refine sr 17 (.bool false) (run_eq (v := .bool (y4_2.2.1)) (fun _ => by kernel_rfl) (congrArg Value.bool h1)) ?_
  refine sa 18 ?_
  refine sa 19 ?_
  refine sp 20 (.bool false) ?_
  refine sp 21 (.bool false) ?_
  refine sa 22 ?_
  refine sa 23 ?_
  refine sa 24 ?_
  refine sp 25 (.bool false) ?_
  refine sp 26 (.bool false) ?_
  refine sa 27 ?_
  refine sa 28 ?_
  refine sa 29 ?_
  refine sp 30 (.bool false) ?_
  refine sp 31 (.bool false) ?_
  refine sa 32 ?_
  refine sa 33 ?_
  refine sa 34 ?_
  refine sp 35 (.bool false) ?_
  refine sp 36 (.bool false) ?_
  refine sa 37 ?_
  refine sa 38 ?_
  refine sa 39 ?_
  refine sp 40 (.bool false) ?_
  refine sp 41 (.bool false) ?_
  refine sa 42 ?_
  refine sa 43 ?_
  refine sa 44 ?_
  refine sa 45 ?_
  refine sa 46 ?_
  refine sa 47 ?_
  refine sp 48 (.bool false) ?_
  refine sp 0 (.bool false) ?_
  refine ops_end ?_
  refine ae [(0, .bool false)] ?_
  refine at_then_normal ?_
  refine at_ret (by kernel_rfl) ?_
  obtain rfl := someE H
  refine at_backR [.bool false] (Γ) (rs := [.tmp 0]) (by kernel_rfl) (.cons (.tmp (by kernel_rfl)) .nil) (fun w hw => (Sat.less (.drop .here (.drop .here (.drop .here .refl))) hw)) ?_
  exact ⟨rfl, rfl⟩
def homeErrorsS_j3 (y18_4 : PktS × Bool × Int × HomeS) (y5_3 : Int) (e3_127 : Bool) : Option (Bool) :=
 (bif e3_127 then some false else (hhandleS y18_4.2.2.2 (⟨2, y5_3, 0, 0, 0, (-1), 0, false, ([] : List Int)⟩ : PktS)).bind fun y21_3 => (bif y21_3.2.1 then (bif decide (y21_3.2.2.1 = (0 : Int)) then (townerS y21_3.2.2.2.turns (0 : Int)).bind fun y22_10 => (bif decide (y22_10 = ((-1) : Int)) then (wakes11S).bind fun y22_14 => some y22_14 else some false) else some false) else some false))
def homeErrorsS_j2 (y15_3 : PktS × Bool × Int × HomeS) (y5_3 : Int) (e2_104 : Bool) : Option (Bool) :=
 (bif e2_104 then some false else (hhandleS y15_3.2.2.2 (⟨2, y5_3, 0, 0, 0, y5_3, 0, false, ([] : List Int)⟩ : PktS)).bind fun y18_4 => (bif y18_4.2.1 then homeErrorsS_j3 y18_4 y5_3 true else (bif !(decide (y18_4.2.2.1 = (1 : Int))) then homeErrorsS_j3 y18_4 y5_3 true else (townerS y18_4.2.2.2.turns (0 : Int)).bind fun y19_10 => homeErrorsS_j3 y18_4 y5_3 (!(decide (y19_10 = y5_3))))))
def homeErrorsS_j1 (e0_b2_1 : HomeS) (y5_3 : Int) (e1_90 : Bool) : Option (Bool) :=
 (bif e1_90 then some false else (hhandleS e0_b2_1 (⟨1, y5_3, 0, 0, 0, 0, 0, false, ([] : List Int)⟩ : PktS)).bind fun y15_3 => (bif !y15_3.2.1 then homeErrorsS_j2 y15_3 y5_3 true else homeErrorsS_j2 y15_3 y5_3 (!(decide (y15_3.2.2.1 = (0 : Int))))))
def homeErrorsS_j4 (v0_53 : Int) (r0 : Int → HomeS → Option (Bool)) (y9_3 : PktS × Bool × Int × HomeS) (e4_71 : Bool) : Option (Bool) :=
 (bif e4_71 then some false else chk (inR (v0_53 + (1 : Int))) (r0 (v0_53 + (1 : Int)) y9_3.2.2.2))
def homeErrorsS_k0 (y5_3 : Int) (e0_53 : Int) (e0_b2_1 : HomeS) : Option (Bool) :=
 (townerS e0_b2_1.turns (0 : Int)).bind fun y13_4 => (bif !(decide (y13_4 = ((-1) : Int))) then homeErrorsS_j1 e0_b2_1 y5_3 true else (twaitingS e0_b2_1.turns (0 : Int)).bind fun y13_11 => (bif !(decide (y13_11 = (0 : Int))) then homeErrorsS_j1 e0_b2_1 y5_3 true else (hpendingS e0_b2_1).bind fun y13_16 => homeErrorsS_j1 e0_b2_1 y5_3 y13_16))
def homeErrorsS_l0 (l6_20 : List HeE) (k0 : Int → HomeS → Option (Bool)) : Nat → Int → HomeS → Option (Bool)
 | 0 => fun _ _ => none
 | m + 1 => fun v0_53 v0_b2_1 => (bif decide (v0_53 < (((List.length l6_20) : Nat) : Int)) then chk (0 ≤ v0_53 ∧ v0_53 < ((List.length l6_20 : Nat) : Int)) (letP (nthT l6_20 v0_53) fun x8_1 => (hhandleS v0_b2_1 (⟨x8_1.kind, x8_1.src, x8_1.dst, x8_1.id, x8_1.line, x8_1.ptr, x8_1.state, x8_1.flag, x8_1.data⟩ : PktS)).bind fun y9_3 => (bif y9_3.2.1 then homeErrorsS_j4 v0_53 (homeErrorsS_l0 l6_20 k0 m) y9_3 true else homeErrorsS_j4 v0_53 (homeErrorsS_l0 l6_20 k0 m) y9_3 (!(decide (y9_3.2.2.1 = x8_1.e))))) else k0 v0_53 v0_b2_1)
def homeErrorsS (su : SetupS) (n : Int) : Option (Bool) :=
 (plconfigS su).bind fun y1_1 => (hnewS y1_1 (0 : Int)).bind fun y2_1 => (withinS n y1_1.nodes).bind fun y5_3 => letP ([(⟨0, 0, 0, 0, 0, 0, 0, false, ([] : List Int), 1⟩ : HeE), (⟨3, 0, 0, 0, 0, 0, 0, false, ([] : List Int), 1⟩ : HeE), (⟨7, 0, 0, 0, 0, 0, 0, false, ([] : List Int), 1⟩ : HeE), (⟨1, 0, 1, 0, 0, 0, 0, false, ([] : List Int), 1⟩ : HeE), (⟨1, y1_1.nodes, 0, 0, 0, 0, 0, false, ([] : List Int), 1⟩ : HeE), (⟨1, y5_3, 0, 0, 7, 0, 0, false, ([] : List Int), 3⟩ : HeE), (⟨2, y5_3, 0, 0, 0, 0, 1, false, ([] : List Int), 6⟩ : HeE), (⟨1, 0, 0, (-1), 0, 0, 0, false, ([] : List Int), 1⟩ : HeE)] : List HeE) fun l6_20 => homeErrorsS_l0 l6_20 (homeErrorsS_k0 y5_3) 64 0 y2_1
noncomputable def C3 (p : List Nat) : Code := codeAt (bodyOf Try.f3) p
set_option maxRecDepth 100000 in
set_option maxHeartbeats 8000000 in
theorem HomeErrorsF_tr {W0 : World} {Γ : List Asn} (sua : Option Addr) (sucap : Nat) (sua1 : Option Addr) (sucap1 : Nat) (sua2 : Option Addr) (sucap2 : Nat) (sua3 : Option Addr) (sucap3 : Nat) (sua4 : Option Addr) (sucap4 : Nat) (su : SetupS) (n : Int) (hrsua : Reads W0 Γ sua (ints su.init)) (hcsua : su.init.length ≤ sucap) (hrsua1 : Reads W0 Γ sua1 (ints su.who)) (hcsua1 : su.who.length ≤ sucap1) (hrsua2 : Reads W0 Γ sua2 (ints su.kinds)) (hcsua2 : su.kinds.length ≤ sucap2) (hrsua3 : Reads W0 Γ sua3 (ints su.addrs)) (hcsua3 : su.addrs.length ≤ sucap3) (hrsua4 : Reads W0 Γ sua4 (ints su.values)) (hcsua4 : su.values.length ≤ sucap4) (y : Bool) (H : homeErrorsS su n = some y) : Tr Try.prog 3 #[.agg #[.int .i64 su.nodes, .int .i64 su.lines, .int .i64 su.words, .int .i64 su.sets, .int .i64 su.ways, .int .i64 su.out, .int .i64 su.inn, .slice sua (List.length su.init) sucap, .slice sua1 (List.length su.who) sucap1, .slice sua2 (List.length su.kinds) sucap2, .slice sua3 (List.length su.addrs) sucap3, .slice sua4 (List.length su.values) sucap4], .int .i64 n] W0 (Γ) (fun r Δ => r = .bool y ∧ Δ = Γ) := by
 unfold homeErrorsS at H
 refine Tr.enter (fn := Try.f3) (c := C3 []) (args := [.agg #[.int .i64 su.nodes, .int .i64 su.lines, .int .i64 su.words, .int .i64 su.sets, .int .i64 su.ways, .int .i64 su.out, .int .i64 su.inn, .slice sua (List.length su.init) sucap, .slice sua1 (List.length su.who) sucap1, .slice sua2 (List.length su.kinds) sucap2, .slice sua3 (List.length su.addrs) sucap3, .slice sua4 (List.length su.values) sucap4], .int .i64 n]) 152 Try.func3 (by kernel_rfl) (by kernel_rfl) ?_
 refine ae [(0, .agg #[.int .i64 su.nodes, .int .i64 su.lines, .int .i64 su.words, .int .i64 su.sets, .int .i64 su.ways, .int .i64 su.out, .int .i64 su.inn, .slice sua (List.length su.init) sucap, .slice sua1 (List.length su.who) sucap1, .slice sua2 (List.length su.kinds) sucap2, .slice sua3 (List.length su.addrs) sucap3, .slice sua4 (List.length su.values) sucap4]), (1, .int .i64 n)] ?_
 refine aq (x := C3 [0]) (y := C3 [1]) ?_
 refine ar (id := 0) 2 ?_
 refine s_step 2 (by kernel_rfl) (by kernel_rfl) (st_new (T := 24) (cells := #[.int .i64 su.nodes, .int .i64 su.lines, .int .i64 su.words, .int .i64 su.sets, .int .i64 su.ways, .int .i64 su.out, .int .i64 su.inn, .slice sua (List.length su.init) sucap, .slice sua1 (List.length su.who) sucap1, .slice sua2 (List.length su.kinds) sucap2, .slice sua3 (List.length su.addrs) sucap3, .slice sua4 (List.length su.values) sucap4]) (fun a => .pointer (some a)) (fun _ => by kernel_rfl)) ?_
 rintro _ _ ⟨b0_0, rfl, rfl⟩
 refine sp 4 (.bool false) ?_
 refine ops_end ?_
 refine ae [(1, .int .i64 n), (2, .pointer (some ⟨b0_0, 0, none⟩))] ?_
 refine at_then_normal ?_
 refine aq (x := C3 [1,0]) (y := C3 [1,1]) ?_
 refine ar (id := 1) 4 ?_
 refine sl 21 (.agg #[.int .i64 su.nodes, .int .i64 su.lines, .int .i64 su.words, .int .i64 su.sets, .int .i64 su.ways, .int .i64 su.out, .int .i64 su.inn, .slice sua (List.length su.init) sucap, .slice sua1 (List.length su.who) sucap1, .slice sua2 (List.length su.kinds) sucap2, .slice sua3 (List.length su.addrs) sucap3, .slice sua4 (List.length su.values) sucap4]) (loadN (off := 0) (vs := [.int .i64 su.nodes, .int .i64 su.lines, .int .i64 su.words, .int .i64 su.sets, .int .i64 su.ways, .int .i64 su.out, .int .i64 su.inn, .slice sua (List.length su.init) sucap, .slice sua1 (List.length su.who) sucap1, .slice sua2 (List.length su.kinds) sucap2, .slice sua3 (List.length su.addrs) sucap3, .slice sua4 (List.length su.values) sucap4]) 12 (fun _ => by kernel_rfl) (holds_own .here) rfl (by exact ⟨rfl, rfl, rfl, rfl, rfl, rfl, rfl, rfl, rfl, rfl, rfl, rfl, trivial⟩)) ?_
 obtain ⟨y1_1, hy1_1, H⟩ := bindE H
 refine s_call 22 7 #[.agg #[.int .i64 su.nodes, .int .i64 su.lines, .int .i64 su.words, .int .i64 su.sets, .int .i64 su.ways, .int .i64 su.out, .int .i64 su.inn, .slice sua (List.length su.init) sucap, .slice sua1 (List.length su.who) sucap1, .slice sua2 (List.length su.kinds) sucap2, .slice sua3 (List.length su.addrs) sucap3, .slice sua4 (List.length su.values) sucap4]] (by kernel_rfl) (by kernel_rfl) (fun _ => by kernel_rfl) (PlConfigF_tr sua sucap sua1 sucap1 sua2 sucap2 sua3 sucap3 sua4 sucap4 su (Reads.conv (fun w hw => hw.less (.drop .here .refl)) hrsua) hcsua (Reads.conv (fun w hw => hw.less (.drop .here .refl)) hrsua1) hcsua1 (Reads.conv (fun w hw => hw.less (.drop .here .refl)) hrsua2) hcsua2 (Reads.conv (fun w hw => hw.less (.drop .here .refl)) hrsua3) hcsua3 (Reads.conv (fun w hw => hw.less (.drop .here .refl)) hrsua4) hcsua4 y1_1 hy1_1) ?_
 rintro _ _ ⟨a1_1_00, c1_1_00, rfl, rfl⟩
 refine s_step 5 (by kernel_rfl) (by kernel_rfl) (st_new (T := 26) (cells := #[.int .i64 (0), .int .i64 (0), .int .i64 (0), .int .i64 (0), .int .i64 (0), .int .i64 (0), .int .i64 (0), .slice none 0 0]) (fun a => .pointer (some a)) (fun _ => by kernel_rfl)) ?_
 rintro _ _ ⟨b1_2, rfl, rfl⟩
 refine s_do (by kernel_rfl) (by kernel_rfl) (st_store (off := 0) (vs := [.int .i64 y1_1.nodes, .int .i64 y1_1.lines, .int .i64 y1_1.words, .int .i64 y1_1.sets, .int .i64 y1_1.ways, .int .i64 y1_1.out, .int .i64 y1_1.inn, .slice a1_1_00 (List.length y1_1.init) c1_1_00]) (c' := #[.int .i64 y1_1.nodes, .int .i64 y1_1.lines, .int .i64 y1_1.words, .int .i64 y1_1.sets, .int .i64 y1_1.ways, .int .i64 y1_1.out, .int .i64 y1_1.inn, .slice a1_1_00 (List.length y1_1.init) c1_1_00]) (fun _ => by kernel_rfl) .here (by kernel_rfl) (by kernel_rfl) (by kernel_rfl)) ?_
 rintro _ _ ⟨rfl, rfl⟩
 refine ops_end ?_
 refine ae [(1, .int .i64 n), (5, .pointer (some ⟨b1_2, 0, none⟩))] ?_
 refine at_then_normal ?_
 refine aq (x := C3 [1,1,0]) (y := C3 [1,1,1]) ?_
 refine ar (id := 2) 3 ?_
 refine sl 23 (.agg #[.int .i64 y1_1.nodes, .int .i64 y1_1.lines, .int .i64 y1_1.words, .int .i64 y1_1.sets, .int .i64 y1_1.ways, .int .i64 y1_1.out, .int .i64 y1_1.inn, .slice a1_1_00 (List.length y1_1.init) c1_1_00]) (loadN (off := 0) (vs := [.int .i64 y1_1.nodes, .int .i64 y1_1.lines, .int .i64 y1_1.words, .int .i64 y1_1.sets, .int .i64 y1_1.ways, .int .i64 y1_1.out, .int .i64 y1_1.inn, .slice a1_1_00 (List.length y1_1.init) c1_1_00]) 8 (fun _ => by kernel_rfl) (holds_own .here) rfl (by exact ⟨rfl, rfl, rfl, rfl, rfl, rfl, rfl, rfl, trivial⟩)) ?_
 obtain ⟨y2_1, hy2_1, H⟩ := bindE H
 refine At.known (p := (List.length y1_1.init) ≤ c1_1_00) (fun w hw => by have := (RowsA.len (hw.pull (.there .here))).2; simpa using this) ?_
 intro hcap1
 refine s_call 24 8 #[.agg #[.int .i64 y1_1.nodes, .int .i64 y1_1.lines, .int .i64 y1_1.words, .int .i64 y1_1.sets, .int .i64 y1_1.ways, .int .i64 y1_1.out, .int .i64 y1_1.inn, .slice a1_1_00 (List.length y1_1.init) c1_1_00], .int .i64 (0)] (by kernel_rfl) (by kernel_rfl) (fun _ => by kernel_rfl) (Tr.conv (Γ' := (ImmI a1_1_00 y1_1.init) :: (ImmI a1_1_00 y1_1.init) :: (Asn.own b1_2 (.cells #[.int .i64 y1_1.nodes, .int .i64 y1_1.lines, .int .i64 y1_1.words, .int .i64 y1_1.sets, .int .i64 y1_1.ways, .int .i64 y1_1.out, .int .i64 y1_1.inn, .slice a1_1_00 (List.length y1_1.init) c1_1_00] 26 (0, 0))) :: (Asn.own b0_0 (.cells #[.int .i64 su.nodes, .int .i64 su.lines, .int .i64 su.words, .int .i64 su.sets, .int .i64 su.ways, .int .i64 su.out, .int .i64 su.inn, .slice sua (List.length su.init) sucap, .slice sua1 (List.length su.who) sucap1, .slice sua2 (List.length su.kinds) sucap2, .slice sua3 (List.length su.addrs) sucap3, .slice sua4 (List.length su.values) sucap4] 24 (0, 0))) :: Γ) (fun w hw => (Sat.less (.take .here (.take .here (.take .here (.take .here .refl)))) (ImmR.dup (Sat.less (.take .here (.take .here (.take .here .refl))) (RowsA.freeze (Sat.less (.take (.there .here) (.take .here (.take .here .refl))) hw)))))) (HNewF_tr a1_1_00 c1_1_00 y1_1 (0 : Int) hcap1 y2_1 hy2_1)) ?_
 rintro _ _ ⟨b2_1, rfl, rfl⟩
 refine sp 6 (.pointer (some ⟨b2_1, 0, none⟩)) ?_
 refine ops_end ?_
 refine ae [(1, .int .i64 n), (5, .pointer (some ⟨b1_2, 0, none⟩)), (6, .pointer (some ⟨b2_1, 0, none⟩))] ?_
 refine at_then_normal ?_
 refine aq (x := C3 [1,1,1,0]) (y := C3 [1,1,1,1]) ?_
 refine aq (x := C3 [1,1,1,0,0]) (y := C3 [1,1,1,0,1]) ?_
 refine ar (id := 3) 2 ?_
 refine sp 25 (.pointer (some ⟨b2_1, 0, none⟩)) ?_
 refine sp 26 (.bool false) ?_
 refine ops_end ?_
 refine ae [(1, .int .i64 n), (5, .pointer (some ⟨b1_2, 0, none⟩)), (6, .pointer (some ⟨b2_1, 0, none⟩)), (26, .bool false)] ?_
 refine at_then_normal ?_
 refine at_false (t := false) (x := C3 [1,1,1,0,1,0]) (y := C3 [1,1,1,0,1,1]) (o := .tmp 26) (by kernel_rfl) (by kernel_rfl) (by kernel_rfl) rfl ?_
 refine at_skip (by kernel_rfl) ?_
 refine at_then_normal ?_
 refine aq (x := C3 [1,1,1,1,0]) (y := C3 [1,1,1,1,1]) ?_
 refine ar (id := 5) 5 ?_
 refine sp 27 (.int .i64 n) ?_
 refine sp 28 (.pointer (some ⟨b1_2, 0, none⟩)) ?_
 refine sl 29 (.int .i64 y1_1.nodes) (load1 (off := 0) (fun _ => by kernel_rfl) (holds_own (.there (.there .here))) (by kernel_rfl)) ?_
 obtain ⟨y5_3, hy5_3, H⟩ := bindE H
 refine s_quiet 30 (.int .i64 y5_3) 9 #[.int .i64 n, .int .i64 y1_1.nodes] (by kernel_rfl) (by kernel_rfl) (fun _ => by kernel_rfl) (WithinF_tr n y1_1.nodes y5_3 hy5_3) ?_
 refine sp 1 (.int .i64 y5_3) ?_
 refine ops_end ?_
 refine ae [(1, .int .i64 y5_3), (5, .pointer (some ⟨b1_2, 0, none⟩)), (6, .pointer (some ⟨b2_1, 0, none⟩))] ?_
 refine at_then_normal ?_
 refine aq (x := C3 [1,1,1,1,1,0]) (y := C3 [1,1,1,1,1,1]) ?_
 refine aq (x := C3 [1,1,1,1,1,0,0]) (y := C3 [1,1,1,1,1,0,1]) ?_
 refine ar (id := 6) 23 ?_
 refine sp 31 (.agg #[.int .i64 (0), .int .i64 (0), .int .i64 (0), .int .i64 (0), .int .i64 (0), .int .i64 (0), .int .i64 (0), .bool false, .slice none 0 0]) ?_
 refine sp 32 (.agg #[.int .i64 (0), .int .i64 (0), .int .i64 (0), .int .i64 (0), .int .i64 (0), .int .i64 (0), .int .i64 (0), .bool false, .slice none 0 0, .int .i64 (1)]) ?_
 refine sp 33 (.agg #[.int .i64 (3), .int .i64 (0), .int .i64 (0), .int .i64 (0), .int .i64 (0), .int .i64 (0), .int .i64 (0), .bool false, .slice none 0 0]) ?_
 refine sp 34 (.agg #[.int .i64 (3), .int .i64 (0), .int .i64 (0), .int .i64 (0), .int .i64 (0), .int .i64 (0), .int .i64 (0), .bool false, .slice none 0 0, .int .i64 (1)]) ?_
 refine sp 35 (.agg #[.int .i64 (7), .int .i64 (0), .int .i64 (0), .int .i64 (0), .int .i64 (0), .int .i64 (0), .int .i64 (0), .bool false, .slice none 0 0]) ?_
 refine sp 36 (.agg #[.int .i64 (7), .int .i64 (0), .int .i64 (0), .int .i64 (0), .int .i64 (0), .int .i64 (0), .int .i64 (0), .bool false, .slice none 0 0, .int .i64 (1)]) ?_
 refine sp 37 (.agg #[.int .i64 (1), .int .i64 (0), .int .i64 (1), .int .i64 (0), .int .i64 (0), .int .i64 (0), .int .i64 (0), .bool false, .slice none 0 0]) ?_
 refine sp 38 (.agg #[.int .i64 (1), .int .i64 (0), .int .i64 (1), .int .i64 (0), .int .i64 (0), .int .i64 (0), .int .i64 (0), .bool false, .slice none 0 0, .int .i64 (1)]) ?_
 refine sp 39 (.pointer (some ⟨b1_2, 0, none⟩)) ?_
 refine sl 40 (.int .i64 y1_1.nodes) (load1 (off := 0) (fun _ => by kernel_rfl) (holds_own (.there (.there .here))) (by kernel_rfl)) ?_
 refine sp 41 (.agg #[.int .i64 (1), .int .i64 y1_1.nodes, .int .i64 (0), .int .i64 (0), .int .i64 (0), .int .i64 (0), .int .i64 (0), .bool false, .slice none 0 0]) ?_
 refine sp 42 (.agg #[.int .i64 (1), .int .i64 y1_1.nodes, .int .i64 (0), .int .i64 (0), .int .i64 (0), .int .i64 (0), .int .i64 (0), .bool false, .slice none 0 0, .int .i64 (1)]) ?_
 refine sp 43 (.int .i64 y5_3) ?_
 refine sp 44 (.agg #[.int .i64 (1), .int .i64 y5_3, .int .i64 (0), .int .i64 (0), .int .i64 (7), .int .i64 (0), .int .i64 (0), .bool false, .slice none 0 0]) ?_
 refine sp 45 (.agg #[.int .i64 (1), .int .i64 y5_3, .int .i64 (0), .int .i64 (0), .int .i64 (7), .int .i64 (0), .int .i64 (0), .bool false, .slice none 0 0, .int .i64 (3)]) ?_
 refine sp 46 (.int .i64 y5_3) ?_
 refine sp 47 (.agg #[.int .i64 (2), .int .i64 y5_3, .int .i64 (0), .int .i64 (0), .int .i64 (0), .int .i64 (0), .int .i64 (1), .bool false, .slice none 0 0]) ?_
 refine sp 48 (.agg #[.int .i64 (2), .int .i64 y5_3, .int .i64 (0), .int .i64 (0), .int .i64 (0), .int .i64 (0), .int .i64 (1), .bool false, .slice none 0 0, .int .i64 (6)]) ?_
 refine sp 49 (.agg #[.int .i64 (1), .int .i64 (0), .int .i64 (0), .int .i64 (-1), .int .i64 (0), .int .i64 (0), .int .i64 (0), .bool false, .slice none 0 0]) ?_
 refine sp 50 (.agg #[.int .i64 (1), .int .i64 (0), .int .i64 (0), .int .i64 (-1), .int .i64 (0), .int .i64 (0), .int .i64 (0), .bool false, .slice none 0 0, .int .i64 (1)]) ?_
 obtain ⟨l6_20, hl6_20, H⟩ := letE H
 refine s_step 51 (by kernel_rfl) (by kernel_rfl) (st_new_recs (α := HeE) (T := 34) (cells := #[.int .i64 (0), .int .i64 (0), .int .i64 (0), .int .i64 (0), .int .i64 (0), .int .i64 (0), .int .i64 (0), .bool false, .slice none 0 0, .int .i64 (1), .int .i64 (3), .int .i64 (0), .int .i64 (0), .int .i64 (0), .int .i64 (0), .int .i64 (0), .int .i64 (0), .bool false, .slice none 0 0, .int .i64 (1), .int .i64 (7), .int .i64 (0), .int .i64 (0), .int .i64 (0), .int .i64 (0), .int .i64 (0), .int .i64 (0), .bool false, .slice none 0 0, .int .i64 (1), .int .i64 (1), .int .i64 (0), .int .i64 (1), .int .i64 (0), .int .i64 (0), .int .i64 (0), .int .i64 (0), .bool false, .slice none 0 0, .int .i64 (1), .int .i64 (1), .int .i64 y1_1.nodes, .int .i64 (0), .int .i64 (0), .int .i64 (0), .int .i64 (0), .int .i64 (0), .bool false, .slice none 0 0, .int .i64 (1), .int .i64 (1), .int .i64 y5_3, .int .i64 (0), .int .i64 (0), .int .i64 (7), .int .i64 (0), .int .i64 (0), .bool false, .slice none 0 0, .int .i64 (3), .int .i64 (2), .int .i64 y5_3, .int .i64 (0), .int .i64 (0), .int .i64 (0), .int .i64 (0), .int .i64 (1), .bool false, .slice none 0 0, .int .i64 (6), .int .i64 (1), .int .i64 (0), .int .i64 (0), .int .i64 (-1), .int .i64 (0), .int .i64 (0), .int .i64 (0), .bool false, .slice none 0 0, .int .i64 (1)]) [((⟨0, 0, 0, 0, 0, 0, 0, false, ([] : List Int), 1⟩ : HeE), none, 0), ((⟨3, 0, 0, 0, 0, 0, 0, false, ([] : List Int), 1⟩ : HeE), none, 0), ((⟨7, 0, 0, 0, 0, 0, 0, false, ([] : List Int), 1⟩ : HeE), none, 0), ((⟨1, 0, 1, 0, 0, 0, 0, false, ([] : List Int), 1⟩ : HeE), none, 0), ((⟨1, y1_1.nodes, 0, 0, 0, 0, 0, false, ([] : List Int), 1⟩ : HeE), none, 0), ((⟨1, y5_3, 0, 0, 7, 0, 0, false, ([] : List Int), 3⟩ : HeE), none, 0), ((⟨2, y5_3, 0, 0, 0, 0, 1, false, ([] : List Int), 6⟩ : HeE), none, 0), ((⟨1, 0, 0, (-1), 0, 0, 0, false, ([] : List Int), 1⟩ : HeE), none, 0)] 8 (fun _ => by kernel_rfl) (by kernel_rfl) (fun p hp => by simp only [List.mem_cons, List.not_mem_nil, or_false] at hp; rcases hp with rfl | rfl | rfl | rfl | rfl | rfl | rfl | rfl <;> rfl) rfl hl6_20) ?_
 rintro _ _ ⟨b6_20, rw6_20, rfl, rfl⟩
 refine sp 52 (.int .i64 (((List.length l6_20) : Nat) : Int)) ?_
 refine sp 53 (.int .i64 (0)) ?_
 refine ops_end ?_
 refine ae [(1, .int .i64 y5_3), (6, .pointer (some ⟨b2_1, 0, none⟩)), (51, .slice (some ⟨b6_20, 0, none⟩) (List.length l6_20) 8), (52, .int .i64 (((List.length l6_20) : Nat) : Int)), (53, .int .i64 (0))] ?_
 refine at_then_normal ?_
 refine at_block (i := 0) (x := C3 [1,1,1,1,1,0,1,0]) (by kernel_rfl) ?_
 refine At.conv (Γ' := (RecsX (α := HeE) rw6_20 (some ⟨b6_20, 0, none⟩) 8 l6_20) :: (HomeA b2_1 y2_1) :: Γ) (fun w hw => (Sat.less (.take .here (.take .here (.drop .here (.drop .here (.drop .here .refl))))) hw)) ?_
 refine at_loopR (x := C3 [1,1,1,1,1,0,1,0,0]) (fun mm ff ΔΔ => ∃ (fuel : Nat) (v0_53 : Int) (v0_b2_1 : HomeS), homeErrorsS_l0 l6_20 (homeErrorsS_k0 y5_3) fuel v0_53 v0_b2_1 = some y ∧ fuel = mm ∧ ff = [(1, .int .i64 y5_3), (6, .pointer (some ⟨b2_1, 0, none⟩)), (51, .slice (some ⟨b6_20, 0, none⟩) (List.length l6_20) 8), (52, .int .i64 (((List.length l6_20) : Nat) : Int)), (53, .int .i64 v0_53)] ∧ (RecsX (α := HeE) rw6_20 (some ⟨b6_20, 0, none⟩) 8 l6_20) :: (HomeA b2_1 v0_b2_1) :: Γ = ΔΔ) (64) (by kernel_rfl) [(1, .int .i64 y5_3), (6, .pointer (some ⟨b2_1, 0, none⟩)), (51, .slice (some ⟨b6_20, 0, none⟩) (List.length l6_20) 8), (52, .int .i64 (((List.length l6_20) : Nat) : Int)), (53, .int .i64 0)] ⟨by kernel_rfl, by kernel_rfl, by kernel_rfl, by kernel_rfl, by kernel_rfl, trivial⟩ ⟨64, 0, y2_1, H, rfl, rfl, rfl⟩ ?_
 rintro _ _ _ ⟨fuel1, v0_53, v0_b2_1, H, rfl, rfl, rfl⟩
 rcases fuel1 with _ | fuel1
 ·exact (noneE H).elim
 rw [homeErrorsS_l0] at H
 refine aq (x := C3 [1,1,1,1,1,0,1,0,0,0]) (y := C3 [1,1,1,1,1,0,1,0,0,1]) ?_
 refine ar (id := 7) 1 ?_
 refine sp 54 (.bool (decide (v0_53 < (((List.length l6_20) : Nat) : Int)))) ?_
 refine ops_end ?_
 refine ae [(1, .int .i64 y5_3), (6, .pointer (some ⟨b2_1, 0, none⟩)), (51, .slice (some ⟨b6_20, 0, none⟩) (List.length l6_20) 8), (52, .int .i64 (((List.length l6_20) : Nat) : Int)), (53, .int .i64 v0_53), (54, .bool (decide (v0_53 < (((List.length l6_20) : Nat) : Int))))] ?_
 refine at_then_normal ?_
 refine aq (x := C3 [1,1,1,1,1,0,1,0,0,1,0]) (y := C3 [1,1,1,1,1,0,1,0,0,1,1]) ?_
 rcases Bool.eq_false_or_eq_true (decide (v0_53 < (((List.length l6_20) : Nat) : Int))) with h1 | h1
 ·replace H := bifT H h1
  refine at_true (t := decide (v0_53 < (((List.length l6_20) : Nat) : Int))) (x := C3 [1,1,1,1,1,0,1,0,0,1,0,0]) (y := C3 [1,1,1,1,1,0,1,0,0,1,0,1]) (o := .tmp 54) (by kernel_rfl) (by kernel_rfl) (by kernel_rfl) h1 ?_
  refine at_skip (by kernel_rfl) ?_
  refine at_then_normal ?_
  refine aq (x := C3 [1,1,1,1,1,0,1,0,0,1,1,0]) (y := C3 [1,1,1,1,1,0,1,0,0,1,1,1]) ?_
  refine at_block (i := 1) (x := C3 [1,1,1,1,1,0,1,0,0,1,1,0,0]) (by kernel_rfl) ?_
  refine aq (x := C3 [1,1,1,1,1,0,1,0,0,1,1,0,0,0]) (y := C3 [1,1,1,1,1,0,1,0,0,1,1,0,0,1]) ?_
  refine ar (id := 8) 4 ?_
  obtain ⟨hc8_0_0, H⟩ := chkE H
  refine rd_at (RecsX.rd (α := HeE) .here) (by have := hc8_0_0; omega) ?_
  intro bb1 oo1 ha1
  refine sr 55 (.pointer (some ⟨bb1, oo1 + (((v0_53).toNat) * 10 + 0), none⟩)) (index_at (t := 35) (sz := 10) (E := 34) (a := some ⟨b6_20, 0, none⟩) (m := (List.length l6_20)) (c := 8) (b := bb1) (off := oo1) (i := (v0_53).toNat) (tinfo 34) (fun _ => by kernel_rfl) (by kernel_rfl) (by kernel_rfl) (by kernel_rfl) ha1 (idx_cast hc8_0_0) (idx_nat hc8_0_0) rfl) ?_
  obtain ⟨x8_1, hx8_1, H⟩ := letE H
  refine rd_get (RecsX.rd (α := HeE) .here) hc8_0_0 ?_
  intro a8_1 c8_1 hrx8_1
  rw [hx8_1] at hrx8_1 ⊢
  refine sl 56 (.agg #[.int .i64 x8_1.kind, .int .i64 x8_1.src, .int .i64 x8_1.dst, .int .i64 x8_1.id, .int .i64 x8_1.line, .int .i64 x8_1.ptr, .int .i64 x8_1.state, .bool x8_1.flag, .slice a8_1 (List.length x8_1.data) c8_1, .int .i64 x8_1.e]) (loadP_at (m := 10) (k := 10) (vs := [.int .i64 x8_1.kind, .int .i64 x8_1.src, .int .i64 x8_1.dst, .int .i64 x8_1.id, .int .i64 x8_1.line, .int .i64 x8_1.ptr, .int .i64 x8_1.state, .bool x8_1.flag, .slice a8_1 (List.length x8_1.data) c8_1, .int .i64 x8_1.e]) (off := oo1) (i := (v0_53).toNat) (j := 0) (fun _ => by kernel_rfl) rfl rfl (fun q v hq => rd_row (j := 0 + q) (RecsX.rd (α := HeE) (.there .here)) ha1 hrx8_1 (rowP (j := 0) (m := 10) (by kernel_rfl) hq))) ?_
  refine s_step 8 (by kernel_rfl) (by kernel_rfl) (st_new (T := 34) (cells := #[.int .i64 (0), .int .i64 (0), .int .i64 (0), .int .i64 (0), .int .i64 (0), .int .i64 (0), .int .i64 (0), .bool false, .slice none 0 0, .int .i64 (0)]) (fun a => .pointer (some a)) (fun _ => by kernel_rfl)) ?_
  rintro _ _ ⟨b8_2, rfl, rfl⟩
  refine s_do (by kernel_rfl) (by kernel_rfl) (st_store (off := 0) (vs := [.int .i64 x8_1.kind, .int .i64 x8_1.src, .int .i64 x8_1.dst, .int .i64 x8_1.id, .int .i64 x8_1.line, .int .i64 x8_1.ptr, .int .i64 x8_1.state, .bool x8_1.flag, .slice a8_1 (List.length x8_1.data) c8_1, .int .i64 x8_1.e]) (c' := #[.int .i64 x8_1.kind, .int .i64 x8_1.src, .int .i64 x8_1.dst, .int .i64 x8_1.id, .int .i64 x8_1.line, .int .i64 x8_1.ptr, .int .i64 x8_1.state, .bool x8_1.flag, .slice a8_1 (List.length x8_1.data) c8_1, .int .i64 x8_1.e]) (fun _ => by kernel_rfl) .here (by kernel_rfl) (by kernel_rfl) (by kernel_rfl)) ?_
  rintro _ _ ⟨rfl, rfl⟩
  refine ops_end ?_
  refine ae [(1, .int .i64 y5_3), (6, .pointer (some ⟨b2_1, 0, none⟩)), (8, .pointer (some ⟨b8_2, 0, none⟩)), (51, .slice (some ⟨b6_20, 0, none⟩) (List.length l6_20) 8), (52, .int .i64 (((List.length l6_20) : Nat) : Int)), (53, .int .i64 v0_53)] ?_
  refine at_then_normal ?_
  refine aq (x := C3 [1,1,1,1,1,0,1,0,0,1,1,0,0,1,0]) (y := C3 [1,1,1,1,1,0,1,0,0,1,1,0,0,1,1]) ?_
  refine ar (id := 9) 12 ?_
  refine sp 58 (.pointer (some ⟨b2_1, 0, none⟩)) ?_
  refine sp 59 (.pointer (some ⟨b8_2, 0, none⟩)) ?_
  refine sl 60 (.agg #[.int .i64 x8_1.kind, .int .i64 x8_1.src, .int .i64 x8_1.dst, .int .i64 x8_1.id, .int .i64 x8_1.line, .int .i64 x8_1.ptr, .int .i64 x8_1.state, .bool x8_1.flag, .slice a8_1 (List.length x8_1.data) c8_1]) (loadN (off := 0) (vs := [.int .i64 x8_1.kind, .int .i64 x8_1.src, .int .i64 x8_1.dst, .int .i64 x8_1.id, .int .i64 x8_1.line, .int .i64 x8_1.ptr, .int .i64 x8_1.state, .bool x8_1.flag, .slice a8_1 (List.length x8_1.data) c8_1]) 9 (fun _ => by kernel_rfl) (holds_own .here) rfl (by exact ⟨rfl, rfl, rfl, rfl, rfl, rfl, rfl, rfl, rfl, trivial⟩)) ?_
  obtain ⟨y9_3, hy9_3, H⟩ := bindE H
  refine s_call 61 10 #[.pointer (some ⟨b2_1, 0, none⟩), .agg #[.int .i64 x8_1.kind, .int .i64 x8_1.src, .int .i64 x8_1.dst, .int .i64 x8_1.id, .int .i64 x8_1.line, .int .i64 x8_1.ptr, .int .i64 x8_1.state, .bool x8_1.flag, .slice a8_1 (List.length x8_1.data) c8_1]] (by kernel_rfl) (by kernel_rfl) (fun _ => by kernel_rfl) (Tr.conv (Γ' := (HomeA b2_1 v0_b2_1) :: (Asn.own b8_2 (.cells #[.int .i64 x8_1.kind, .int .i64 x8_1.src, .int .i64 x8_1.dst, .int .i64 x8_1.id, .int .i64 x8_1.line, .int .i64 x8_1.ptr, .int .i64 x8_1.state, .bool x8_1.flag, .slice a8_1 (List.length x8_1.data) c8_1, .int .i64 x8_1.e] 34 (0, 0))) :: (ImmI a8_1 x8_1.data) :: (RecsX (α := HeE) rw6_20 (some ⟨b6_20, 0, none⟩) 8 l6_20) :: Γ) (fun w hw => (Sat.less (.take (.there (.there (.there .here))) (.take .here (.take .here (.take .here .refl)))) hw)) (HHandleF_tr b2_1 v0_b2_1 a8_1 c8_1 (⟨x8_1.kind, x8_1.src, x8_1.dst, x8_1.id, x8_1.line, x8_1.ptr, x8_1.state, x8_1.flag, x8_1.data⟩ : PktS) (ImmR.reads (k := 1) (.there .here)) y9_3 hy9_3)) ?_
  rintro _ _ ⟨a9_3_00, c9_3_00, rfl, rfl⟩
  refine sp 57 (.tuple #[.agg #[.int .i64 y9_3.1.kind, .int .i64 y9_3.1.src, .int .i64 y9_3.1.dst, .int .i64 y9_3.1.id, .int .i64 y9_3.1.line, .int .i64 y9_3.1.ptr, .int .i64 y9_3.1.state, .bool y9_3.1.flag, .slice a9_3_00 (List.length y9_3.1.data) c9_3_00], .bool y9_3.2.1, .int .i64 y9_3.2.2.1]) ?_
  refine sp 62 (.agg #[.int .i64 y9_3.1.kind, .int .i64 y9_3.1.src, .int .i64 y9_3.1.dst, .int .i64 y9_3.1.id, .int .i64 y9_3.1.line, .int .i64 y9_3.1.ptr, .int .i64 y9_3.1.state, .bool y9_3.1.flag, .slice a9_3_00 (List.length y9_3.1.data) c9_3_00]) ?_
  refine sp 63 (.bool y9_3.2.1) ?_
  refine sp 64 (.int .i64 y9_3.2.2.1) ?_
  refine s_step 9 (by kernel_rfl) (by kernel_rfl) (st_new (T := 32) (cells := #[.int .i64 (0), .int .i64 (0), .int .i64 (0), .int .i64 (0), .int .i64 (0), .int .i64 (0), .int .i64 (0), .bool false, .slice none 0 0]) (fun a => .pointer (some a)) (fun _ => by kernel_rfl)) ?_
  rintro _ _ ⟨b9_8, rfl, rfl⟩
  refine s_do (by kernel_rfl) (by kernel_rfl) (st_store (off := 0) (vs := [.int .i64 y9_3.1.kind, .int .i64 y9_3.1.src, .int .i64 y9_3.1.dst, .int .i64 y9_3.1.id, .int .i64 y9_3.1.line, .int .i64 y9_3.1.ptr, .int .i64 y9_3.1.state, .bool y9_3.1.flag, .slice a9_3_00 (List.length y9_3.1.data) c9_3_00]) (c' := #[.int .i64 y9_3.1.kind, .int .i64 y9_3.1.src, .int .i64 y9_3.1.dst, .int .i64 y9_3.1.id, .int .i64 y9_3.1.line, .int .i64 y9_3.1.ptr, .int .i64 y9_3.1.state, .bool y9_3.1.flag, .slice a9_3_00 (List.length y9_3.1.data) c9_3_00]) (fun _ => by kernel_rfl) .here (by kernel_rfl) (by kernel_rfl) (by kernel_rfl)) ?_
  rintro _ _ ⟨rfl, rfl⟩
  refine sp 10 (.bool y9_3.2.1) ?_
  refine sp 11 (.int .i64 y9_3.2.2.1) ?_
  refine ops_end ?_
  refine ae [(1, .int .i64 y5_3), (6, .pointer (some ⟨b2_1, 0, none⟩)), (8, .pointer (some ⟨b8_2, 0, none⟩)), (10, .bool y9_3.2.1), (11, .int .i64 y9_3.2.2.1), (51, .slice (some ⟨b6_20, 0, none⟩) (List.length l6_20) 8), (52, .int .i64 (((List.length l6_20) : Nat) : Int)), (53, .int .i64 v0_53)] ?_
  refine at_then_normal ?_
  refine at_seq_join (x := C3 [1,1,1,1,1,0,1,0,0,1,1,0,0,1,1,0]) (y := C3 [1,1,1,1,1,0,1,0,0,1,1,0,0,1,1,1]) (fun ff ΔΔ => ∃ (e4_71 : Bool), homeErrorsS_j4 v0_53 (homeErrorsS_l0 l6_20 (homeErrorsS_k0 y5_3) fuel1) y9_3 e4_71 = some y ∧ ff = [(1, .int .i64 y5_3), (6, .pointer (some ⟨b2_1, 0, none⟩)), (51, .slice (some ⟨b6_20, 0, none⟩) (List.length l6_20) 8), (52, .int .i64 (((List.length l6_20) : Nat) : Int)), (53, .int .i64 v0_53), (71, .bool e4_71)] ∧ (HomeA b2_1 y9_3.2.2.2) :: (RecsX (α := HeE) rw6_20 (some ⟨b6_20, 0, none⟩) 8 l6_20) :: Γ = ΔΔ) (by kernel_rfl) ?_ ?_
  ·rintro _ _ ⟨e4_71, H, rfl, rfl⟩
   rw [homeErrorsS_j4] at H
   rcases Bool.eq_false_or_eq_true (e4_71) with h2 | h2
   ·replace H := bifT H h2
    refine at_true (t := e4_71) (x := C3 [1,1,1,1,1,0,1,0,0,1,1,0,0,1,1,1,0]) (y := C3 [1,1,1,1,1,0,1,0,0,1,1,0,0,1,1,1,1]) (o := .tmp 71) (by kernel_rfl) (by kernel_rfl) (by kernel_rfl) h2 ?_
    refine aq (x := C3 [1,1,1,1,1,0,1,0,0,1,1,0,0,1,1,1,0,0]) (y := C3 [1,1,1,1,1,0,1,0,0,1,1,0,0,1,1,1,0,1]) ?_
    refine ar (id := 11) 1 ?_
    refine sp 4 (.bool false) ?_
    refine ops_end ?_
    refine ae [(4, .bool false)] ?_
    refine at_then_normal ?_
    refine at_ret (by kernel_rfl) ?_
    refine at_in_ret ?_
    refine at_then_ret ?_
    refine at_then_ret ?_
    refine at_in_ret ?_
    refine at_then_ret ?_
    obtain rfl := someE H
    refine at_backR [.bool false] (Γ) (rs := [.tmp 4]) (by kernel_rfl) (.cons (.tmp (by kernel_rfl)) .nil) (fun w hw => (Sat.less (.drop .here (.drop .here .refl)) hw)) ?_
    exact ⟨rfl, rfl⟩
   ·replace H := bifF H h2
    refine at_false (t := e4_71) (x := C3 [1,1,1,1,1,0,1,0,0,1,1,0,0,1,1,1,0]) (y := C3 [1,1,1,1,1,0,1,0,0,1,1,0,0,1,1,1,1]) (o := .tmp 71) (by kernel_rfl) (by kernel_rfl) (by kernel_rfl) h2 ?_
    refine at_skip (by kernel_rfl) ?_
    refine at_in_normal ?_
    refine at_then_normal ?_
    refine ar (id := 12) 2 ?_
    obtain ⟨hc12_0_0, H⟩ := chkE H
    refine sr 72 (.int .i64 (v0_53 + (1 : Int))) (run_eq (v := .int .i64 (IntKind.i64.wrap (v0_53 + (1 : Int)))) (fun _ => by kernel_rfl) (by rw [inR.wrap hc12_0_0])) ?_
    refine sp 53 (.int .i64 (v0_53 + (1 : Int))) ?_
    refine ops_end ?_
    refine ae [(1, .int .i64 y5_3), (6, .pointer (some ⟨b2_1, 0, none⟩)), (51, .slice (some ⟨b6_20, 0, none⟩) (List.length l6_20) 8), (52, .int .i64 (((List.length l6_20) : Nat) : Int)), (53, .int .i64 (v0_53 + (1 : Int)))] ?_
    refine at_round_normal ?_
    exact at_roundR fuel1 [(1, .int .i64 y5_3), (6, .pointer (some ⟨b2_1, 0, none⟩)), (51, .slice (some ⟨b6_20, 0, none⟩) (List.length l6_20) 8), (52, .int .i64 (((List.length l6_20) : Nat) : Int)), (53, .int .i64 (v0_53 + (1 : Int)))] ((RecsX (α := HeE) rw6_20 (some ⟨b6_20, 0, none⟩) 8 l6_20) :: (HomeA b2_1 y9_3.2.2.2) :: Γ) (Nat.lt_succ_self _) ⟨by kernel_rfl, by kernel_rfl, by kernel_rfl, by kernel_rfl, by kernel_rfl, trivial⟩ (fun w hw => (Sat.less (.take (.there .here) (.take .here .refl)) hw)) ⟨fuel1, v0_53 + (1 : Int), y9_3.2.2.2, H, rfl, rfl, rfl⟩
  ·refine ar (id := 10) 7 ?_
   refine sp 65 (.bool y9_3.2.1) ?_
   rcases Bool.eq_false_or_eq_true (y9_3.2.1) with h3 | h3
   ·replace H := bifT H h3
    refine sr 66 (.bool true) (run_eq (v := .bool (y9_3.2.1)) (fun _ => by kernel_rfl) (congrArg Value.bool h3)) ?_
    refine sa 67 ?_
    refine sa 68 ?_
    refine sa 69 ?_
    refine sa 70 ?_
    refine sp 71 (.bool true) ?_
    refine ops_end ?_
    refine ae [(1, .int .i64 y5_3), (6, .pointer (some ⟨b2_1, 0, none⟩)), (51, .slice (some ⟨b6_20, 0, none⟩) (List.length l6_20) 8), (52, .int .i64 (((List.length l6_20) : Nat) : Int)), (53, .int .i64 v0_53), (71, .bool true)] ?_
    refine at_round_normal ?_
    exact at_join_mk [(1, .int .i64 y5_3), (6, .pointer (some ⟨b2_1, 0, none⟩)), (51, .slice (some ⟨b6_20, 0, none⟩) (List.length l6_20) 8), (52, .int .i64 (((List.length l6_20) : Nat) : Int)), (53, .int .i64 v0_53), (71, .bool true)] ((HomeA b2_1 y9_3.2.2.2) :: (RecsX (α := HeE) rw6_20 (some ⟨b6_20, 0, none⟩) 8 l6_20) :: Γ) ⟨by kernel_rfl, by kernel_rfl, by kernel_rfl, by kernel_rfl, by kernel_rfl, by kernel_rfl, trivial⟩ (fun w hw => (Sat.less (.take (.there (.there .here)) (.take (.there (.there (.there (.there .here)))) (.drop .here (.drop .here (.drop .here (.drop .here .refl)))))) hw)) ⟨true, H, rfl, rfl⟩
   ·replace H := bifF H h3
    refine sr 66 (.bool false) (run_eq (v := .bool (y9_3.2.1)) (fun _ => by kernel_rfl) (congrArg Value.bool h3)) ?_
    refine sp 67 (.int .i64 y9_3.2.2.1) ?_
    refine sp 68 (.pointer (some ⟨b8_2, 9, none⟩)) ?_
    refine sl 69 (.int .i64 x8_1.e) (load1 (off := 9) (fun _ => by kernel_rfl) (holds_own (.there (.there (.there .here)))) (by kernel_rfl)) ?_
    refine sp 70 (.bool (!(decide (y9_3.2.2.1 = x8_1.e)))) ?_
    refine sp 71 (.bool (!(decide (y9_3.2.2.1 = x8_1.e)))) ?_
    refine ops_end ?_
    refine ae [(1, .int .i64 y5_3), (6, .pointer (some ⟨b2_1, 0, none⟩)), (51, .slice (some ⟨b6_20, 0, none⟩) (List.length l6_20) 8), (52, .int .i64 (((List.length l6_20) : Nat) : Int)), (53, .int .i64 v0_53), (71, .bool (!(decide (y9_3.2.2.1 = x8_1.e))))] ?_
    refine at_round_normal ?_
    exact at_join_mk [(1, .int .i64 y5_3), (6, .pointer (some ⟨b2_1, 0, none⟩)), (51, .slice (some ⟨b6_20, 0, none⟩) (List.length l6_20) 8), (52, .int .i64 (((List.length l6_20) : Nat) : Int)), (53, .int .i64 v0_53), (71, .bool (!(decide (y9_3.2.2.1 = x8_1.e))))] ((HomeA b2_1 y9_3.2.2.2) :: (RecsX (α := HeE) rw6_20 (some ⟨b6_20, 0, none⟩) 8 l6_20) :: Γ) ⟨by kernel_rfl, by kernel_rfl, by kernel_rfl, by kernel_rfl, by kernel_rfl, by kernel_rfl, trivial⟩ (fun w hw => (Sat.less (.take (.there (.there .here)) (.take (.there (.there (.there (.there .here)))) (.drop .here (.drop .here (.drop .here (.drop .here .refl)))))) hw)) ⟨!(decide (y9_3.2.2.1 = x8_1.e)), H, rfl, rfl⟩
 ·replace H := bifF H h1
  refine at_false (t := decide (v0_53 < (((List.length l6_20) : Nat) : Int))) (x := C3 [1,1,1,1,1,0,1,0,0,1,0,0]) (y := C3 [1,1,1,1,1,0,1,0,0,1,0,1]) (o := .tmp 54) (by kernel_rfl) (by kernel_rfl) (by kernel_rfl) h1 ?_
  refine at_exit (i := 0) (by kernel_rfl) ?_
  refine at_then_exit ?_
  refine at_then_exit ?_
  rw [homeErrorsS_k0] at H
  refine ae [(1, .int .i64 y5_3), (6, .pointer (some ⟨b2_1, 0, none⟩)), (51, .slice (some ⟨b6_20, 0, none⟩) (List.length l6_20) 8), (52, .int .i64 (((List.length l6_20) : Nat) : Int)), (53, .int .i64 v0_53)] ?_
  refine At.conv (Γ' := (RecsX (α := HeE) rw6_20 (some ⟨b6_20, 0, none⟩) 8 l6_20) :: (HomeA b2_1 v0_b2_1) :: Γ) (fun w hw => (Sat.less (.take .here (.take .here .refl)) hw)) ?_
  refine at_in_here ?_
  refine at_then_normal ?_
  refine aq (x := C3 [1,1,1,1,1,1,0]) (y := C3 [1,1,1,1,1,1,1]) ?_
  refine at_seq_join (x := C3 [1,1,1,1,1,1,0,0]) (y := C3 [1,1,1,1,1,1,0,1]) (fun ff ΔΔ => ∃ (e1_90 : Bool), homeErrorsS_j1 v0_b2_1 y5_3 e1_90 = some y ∧ ff = [(1, .int .i64 y5_3), (6, .pointer (some ⟨b2_1, 0, none⟩)), (90, .bool e1_90)] ∧ (HomeA b2_1 v0_b2_1) :: Γ = ΔΔ) (by kernel_rfl) ?_ ?_
  ·rintro _ _ ⟨e1_90, H, rfl, rfl⟩
   rw [homeErrorsS_j1] at H
   rcases Bool.eq_false_or_eq_true (e1_90) with h4 | h4
   ·replace H := bifT H h4
    refine at_true (t := e1_90) (x := C3 [1,1,1,1,1,1,0,1,0]) (y := C3 [1,1,1,1,1,1,0,1,1]) (o := .tmp 90) (by kernel_rfl) (by kernel_rfl) (by kernel_rfl) h4 ?_
    refine aq (x := C3 [1,1,1,1,1,1,0,1,0,0]) (y := C3 [1,1,1,1,1,1,0,1,0,1]) ?_
    refine ar (id := 14) 1 ?_
    refine sp 4 (.bool false) ?_
    refine ops_end ?_
    refine ae [(4, .bool false)] ?_
    refine at_then_normal ?_
    refine at_ret (by kernel_rfl) ?_
    refine at_then_ret ?_
    obtain rfl := someE H
    refine at_backR [.bool false] (Γ) (rs := [.tmp 4]) (by kernel_rfl) (.cons (.tmp (by kernel_rfl)) .nil) (fun w hw => (Sat.less (.drop .here .refl) hw)) ?_
    exact ⟨rfl, rfl⟩
   ·replace H := bifF H h4
    refine at_false (t := e1_90) (x := C3 [1,1,1,1,1,1,0,1,0]) (y := C3 [1,1,1,1,1,1,0,1,1]) (o := .tmp 90) (by kernel_rfl) (by kernel_rfl) (by kernel_rfl) h4 ?_
    refine at_skip (by kernel_rfl) ?_
    refine at_then_normal ?_
    refine aq (x := C3 [1,1,1,1,1,1,1,0]) (y := C3 [1,1,1,1,1,1,1,1]) ?_
    refine aq (x := C3 [1,1,1,1,1,1,1,0,0]) (y := C3 [1,1,1,1,1,1,1,0,1]) ?_
    refine ar (id := 15) 12 ?_
    refine sp 92 (.pointer (some ⟨b2_1, 0, none⟩)) ?_
    refine sp 93 (.int .i64 y5_3) ?_
    refine sp 94 (.agg #[.int .i64 (1), .int .i64 y5_3, .int .i64 (0), .int .i64 (0), .int .i64 (0), .int .i64 (0), .int .i64 (0), .bool false, .slice none 0 0]) ?_
    obtain ⟨y15_3, hy15_3, H⟩ := bindE H
    refine s_call 95 10 #[.pointer (some ⟨b2_1, 0, none⟩), .agg #[.int .i64 (1), .int .i64 y5_3, .int .i64 (0), .int .i64 (0), .int .i64 (0), .int .i64 (0), .int .i64 (0), .bool false, .slice none 0 0]] (by kernel_rfl) (by kernel_rfl) (fun _ => by kernel_rfl) (HHandleF_tr b2_1 v0_b2_1 none 0 (⟨1, y5_3, 0, 0, 0, 0, 0, false, ([] : List Int)⟩ : PktS) Reads.nil y15_3 hy15_3) ?_
    rintro _ _ ⟨a15_3_00, c15_3_00, rfl, rfl⟩
    refine sp 91 (.tuple #[.agg #[.int .i64 y15_3.1.kind, .int .i64 y15_3.1.src, .int .i64 y15_3.1.dst, .int .i64 y15_3.1.id, .int .i64 y15_3.1.line, .int .i64 y15_3.1.ptr, .int .i64 y15_3.1.state, .bool y15_3.1.flag, .slice a15_3_00 (List.length y15_3.1.data) c15_3_00], .bool y15_3.2.1, .int .i64 y15_3.2.2.1]) ?_
    refine sp 96 (.agg #[.int .i64 y15_3.1.kind, .int .i64 y15_3.1.src, .int .i64 y15_3.1.dst, .int .i64 y15_3.1.id, .int .i64 y15_3.1.line, .int .i64 y15_3.1.ptr, .int .i64 y15_3.1.state, .bool y15_3.1.flag, .slice a15_3_00 (List.length y15_3.1.data) c15_3_00]) ?_
    refine sp 97 (.bool y15_3.2.1) ?_
    refine sp 98 (.int .i64 y15_3.2.2.1) ?_
    refine s_step 12 (by kernel_rfl) (by kernel_rfl) (st_new (T := 32) (cells := #[.int .i64 (0), .int .i64 (0), .int .i64 (0), .int .i64 (0), .int .i64 (0), .int .i64 (0), .int .i64 (0), .bool false, .slice none 0 0]) (fun a => .pointer (some a)) (fun _ => by kernel_rfl)) ?_
    rintro _ _ ⟨b15_8, rfl, rfl⟩
    refine s_do (by kernel_rfl) (by kernel_rfl) (st_store (off := 0) (vs := [.int .i64 y15_3.1.kind, .int .i64 y15_3.1.src, .int .i64 y15_3.1.dst, .int .i64 y15_3.1.id, .int .i64 y15_3.1.line, .int .i64 y15_3.1.ptr, .int .i64 y15_3.1.state, .bool y15_3.1.flag, .slice a15_3_00 (List.length y15_3.1.data) c15_3_00]) (c' := #[.int .i64 y15_3.1.kind, .int .i64 y15_3.1.src, .int .i64 y15_3.1.dst, .int .i64 y15_3.1.id, .int .i64 y15_3.1.line, .int .i64 y15_3.1.ptr, .int .i64 y15_3.1.state, .bool y15_3.1.flag, .slice a15_3_00 (List.length y15_3.1.data) c15_3_00]) (fun _ => by kernel_rfl) .here (by kernel_rfl) (by kernel_rfl) (by kernel_rfl)) ?_
    rintro _ _ ⟨rfl, rfl⟩
    refine sp 13 (.bool y15_3.2.1) ?_
    refine sp 14 (.int .i64 y15_3.2.2.1) ?_
    refine ops_end ?_
    refine ae [(1, .int .i64 y5_3), (6, .pointer (some ⟨b2_1, 0, none⟩)), (13, .bool y15_3.2.1), (14, .int .i64 y15_3.2.2.1)] ?_
    refine at_then_normal ?_
    refine at_seq_join (x := C3 [1,1,1,1,1,1,1,0,1,0]) (y := C3 [1,1,1,1,1,1,1,0,1,1]) (fun ff ΔΔ => ∃ (e2_104 : Bool), homeErrorsS_j2 y15_3 y5_3 e2_104 = some y ∧ ff = [(1, .int .i64 y5_3), (6, .pointer (some ⟨b2_1, 0, none⟩)), (104, .bool e2_104)] ∧ (HomeA b2_1 y15_3.2.2.2) :: Γ = ΔΔ) (by kernel_rfl) ?_ ?_
    ·rintro _ _ ⟨e2_104, H, rfl, rfl⟩
     rw [homeErrorsS_j2] at H
     rcases Bool.eq_false_or_eq_true (e2_104) with h5 | h5
     ·replace H := bifT H h5
      refine at_true (t := e2_104) (x := C3 [1,1,1,1,1,1,1,0,1,1,0]) (y := C3 [1,1,1,1,1,1,1,0,1,1,1]) (o := .tmp 104) (by kernel_rfl) (by kernel_rfl) (by kernel_rfl) h5 ?_
      refine aq (x := C3 [1,1,1,1,1,1,1,0,1,1,0,0]) (y := C3 [1,1,1,1,1,1,1,0,1,1,0,1]) ?_
      refine ar (id := 17) 1 ?_
      refine sp 4 (.bool false) ?_
      refine ops_end ?_
      refine ae [(4, .bool false)] ?_
      refine at_then_normal ?_
      refine at_ret (by kernel_rfl) ?_
      refine at_then_ret ?_
      obtain rfl := someE H
      refine at_backR [.bool false] (Γ) (rs := [.tmp 4]) (by kernel_rfl) (.cons (.tmp (by kernel_rfl)) .nil) (fun w hw => (Sat.less (.drop .here .refl) hw)) ?_
      exact ⟨rfl, rfl⟩
     ·replace H := bifF H h5
      refine at_false (t := e2_104) (x := C3 [1,1,1,1,1,1,1,0,1,1,0]) (y := C3 [1,1,1,1,1,1,1,0,1,1,1]) (o := .tmp 104) (by kernel_rfl) (by kernel_rfl) (by kernel_rfl) h5 ?_
      refine at_skip (by kernel_rfl) ?_
      refine at_then_normal ?_
      refine aq (x := C3 [1,1,1,1,1,1,1,1,0]) (y := C3 [1,1,1,1,1,1,1,1,1]) ?_
      refine aq (x := C3 [1,1,1,1,1,1,1,1,0,0]) (y := C3 [1,1,1,1,1,1,1,1,0,1]) ?_
      refine ar (id := 18) 13 ?_
      refine sp 106 (.pointer (some ⟨b2_1, 0, none⟩)) ?_
      refine sp 107 (.int .i64 y5_3) ?_
      refine sp 108 (.int .i64 y5_3) ?_
      refine sp 109 (.agg #[.int .i64 (2), .int .i64 y5_3, .int .i64 (0), .int .i64 (0), .int .i64 (0), .int .i64 y5_3, .int .i64 (0), .bool false, .slice none 0 0]) ?_
      obtain ⟨y18_4, hy18_4, H⟩ := bindE H
      refine s_call 110 10 #[.pointer (some ⟨b2_1, 0, none⟩), .agg #[.int .i64 (2), .int .i64 y5_3, .int .i64 (0), .int .i64 (0), .int .i64 (0), .int .i64 y5_3, .int .i64 (0), .bool false, .slice none 0 0]] (by kernel_rfl) (by kernel_rfl) (fun _ => by kernel_rfl) (HHandleF_tr b2_1 y15_3.2.2.2 none 0 (⟨2, y5_3, 0, 0, 0, y5_3, 0, false, ([] : List Int)⟩ : PktS) Reads.nil y18_4 hy18_4) ?_
      rintro _ _ ⟨a18_4_00, c18_4_00, rfl, rfl⟩
      refine sp 105 (.tuple #[.agg #[.int .i64 y18_4.1.kind, .int .i64 y18_4.1.src, .int .i64 y18_4.1.dst, .int .i64 y18_4.1.id, .int .i64 y18_4.1.line, .int .i64 y18_4.1.ptr, .int .i64 y18_4.1.state, .bool y18_4.1.flag, .slice a18_4_00 (List.length y18_4.1.data) c18_4_00], .bool y18_4.2.1, .int .i64 y18_4.2.2.1]) ?_
      refine sp 111 (.agg #[.int .i64 y18_4.1.kind, .int .i64 y18_4.1.src, .int .i64 y18_4.1.dst, .int .i64 y18_4.1.id, .int .i64 y18_4.1.line, .int .i64 y18_4.1.ptr, .int .i64 y18_4.1.state, .bool y18_4.1.flag, .slice a18_4_00 (List.length y18_4.1.data) c18_4_00]) ?_
      refine sp 112 (.bool y18_4.2.1) ?_
      refine sp 113 (.int .i64 y18_4.2.2.1) ?_
      refine s_step 15 (by kernel_rfl) (by kernel_rfl) (st_new (T := 32) (cells := #[.int .i64 (0), .int .i64 (0), .int .i64 (0), .int .i64 (0), .int .i64 (0), .int .i64 (0), .int .i64 (0), .bool false, .slice none 0 0]) (fun a => .pointer (some a)) (fun _ => by kernel_rfl)) ?_
      rintro _ _ ⟨b18_9, rfl, rfl⟩
      refine s_do (by kernel_rfl) (by kernel_rfl) (st_store (off := 0) (vs := [.int .i64 y18_4.1.kind, .int .i64 y18_4.1.src, .int .i64 y18_4.1.dst, .int .i64 y18_4.1.id, .int .i64 y18_4.1.line, .int .i64 y18_4.1.ptr, .int .i64 y18_4.1.state, .bool y18_4.1.flag, .slice a18_4_00 (List.length y18_4.1.data) c18_4_00]) (c' := #[.int .i64 y18_4.1.kind, .int .i64 y18_4.1.src, .int .i64 y18_4.1.dst, .int .i64 y18_4.1.id, .int .i64 y18_4.1.line, .int .i64 y18_4.1.ptr, .int .i64 y18_4.1.state, .bool y18_4.1.flag, .slice a18_4_00 (List.length y18_4.1.data) c18_4_00]) (fun _ => by kernel_rfl) .here (by kernel_rfl) (by kernel_rfl) (by kernel_rfl)) ?_
      rintro _ _ ⟨rfl, rfl⟩
      refine sp 16 (.bool y18_4.2.1) ?_
      refine sp 17 (.int .i64 y18_4.2.2.1) ?_
      refine ops_end ?_
      refine ae [(1, .int .i64 y5_3), (6, .pointer (some ⟨b2_1, 0, none⟩)), (16, .bool y18_4.2.1), (17, .int .i64 y18_4.2.2.1)] ?_
      refine at_then_normal ?_
      refine at_seq_join (x := C3 [1,1,1,1,1,1,1,1,0,1,0]) (y := C3 [1,1,1,1,1,1,1,1,0,1,1]) (fun ff ΔΔ => ∃ (e3_127 : Bool), homeErrorsS_j3 y18_4 y5_3 e3_127 = some y ∧ ff = [(1, .int .i64 y5_3), (6, .pointer (some ⟨b2_1, 0, none⟩)), (127, .bool e3_127)] ∧ (HomeA b2_1 y18_4.2.2.2) :: Γ = ΔΔ) (by kernel_rfl) ?_ ?_
      ·rintro _ _ ⟨e3_127, H, rfl, rfl⟩
       rw [homeErrorsS_j3] at H
       rcases Bool.eq_false_or_eq_true (e3_127) with h6 | h6
       ·replace H := bifT H h6
        refine at_true (t := e3_127) (x := C3 [1,1,1,1,1,1,1,1,0,1,1,0]) (y := C3 [1,1,1,1,1,1,1,1,0,1,1,1]) (o := .tmp 127) (by kernel_rfl) (by kernel_rfl) (by kernel_rfl) h6 ?_
        refine aq (x := C3 [1,1,1,1,1,1,1,1,0,1,1,0,0]) (y := C3 [1,1,1,1,1,1,1,1,0,1,1,0,1]) ?_
        refine ar (id := 20) 1 ?_
        refine sp 4 (.bool false) ?_
        refine ops_end ?_
        refine ae [(4, .bool false)] ?_
        refine at_then_normal ?_
        refine at_ret (by kernel_rfl) ?_
        refine at_then_ret ?_
        obtain rfl := someE H
        refine at_backR [.bool false] (Γ) (rs := [.tmp 4]) (by kernel_rfl) (.cons (.tmp (by kernel_rfl)) .nil) (fun w hw => (Sat.less (.drop .here .refl) hw)) ?_
        exact ⟨rfl, rfl⟩
       ·replace H := bifF H h6
        refine at_false (t := e3_127) (x := C3 [1,1,1,1,1,1,1,1,0,1,1,0]) (y := C3 [1,1,1,1,1,1,1,1,0,1,1,1]) (o := .tmp 127) (by kernel_rfl) (by kernel_rfl) (by kernel_rfl) h6 ?_
        refine at_skip (by kernel_rfl) ?_
        refine at_then_normal ?_
        refine aq (x := C3 [1,1,1,1,1,1,1,1,1,0]) (y := C3 [1,1,1,1,1,1,1,1,1,1]) ?_
        refine ar (id := 21) 12 ?_
        refine sp 129 (.pointer (some ⟨b2_1, 0, none⟩)) ?_
        refine sp 130 (.int .i64 y5_3) ?_
        refine sp 131 (.agg #[.int .i64 (2), .int .i64 y5_3, .int .i64 (0), .int .i64 (0), .int .i64 (0), .int .i64 (-1), .int .i64 (0), .bool false, .slice none 0 0]) ?_
        obtain ⟨y21_3, hy21_3, H⟩ := bindE H
        refine s_call 132 10 #[.pointer (some ⟨b2_1, 0, none⟩), .agg #[.int .i64 (2), .int .i64 y5_3, .int .i64 (0), .int .i64 (0), .int .i64 (0), .int .i64 (-1), .int .i64 (0), .bool false, .slice none 0 0]] (by kernel_rfl) (by kernel_rfl) (fun _ => by kernel_rfl) (HHandleF_tr b2_1 y18_4.2.2.2 none 0 (⟨2, y5_3, 0, 0, 0, (-1), 0, false, ([] : List Int)⟩ : PktS) Reads.nil y21_3 hy21_3) ?_
        rintro _ _ ⟨a21_3_00, c21_3_00, rfl, rfl⟩
        refine sp 128 (.tuple #[.agg #[.int .i64 y21_3.1.kind, .int .i64 y21_3.1.src, .int .i64 y21_3.1.dst, .int .i64 y21_3.1.id, .int .i64 y21_3.1.line, .int .i64 y21_3.1.ptr, .int .i64 y21_3.1.state, .bool y21_3.1.flag, .slice a21_3_00 (List.length y21_3.1.data) c21_3_00], .bool y21_3.2.1, .int .i64 y21_3.2.2.1]) ?_
        refine sp 133 (.agg #[.int .i64 y21_3.1.kind, .int .i64 y21_3.1.src, .int .i64 y21_3.1.dst, .int .i64 y21_3.1.id, .int .i64 y21_3.1.line, .int .i64 y21_3.1.ptr, .int .i64 y21_3.1.state, .bool y21_3.1.flag, .slice a21_3_00 (List.length y21_3.1.data) c21_3_00]) ?_
        refine sp 134 (.bool y21_3.2.1) ?_
        refine sp 135 (.int .i64 y21_3.2.2.1) ?_
        refine s_step 18 (by kernel_rfl) (by kernel_rfl) (st_new (T := 32) (cells := #[.int .i64 (0), .int .i64 (0), .int .i64 (0), .int .i64 (0), .int .i64 (0), .int .i64 (0), .int .i64 (0), .bool false, .slice none 0 0]) (fun a => .pointer (some a)) (fun _ => by kernel_rfl)) ?_
        rintro _ _ ⟨b21_8, rfl, rfl⟩
        refine s_do (by kernel_rfl) (by kernel_rfl) (st_store (off := 0) (vs := [.int .i64 y21_3.1.kind, .int .i64 y21_3.1.src, .int .i64 y21_3.1.dst, .int .i64 y21_3.1.id, .int .i64 y21_3.1.line, .int .i64 y21_3.1.ptr, .int .i64 y21_3.1.state, .bool y21_3.1.flag, .slice a21_3_00 (List.length y21_3.1.data) c21_3_00]) (c' := #[.int .i64 y21_3.1.kind, .int .i64 y21_3.1.src, .int .i64 y21_3.1.dst, .int .i64 y21_3.1.id, .int .i64 y21_3.1.line, .int .i64 y21_3.1.ptr, .int .i64 y21_3.1.state, .bool y21_3.1.flag, .slice a21_3_00 (List.length y21_3.1.data) c21_3_00]) (fun _ => by kernel_rfl) .here (by kernel_rfl) (by kernel_rfl) (by kernel_rfl)) ?_
        rintro _ _ ⟨rfl, rfl⟩
        refine sp 19 (.bool y21_3.2.1) ?_
        refine sp 20 (.int .i64 y21_3.2.2.1) ?_
        refine ops_end ?_
        refine ae [(6, .pointer (some ⟨b2_1, 0, none⟩)), (19, .bool y21_3.2.1), (20, .int .i64 y21_3.2.2.1)] ?_
        refine at_then_normal ?_
        refine aq (x := C3 [1,1,1,1,1,1,1,1,1,1,0]) (y := C3 [1,1,1,1,1,1,1,1,1,1,1]) ?_
        refine ar (id := 22) 17 ?_
        refine sp 136 (.bool y21_3.2.1) ?_
        rcases Bool.eq_false_or_eq_true (y21_3.2.1) with h7 | h7
        ·replace H := bifT H h7
         refine sr 137 (.bool true) (run_eq (v := .bool (y21_3.2.1)) (fun _ => by kernel_rfl) (congrArg Value.bool h7)) ?_
         refine sp 138 (.int .i64 y21_3.2.2.1) ?_
         refine sp 139 (.bool (decide (y21_3.2.2.1 = (0 : Int)))) ?_
         refine sp 140 (.bool (decide (y21_3.2.2.1 = (0 : Int)))) ?_
         rcases Bool.eq_false_or_eq_true (decide (y21_3.2.2.1 = (0 : Int))) with h8 | h8
         ·replace H := bifT H h8
          refine sr 141 (.bool true) (run_eq (v := .bool (decide (y21_3.2.2.1 = (0 : Int)))) (fun _ => by kernel_rfl) (congrArg Value.bool h8)) ?_
          refine sp 142 (.pointer (some ⟨b2_1, 0, none⟩)) ?_
          refine sp 143 (.pointer (some ⟨b2_1, 0, none⟩)) ?_
          refine sp 144 (.pointer (some ⟨b2_1, 1, none⟩)) ?_
          refine HomeA.tox (.there (.there .here)) ?_
          intro x22_9_b2_1
          refine HomeXA.open .here ?_
          refine sl 145 (.pointer (some ⟨x22_9_b2_1.b1, 0, none⟩)) (load1 (off := 1) (fun _ => by kernel_rfl) (holds_own .here) (by kernel_rfl)) ?_
          obtain ⟨y22_10, hy22_10, H⟩ := bindE H
          refine s_call 146 11 #[.pointer (some ⟨x22_9_b2_1.b1, 0, none⟩), .int .i64 (0)] (by kernel_rfl) (by kernel_rfl) (fun _ => by kernel_rfl) (Tr.conv (Γ' := (TurnsA x22_9_b2_1.b1 y21_3.2.2.2.turns) :: (Asn.own b2_1 (.cells #[.pointer (some ⟨x22_9_b2_1.b0, 0, none⟩), .pointer (some ⟨x22_9_b2_1.b1, 0, none⟩), .int .i64 y21_3.2.2.2.c.nodes, .int .i64 y21_3.2.2.2.c.lines, .int .i64 y21_3.2.2.2.c.words, .int .i64 y21_3.2.2.2.c.sets, .int .i64 y21_3.2.2.2.c.ways, .int .i64 y21_3.2.2.2.c.out, .int .i64 y21_3.2.2.2.c.inn, .slice x22_9_b2_1.a9 (List.length y21_3.2.2.2.c.init) x22_9_b2_1.c9, .int .i64 y21_3.2.2.2.node] x22_9_b2_1.T (0, 0))) :: (DirA x22_9_b2_1.b0 y21_3.2.2.2.dir) :: (ImmI x22_9_b2_1.a9 y21_3.2.2.2.c.init) :: (Asn.own b21_8 (.cells #[.int .i64 y21_3.1.kind, .int .i64 y21_3.1.src, .int .i64 y21_3.1.dst, .int .i64 y21_3.1.id, .int .i64 y21_3.1.line, .int .i64 y21_3.1.ptr, .int .i64 y21_3.1.state, .bool y21_3.1.flag, .slice a21_3_00 (List.length y21_3.1.data) c21_3_00] 32 (0, 0))) :: (IntsA a21_3_00 c21_3_00 y21_3.1.data) :: Γ) (fun w hw => (Sat.less (.take (.there (.there .here)) (.take .here (.take .here (.take .here (.take .here (.take .here .refl)))))) hw)) (TOwnerF_tr x22_9_b2_1.b1 y21_3.2.2.2.turns (0 : Int) y22_10 hy22_10)) ?_
          rintro _ _ ⟨rfl, rfl⟩
          refine sp 147 (.bool (decide (y22_10 = ((-1) : Int)))) ?_
          refine sp 148 (.bool (decide (y22_10 = ((-1) : Int)))) ?_
          rcases Bool.eq_false_or_eq_true (decide (y22_10 = ((-1) : Int))) with h9 | h9
          ·replace H := bifT H h9
           refine sr 149 (.bool true) (run_eq (v := .bool (decide (y22_10 = ((-1) : Int)))) (fun _ => by kernel_rfl) (congrArg Value.bool h9)) ?_
           obtain ⟨y22_14, hy22_14, H⟩ := bindE H
           refine s_call 150 14 #[] (by kernel_rfl) (by kernel_rfl) (fun _ => by kernel_rfl) (W11F_tr  y22_14 hy22_14) ?_
           rintro _ _ ⟨rfl, rfl⟩
           refine sp 151 (.bool y22_14) ?_
           refine sp 4 (.bool y22_14) ?_
           refine ops_end ?_
           refine ae [(4, .bool y22_14)] ?_
           refine at_then_normal ?_
           refine at_ret (by kernel_rfl) ?_
           refine At.conv (Γ' := (HomeXA b2_1 x22_9_b2_1 y21_3.2.2.2) :: (ImmI x22_9_b2_1.a9 y21_3.2.2.2.c.init) :: (Asn.own b21_8 (.cells #[.int .i64 y21_3.1.kind, .int .i64 y21_3.1.src, .int .i64 y21_3.1.dst, .int .i64 y21_3.1.id, .int .i64 y21_3.1.line, .int .i64 y21_3.1.ptr, .int .i64 y21_3.1.state, .bool y21_3.1.flag, .slice a21_3_00 (List.length y21_3.1.data) c21_3_00] 32 (0, 0))) :: (IntsA a21_3_00 c21_3_00 y21_3.1.data) :: Γ) (fun w hw => HomeXA.close (x := x22_9_b2_1) (t := y21_3.2.2.2) (Sat.less (.take (.there (.there (.there .here))) (.take (.there (.there (.there .here))) (.take (.there (.there .here)) (.take .here (.take .here (.take .here (.take .here .refl))))))) (ImmR.dup (Sat.less (.take (.there (.there (.there .here))) (.take .here (.take .here (.take .here (.take .here (.take .here .refl)))))) hw)))) ?_
           refine At.conv (Γ' := (HomeA b2_1 y21_3.2.2.2) :: (ImmI x22_9_b2_1.a9 y21_3.2.2.2.c.init) :: (Asn.own b21_8 (.cells #[.int .i64 y21_3.1.kind, .int .i64 y21_3.1.src, .int .i64 y21_3.1.dst, .int .i64 y21_3.1.id, .int .i64 y21_3.1.line, .int .i64 y21_3.1.ptr, .int .i64 y21_3.1.state, .bool y21_3.1.flag, .slice a21_3_00 (List.length y21_3.1.data) c21_3_00] 32 (0, 0))) :: (IntsA a21_3_00 c21_3_00 y21_3.1.data) :: Γ) (fun w hw => HomeXA.shut (hw.pull .here)) ?_
           obtain rfl := someE H
           refine at_backR [.bool y22_14] (Γ) (rs := [.tmp 4]) (by kernel_rfl) (.cons (.tmp (by kernel_rfl)) .nil) (fun w hw => (Sat.less (.drop .here (.drop .here (.drop .here (.drop .here .refl)))) hw)) ?_
           exact ⟨rfl, rfl⟩
          ·replace H := bifF H h9
           refine sr 149 (.bool false) (run_eq (v := .bool (decide (y22_10 = ((-1) : Int)))) (fun _ => by kernel_rfl) (congrArg Value.bool h9)) ?_
           refine sa 150 ?_
           refine sp 151 (.bool false) ?_
           refine sp 4 (.bool false) ?_
           refine ops_end ?_
           refine ae [(4, .bool false)] ?_
           refine at_then_normal ?_
           refine at_ret (by kernel_rfl) ?_
           refine At.conv (Γ' := (HomeXA b2_1 x22_9_b2_1 y21_3.2.2.2) :: (ImmI x22_9_b2_1.a9 y21_3.2.2.2.c.init) :: (Asn.own b21_8 (.cells #[.int .i64 y21_3.1.kind, .int .i64 y21_3.1.src, .int .i64 y21_3.1.dst, .int .i64 y21_3.1.id, .int .i64 y21_3.1.line, .int .i64 y21_3.1.ptr, .int .i64 y21_3.1.state, .bool y21_3.1.flag, .slice a21_3_00 (List.length y21_3.1.data) c21_3_00] 32 (0, 0))) :: (IntsA a21_3_00 c21_3_00 y21_3.1.data) :: Γ) (fun w hw => HomeXA.close (x := x22_9_b2_1) (t := y21_3.2.2.2) (Sat.less (.take (.there (.there (.there .here))) (.take (.there (.there (.there .here))) (.take (.there (.there .here)) (.take .here (.take .here (.take .here (.take .here .refl))))))) (ImmR.dup (Sat.less (.take (.there (.there (.there .here))) (.take .here (.take .here (.take .here (.take .here (.take .here .refl)))))) hw)))) ?_
           refine At.conv (Γ' := (HomeA b2_1 y21_3.2.2.2) :: (ImmI x22_9_b2_1.a9 y21_3.2.2.2.c.init) :: (Asn.own b21_8 (.cells #[.int .i64 y21_3.1.kind, .int .i64 y21_3.1.src, .int .i64 y21_3.1.dst, .int .i64 y21_3.1.id, .int .i64 y21_3.1.line, .int .i64 y21_3.1.ptr, .int .i64 y21_3.1.state, .bool y21_3.1.flag, .slice a21_3_00 (List.length y21_3.1.data) c21_3_00] 32 (0, 0))) :: (IntsA a21_3_00 c21_3_00 y21_3.1.data) :: Γ) (fun w hw => HomeXA.shut (hw.pull .here)) ?_
           obtain rfl := someE H
           refine at_backR [.bool false] (Γ) (rs := [.tmp 4]) (by kernel_rfl) (.cons (.tmp (by kernel_rfl)) .nil) (fun w hw => (Sat.less (.drop .here (.drop .here (.drop .here (.drop .here .refl)))) hw)) ?_
           exact ⟨rfl, rfl⟩
         ·replace H := bifF H h8
          refine sr 141 (.bool false) (run_eq (v := .bool (decide (y21_3.2.2.1 = (0 : Int)))) (fun _ => by kernel_rfl) (congrArg Value.bool h8)) ?_
          refine sa 142 ?_
          refine sa 143 ?_
          refine sa 144 ?_
          refine sa 145 ?_
          refine sa 146 ?_
          refine sa 147 ?_
          refine sp 148 (.bool false) ?_
          refine sp 149 (.bool false) ?_
          refine sa 150 ?_
          refine sp 151 (.bool false) ?_
          refine sp 4 (.bool false) ?_
          refine ops_end ?_
          refine ae [(4, .bool false)] ?_
          refine at_then_normal ?_
          refine at_ret (by kernel_rfl) ?_
          obtain rfl := someE H
          refine at_backR [.bool false] (Γ) (rs := [.tmp 4]) (by kernel_rfl) (.cons (.tmp (by kernel_rfl)) .nil) (fun w hw => (Sat.less (.drop .here (.drop .here (.drop .here .refl))) hw)) ?_
          exact ⟨rfl, rfl⟩
        ·replace H := bifF H h7
         refine sr 137 (.bool false) (run_eq (v := .bool (y21_3.2.1)) (fun _ => by kernel_rfl) (congrArg Value.bool h7)) ?_
         refine sa 138 ?_
         refine sa 139 ?_
         refine sp 140 (.bool false) ?_
         refine sp 141 (.bool false) ?_
         refine sa 142 ?_
         refine sa 143 ?_
         refine sa 144 ?_
         refine sa 145 ?_
         refine sa 146 ?_
         refine sa 147 ?_
         refine sp 148 (.bool false) ?_
         refine sp 149 (.bool false) ?_
         refine sa 150 ?_
         refine sp 151 (.bool false) ?_
         refine sp 4 (.bool false) ?_
         refine ops_end ?_
         refine ae [(4, .bool false)] ?_
         refine at_then_normal ?_
         refine at_ret (by kernel_rfl) ?_
         obtain rfl := someE H
         refine at_backR [.bool false] (Γ) (rs := [.tmp 4]) (by kernel_rfl) (.cons (.tmp (by kernel_rfl)) .nil) (fun w hw => (Sat.less (.drop .here (.drop .here (.drop .here .refl))) hw)) ?_
         exact ⟨rfl, rfl⟩
      ·refine ar (id := 19) 14 ?_
       refine sp 114 (.bool y18_4.2.1) ?_
       rcases Bool.eq_false_or_eq_true (y18_4.2.1) with h10 | h10
       ·replace H := bifT H h10
        refine sr 115 (.bool true) (run_eq (v := .bool (y18_4.2.1)) (fun _ => by kernel_rfl) (congrArg Value.bool h10)) ?_
        refine sa 116 ?_
        refine sa 117 ?_
        refine sp 118 (.bool true) ?_
        refine sp 119 (.bool true) ?_
        refine sa 120 ?_
        refine sa 121 ?_
        refine sa 122 ?_
        refine sa 123 ?_
        refine sa 124 ?_
        refine sa 125 ?_
        refine sa 126 ?_
        refine sp 127 (.bool true) ?_
        refine ops_end ?_
        refine ae [(1, .int .i64 y5_3), (6, .pointer (some ⟨b2_1, 0, none⟩)), (127, .bool true)] ?_
        refine at_round_normal ?_
        exact at_join_mk [(1, .int .i64 y5_3), (6, .pointer (some ⟨b2_1, 0, none⟩)), (127, .bool true)] ((HomeA b2_1 y18_4.2.2.2) :: Γ) ⟨by kernel_rfl, by kernel_rfl, by kernel_rfl, trivial⟩ (fun w hw => (Sat.less (.take (.there (.there .here)) (.drop .here (.drop .here .refl))) hw)) ⟨true, H, rfl, rfl⟩
       ·replace H := bifF H h10
        refine sr 115 (.bool false) (run_eq (v := .bool (y18_4.2.1)) (fun _ => by kernel_rfl) (congrArg Value.bool h10)) ?_
        refine sp 116 (.int .i64 y18_4.2.2.1) ?_
        refine sp 117 (.bool (!(decide (y18_4.2.2.1 = (1 : Int))))) ?_
        refine sp 118 (.bool (!(decide (y18_4.2.2.1 = (1 : Int))))) ?_
        rcases Bool.eq_false_or_eq_true (!(decide (y18_4.2.2.1 = (1 : Int)))) with h11 | h11
        ·replace H := bifT H h11
         refine sr 119 (.bool true) (run_eq (v := .bool (!(decide (y18_4.2.2.1 = (1 : Int))))) (fun _ => by kernel_rfl) (congrArg Value.bool h11)) ?_
         refine sa 120 ?_
         refine sa 121 ?_
         refine sa 122 ?_
         refine sa 123 ?_
         refine sa 124 ?_
         refine sa 125 ?_
         refine sa 126 ?_
         refine sp 127 (.bool true) ?_
         refine ops_end ?_
         refine ae [(1, .int .i64 y5_3), (6, .pointer (some ⟨b2_1, 0, none⟩)), (127, .bool true)] ?_
         refine at_round_normal ?_
         exact at_join_mk [(1, .int .i64 y5_3), (6, .pointer (some ⟨b2_1, 0, none⟩)), (127, .bool true)] ((HomeA b2_1 y18_4.2.2.2) :: Γ) ⟨by kernel_rfl, by kernel_rfl, by kernel_rfl, trivial⟩ (fun w hw => (Sat.less (.take (.there (.there .here)) (.drop .here (.drop .here .refl))) hw)) ⟨true, H, rfl, rfl⟩
        ·replace H := bifF H h11
         refine sr 119 (.bool false) (run_eq (v := .bool (!(decide (y18_4.2.2.1 = (1 : Int))))) (fun _ => by kernel_rfl) (congrArg Value.bool h11)) ?_
         refine sp 120 (.pointer (some ⟨b2_1, 0, none⟩)) ?_
         refine sp 121 (.pointer (some ⟨b2_1, 0, none⟩)) ?_
         refine sp 122 (.pointer (some ⟨b2_1, 1, none⟩)) ?_
         refine HomeA.tox (.there (.there .here)) ?_
         intro x19_9_b2_1
         refine HomeXA.open .here ?_
         refine sl 123 (.pointer (some ⟨x19_9_b2_1.b1, 0, none⟩)) (load1 (off := 1) (fun _ => by kernel_rfl) (holds_own .here) (by kernel_rfl)) ?_
         obtain ⟨y19_10, hy19_10, H⟩ := bindE H
         refine s_call 124 11 #[.pointer (some ⟨x19_9_b2_1.b1, 0, none⟩), .int .i64 (0)] (by kernel_rfl) (by kernel_rfl) (fun _ => by kernel_rfl) (Tr.conv (Γ' := (TurnsA x19_9_b2_1.b1 y18_4.2.2.2.turns) :: (Asn.own b2_1 (.cells #[.pointer (some ⟨x19_9_b2_1.b0, 0, none⟩), .pointer (some ⟨x19_9_b2_1.b1, 0, none⟩), .int .i64 y18_4.2.2.2.c.nodes, .int .i64 y18_4.2.2.2.c.lines, .int .i64 y18_4.2.2.2.c.words, .int .i64 y18_4.2.2.2.c.sets, .int .i64 y18_4.2.2.2.c.ways, .int .i64 y18_4.2.2.2.c.out, .int .i64 y18_4.2.2.2.c.inn, .slice x19_9_b2_1.a9 (List.length y18_4.2.2.2.c.init) x19_9_b2_1.c9, .int .i64 y18_4.2.2.2.node] x19_9_b2_1.T (0, 0))) :: (DirA x19_9_b2_1.b0 y18_4.2.2.2.dir) :: (ImmI x19_9_b2_1.a9 y18_4.2.2.2.c.init) :: (Asn.own b18_9 (.cells #[.int .i64 y18_4.1.kind, .int .i64 y18_4.1.src, .int .i64 y18_4.1.dst, .int .i64 y18_4.1.id, .int .i64 y18_4.1.line, .int .i64 y18_4.1.ptr, .int .i64 y18_4.1.state, .bool y18_4.1.flag, .slice a18_4_00 (List.length y18_4.1.data) c18_4_00] 32 (0, 0))) :: (IntsA a18_4_00 c18_4_00 y18_4.1.data) :: Γ) (fun w hw => (Sat.less (.take (.there (.there .here)) (.take .here (.take .here (.take .here (.take .here (.take .here .refl)))))) hw)) (TOwnerF_tr x19_9_b2_1.b1 y18_4.2.2.2.turns (0 : Int) y19_10 hy19_10)) ?_
         rintro _ _ ⟨rfl, rfl⟩
         refine sp 125 (.int .i64 y5_3) ?_
         refine sp 126 (.bool (!(decide (y19_10 = y5_3)))) ?_
         refine sp 127 (.bool (!(decide (y19_10 = y5_3)))) ?_
         refine ops_end ?_
         refine ae [(1, .int .i64 y5_3), (6, .pointer (some ⟨b2_1, 0, none⟩)), (127, .bool (!(decide (y19_10 = y5_3))))] ?_
         refine at_round_normal ?_
         refine At.conv (Γ' := (HomeXA b2_1 x19_9_b2_1 y18_4.2.2.2) :: (ImmI x19_9_b2_1.a9 y18_4.2.2.2.c.init) :: (Asn.own b18_9 (.cells #[.int .i64 y18_4.1.kind, .int .i64 y18_4.1.src, .int .i64 y18_4.1.dst, .int .i64 y18_4.1.id, .int .i64 y18_4.1.line, .int .i64 y18_4.1.ptr, .int .i64 y18_4.1.state, .bool y18_4.1.flag, .slice a18_4_00 (List.length y18_4.1.data) c18_4_00] 32 (0, 0))) :: (IntsA a18_4_00 c18_4_00 y18_4.1.data) :: Γ) (fun w hw => HomeXA.close (x := x19_9_b2_1) (t := y18_4.2.2.2) (Sat.less (.take (.there (.there (.there .here))) (.take (.there (.there (.there .here))) (.take (.there (.there .here)) (.take .here (.take .here (.take .here (.take .here .refl))))))) (ImmR.dup (Sat.less (.take (.there (.there (.there .here))) (.take .here (.take .here (.take .here (.take .here (.take .here .refl)))))) hw)))) ?_
         refine At.conv (Γ' := (HomeA b2_1 y18_4.2.2.2) :: (ImmI x19_9_b2_1.a9 y18_4.2.2.2.c.init) :: (Asn.own b18_9 (.cells #[.int .i64 y18_4.1.kind, .int .i64 y18_4.1.src, .int .i64 y18_4.1.dst, .int .i64 y18_4.1.id, .int .i64 y18_4.1.line, .int .i64 y18_4.1.ptr, .int .i64 y18_4.1.state, .bool y18_4.1.flag, .slice a18_4_00 (List.length y18_4.1.data) c18_4_00] 32 (0, 0))) :: (IntsA a18_4_00 c18_4_00 y18_4.1.data) :: Γ) (fun w hw => HomeXA.shut (hw.pull .here)) ?_
         exact at_join_mk [(1, .int .i64 y5_3), (6, .pointer (some ⟨b2_1, 0, none⟩)), (127, .bool (!(decide (y19_10 = y5_3))))] ((HomeA b2_1 y18_4.2.2.2) :: Γ) ⟨by kernel_rfl, by kernel_rfl, by kernel_rfl, trivial⟩ (fun w hw => (Sat.less (.take .here (.drop .here (.drop .here (.drop .here .refl)))) hw)) ⟨!(decide (y19_10 = y5_3)), H, rfl, rfl⟩
    ·refine ar (id := 16) 6 ?_
     refine sp 99 (.bool y15_3.2.1) ?_
     refine sp 100 (.bool !y15_3.2.1) ?_
     rcases Bool.eq_false_or_eq_true (!y15_3.2.1) with h12 | h12
     ·replace H := bifT H h12
      refine sr 101 (.bool true) (run_eq (v := .bool (!y15_3.2.1)) (fun _ => by kernel_rfl) (congrArg Value.bool h12)) ?_
      refine sa 102 ?_
      refine sa 103 ?_
      refine sp 104 (.bool true) ?_
      refine ops_end ?_
      refine ae [(1, .int .i64 y5_3), (6, .pointer (some ⟨b2_1, 0, none⟩)), (104, .bool true)] ?_
      refine at_round_normal ?_
      exact at_join_mk [(1, .int .i64 y5_3), (6, .pointer (some ⟨b2_1, 0, none⟩)), (104, .bool true)] ((HomeA b2_1 y15_3.2.2.2) :: Γ) ⟨by kernel_rfl, by kernel_rfl, by kernel_rfl, trivial⟩ (fun w hw => (Sat.less (.take (.there (.there .here)) (.drop .here (.drop .here .refl))) hw)) ⟨true, H, rfl, rfl⟩
     ·replace H := bifF H h12
      refine sr 101 (.bool false) (run_eq (v := .bool (!y15_3.2.1)) (fun _ => by kernel_rfl) (congrArg Value.bool h12)) ?_
      refine sp 102 (.int .i64 y15_3.2.2.1) ?_
      refine sp 103 (.bool (!(decide (y15_3.2.2.1 = (0 : Int))))) ?_
      refine sp 104 (.bool (!(decide (y15_3.2.2.1 = (0 : Int))))) ?_
      refine ops_end ?_
      refine ae [(1, .int .i64 y5_3), (6, .pointer (some ⟨b2_1, 0, none⟩)), (104, .bool (!(decide (y15_3.2.2.1 = (0 : Int)))))] ?_
      refine at_round_normal ?_
      exact at_join_mk [(1, .int .i64 y5_3), (6, .pointer (some ⟨b2_1, 0, none⟩)), (104, .bool (!(decide (y15_3.2.2.1 = (0 : Int)))))] ((HomeA b2_1 y15_3.2.2.2) :: Γ) ⟨by kernel_rfl, by kernel_rfl, by kernel_rfl, trivial⟩ (fun w hw => (Sat.less (.take (.there (.there .here)) (.drop .here (.drop .here .refl))) hw)) ⟨!(decide (y15_3.2.2.1 = (0 : Int))), H, rfl, rfl⟩
  ·refine ar (id := 13) 18 ?_
   refine sp 73 (.pointer (some ⟨b2_1, 0, none⟩)) ?_
   refine sp 74 (.pointer (some ⟨b2_1, 0, none⟩)) ?_
   refine sp 75 (.pointer (some ⟨b2_1, 1, none⟩)) ?_
   refine HomeA.tox (.there .here) ?_
   intro x13_3_b2_1
   refine HomeXA.open .here ?_
   refine sl 76 (.pointer (some ⟨x13_3_b2_1.b1, 0, none⟩)) (load1 (off := 1) (fun _ => by kernel_rfl) (holds_own .here) (by kernel_rfl)) ?_
   obtain ⟨y13_4, hy13_4, H⟩ := bindE H
   refine s_call 77 11 #[.pointer (some ⟨x13_3_b2_1.b1, 0, none⟩), .int .i64 (0)] (by kernel_rfl) (by kernel_rfl) (fun _ => by kernel_rfl) (Tr.conv (Γ' := (TurnsA x13_3_b2_1.b1 v0_b2_1.turns) :: (Asn.own b2_1 (.cells #[.pointer (some ⟨x13_3_b2_1.b0, 0, none⟩), .pointer (some ⟨x13_3_b2_1.b1, 0, none⟩), .int .i64 v0_b2_1.c.nodes, .int .i64 v0_b2_1.c.lines, .int .i64 v0_b2_1.c.words, .int .i64 v0_b2_1.c.sets, .int .i64 v0_b2_1.c.ways, .int .i64 v0_b2_1.c.out, .int .i64 v0_b2_1.c.inn, .slice x13_3_b2_1.a9 (List.length v0_b2_1.c.init) x13_3_b2_1.c9, .int .i64 v0_b2_1.node] x13_3_b2_1.T (0, 0))) :: (DirA x13_3_b2_1.b0 v0_b2_1.dir) :: (ImmI x13_3_b2_1.a9 v0_b2_1.c.init) :: (RecsX (α := HeE) rw6_20 (some ⟨b6_20, 0, none⟩) 8 l6_20) :: Γ) (fun w hw => (Sat.less (.take (.there (.there .here)) (.take .here (.take .here (.take .here (.take .here .refl))))) hw)) (TOwnerF_tr x13_3_b2_1.b1 v0_b2_1.turns (0 : Int) y13_4 hy13_4)) ?_
   rintro _ _ ⟨rfl, rfl⟩
   refine sp 78 (.bool (!(decide (y13_4 = ((-1) : Int))))) ?_
   rcases Bool.eq_false_or_eq_true (!(decide (y13_4 = ((-1) : Int)))) with h13 | h13
   ·replace H := bifT H h13
    refine sr 79 (.bool true) (run_eq (v := .bool (!(decide (y13_4 = ((-1) : Int))))) (fun _ => by kernel_rfl) (congrArg Value.bool h13)) ?_
    refine sa 80 ?_
    refine sa 81 ?_
    refine sa 82 ?_
    refine sa 83 ?_
    refine sa 84 ?_
    refine sa 85 ?_
    refine sp 86 (.bool true) ?_
    refine sp 87 (.bool true) ?_
    refine sa 88 ?_
    refine sa 89 ?_
    refine sp 90 (.bool true) ?_
    refine ops_end ?_
    refine ae [(1, .int .i64 y5_3), (6, .pointer (some ⟨b2_1, 0, none⟩)), (90, .bool true)] ?_
    refine at_round_normal ?_
    refine At.conv (Γ' := (HomeXA b2_1 x13_3_b2_1 v0_b2_1) :: (ImmI x13_3_b2_1.a9 v0_b2_1.c.init) :: (RecsX (α := HeE) rw6_20 (some ⟨b6_20, 0, none⟩) 8 l6_20) :: Γ) (fun w hw => HomeXA.close (x := x13_3_b2_1) (t := v0_b2_1) (Sat.less (.take (.there (.there (.there .here))) (.take (.there (.there (.there .here))) (.take (.there (.there .here)) (.take .here (.take .here (.take .here .refl)))))) (ImmR.dup (Sat.less (.take (.there (.there (.there .here))) (.take .here (.take .here (.take .here (.take .here .refl))))) hw)))) ?_
    refine At.conv (Γ' := (HomeA b2_1 v0_b2_1) :: (ImmI x13_3_b2_1.a9 v0_b2_1.c.init) :: (RecsX (α := HeE) rw6_20 (some ⟨b6_20, 0, none⟩) 8 l6_20) :: Γ) (fun w hw => HomeXA.shut (hw.pull .here)) ?_
    exact at_join_mk [(1, .int .i64 y5_3), (6, .pointer (some ⟨b2_1, 0, none⟩)), (90, .bool true)] ((HomeA b2_1 v0_b2_1) :: Γ) ⟨by kernel_rfl, by kernel_rfl, by kernel_rfl, trivial⟩ (fun w hw => (Sat.less (.take .here (.drop .here (.drop .here .refl))) hw)) ⟨true, H, rfl, rfl⟩
   ·replace H := bifF H h13
    refine sr 79 (.bool false) (run_eq (v := .bool (!(decide (y13_4 = ((-1) : Int))))) (fun _ => by kernel_rfl) (congrArg Value.bool h13)) ?_
    refine sp 80 (.pointer (some ⟨b2_1, 0, none⟩)) ?_
    refine sp 81 (.pointer (some ⟨b2_1, 0, none⟩)) ?_
    refine sp 82 (.pointer (some ⟨b2_1, 1, none⟩)) ?_
    refine sl 83 (.pointer (some ⟨x13_3_b2_1.b1, 0, none⟩)) (load1 (off := 1) (fun _ => by kernel_rfl) (holds_own (.there .here)) (by kernel_rfl)) ?_
    obtain ⟨y13_11, hy13_11, H⟩ := bindE H
    refine s_call 84 12 #[.pointer (some ⟨x13_3_b2_1.b1, 0, none⟩), .int .i64 (0)] (by kernel_rfl) (by kernel_rfl) (fun _ => by kernel_rfl) (TWaitingF_tr x13_3_b2_1.b1 v0_b2_1.turns (0 : Int) y13_11 hy13_11) ?_
    rintro _ _ ⟨rfl, rfl⟩
    refine sp 85 (.bool (!(decide (y13_11 = (0 : Int))))) ?_
    refine sp 86 (.bool (!(decide (y13_11 = (0 : Int))))) ?_
    rcases Bool.eq_false_or_eq_true (!(decide (y13_11 = (0 : Int)))) with h14 | h14
    ·replace H := bifT H h14
     refine sr 87 (.bool true) (run_eq (v := .bool (!(decide (y13_11 = (0 : Int))))) (fun _ => by kernel_rfl) (congrArg Value.bool h14)) ?_
     refine sa 88 ?_
     refine sa 89 ?_
     refine sp 90 (.bool true) ?_
     refine ops_end ?_
     refine ae [(1, .int .i64 y5_3), (6, .pointer (some ⟨b2_1, 0, none⟩)), (90, .bool true)] ?_
     refine at_round_normal ?_
     refine At.conv (Γ' := (HomeXA b2_1 x13_3_b2_1 v0_b2_1) :: (ImmI x13_3_b2_1.a9 v0_b2_1.c.init) :: (RecsX (α := HeE) rw6_20 (some ⟨b6_20, 0, none⟩) 8 l6_20) :: Γ) (fun w hw => HomeXA.close (x := x13_3_b2_1) (t := v0_b2_1) (Sat.less (.take (.there (.there (.there .here))) (.take (.there (.there (.there .here))) (.take (.there (.there .here)) (.take .here (.take .here (.take .here .refl)))))) (ImmR.dup (Sat.less (.take (.there (.there (.there .here))) (.take .here (.take .here (.take .here (.take .here .refl))))) hw)))) ?_
     refine At.conv (Γ' := (HomeA b2_1 v0_b2_1) :: (ImmI x13_3_b2_1.a9 v0_b2_1.c.init) :: (RecsX (α := HeE) rw6_20 (some ⟨b6_20, 0, none⟩) 8 l6_20) :: Γ) (fun w hw => HomeXA.shut (hw.pull .here)) ?_
     exact at_join_mk [(1, .int .i64 y5_3), (6, .pointer (some ⟨b2_1, 0, none⟩)), (90, .bool true)] ((HomeA b2_1 v0_b2_1) :: Γ) ⟨by kernel_rfl, by kernel_rfl, by kernel_rfl, trivial⟩ (fun w hw => (Sat.less (.take .here (.drop .here (.drop .here .refl))) hw)) ⟨true, H, rfl, rfl⟩
    ·replace H := bifF H h14
     refine sr 87 (.bool false) (run_eq (v := .bool (!(decide (y13_11 = (0 : Int))))) (fun _ => by kernel_rfl) (congrArg Value.bool h14)) ?_
     refine sp 88 (.pointer (some ⟨b2_1, 0, none⟩)) ?_
     refine At.conv (Γ' := (HomeXA b2_1 x13_3_b2_1 v0_b2_1) :: (ImmI x13_3_b2_1.a9 v0_b2_1.c.init) :: (RecsX (α := HeE) rw6_20 (some ⟨b6_20, 0, none⟩) 8 l6_20) :: Γ) (fun w hw => HomeXA.close (x := x13_3_b2_1) (t := v0_b2_1) (Sat.less (.take (.there (.there (.there .here))) (.take (.there (.there (.there .here))) (.take (.there (.there .here)) (.take .here (.take .here (.take .here .refl)))))) (ImmR.dup (Sat.less (.take (.there (.there (.there .here))) (.take .here (.take .here (.take .here (.take .here .refl))))) hw)))) ?_
     refine At.conv (Γ' := (HomeA b2_1 v0_b2_1) :: (ImmI x13_3_b2_1.a9 v0_b2_1.c.init) :: (RecsX (α := HeE) rw6_20 (some ⟨b6_20, 0, none⟩) 8 l6_20) :: Γ) (fun w hw => HomeXA.shut (hw.pull .here)) ?_
     obtain ⟨y13_16, hy13_16, H⟩ := bindE H
     refine s_call 89 13 #[.pointer (some ⟨b2_1, 0, none⟩)] (by kernel_rfl) (by kernel_rfl) (fun _ => by kernel_rfl) (HPendingF_tr b2_1 v0_b2_1 y13_16 hy13_16) ?_
     rintro _ _ ⟨rfl, rfl⟩
     refine sp 90 (.bool y13_16) ?_
     refine ops_end ?_
     refine ae [(1, .int .i64 y5_3), (6, .pointer (some ⟨b2_1, 0, none⟩)), (90, .bool y13_16)] ?_
     refine at_round_normal ?_
     exact at_join_mk [(1, .int .i64 y5_3), (6, .pointer (some ⟨b2_1, 0, none⟩)), (90, .bool y13_16)] ((HomeA b2_1 v0_b2_1) :: Γ) ⟨by kernel_rfl, by kernel_rfl, by kernel_rfl, trivial⟩ (fun w hw => (Sat.less (.take .here (.drop .here (.drop .here .refl))) hw)) ⟨y13_16, H, rfl, rfl⟩
end Go.Proofs.Ytcigheahollkcaa
