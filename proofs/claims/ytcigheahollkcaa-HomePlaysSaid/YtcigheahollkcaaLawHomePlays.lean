/- The law HomePlays: its walk. -/
import Derived.Test.YtcigheahollkcaaSaA
import Derived.Test.YtcigheahollkcaaBoA
namespace Go.Proofs.Ytcigheahollkcaa
open Go Go.RowKit
set_option linter.unusedVariables false
set_option linter.unusedSimpArgs false
structure ActH where
 do_ : Int
 kind : Int
 src : Int
 dst : Int
 id : Int
 line : Int
 ptr : Int
 state : Int
 flag : Bool
 data : List Int
 how : Int
def actHRow (p : ActH) (a : Option Addr) (c : Nat) : List Value := [iv p.do_, iv p.kind, iv p.src, iv p.dst, iv p.id, iv p.line, iv p.ptr, iv p.state, .bool p.flag, .slice a p.data.length c, iv p.how]
instance recActH : Rec ActH := ⟨11, actHRow, fun p => p.data, ⟨0, 0, 0, 0, 0, 0, 0, 0, false, [], 0⟩, by decide, fun _ _ _ => rfl, fun _ _ _ => rfl, fun x a c a' c' h => by simp [actHRow] at h; exact .inl h.1, fun x a c a' c' h => by simp [actHRow] at h; exact .inl h.2⟩
def wakes11S : Option (Bool) :=
 (hnewS (⟨2, 1, 1, 1, 1, 1, 1, ([] : List Int)⟩ : CfgS) (0 : Int)).bind fun y1_1 => (hhandleS y1_1 (⟨1, 1, 0, 7, 0, 0, 0, false, ([] : List Int)⟩ : PktS)).bind fun y4_2 => (bif y4_2.2.1 then (bif decide (y4_2.2.2.1 = (0 : Int)) then (bif decide (y4_2.1.kind = (7 : Int)) then (bif decide (y4_2.1.state = (0 : Int)) then (bif decide (y4_2.1.dst = (1 : Int)) then (bif decide (y4_2.1.id = (7 : Int)) then (townerS y4_2.2.2.2.turns (0 : Int)).bind fun y5_30 => some (decide (y5_30 = (1 : Int))) else some false) else some false) else some false) else some false) else some false) else some false)
noncomputable def C14 (p : List Nat) : Code := codeAt (bodyOf Try.f14) p
set_option maxRecDepth 100000 in
set_option maxHeartbeats 8000000 in
theorem W11F_tr {W0 : World} {Γ : List Asn}   (y : Bool) (H : wakes11S = some y) : Tr Try.prog 14 #[] W0 (Γ) (fun r Δ => r = .bool y ∧ Δ = Γ) := by
 unfold wakes11S at H
 refine Tr.enter (fn := Try.f14) (c := C14 []) (args := []) 49 Try.func14 kf kf ?_
 refine At.env [] trivial ?_
 refine aq (x := C14 [0]) (y := C14 [1]) ?_
 refine ar (id := 0) 1 ?_
 refine sp 0 (.bool false) ?_
 refine ops_end ?_
 refine At.env [] trivial ?_
 refine at_then_normal ?_
 refine aq (x := C14 [1,0]) (y := C14 [1,1]) ?_
 refine ar (id := 1) 3 ?_
 refine sp 5 (.agg #[iv (2), iv (1), iv (1), iv (1), iv (1), iv (1), iv (1), .slice none 0 0]) ?_
 obtain ⟨y1_1, hy1_1, H⟩ := bindE H
 refine s_call 6 8 #[.agg #[iv (2), iv (1), iv (1), iv (1), iv (1), iv (1), iv (1), .slice none 0 0], iv (0)] kf kf (fun _ => kf) (Tr.conv (Γ' := (ImmI none ([] : List Int)) :: Γ) (fun w hw => (Sat.less (.take .here .refl) (ImmR.nil_mk (k := 1) (a := none) hw))) (HNewF_tr none 0 (⟨2, 1, 1, 1, 1, 1, 1, ([] : List Int)⟩ : CfgS) (0 : Int) (Nat.le_refl _) y1_1 hy1_1)) ?_
 rintro _ _ ⟨b1_1, rfl, rfl⟩
 refine sp 1 (.pointer (some ⟨b1_1, 0, none⟩)) ?_
 refine ops_end ?_
 refine ae [(1, .pointer (some ⟨b1_1, 0, none⟩))] ?_
 refine at_then_normal ?_
 refine aq (x := C14 [1,1,0]) (y := C14 [1,1,1]) ?_
 refine aq (x := C14 [1,1,0,0]) (y := C14 [1,1,0,1]) ?_
 refine ar (id := 2) 2 ?_
 refine sp 7 (.pointer (some ⟨b1_1, 0, none⟩)) ?_
 refine sp 8 (.bool false) ?_
 refine ops_end ?_
 refine ae [(1, .pointer (some ⟨b1_1, 0, none⟩)), (8, .bool false)] ?_
 refine at_then_normal ?_
 refine at_false (t := false) (x := C14 [1,1,0,1,0]) (y := C14 [1,1,0,1,1]) (o := .tmp 8) kf kf kf rfl ?_
 refine at_skip kf ?_
 refine at_then_normal ?_
 refine aq (x := C14 [1,1,1,0]) (y := C14 [1,1,1,1]) ?_
 refine ar (id := 4) 11 ?_
 refine sp 10 (.pointer (some ⟨b1_1, 0, none⟩)) ?_
 refine sp 11 (.agg #[iv (1), iv (1), iv (0), iv (7), iv (0), iv (0), iv (0), .bool false, .slice none 0 0]) ?_
 obtain ⟨y4_2, hy4_2, H⟩ := bindE H
 refine s_call 12 10 #[.pointer (some ⟨b1_1, 0, none⟩), .agg #[iv (1), iv (1), iv (0), iv (7), iv (0), iv (0), iv (0), .bool false, .slice none 0 0]] kf kf (fun _ => kf) (HHandleF_tr b1_1 y1_1 none 0 (⟨1, 1, 0, 7, 0, 0, 0, false, ([] : List Int)⟩ : PktS) Reads.nil y4_2 hy4_2) ?_
 rintro _ _ ⟨a4_2_00, c4_2_00, rfl, rfl⟩
 refine sp 9 (.tuple #[.agg #[iv y4_2.1.kind, iv y4_2.1.src, iv y4_2.1.dst, iv y4_2.1.id, iv y4_2.1.line, iv y4_2.1.ptr, iv y4_2.1.state, .bool y4_2.1.flag, .slice a4_2_00 (List.length y4_2.1.data) c4_2_00], .bool y4_2.2.1, iv y4_2.2.2.1]) ?_
 refine sp 13 (.agg #[iv y4_2.1.kind, iv y4_2.1.src, iv y4_2.1.dst, iv y4_2.1.id, iv y4_2.1.line, iv y4_2.1.ptr, iv y4_2.1.state, .bool y4_2.1.flag, .slice a4_2_00 (List.length y4_2.1.data) c4_2_00]) ?_
 refine sp 14 (.bool y4_2.2.1) ?_
 refine sp 15 (iv y4_2.2.2.1) ?_
 refine s_step 2 kf kf (st_new (T := 32) (cells := #[iv (0), iv (0), iv (0), iv (0), iv (0), iv (0), iv (0), .bool false, .slice none 0 0]) (fun a => .pointer (some a)) (fun _ => kf)) ?_
 rintro _ _ ⟨b4_7, rfl, rfl⟩
 refine s_do kf kf (st_store (off := 0) (vs := [iv y4_2.1.kind, iv y4_2.1.src, iv y4_2.1.dst, iv y4_2.1.id, iv y4_2.1.line, iv y4_2.1.ptr, iv y4_2.1.state, .bool y4_2.1.flag, .slice a4_2_00 (List.length y4_2.1.data) c4_2_00]) (c' := #[iv y4_2.1.kind, iv y4_2.1.src, iv y4_2.1.dst, iv y4_2.1.id, iv y4_2.1.line, iv y4_2.1.ptr, iv y4_2.1.state, .bool y4_2.1.flag, .slice a4_2_00 (List.length y4_2.1.data) c4_2_00]) (fun _ => kf) .here kf kf kf) ?_
 rintro _ _ ⟨rfl, rfl⟩
 refine sp 3 (.bool y4_2.2.1) ?_
 refine sp 4 (iv y4_2.2.2.1) ?_
 refine ops_end ?_
 refine ae [(1, .pointer (some ⟨b1_1, 0, none⟩)), (2, .pointer (some ⟨b4_7, 0, none⟩)), (3, .bool y4_2.2.1), (4, iv y4_2.2.2.1)] ?_
 refine at_then_normal ?_
 refine aq (x := C14 [1,1,1,1,0]) (y := C14 [1,1,1,1,1]) ?_
 refine ar (id := 5) 34 ?_
 refine sp 16 (.bool y4_2.2.1) ?_
 rcases Bool.eq_false_or_eq_true (y4_2.2.1) with h1 | h1
 ·replace H := bifT H h1
  refine sr 17 (.bool true) (run_eq (v := .bool (y4_2.2.1)) (fun _ => kf) (congrArg Value.bool h1)) ?_
  refine sp 18 (iv y4_2.2.2.1) ?_
  refine sp 19 (.bool (decide (y4_2.2.2.1 = (0 : Int)))) ?_
  refine sp 20 (.bool (decide (y4_2.2.2.1 = (0 : Int)))) ?_
  rcases Bool.eq_false_or_eq_true (decide (y4_2.2.2.1 = (0 : Int))) with h2 | h2
  ·replace H := bifT H h2
   refine sr 21 (.bool true) (run_eq (v := .bool (decide (y4_2.2.2.1 = (0 : Int)))) (fun _ => kf) (congrArg Value.bool h2)) ?_
   refine sp 22 (.pointer (some ⟨b4_7, 0, none⟩)) ?_
   refine sl 23 (iv y4_2.1.kind) (load1 (off := 0) (fun _ => kf) (holds_own .here) kf) ?_
   refine sp 24 (.bool (decide (y4_2.1.kind = (7 : Int)))) ?_
   refine sp 25 (.bool (decide (y4_2.1.kind = (7 : Int)))) ?_
   rcases Bool.eq_false_or_eq_true (decide (y4_2.1.kind = (7 : Int))) with h3 | h3
   ·replace H := bifT H h3
    refine sr 26 (.bool true) (run_eq (v := .bool (decide (y4_2.1.kind = (7 : Int)))) (fun _ => kf) (congrArg Value.bool h3)) ?_
    refine sp 27 (.pointer (some ⟨b4_7, 6, none⟩)) ?_
    refine sl 28 (iv y4_2.1.state) (load1 (off := 6) (fun _ => kf) (holds_own .here) kf) ?_
    refine sp 29 (.bool (decide (y4_2.1.state = (0 : Int)))) ?_
    refine sp 30 (.bool (decide (y4_2.1.state = (0 : Int)))) ?_
    rcases Bool.eq_false_or_eq_true (decide (y4_2.1.state = (0 : Int))) with h4 | h4
    ·replace H := bifT H h4
     refine sr 31 (.bool true) (run_eq (v := .bool (decide (y4_2.1.state = (0 : Int)))) (fun _ => kf) (congrArg Value.bool h4)) ?_
     refine sp 32 (.pointer (some ⟨b4_7, 2, none⟩)) ?_
     refine sl 33 (iv y4_2.1.dst) (load1 (off := 2) (fun _ => kf) (holds_own .here) kf) ?_
     refine sp 34 (.bool (decide (y4_2.1.dst = (1 : Int)))) ?_
     refine sp 35 (.bool (decide (y4_2.1.dst = (1 : Int)))) ?_
     rcases Bool.eq_false_or_eq_true (decide (y4_2.1.dst = (1 : Int))) with h5 | h5
     ·replace H := bifT H h5
      refine sr 36 (.bool true) (run_eq (v := .bool (decide (y4_2.1.dst = (1 : Int)))) (fun _ => kf) (congrArg Value.bool h5)) ?_
      refine sp 37 (.pointer (some ⟨b4_7, 3, none⟩)) ?_
      refine sl 38 (iv y4_2.1.id) (load1 (off := 3) (fun _ => kf) (holds_own .here) kf) ?_
      refine sp 39 (.bool (decide (y4_2.1.id = (7 : Int)))) ?_
      refine sp 40 (.bool (decide (y4_2.1.id = (7 : Int)))) ?_
      rcases Bool.eq_false_or_eq_true (decide (y4_2.1.id = (7 : Int))) with h6 | h6
      ·replace H := bifT H h6
       refine sr 41 (.bool true) (run_eq (v := .bool (decide (y4_2.1.id = (7 : Int)))) (fun _ => kf) (congrArg Value.bool h6)) ?_
       refine sp 42 (.pointer (some ⟨b1_1, 0, none⟩)) ?_
       refine sp 43 (.pointer (some ⟨b1_1, 0, none⟩)) ?_
       refine sp 44 (.pointer (some ⟨b1_1, 1, none⟩)) ?_
       refine HomeA.tox (.there (.there .here)) ?_
       intro x5_29_b1_1
       refine HomeXA.open .here ?_
       refine sl 45 (.pointer (some ⟨x5_29_b1_1.b1, 0, none⟩)) (load1 (off := 1) (fun _ => kf) (holds_own .here) kf) ?_
       obtain ⟨y5_30, hy5_30, H⟩ := bindE H
       refine s_call 46 11 #[.pointer (some ⟨x5_29_b1_1.b1, 0, none⟩), iv (0)] kf kf (fun _ => kf) (Tr.conv (Γ' := (TurnsA x5_29_b1_1.b1 y4_2.2.2.2.turns) :: (Asn.own b1_1 (.cells #[.pointer (some ⟨x5_29_b1_1.b0, 0, none⟩), .pointer (some ⟨x5_29_b1_1.b1, 0, none⟩), iv y4_2.2.2.2.c.nodes, iv y4_2.2.2.2.c.lines, iv y4_2.2.2.2.c.words, iv y4_2.2.2.2.c.sets, iv y4_2.2.2.2.c.ways, iv y4_2.2.2.2.c.out, iv y4_2.2.2.2.c.inn, .slice x5_29_b1_1.a9 (List.length y4_2.2.2.2.c.init) x5_29_b1_1.c9, iv y4_2.2.2.2.node] x5_29_b1_1.T (0, 0))) :: (DirA x5_29_b1_1.b0 y4_2.2.2.2.dir) :: (ImmI x5_29_b1_1.a9 y4_2.2.2.2.c.init) :: (Asn.own b4_7 (.cells #[iv y4_2.1.kind, iv y4_2.1.src, iv y4_2.1.dst, iv y4_2.1.id, iv y4_2.1.line, iv y4_2.1.ptr, iv y4_2.1.state, .bool y4_2.1.flag, .slice a4_2_00 (List.length y4_2.1.data) c4_2_00] 32 (0, 0))) :: (IntsA a4_2_00 c4_2_00 y4_2.1.data) :: Γ) (fun w hw => (Sat.less (.take (.there (.there .here)) (.take .here (.take .here (.take .here (.take .here (.take .here .refl)))))) hw)) (TOwnerF_tr x5_29_b1_1.b1 y4_2.2.2.2.turns (0 : Int) y5_30 hy5_30)) ?_
       rintro _ _ ⟨rfl, rfl⟩
       refine sp 47 (.bool (decide (y5_30 = (1 : Int)))) ?_
       refine sp 48 (.bool (decide (y5_30 = (1 : Int)))) ?_
       refine sp 0 (.bool (decide (y5_30 = (1 : Int)))) ?_
       refine ops_end ?_
       refine ae [(0, .bool (decide (y5_30 = (1 : Int))))] ?_
       refine at_then_normal ?_
       refine at_ret kf ?_
       refine At.conv (Γ' := (HomeXA b1_1 x5_29_b1_1 y4_2.2.2.2) :: (ImmI x5_29_b1_1.a9 y4_2.2.2.2.c.init) :: (Asn.own b4_7 (.cells #[iv y4_2.1.kind, iv y4_2.1.src, iv y4_2.1.dst, iv y4_2.1.id, iv y4_2.1.line, iv y4_2.1.ptr, iv y4_2.1.state, .bool y4_2.1.flag, .slice a4_2_00 (List.length y4_2.1.data) c4_2_00] 32 (0, 0))) :: (IntsA a4_2_00 c4_2_00 y4_2.1.data) :: Γ) (fun w hw => HomeXA.close (x := x5_29_b1_1) (t := y4_2.2.2.2) (Sat.less (.take (.there (.there (.there .here))) (.take (.there (.there (.there .here))) (.take (.there (.there .here)) (.take .here (.take .here (.take .here (.take .here .refl))))))) (ImmR.dup (Sat.less (.take (.there (.there (.there .here))) (.take .here (.take .here (.take .here (.take .here (.take .here .refl)))))) hw)))) ?_
       refine At.conv (Γ' := (HomeA b1_1 y4_2.2.2.2) :: (ImmI x5_29_b1_1.a9 y4_2.2.2.2.c.init) :: (Asn.own b4_7 (.cells #[iv y4_2.1.kind, iv y4_2.1.src, iv y4_2.1.dst, iv y4_2.1.id, iv y4_2.1.line, iv y4_2.1.ptr, iv y4_2.1.state, .bool y4_2.1.flag, .slice a4_2_00 (List.length y4_2.1.data) c4_2_00] 32 (0, 0))) :: (IntsA a4_2_00 c4_2_00 y4_2.1.data) :: Γ) (fun w hw => HomeXA.shut (hw.pull .here)) ?_
       obtain rfl := someE H
       refine at_backR [.bool (decide (y5_30 = (1 : Int)))] (Γ) (rs := [.tmp 0]) kf (.cons (.tmp kf) .nil) (fun w hw => (Sat.less (.drop .here (.drop .here (.drop .here (.drop .here .refl)))) hw)) ?_
       exact ⟨rfl, rfl⟩
      ·replace H := bifF H h6
       refine sr 41 (.bool false) (run_eq (v := .bool (decide (y4_2.1.id = (7 : Int)))) (fun _ => kf) (congrArg Value.bool h6)) ?_
       refine sa 42 ?_
       refine sa 43 ?_
       refine sa 44 ?_
       refine sa 45 ?_
       refine sa 46 ?_
       refine sa 47 ?_
       refine sp 48 (.bool false) ?_
       refine sp 0 (.bool false) ?_
       refine ops_end ?_
       refine ae [(0, .bool false)] ?_
       refine at_then_normal ?_
       refine at_ret kf ?_
       obtain rfl := someE H
       refine at_backR [.bool false] (Γ) (rs := [.tmp 0]) kf (.cons (.tmp kf) .nil) (fun w hw => (Sat.less (.drop .here (.drop .here (.drop .here .refl))) hw)) ?_
       exact ⟨rfl, rfl⟩
     ·replace H := bifF H h5
      refine sr 36 (.bool false) (run_eq (v := .bool (decide (y4_2.1.dst = (1 : Int)))) (fun _ => kf) (congrArg Value.bool h5)) ?_
      refine sa 37 ?_
      refine sa 38 ?_
      refine sa 39 ?_
      refine sp 40 (.bool false) ?_
      refine sp 41 (.bool false) ?_
      refine sa 42 ?_
      refine sa 43 ?_
      refine sa 44 ?_
      refine sa 45 ?_
      refine sa 46 ?_
      refine sa 47 ?_
      refine sp 48 (.bool false) ?_
      refine sp 0 (.bool false) ?_
      refine ops_end ?_
      refine ae [(0, .bool false)] ?_
      refine at_then_normal ?_
      refine at_ret kf ?_
      obtain rfl := someE H
      refine at_backR [.bool false] (Γ) (rs := [.tmp 0]) kf (.cons (.tmp kf) .nil) (fun w hw => (Sat.less (.drop .here (.drop .here (.drop .here .refl))) hw)) ?_
      exact ⟨rfl, rfl⟩
    ·replace H := bifF H h4
     refine sr 31 (.bool false) (run_eq (v := .bool (decide (y4_2.1.state = (0 : Int)))) (fun _ => kf) (congrArg Value.bool h4)) ?_
     refine sa 32 ?_
     refine sa 33 ?_
     refine sa 34 ?_
     refine sp 35 (.bool false) ?_
     refine sp 36 (.bool false) ?_
     refine sa 37 ?_
     refine sa 38 ?_
     refine sa 39 ?_
     refine sp 40 (.bool false) ?_
     refine sp 41 (.bool false) ?_
     refine sa 42 ?_
     refine sa 43 ?_
     refine sa 44 ?_
     refine sa 45 ?_
     refine sa 46 ?_
     refine sa 47 ?_
     refine sp 48 (.bool false) ?_
     refine sp 0 (.bool false) ?_
     refine ops_end ?_
     refine ae [(0, .bool false)] ?_
     refine at_then_normal ?_
     refine at_ret kf ?_
     obtain rfl := someE H
     refine at_backR [.bool false] (Γ) (rs := [.tmp 0]) kf (.cons (.tmp kf) .nil) (fun w hw => (Sat.less (.drop .here (.drop .here (.drop .here .refl))) hw)) ?_
     exact ⟨rfl, rfl⟩
   ·replace H := bifF H h3
    refine sr 26 (.bool false) (run_eq (v := .bool (decide (y4_2.1.kind = (7 : Int)))) (fun _ => kf) (congrArg Value.bool h3)) ?_
    refine sa 27 ?_
    refine sa 28 ?_
    refine sa 29 ?_
    refine sp 30 (.bool false) ?_
    refine sp 31 (.bool false) ?_
    refine sa 32 ?_
    refine sa 33 ?_
    refine sa 34 ?_
    refine sp 35 (.bool false) ?_
    refine sp 36 (.bool false) ?_
    refine sa 37 ?_
    refine sa 38 ?_
    refine sa 39 ?_
    refine sp 40 (.bool false) ?_
    refine sp 41 (.bool false) ?_
    refine sa 42 ?_
    refine sa 43 ?_
    refine sa 44 ?_
    refine sa 45 ?_
    refine sa 46 ?_
    refine sa 47 ?_
    refine sp 48 (.bool false) ?_
    refine sp 0 (.bool false) ?_
    refine ops_end ?_
    refine ae [(0, .bool false)] ?_
    refine at_then_normal ?_
    refine at_ret kf ?_
    obtain rfl := someE H
    refine at_backR [.bool false] (Γ) (rs := [.tmp 0]) kf (.cons (.tmp kf) .nil) (fun w hw => (Sat.less (.drop .here (.drop .here (.drop .here .refl))) hw)) ?_
    exact ⟨rfl, rfl⟩
  ·replace H := bifF H h2
   refine sr 21 (.bool false) (run_eq (v := .bool (decide (y4_2.2.2.1 = (0 : Int)))) (fun _ => kf) (congrArg Value.bool h2)) ?_
   refine sa 22 ?_
   refine sa 23 ?_
   refine sa 24 ?_
   refine sp 25 (.bool false) ?_
   refine sp 26 (.bool false) ?_
   refine sa 27 ?_
   refine sa 28 ?_
   refine sa 29 ?_
   refine sp 30 (.bool false) ?_
   refine sp 31 (.bool false) ?_
   refine sa 32 ?_
   refine sa 33 ?_
   refine sa 34 ?_
   refine sp 35 (.bool false) ?_
   refine sp 36 (.bool false) ?_
   refine sa 37 ?_
   refine sa 38 ?_
   refine sa 39 ?_
   refine sp 40 (.bool false) ?_
   refine sp 41 (.bool false) ?_
   refine sa 42 ?_
   refine sa 43 ?_
   refine sa 44 ?_
   refine sa 45 ?_
   refine sa 46 ?_
   refine sa 47 ?_
   refine sp 48 (.bool false) ?_
   refine sp 0 (.bool false) ?_
   refine ops_end ?_
   refine ae [(0, .bool false)] ?_
   refine at_then_normal ?_
   refine at_ret kf ?_
   obtain rfl := someE H
   refine at_backR [.bool false] (Γ) (rs := [.tmp 0]) kf (.cons (.tmp kf) .nil) (fun w hw => (Sat.less (.drop .here (.drop .here (.drop .here .refl))) hw)) ?_
   exact ⟨rfl, rfl⟩
 ·replace H := bifF H h1
  refine sr 17 (.bool false) (run_eq (v := .bool (y4_2.2.1)) (fun _ => kf) (congrArg Value.bool h1)) ?_
  refine sa 18 ?_
  refine sa 19 ?_
  refine sp 20 (.bool false) ?_
  refine sp 21 (.bool false) ?_
  refine sa 22 ?_
  refine sa 23 ?_
  refine sa 24 ?_
  refine sp 25 (.bool false) ?_
  refine sp 26 (.bool false) ?_
  refine sa 27 ?_
  refine sa 28 ?_
  refine sa 29 ?_
  refine sp 30 (.bool false) ?_
  refine sp 31 (.bool false) ?_
  refine sa 32 ?_
  refine sa 33 ?_
  refine sa 34 ?_
  refine sp 35 (.bool false) ?_
  refine sp 36 (.bool false) ?_
  refine sa 37 ?_
  refine sa 38 ?_
  refine sa 39 ?_
  refine sp 40 (.bool false) ?_
  refine sp 41 (.bool false) ?_
  refine sa 42 ?_
  refine sa 43 ?_
  refine sa 44 ?_
  refine sa 45 ?_
  refine sa 46 ?_
  refine sa 47 ?_
  refine sp 48 (.bool false) ?_
  refine sp 0 (.bool false) ?_
  refine ops_end ?_
  refine ae [(0, .bool false)] ?_
  refine at_then_normal ?_
  refine at_ret kf ?_
  obtain rfl := someE H
  refine at_backR [.bool false] (Γ) (rs := [.tmp 0]) kf (.cons (.tmp kf) .nil) (fun w hw => (Sat.less (.drop .here (.drop .here (.drop .here .refl))) hw)) ?_
  exact ⟨rfl, rfl⟩
def homePlaysS_j2 (v0_b3_2 : HomeS) (y15_4 : PktS) (v0_b3_5 : HomesS) (v0_10 : Int) (r0 : Int → HomesS → HomeS → Option (Bool)) (e2_b15_5_0 : Int) (e2_b15_5_1 : Int) (e2_b15_5_2 : Int) (e2_b15_5_4 : Int) (e2_b15_5_5 : Int) (e2_b15_5_6 : Int) (e2_b15_5_8x : List Int) : Option (Bool) :=
 (hhandleS v0_b3_2 (⟨e2_b15_5_0, e2_b15_5_1, e2_b15_5_2, y15_4.id, e2_b15_5_4, e2_b15_5_5, e2_b15_5_6, y15_4.flag, e2_b15_5_8x⟩ : PktS)).bind fun y27_2 => (shandle7S v0_b3_5 (⟨e2_b15_5_0, e2_b15_5_1, e2_b15_5_2, y15_4.id, e2_b15_5_4, e2_b15_5_5, e2_b15_5_6, y15_4.flag, e2_b15_5_8x⟩ : PktS)).bind fun y28_2 => (bif !(y27_2.2.1 == y28_2.2.1) then some false else (bif !(decide (y27_2.2.2.1 = y28_2.2.2.1)) then some false else (rsamepS y27_2.1 y28_2.1).bind fun y29_11 => (bif !y29_11 then some false else (same11S y27_2.2.2.2 y28_2.2.2.2).bind fun y31_2 => (bif !y31_2 then some false else chk (inR (v0_10 + (1 : Int))) (r0 (v0_10 + (1 : Int)) y28_2.2.2.2 y27_2.2.2.2)))))
def homePlaysS_j3 (x9_3 : ActH) (y15_4 : PktS) (y1_1 : CfgS) (v0_b3_2 : HomeS) (v0_b3_5 : HomesS) (v0_10 : Int) (r0 : Int → HomesS → HomeS → Option (Bool)) (y20_5 : Int) (y2_3 : Int) (y18_9 : Int) (y17_5 : Int) (e3_117 : Bool) : Option (Bool) :=
 (bif e3_117 then (bif !(decide ((x9_3.do_.tmod (3 : Int)) = (0 : Int))) then (withinS y15_4.ptr y1_1.nodes).bind fun y24_4 => (withinS y15_4.state (2 : Int)).bind fun y25_2 => letP ([1, 2, 3, 4] : List Int) fun l26_2 => chk ((y15_4.data ++ l26_2).length ≤ 1099511627776) (letP (y15_4.data ++ l26_2) fun l26_3 => (cutS l26_3 y1_1.words).bind fun y26_6 => homePlaysS_j2 v0_b3_2 y15_4 v0_b3_5 v0_10 r0 2 y20_5 y2_3 y18_9 y24_4 (wr ((1 : Int) + y25_2)) y26_6) else homePlaysS_j2 v0_b3_2 y15_4 v0_b3_5 v0_10 r0 2 y20_5 y2_3 y18_9 y15_4.ptr y15_4.state y15_4.data) else homePlaysS_j2 v0_b3_2 y15_4 v0_b3_5 v0_10 r0 1 y17_5 y2_3 y18_9 y15_4.ptr y15_4.state y15_4.data)
def homePlaysS_j1 (v0_10 : Int) (acts : List ActH) (v0_b3_2 : HomeS) (v0_b3_5 : HomesS) (r0 : Int → HomesS → HomeS → Option (Bool)) (y1_1 : CfgS) (y2_3 : Int) (k0 : Int → HomesS → HomeS → Option (Bool)) (e1_45 : Bool) : Option (Bool) :=
 (bif e1_45 then chk (0 ≤ v0_10 ∧ v0_10 < ((List.length acts : Nat) : Int)) (letP (nthT acts v0_10) fun x9_3 => (withinS x9_3.do_ (5 : Int)).bind fun y10_2 => (bif decide (y10_2 = (4 : Int)) then (hgrantS v0_b3_2).bind fun y11_1 => (sgrantS v0_b3_5).bind fun y12_1 => (bif !(y11_1.2.1 == y12_1.2.1) then some false else (rsamepS y11_1.1 y12_1.1).bind fun y13_6 => (bif !y13_6 then some false else (same11S y11_1.2.2 y12_1.2.2).bind fun y31_2 => (bif !y31_2 then some false else chk (inR (v0_10 + (1 : Int))) (r0 (v0_10 + (1 : Int)) y12_1.2.2 y11_1.2.2)))) else (plpacketS (⟨x9_3.kind, x9_3.src, x9_3.dst, x9_3.id, x9_3.line, x9_3.ptr, x9_3.state, x9_3.flag, x9_3.data⟩ : PktS) x9_3.how).bind fun y15_4 => (bif !(decide ((x9_3.how.tmod (4 : Int)) = (3 : Int))) then (withinS y15_4.src y1_1.nodes).bind fun y17_5 => letP (wr ((wr (y15_4.line * y1_1.nodes)) + y2_3)) fun u18_6 => (withinS u18_6 y1_1.lines).bind fun y18_9 => (qownerS v0_b3_5 y18_9).bind fun y20_5 => (withinS x9_3.do_ (5 : Int)).bind fun y21_2 => (bif decide (y21_2 < (2 : Int)) then homePlaysS_j3 x9_3 y15_4 y1_1 v0_b3_2 v0_b3_5 v0_10 r0 y20_5 y2_3 y18_9 y17_5 (!(decide (y20_5 = ((-1) : Int)))) else homePlaysS_j3 x9_3 y15_4 y1_1 v0_b3_2 v0_b3_5 v0_10 r0 y20_5 y2_3 y18_9 y17_5 false) else homePlaysS_j2 v0_b3_2 y15_4 v0_b3_5 v0_10 r0 y15_4.kind y15_4.src y15_4.dst y15_4.line y15_4.ptr y15_4.state y15_4.data))) else k0 v0_10 v0_b3_5 v0_b3_2)
def homePlaysS_k0 (e0_10 : Int) (e0_b3_5 : HomesS) (e0_b3_2 : HomeS) : Option (Bool) :=
 (wakes11S).bind fun y33_0 => some y33_0
def homePlaysS_l0 (acts : List ActH) (y1_1 : CfgS) (y2_3 : Int) (k0 : Int → HomesS → HomeS → Option (Bool)) : Nat → Int → HomesS → HomeS → Option (Bool)
 | 0 => fun _ _ _ => none
 | m + 1 => fun v0_10 v0_b3_5 v0_b3_2 => (bif decide (v0_10 < (((List.length acts) : Nat) : Int)) then homePlaysS_j1 v0_10 acts v0_b3_2 v0_b3_5 (homePlaysS_l0 acts y1_1 y2_3 k0 m) y1_1 y2_3 k0 (decide (v0_10 < (24 : Int))) else homePlaysS_j1 v0_10 acts v0_b3_2 v0_b3_5 (homePlaysS_l0 acts y1_1 y2_3 k0 m) y1_1 y2_3 k0 false)
def homePlaysS (su : SetupS) (node : Int) (acts : List ActH) : Option (Bool) :=
 (plconfigS su).bind fun y1_1 => (withinS node y1_1.nodes).bind fun y2_3 => (hnewS y1_1 y2_3).bind fun y3_2 => (snewS y1_1 y2_3).bind fun y3_5 => homePlaysS_l0 acts y1_1 y2_3 (homePlaysS_k0 ) 64 0 y3_5 y3_2
noncomputable def C4 (p : List Nat) : Code := codeAt (bodyOf Try.f4) p
set_option maxRecDepth 100000 in
set_option maxHeartbeats 8000000 in
theorem HomePlaysF_tr {W0 : World} {Γ : List Asn} (sua : Option Addr) (sucap : Nat) (sua1 : Option Addr) (sucap1 : Nat) (sua2 : Option Addr) (sucap2 : Nat) (sua3 : Option Addr) (sucap3 : Nat) (sua4 : Option Addr) (sucap4 : Nat) (su : SetupS) (node : Int) (actsa : Option Addr) (actscap : Nat) (actsrows : List (List Value)) (acts : List ActH) (hrsua : Reads W0 Γ sua (ints su.init)) (hcsua : su.init.length ≤ sucap) (hrsua1 : Reads W0 Γ sua1 (ints su.who)) (hcsua1 : su.who.length ≤ sucap1) (hrsua2 : Reads W0 Γ sua2 (ints su.kinds)) (hcsua2 : su.kinds.length ≤ sucap2) (hrsua3 : Reads W0 Γ sua3 (ints su.addrs)) (hcsua3 : su.addrs.length ≤ sucap3) (hrsua4 : Reads W0 Γ sua4 (ints su.values)) (hcsua4 : su.values.length ≤ sucap4) (hracts : RecRd W0 Γ actsa actsrows acts) (hcacts : CapR actsrows acts) (y : Bool) (H : homePlaysS su node acts = some y) : Tr Try.prog 4 #[.agg #[iv su.nodes, iv su.lines, iv su.words, iv su.sets, iv su.ways, iv su.out, iv su.inn, .slice sua (List.length su.init) sucap, .slice sua1 (List.length su.who) sucap1, .slice sua2 (List.length su.kinds) sucap2, .slice sua3 (List.length su.addrs) sucap3, .slice sua4 (List.length su.values) sucap4], iv node, .slice actsa (List.length acts) actscap] W0 (Γ) (fun r Δ => r = .bool y ∧ Δ = Γ) := by
 unfold homePlaysS at H
 refine Tr.enter (fn := Try.f4) (c := C4 []) (args := [.agg #[iv su.nodes, iv su.lines, iv su.words, iv su.sets, iv su.ways, iv su.out, iv su.inn, .slice sua (List.length su.init) sucap, .slice sua1 (List.length su.who) sucap1, .slice sua2 (List.length su.kinds) sucap2, .slice sua3 (List.length su.addrs) sucap3, .slice sua4 (List.length su.values) sucap4], iv node, .slice actsa (List.length acts) actscap]) 177 Try.func4 kf kf ?_
 refine ae [(0, .agg #[iv su.nodes, iv su.lines, iv su.words, iv su.sets, iv su.ways, iv su.out, iv su.inn, .slice sua (List.length su.init) sucap, .slice sua1 (List.length su.who) sucap1, .slice sua2 (List.length su.kinds) sucap2, .slice sua3 (List.length su.addrs) sucap3, .slice sua4 (List.length su.values) sucap4]), (1, iv node), (2, .slice actsa (List.length acts) actscap)] ?_
 refine aq (x := C4 [0]) (y := C4 [1]) ?_
 refine ar (id := 0) 2 ?_
 refine s_step 3 kf kf (st_new (T := 24) (cells := #[iv su.nodes, iv su.lines, iv su.words, iv su.sets, iv su.ways, iv su.out, iv su.inn, .slice sua (List.length su.init) sucap, .slice sua1 (List.length su.who) sucap1, .slice sua2 (List.length su.kinds) sucap2, .slice sua3 (List.length su.addrs) sucap3, .slice sua4 (List.length su.values) sucap4]) (fun a => .pointer (some a)) (fun _ => kf)) ?_
 rintro _ _ ⟨b0_0, rfl, rfl⟩
 refine sp 6 (.bool false) ?_
 refine ops_end ?_
 refine ae [(1, iv node), (2, .slice actsa (List.length acts) actscap), (3, .pointer (some ⟨b0_0, 0, none⟩))] ?_
 refine at_then_normal ?_
 refine aq (x := C4 [1,0]) (y := C4 [1,1]) ?_
 refine ar (id := 1) 4 ?_
 refine sl 24 (.agg #[iv su.nodes, iv su.lines, iv su.words, iv su.sets, iv su.ways, iv su.out, iv su.inn, .slice sua (List.length su.init) sucap, .slice sua1 (List.length su.who) sucap1, .slice sua2 (List.length su.kinds) sucap2, .slice sua3 (List.length su.addrs) sucap3, .slice sua4 (List.length su.values) sucap4]) (loadN (off := 0) (vs := [iv su.nodes, iv su.lines, iv su.words, iv su.sets, iv su.ways, iv su.out, iv su.inn, .slice sua (List.length su.init) sucap, .slice sua1 (List.length su.who) sucap1, .slice sua2 (List.length su.kinds) sucap2, .slice sua3 (List.length su.addrs) sucap3, .slice sua4 (List.length su.values) sucap4]) 12 (fun _ => kf) (holds_own .here) rfl (by exact ⟨rfl, rfl, rfl, rfl, rfl, rfl, rfl, rfl, rfl, rfl, rfl, rfl, trivial⟩)) ?_
 obtain ⟨y1_1, hy1_1, H⟩ := bindE H
 refine s_call 25 7 #[.agg #[iv su.nodes, iv su.lines, iv su.words, iv su.sets, iv su.ways, iv su.out, iv su.inn, .slice sua (List.length su.init) sucap, .slice sua1 (List.length su.who) sucap1, .slice sua2 (List.length su.kinds) sucap2, .slice sua3 (List.length su.addrs) sucap3, .slice sua4 (List.length su.values) sucap4]] kf kf (fun _ => kf) (PlConfigF_tr sua sucap sua1 sucap1 sua2 sucap2 sua3 sucap3 sua4 sucap4 su (Reads.conv (fun w hw => hw.less (.drop .here .refl)) hrsua) hcsua (Reads.conv (fun w hw => hw.less (.drop .here .refl)) hrsua1) hcsua1 (Reads.conv (fun w hw => hw.less (.drop .here .refl)) hrsua2) hcsua2 (Reads.conv (fun w hw => hw.less (.drop .here .refl)) hrsua3) hcsua3 (Reads.conv (fun w hw => hw.less (.drop .here .refl)) hrsua4) hcsua4 y1_1 hy1_1) ?_
 rintro _ _ ⟨a1_1_00, c1_1_00, rfl, rfl⟩
 refine s_step 7 kf kf (st_new (T := 26) (cells := #[iv (0), iv (0), iv (0), iv (0), iv (0), iv (0), iv (0), .slice none 0 0]) (fun a => .pointer (some a)) (fun _ => kf)) ?_
 rintro _ _ ⟨b1_2, rfl, rfl⟩
 refine s_do kf kf (st_store (off := 0) (vs := [iv y1_1.nodes, iv y1_1.lines, iv y1_1.words, iv y1_1.sets, iv y1_1.ways, iv y1_1.out, iv y1_1.inn, .slice a1_1_00 (List.length y1_1.init) c1_1_00]) (c' := #[iv y1_1.nodes, iv y1_1.lines, iv y1_1.words, iv y1_1.sets, iv y1_1.ways, iv y1_1.out, iv y1_1.inn, .slice a1_1_00 (List.length y1_1.init) c1_1_00]) (fun _ => kf) .here kf kf kf) ?_
 rintro _ _ ⟨rfl, rfl⟩
 refine ops_end ?_
 refine ae [(1, iv node), (2, .slice actsa (List.length acts) actscap), (7, .pointer (some ⟨b1_2, 0, none⟩))] ?_
 refine at_then_normal ?_
 refine aq (x := C4 [1,1,0]) (y := C4 [1,1,1]) ?_
 refine ar (id := 2) 5 ?_
 refine sp 26 (iv node) ?_
 refine sp 27 (.pointer (some ⟨b1_2, 0, none⟩)) ?_
 refine sl 28 (iv y1_1.nodes) (load1 (off := 0) (fun _ => kf) (holds_own .here) kf) ?_
 obtain ⟨y2_3, hy2_3, H⟩ := bindE H
 refine s_quiet 29 (iv y2_3) 9 #[iv node, iv y1_1.nodes] kf kf (fun _ => kf) (WithinF_tr node y1_1.nodes y2_3 hy2_3) ?_
 refine sp 1 (iv y2_3) ?_
 refine ops_end ?_
 refine ae [(1, iv y2_3), (2, .slice actsa (List.length acts) actscap), (7, .pointer (some ⟨b1_2, 0, none⟩))] ?_
 refine at_then_normal ?_
 refine aq (x := C4 [1,1,1,0]) (y := C4 [1,1,1,1]) ?_
 refine at_region_draw (id := 3) kf kf ?_
 refine dl 0 30 (.agg #[iv y1_1.nodes, iv y1_1.lines, iv y1_1.words, iv y1_1.sets, iv y1_1.ways, iv y1_1.out, iv y1_1.inn, .slice a1_1_00 (List.length y1_1.init) c1_1_00]) (loadN (off := 0) (vs := [iv y1_1.nodes, iv y1_1.lines, iv y1_1.words, iv y1_1.sets, iv y1_1.ways, iv y1_1.out, iv y1_1.inn, .slice a1_1_00 (List.length y1_1.init) c1_1_00]) 8 (fun _ => kf) (holds_own .here) rfl (by exact ⟨rfl, rfl, rfl, rfl, rfl, rfl, rfl, rfl, trivial⟩)) ?_
 refine dp 1 31 (iv y2_3) ?_
 refine dl 3 33 (.agg #[iv y1_1.nodes, iv y1_1.lines, iv y1_1.words, iv y1_1.sets, iv y1_1.ways, iv y1_1.out, iv y1_1.inn, .slice a1_1_00 (List.length y1_1.init) c1_1_00]) (loadN (off := 0) (vs := [iv y1_1.nodes, iv y1_1.lines, iv y1_1.words, iv y1_1.sets, iv y1_1.ways, iv y1_1.out, iv y1_1.inn, .slice a1_1_00 (List.length y1_1.init) c1_1_00]) 8 (fun _ => kf) (holds_own .here) rfl (by exact ⟨rfl, rfl, rfl, rfl, rfl, rfl, rfl, rfl, trivial⟩)) ?_
 refine dp 4 34 (iv y2_3) ?_
 obtain ⟨y3_2, hy3_2, H⟩ := bindE H
 refine Draw.known (p := (List.length y1_1.init) ≤ c1_1_00) (fun w hw => by have := (RowsA.len (hw.pull (.there .here))).2; simpa using this) ?_
 intro hcap1
 refine d_call 2 32 [0, 1] [4] [3] 8 #[.agg #[iv y1_1.nodes, iv y1_1.lines, iv y1_1.words, iv y1_1.sets, iv y1_1.ways, iv y1_1.out, iv y1_1.inn, .slice a1_1_00 (List.length y1_1.init) c1_1_00], iv y2_3] kf kf kf (fun _ => kf) (Tr.conv (Γ' := (ImmI a1_1_00 y1_1.init) :: (ImmI a1_1_00 y1_1.init) :: (Asn.own b1_2 (.cells #[iv y1_1.nodes, iv y1_1.lines, iv y1_1.words, iv y1_1.sets, iv y1_1.ways, iv y1_1.out, iv y1_1.inn, .slice a1_1_00 (List.length y1_1.init) c1_1_00] 26 (0, 0))) :: (Asn.own b0_0 (.cells #[iv su.nodes, iv su.lines, iv su.words, iv su.sets, iv su.ways, iv su.out, iv su.inn, .slice sua (List.length su.init) sucap, .slice sua1 (List.length su.who) sucap1, .slice sua2 (List.length su.kinds) sucap2, .slice sua3 (List.length su.addrs) sucap3, .slice sua4 (List.length su.values) sucap4] 24 (0, 0))) :: Γ) (fun w hw => (Sat.less (.take .here (.take .here (.take .here (.take .here .refl)))) (ImmR.dup (Sat.less (.take .here (.take .here (.take .here .refl))) (RowsA.freeze (Sat.less (.take (.there .here) (.take .here (.take .here .refl))) hw)))))) (HNewF_tr a1_1_00 c1_1_00 y1_1 y2_3 hcap1 y3_2 hy3_2)) ?_
 rintro _ _ ⟨b3_2, rfl, rfl⟩
 refine ⟨(stable_cons 3 33 (.agg #[iv y1_1.nodes, iv y1_1.lines, iv y1_1.words, iv y1_1.sets, iv y1_1.ways, iv y1_1.out, iv y1_1.inn, .slice a1_1_00 (List.length y1_1.init) c1_1_00]) kf kf kf (loadN (off := 0) (vs := [iv y1_1.nodes, iv y1_1.lines, iv y1_1.words, iv y1_1.sets, iv y1_1.ways, iv y1_1.out, iv y1_1.inn, .slice a1_1_00 (List.length y1_1.init) c1_1_00]) 8 (fun _ => kf) (holds_own (.there (.there .here))) rfl (by exact ⟨rfl, rfl, rfl, rfl, rfl, rfl, rfl, rfl, trivial⟩)) stable_nil), ?_⟩
 obtain ⟨y3_5, hy3_5, H⟩ := bindE H
 refine d_call 5 35 [3, 4, 2, 0, 1] [] [] 15 #[.agg #[iv y1_1.nodes, iv y1_1.lines, iv y1_1.words, iv y1_1.sets, iv y1_1.ways, iv y1_1.out, iv y1_1.inn, .slice a1_1_00 (List.length y1_1.init) c1_1_00], iv y2_3] kf kf kf (fun _ => kf) (Tr.conv (Γ' := (ImmI a1_1_00 y1_1.init) :: (ImmI a1_1_00 y1_1.init) :: (HomeA b3_2 y3_2) :: (Asn.own b1_2 (.cells #[iv y1_1.nodes, iv y1_1.lines, iv y1_1.words, iv y1_1.sets, iv y1_1.ways, iv y1_1.out, iv y1_1.inn, .slice a1_1_00 (List.length y1_1.init) c1_1_00] 26 (0, 0))) :: (Asn.own b0_0 (.cells #[iv su.nodes, iv su.lines, iv su.words, iv su.sets, iv su.ways, iv su.out, iv su.inn, .slice sua (List.length su.init) sucap, .slice sua1 (List.length su.who) sucap1, .slice sua2 (List.length su.kinds) sucap2, .slice sua3 (List.length su.addrs) sucap3, .slice sua4 (List.length su.values) sucap4] 24 (0, 0))) :: Γ) (fun w hw => (Sat.less (.take .here (.take .here (.take .here (.take .here (.take .here .refl))))) (ImmR.dup (Sat.less (.take (.there .here) (.take .here (.take .here (.take .here .refl)))) hw)))) (SNewF_tr a1_1_00 c1_1_00 y1_1 y2_3 y3_5 hy3_5)) ?_
 rintro _ _ ⟨b3_5, rfl, rfl⟩
 refine ⟨stable_nil, ?_⟩
 refine dp 6 8 (.pointer (some ⟨b3_2, 0, none⟩)) ?_
 refine dp 7 9 (.pointer (some ⟨b3_5, 0, none⟩)) ?_
 refine draw_end kf ?_
 refine ae [(1, iv y2_3), (2, .slice actsa (List.length acts) actscap), (7, .pointer (some ⟨b1_2, 0, none⟩)), (8, .pointer (some ⟨b3_2, 0, none⟩)), (9, .pointer (some ⟨b3_5, 0, none⟩))] ?_
 refine at_then_normal ?_
 refine aq (x := C4 [1,1,1,1,0]) (y := C4 [1,1,1,1,1]) ?_
 refine aq (x := C4 [1,1,1,1,0,0]) (y := C4 [1,1,1,1,0,1]) ?_
 refine ar (id := 4) 2 ?_
 refine sp 36 (.pointer (some ⟨b3_2, 0, none⟩)) ?_
 refine sp 37 (.bool false) ?_
 refine ops_end ?_
 refine ae [(1, iv y2_3), (2, .slice actsa (List.length acts) actscap), (7, .pointer (some ⟨b1_2, 0, none⟩)), (8, .pointer (some ⟨b3_2, 0, none⟩)), (9, .pointer (some ⟨b3_5, 0, none⟩)), (37, .bool false)] ?_
 refine at_then_normal ?_
 refine at_false (t := false) (x := C4 [1,1,1,1,0,1,0]) (y := C4 [1,1,1,1,0,1,1]) (o := .tmp 37) kf kf kf rfl ?_
 refine at_skip kf ?_
 refine at_then_normal ?_
 refine aq (x := C4 [1,1,1,1,1,0]) (y := C4 [1,1,1,1,1,1]) ?_
 refine aq (x := C4 [1,1,1,1,1,0,0]) (y := C4 [1,1,1,1,1,0,1]) ?_
 refine ar (id := 6) 1 ?_
 refine sp 10 (iv (0)) ?_
 refine ops_end ?_
 refine ae [(1, iv y2_3), (2, .slice actsa (List.length acts) actscap), (7, .pointer (some ⟨b1_2, 0, none⟩)), (8, .pointer (some ⟨b3_2, 0, none⟩)), (9, .pointer (some ⟨b3_5, 0, none⟩)), (10, iv (0))] ?_
 refine at_then_normal ?_
 refine at_block (i := 0) (x := C4 [1,1,1,1,1,0,1,0]) kf ?_
 refine At.conv (Γ' := (HomesA b3_5 y3_5) :: (ImmI a1_1_00 y1_1.init) :: (HomeA b3_2 y3_2) :: (Asn.own b1_2 (.cells #[iv y1_1.nodes, iv y1_1.lines, iv y1_1.words, iv y1_1.sets, iv y1_1.ways, iv y1_1.out, iv y1_1.inn, .slice a1_1_00 (List.length y1_1.init) c1_1_00] 26 (0, 0))) :: Γ) (fun w hw => (Sat.less (.take .here (.take .here (.take .here (.take .here (.drop .here .refl))))) hw)) ?_
 refine at_loopR (x := C4 [1,1,1,1,1,0,1,0,0]) (fun mm ff ΔΔ => ∃ (fuel : Nat) (v0_10 : Int) (v0_b3_5 : HomesS) (v0_b3_2 : HomeS), homePlaysS_l0 acts y1_1 y2_3 (homePlaysS_k0 ) fuel v0_10 v0_b3_5 v0_b3_2 = some y ∧ fuel = mm ∧ ff = [(1, iv y2_3), (2, .slice actsa (List.length acts) actscap), (7, .pointer (some ⟨b1_2, 0, none⟩)), (8, .pointer (some ⟨b3_2, 0, none⟩)), (9, .pointer (some ⟨b3_5, 0, none⟩)), (10, iv v0_10)] ∧ (HomesA b3_5 v0_b3_5) :: (ImmI a1_1_00 y1_1.init) :: (HomeA b3_2 v0_b3_2) :: (Asn.own b1_2 (.cells #[iv y1_1.nodes, iv y1_1.lines, iv y1_1.words, iv y1_1.sets, iv y1_1.ways, iv y1_1.out, iv y1_1.inn, .slice a1_1_00 (List.length y1_1.init) c1_1_00] 26 (0, 0))) :: Γ = ΔΔ) (64) kf [(1, iv y2_3), (2, .slice actsa (List.length acts) actscap), (7, .pointer (some ⟨b1_2, 0, none⟩)), (8, .pointer (some ⟨b3_2, 0, none⟩)), (9, .pointer (some ⟨b3_5, 0, none⟩)), (10, iv 0)] ⟨kf, kf, kf, kf, kf, kf, trivial⟩ ⟨64, 0, y3_5, y3_2, H, rfl, rfl, rfl⟩ ?_
 rintro _ _ _ ⟨fuel1, v0_10, v0_b3_5, v0_b3_2, H, rfl, rfl, rfl⟩
 rcases fuel1 with _ | fuel1
 ·exact (noneE H).elim
 rw [homePlaysS_l0] at H
 refine aq (x := C4 [1,1,1,1,1,0,1,0,0,0]) (y := C4 [1,1,1,1,1,0,1,0,0,1]) ?_
 refine at_seq_join (x := C4 [1,1,1,1,1,0,1,0,0,0,0]) (y := C4 [1,1,1,1,1,0,1,0,0,0,1]) (fun ff ΔΔ => ∃ (e1_45 : Bool), homePlaysS_j1 v0_10 acts v0_b3_2 v0_b3_5 (homePlaysS_l0 acts y1_1 y2_3 (homePlaysS_k0 ) fuel1) y1_1 y2_3 (homePlaysS_k0 ) e1_45 = some y ∧ ff = [(1, iv y2_3), (2, .slice actsa (List.length acts) actscap), (7, .pointer (some ⟨b1_2, 0, none⟩)), (8, .pointer (some ⟨b3_2, 0, none⟩)), (9, .pointer (some ⟨b3_5, 0, none⟩)), (10, iv v0_10), (45, .bool e1_45)] ∧ (HomesA b3_5 v0_b3_5) :: (ImmI a1_1_00 y1_1.init) :: (HomeA b3_2 v0_b3_2) :: (Asn.own b1_2 (.cells #[iv y1_1.nodes, iv y1_1.lines, iv y1_1.words, iv y1_1.sets, iv y1_1.ways, iv y1_1.out, iv y1_1.inn, .slice a1_1_00 (List.length y1_1.init) c1_1_00] 26 (0, 0))) :: Γ = ΔΔ) kf ?_ ?_
 ·rintro _ _ ⟨e1_45, H, rfl, rfl⟩
  rw [homePlaysS_j1] at H
  rcases Bool.eq_false_or_eq_true (e1_45) with h1 | h1
  ·replace H := bifT H h1
   refine at_true (t := e1_45) (x := C4 [1,1,1,1,1,0,1,0,0,0,1,0]) (y := C4 [1,1,1,1,1,0,1,0,0,0,1,1]) (o := .tmp 45) kf kf kf h1 ?_
   refine at_skip kf ?_
   refine at_then_normal ?_
   refine aq (x := C4 [1,1,1,1,1,0,1,0,0,1,0]) (y := C4 [1,1,1,1,1,0,1,0,0,1,1]) ?_
   refine at_block (i := 1) (x := C4 [1,1,1,1,1,0,1,0,0,1,0,0]) kf ?_
   refine aq (x := C4 [1,1,1,1,1,0,1,0,0,1,0,0,0]) (y := C4 [1,1,1,1,1,0,1,0,0,1,0,0,1]) ?_
   refine ar (id := 9) 6 ?_
   refine sp 48 (.slice actsa (List.length acts) actscap) ?_
   refine sp 49 (iv v0_10) ?_
   obtain ⟨hc9_2_0, H⟩ := chkE H
   refine rd_at (RecRd.less (.drop .here (.drop .here (.drop .here (.drop .here .refl)))) hracts) (by have := hc9_2_0; omega) ?_
   intro bb1 oo1 ha1
   refine sr 50 (.pointer (some ⟨bb1, oo1 + (((v0_10).toNat) * 11 + 0), none⟩)) (index_at (t := 45) (sz := 11) (E := 49) (a := actsa) (m := (List.length acts)) (c := actscap) (b := bb1) (off := oo1) (i := (v0_10).toNat) (tinfo 49) (fun _ => kf) kf kf kf ha1 (idx_cast hc9_2_0) (idx_nat hc9_2_0) rfl) ?_
   obtain ⟨x9_3, hx9_3, H⟩ := letE H
   refine rd_get (RecRd.less (.drop .here (.drop .here (.drop .here (.drop .here .refl)))) hracts) hc9_2_0 ?_
   intro a9_3 c9_3 hrx9_3
   rw [hx9_3] at hrx9_3 ⊢
   have hcpx9_3 : (x9_3.data).length ≤ c9_3 := CapR.at hcacts hc9_2_0 hx9_3 hrx9_3
   refine sl 51 (.agg #[iv x9_3.do_, iv x9_3.kind, iv x9_3.src, iv x9_3.dst, iv x9_3.id, iv x9_3.line, iv x9_3.ptr, iv x9_3.state, .bool x9_3.flag, .slice a9_3 (List.length x9_3.data) c9_3, iv x9_3.how]) (loadP_at (m := 11) (k := 11) (vs := [iv x9_3.do_, iv x9_3.kind, iv x9_3.src, iv x9_3.dst, iv x9_3.id, iv x9_3.line, iv x9_3.ptr, iv x9_3.state, .bool x9_3.flag, .slice a9_3 (List.length x9_3.data) c9_3, iv x9_3.how]) (off := oo1) (i := (v0_10).toNat) (j := 0) (fun _ => kf) rfl rfl (fun q v hq => rd_row (j := 0 + q) (RecRd.less (.drop .here (.drop .here (.drop .here (.drop .here (.drop .here .refl))))) hracts) ha1 hrx9_3 (rowP (j := 0) (m := 11) kf hq))) ?_
   refine s_step 11 kf kf (st_new (T := 49) (cells := #[iv (0), iv (0), iv (0), iv (0), iv (0), iv (0), iv (0), iv (0), .bool false, .slice none 0 0, iv (0)]) (fun a => .pointer (some a)) (fun _ => kf)) ?_
   rintro _ _ ⟨b9_4, rfl, rfl⟩
   refine s_do kf kf (st_store (off := 0) (vs := [iv x9_3.do_, iv x9_3.kind, iv x9_3.src, iv x9_3.dst, iv x9_3.id, iv x9_3.line, iv x9_3.ptr, iv x9_3.state, .bool x9_3.flag, .slice a9_3 (List.length x9_3.data) c9_3, iv x9_3.how]) (c' := #[iv x9_3.do_, iv x9_3.kind, iv x9_3.src, iv x9_3.dst, iv x9_3.id, iv x9_3.line, iv x9_3.ptr, iv x9_3.state, .bool x9_3.flag, .slice a9_3 (List.length x9_3.data) c9_3, iv x9_3.how]) (fun _ => kf) .here kf kf kf) ?_
   rintro _ _ ⟨rfl, rfl⟩
   refine ops_end ?_
   refine ae [(1, iv y2_3), (2, .slice actsa (List.length acts) actscap), (7, .pointer (some ⟨b1_2, 0, none⟩)), (8, .pointer (some ⟨b3_2, 0, none⟩)), (9, .pointer (some ⟨b3_5, 0, none⟩)), (10, iv v0_10), (11, .pointer (some ⟨b9_4, 0, none⟩))] ?_
   refine at_then_normal ?_
   refine aq (x := C4 [1,1,1,1,1,0,1,0,0,1,0,0,1,0]) (y := C4 [1,1,1,1,1,0,1,0,0,1,0,0,1,1]) ?_
   refine aq (x := C4 [1,1,1,1,1,0,1,0,0,1,0,0,1,0,0]) (y := C4 [1,1,1,1,1,0,1,0,0,1,0,0,1,0,1]) ?_
   refine ar (id := 10) 4 ?_
   refine sp 52 (.pointer (some ⟨b9_4, 0, none⟩)) ?_
   refine sl 53 (iv x9_3.do_) (load1 (off := 0) (fun _ => kf) (holds_own .here) kf) ?_
   obtain ⟨y10_2, hy10_2, H⟩ := bindE H
   refine s_quiet 54 (iv y10_2) 9 #[iv x9_3.do_, iv (5)] kf kf (fun _ => kf) (WithinF_tr x9_3.do_ (5 : Int) y10_2 hy10_2) ?_
   refine sp 55 (.bool (decide (y10_2 = (4 : Int)))) ?_
   refine ops_end ?_
   refine ae [(1, iv y2_3), (2, .slice actsa (List.length acts) actscap), (7, .pointer (some ⟨b1_2, 0, none⟩)), (8, .pointer (some ⟨b3_2, 0, none⟩)), (9, .pointer (some ⟨b3_5, 0, none⟩)), (10, iv v0_10), (11, .pointer (some ⟨b9_4, 0, none⟩)), (55, .bool (decide (y10_2 = (4 : Int))))] ?_
   refine at_then_normal ?_
   rcases Bool.eq_false_or_eq_true (decide (y10_2 = (4 : Int))) with h2 | h2
   ·replace H := bifT H h2
    refine at_true (t := decide (y10_2 = (4 : Int))) (x := C4 [1,1,1,1,1,0,1,0,0,1,0,0,1,0,1,0]) (y := C4 [1,1,1,1,1,0,1,0,0,1,0,0,1,0,1,1]) (o := .tmp 55) kf kf kf h2 ?_
    refine aq (x := C4 [1,1,1,1,1,0,1,0,0,1,0,0,1,0,1,0,0]) (y := C4 [1,1,1,1,1,0,1,0,0,1,0,0,1,0,1,0,1]) ?_
    refine ar (id := 11) 8 ?_
    refine sp 57 (.pointer (some ⟨b3_2, 0, none⟩)) ?_
    obtain ⟨y11_1, hy11_1, H⟩ := bindE H
    refine s_call 58 16 #[.pointer (some ⟨b3_2, 0, none⟩)] kf kf (fun _ => kf) (Tr.conv (Γ' := (HomeA b3_2 v0_b3_2) :: (Asn.own b9_4 (.cells #[iv x9_3.do_, iv x9_3.kind, iv x9_3.src, iv x9_3.dst, iv x9_3.id, iv x9_3.line, iv x9_3.ptr, iv x9_3.state, .bool x9_3.flag, .slice a9_3 (List.length x9_3.data) c9_3, iv x9_3.how] 49 (0, 0))) :: (ImmI a9_3 x9_3.data) :: (HomesA b3_5 v0_b3_5) :: (ImmI a1_1_00 y1_1.init) :: (Asn.own b1_2 (.cells #[iv y1_1.nodes, iv y1_1.lines, iv y1_1.words, iv y1_1.sets, iv y1_1.ways, iv y1_1.out, iv y1_1.inn, .slice a1_1_00 (List.length y1_1.init) c1_1_00] 26 (0, 0))) :: Γ) (fun w hw => (Sat.less (.take (.there (.there (.there (.there .here)))) (.take .here (.take .here (.take .here (.take .here (.take .here .refl)))))) hw)) (HGrantF_tr b3_2 v0_b3_2 y11_1 hy11_1)) ?_
    rintro _ _ ⟨a11_1_00, c11_1_00, rfl, rfl⟩
    refine sp 56 (.tuple #[.agg #[iv y11_1.1.kind, iv y11_1.1.src, iv y11_1.1.dst, iv y11_1.1.id, iv y11_1.1.line, iv y11_1.1.ptr, iv y11_1.1.state, .bool y11_1.1.flag, .slice a11_1_00 (List.length y11_1.1.data) c11_1_00], .bool y11_1.2.1]) ?_
    refine sp 59 (.agg #[iv y11_1.1.kind, iv y11_1.1.src, iv y11_1.1.dst, iv y11_1.1.id, iv y11_1.1.line, iv y11_1.1.ptr, iv y11_1.1.state, .bool y11_1.1.flag, .slice a11_1_00 (List.length y11_1.1.data) c11_1_00]) ?_
    refine sp 60 (.bool y11_1.2.1) ?_
    refine s_step 12 kf kf (st_new (T := 32) (cells := #[iv (0), iv (0), iv (0), iv (0), iv (0), iv (0), iv (0), .bool false, .slice none 0 0]) (fun a => .pointer (some a)) (fun _ => kf)) ?_
    rintro _ _ ⟨b11_5, rfl, rfl⟩
    refine s_do kf kf (st_store (off := 0) (vs := [iv y11_1.1.kind, iv y11_1.1.src, iv y11_1.1.dst, iv y11_1.1.id, iv y11_1.1.line, iv y11_1.1.ptr, iv y11_1.1.state, .bool y11_1.1.flag, .slice a11_1_00 (List.length y11_1.1.data) c11_1_00]) (c' := #[iv y11_1.1.kind, iv y11_1.1.src, iv y11_1.1.dst, iv y11_1.1.id, iv y11_1.1.line, iv y11_1.1.ptr, iv y11_1.1.state, .bool y11_1.1.flag, .slice a11_1_00 (List.length y11_1.1.data) c11_1_00]) (fun _ => kf) .here kf kf kf) ?_
    rintro _ _ ⟨rfl, rfl⟩
    refine sp 13 (.bool y11_1.2.1) ?_
    refine ops_end ?_
    refine ae [(1, iv y2_3), (2, .slice actsa (List.length acts) actscap), (7, .pointer (some ⟨b1_2, 0, none⟩)), (8, .pointer (some ⟨b3_2, 0, none⟩)), (9, .pointer (some ⟨b3_5, 0, none⟩)), (10, iv v0_10), (12, .pointer (some ⟨b11_5, 0, none⟩)), (13, .bool y11_1.2.1)] ?_
    refine at_then_normal ?_
    refine aq (x := C4 [1,1,1,1,1,0,1,0,0,1,0,0,1,0,1,0,1,0]) (y := C4 [1,1,1,1,1,0,1,0,0,1,0,0,1,0,1,0,1,1]) ?_
    refine ar (id := 12) 8 ?_
    refine sp 62 (.pointer (some ⟨b3_5, 0, none⟩)) ?_
    obtain ⟨y12_1, hy12_1, H⟩ := bindE H
    refine s_call 63 17 #[.pointer (some ⟨b3_5, 0, none⟩)] kf kf (fun _ => kf) (Tr.conv (Γ' := (HomesA b3_5 v0_b3_5) :: (Asn.own b11_5 (.cells #[iv y11_1.1.kind, iv y11_1.1.src, iv y11_1.1.dst, iv y11_1.1.id, iv y11_1.1.line, iv y11_1.1.ptr, iv y11_1.1.state, .bool y11_1.1.flag, .slice a11_1_00 (List.length y11_1.1.data) c11_1_00] 32 (0, 0))) :: (IntsA a11_1_00 c11_1_00 y11_1.1.data) :: (HomeA b3_2 y11_1.2.2) :: (Asn.own b9_4 (.cells #[iv x9_3.do_, iv x9_3.kind, iv x9_3.src, iv x9_3.dst, iv x9_3.id, iv x9_3.line, iv x9_3.ptr, iv x9_3.state, .bool x9_3.flag, .slice a9_3 (List.length x9_3.data) c9_3, iv x9_3.how] 49 (0, 0))) :: (ImmI a9_3 x9_3.data) :: (ImmI a1_1_00 y1_1.init) :: (Asn.own b1_2 (.cells #[iv y1_1.nodes, iv y1_1.lines, iv y1_1.words, iv y1_1.sets, iv y1_1.ways, iv y1_1.out, iv y1_1.inn, .slice a1_1_00 (List.length y1_1.init) c1_1_00] 26 (0, 0))) :: Γ) (fun w hw => (Sat.less (.take (.there (.there (.there (.there (.there .here))))) (.take .here (.take .here (.take .here (.take .here (.take .here (.take .here (.take .here .refl)))))))) hw)) (SGrantF_tr b3_5 v0_b3_5 y12_1 hy12_1)) ?_
    rintro _ _ ⟨a12_1_00, c12_1_00, rfl, rfl⟩
    refine sp 61 (.tuple #[.agg #[iv y12_1.1.kind, iv y12_1.1.src, iv y12_1.1.dst, iv y12_1.1.id, iv y12_1.1.line, iv y12_1.1.ptr, iv y12_1.1.state, .bool y12_1.1.flag, .slice a12_1_00 (List.length y12_1.1.data) c12_1_00], .bool y12_1.2.1]) ?_
    refine sp 64 (.agg #[iv y12_1.1.kind, iv y12_1.1.src, iv y12_1.1.dst, iv y12_1.1.id, iv y12_1.1.line, iv y12_1.1.ptr, iv y12_1.1.state, .bool y12_1.1.flag, .slice a12_1_00 (List.length y12_1.1.data) c12_1_00]) ?_
    refine sp 65 (.bool y12_1.2.1) ?_
    refine s_step 14 kf kf (st_new (T := 32) (cells := #[iv (0), iv (0), iv (0), iv (0), iv (0), iv (0), iv (0), .bool false, .slice none 0 0]) (fun a => .pointer (some a)) (fun _ => kf)) ?_
    rintro _ _ ⟨b12_5, rfl, rfl⟩
    refine s_do kf kf (st_store (off := 0) (vs := [iv y12_1.1.kind, iv y12_1.1.src, iv y12_1.1.dst, iv y12_1.1.id, iv y12_1.1.line, iv y12_1.1.ptr, iv y12_1.1.state, .bool y12_1.1.flag, .slice a12_1_00 (List.length y12_1.1.data) c12_1_00]) (c' := #[iv y12_1.1.kind, iv y12_1.1.src, iv y12_1.1.dst, iv y12_1.1.id, iv y12_1.1.line, iv y12_1.1.ptr, iv y12_1.1.state, .bool y12_1.1.flag, .slice a12_1_00 (List.length y12_1.1.data) c12_1_00]) (fun _ => kf) .here kf kf kf) ?_
    rintro _ _ ⟨rfl, rfl⟩
    refine sp 15 (.bool y12_1.2.1) ?_
    refine ops_end ?_
    refine ae [(1, iv y2_3), (2, .slice actsa (List.length acts) actscap), (7, .pointer (some ⟨b1_2, 0, none⟩)), (8, .pointer (some ⟨b3_2, 0, none⟩)), (9, .pointer (some ⟨b3_5, 0, none⟩)), (10, iv v0_10), (12, .pointer (some ⟨b11_5, 0, none⟩)), (13, .bool y11_1.2.1), (14, .pointer (some ⟨b12_5, 0, none⟩)), (15, .bool y12_1.2.1)] ?_
    refine at_then_normal ?_
    refine aq (x := C4 [1,1,1,1,1,0,1,0,0,1,0,0,1,0,1,0,1,1,0]) (y := C4 [1,1,1,1,1,0,1,0,0,1,0,0,1,0,1,0,1,1,1]) ?_
    refine ar (id := 13) 9 ?_
    refine sp 66 (.bool y11_1.2.1) ?_
    refine sp 67 (.bool y12_1.2.1) ?_
    refine sp 68 (.bool (!(y11_1.2.1 == y12_1.2.1))) ?_
    rcases Bool.eq_false_or_eq_true (!(y11_1.2.1 == y12_1.2.1)) with h3 | h3
    ·replace H := bifT H h3
     refine sr 69 (.bool true) (run_eq (v := .bool (!(y11_1.2.1 == y12_1.2.1))) (fun _ => kf) (congrArg Value.bool h3)) ?_
     refine sa 70 ?_
     refine sa 71 ?_
     refine sa 72 ?_
     refine sa 73 ?_
     refine sp 74 (.bool true) ?_
     refine ops_end ?_
     refine ae [(1, iv y2_3), (2, .slice actsa (List.length acts) actscap), (7, .pointer (some ⟨b1_2, 0, none⟩)), (8, .pointer (some ⟨b3_2, 0, none⟩)), (9, .pointer (some ⟨b3_5, 0, none⟩)), (10, iv v0_10), (74, .bool true)] ?_
     refine at_then_normal ?_
     refine at_true (t := true) (x := C4 [1,1,1,1,1,0,1,0,0,1,0,0,1,0,1,0,1,1,1,0]) (y := C4 [1,1,1,1,1,0,1,0,0,1,0,0,1,0,1,0,1,1,1,1]) (o := .tmp 74) kf kf kf rfl ?_
     refine aq (x := C4 [1,1,1,1,1,0,1,0,0,1,0,0,1,0,1,0,1,1,1,0,0]) (y := C4 [1,1,1,1,1,0,1,0,0,1,0,0,1,0,1,0,1,1,1,0,1]) ?_
     refine ar (id := 14) 1 ?_
     refine sp 6 (.bool false) ?_
     refine ops_end ?_
     refine ae [(6, .bool false)] ?_
     refine at_then_normal ?_
     refine at_ret kf ?_
     refine at_then_ret ?_
     refine at_in_ret ?_
     refine at_then_ret ?_
     refine at_then_ret ?_
     refine at_in_ret ?_
     refine at_then_ret ?_
     obtain rfl := someE H
     refine at_backR [.bool false] (Γ) (rs := [.tmp 6]) kf (.cons (.tmp kf) .nil) (fun w hw => (Sat.less (.drop .here (.drop .here (.drop .here (.drop .here (.drop .here (.drop .here (.drop .here (.drop .here (.drop .here (.drop .here .refl)))))))))) hw)) ?_
     exact ⟨rfl, rfl⟩
    ·replace H := bifF H h3
     refine sr 69 (.bool false) (run_eq (v := .bool (!(y11_1.2.1 == y12_1.2.1))) (fun _ => kf) (congrArg Value.bool h3)) ?_
     refine sl 70 (.agg #[iv y11_1.1.kind, iv y11_1.1.src, iv y11_1.1.dst, iv y11_1.1.id, iv y11_1.1.line, iv y11_1.1.ptr, iv y11_1.1.state, .bool y11_1.1.flag, .slice a11_1_00 (List.length y11_1.1.data) c11_1_00]) (loadN (off := 0) (vs := [iv y11_1.1.kind, iv y11_1.1.src, iv y11_1.1.dst, iv y11_1.1.id, iv y11_1.1.line, iv y11_1.1.ptr, iv y11_1.1.state, .bool y11_1.1.flag, .slice a11_1_00 (List.length y11_1.1.data) c11_1_00]) 9 (fun _ => kf) (holds_own (.there (.there (.there .here)))) rfl (by exact ⟨rfl, rfl, rfl, rfl, rfl, rfl, rfl, rfl, rfl, trivial⟩)) ?_
     refine sl 71 (.agg #[iv y12_1.1.kind, iv y12_1.1.src, iv y12_1.1.dst, iv y12_1.1.id, iv y12_1.1.line, iv y12_1.1.ptr, iv y12_1.1.state, .bool y12_1.1.flag, .slice a12_1_00 (List.length y12_1.1.data) c12_1_00]) (loadN (off := 0) (vs := [iv y12_1.1.kind, iv y12_1.1.src, iv y12_1.1.dst, iv y12_1.1.id, iv y12_1.1.line, iv y12_1.1.ptr, iv y12_1.1.state, .bool y12_1.1.flag, .slice a12_1_00 (List.length y12_1.1.data) c12_1_00]) 9 (fun _ => kf) (holds_own .here) rfl (by exact ⟨rfl, rfl, rfl, rfl, rfl, rfl, rfl, rfl, rfl, trivial⟩)) ?_
     obtain ⟨y13_6, hy13_6, H⟩ := bindE H
     refine s_call 72 18 #[.agg #[iv y11_1.1.kind, iv y11_1.1.src, iv y11_1.1.dst, iv y11_1.1.id, iv y11_1.1.line, iv y11_1.1.ptr, iv y11_1.1.state, .bool y11_1.1.flag, .slice a11_1_00 (List.length y11_1.1.data) c11_1_00], .agg #[iv y12_1.1.kind, iv y12_1.1.src, iv y12_1.1.dst, iv y12_1.1.id, iv y12_1.1.line, iv y12_1.1.ptr, iv y12_1.1.state, .bool y12_1.1.flag, .slice a12_1_00 (List.length y12_1.1.data) c12_1_00]] kf kf (fun _ => kf) (RSamePF_tr a11_1_00 c11_1_00 y11_1.1 a12_1_00 c12_1_00 y12_1.1 (RowsA.reads (k := 1) (.there (.there (.there (.there .here))))) (RowsA.reads (k := 1) (.there .here)) y13_6 hy13_6) ?_
     rintro _ _ ⟨rfl, rfl⟩
     refine sp 73 (.bool !y13_6) ?_
     refine sp 74 (.bool !y13_6) ?_
     refine ops_end ?_
     refine ae [(1, iv y2_3), (2, .slice actsa (List.length acts) actscap), (7, .pointer (some ⟨b1_2, 0, none⟩)), (8, .pointer (some ⟨b3_2, 0, none⟩)), (9, .pointer (some ⟨b3_5, 0, none⟩)), (10, iv v0_10), (74, .bool !y13_6)] ?_
     refine at_then_normal ?_
     rcases Bool.eq_false_or_eq_true (!y13_6) with h4 | h4
     ·replace H := bifT H h4
      refine at_true (t := !y13_6) (x := C4 [1,1,1,1,1,0,1,0,0,1,0,0,1,0,1,0,1,1,1,0]) (y := C4 [1,1,1,1,1,0,1,0,0,1,0,0,1,0,1,0,1,1,1,1]) (o := .tmp 74) kf kf kf h4 ?_
      refine aq (x := C4 [1,1,1,1,1,0,1,0,0,1,0,0,1,0,1,0,1,1,1,0,0]) (y := C4 [1,1,1,1,1,0,1,0,0,1,0,0,1,0,1,0,1,1,1,0,1]) ?_
      refine ar (id := 14) 1 ?_
      refine sp 6 (.bool false) ?_
      refine ops_end ?_
      refine ae [(6, .bool false)] ?_
      refine at_then_normal ?_
      refine at_ret kf ?_
      refine at_then_ret ?_
      refine at_in_ret ?_
      refine at_then_ret ?_
      refine at_then_ret ?_
      refine at_in_ret ?_
      refine at_then_ret ?_
      obtain rfl := someE H
      refine at_backR [.bool false] (Γ) (rs := [.tmp 6]) kf (.cons (.tmp kf) .nil) (fun w hw => (Sat.less (.drop .here (.drop .here (.drop .here (.drop .here (.drop .here (.drop .here (.drop .here (.drop .here (.drop .here (.drop .here .refl)))))))))) hw)) ?_
      exact ⟨rfl, rfl⟩
     ·replace H := bifF H h4
      refine at_false (t := !y13_6) (x := C4 [1,1,1,1,1,0,1,0,0,1,0,0,1,0,1,0,1,1,1,0]) (y := C4 [1,1,1,1,1,0,1,0,0,1,0,0,1,0,1,0,1,1,1,1]) (o := .tmp 74) kf kf kf h4 ?_
      refine at_skip kf ?_
      refine at_then_normal ?_
      refine aq (x := C4 [1,1,1,1,1,0,1,0,0,1,0,0,1,1,0]) (y := C4 [1,1,1,1,1,0,1,0,0,1,0,0,1,1,1]) ?_
      refine ar (id := 31) 4 ?_
      refine sp 172 (.pointer (some ⟨b3_2, 0, none⟩)) ?_
      refine sp 173 (.pointer (some ⟨b3_5, 0, none⟩)) ?_
      refine HomesA.tox (.there (.there .here)) ?_
      intro x31_2_b3_5
      obtain ⟨y31_2, hy31_2, H⟩ := bindE H
      refine s_call 174 23 #[.pointer (some ⟨b3_2, 0, none⟩), .pointer (some ⟨b3_5, 0, none⟩)] kf kf (fun _ => kf) (Tr.conv (Γ' := (HomeA b3_2 y11_1.2.2) :: (HomesXA b3_5 x31_2_b3_5 y12_1.2.2) :: (Asn.own b12_5 (.cells #[iv y12_1.1.kind, iv y12_1.1.src, iv y12_1.1.dst, iv y12_1.1.id, iv y12_1.1.line, iv y12_1.1.ptr, iv y12_1.1.state, .bool y12_1.1.flag, .slice a12_1_00 (List.length y12_1.1.data) c12_1_00] 32 (0, 0))) :: (IntsA a12_1_00 c12_1_00 y12_1.1.data) :: (Asn.own b11_5 (.cells #[iv y11_1.1.kind, iv y11_1.1.src, iv y11_1.1.dst, iv y11_1.1.id, iv y11_1.1.line, iv y11_1.1.ptr, iv y11_1.1.state, .bool y11_1.1.flag, .slice a11_1_00 (List.length y11_1.1.data) c11_1_00] 32 (0, 0))) :: (IntsA a11_1_00 c11_1_00 y11_1.1.data) :: (Asn.own b9_4 (.cells #[iv x9_3.do_, iv x9_3.kind, iv x9_3.src, iv x9_3.dst, iv x9_3.id, iv x9_3.line, iv x9_3.ptr, iv x9_3.state, .bool x9_3.flag, .slice a9_3 (List.length x9_3.data) c9_3, iv x9_3.how] 49 (0, 0))) :: (ImmI a9_3 x9_3.data) :: (ImmI a1_1_00 y1_1.init) :: (Asn.own b1_2 (.cells #[iv y1_1.nodes, iv y1_1.lines, iv y1_1.words, iv y1_1.sets, iv y1_1.ways, iv y1_1.out, iv y1_1.inn, .slice a1_1_00 (List.length y1_1.init) c1_1_00] 26 (0, 0))) :: Γ) (fun w hw => (Sat.less (.take (.there (.there (.there (.there (.there .here))))) (.take .here (.take .here (.take .here (.take .here (.take .here (.take .here (.take .here (.take .here (.take .here .refl)))))))))) hw)) (Same11F_tr b3_2 y11_1.2.2 b3_5 x31_2_b3_5 y12_1.2.2 y31_2 hy31_2)) ?_
      rintro _ _ ⟨rfl, rfl⟩
      refine sp 175 (.bool !y31_2) ?_
      refine ops_end ?_
      refine ae [(1, iv y2_3), (2, .slice actsa (List.length acts) actscap), (7, .pointer (some ⟨b1_2, 0, none⟩)), (8, .pointer (some ⟨b3_2, 0, none⟩)), (9, .pointer (some ⟨b3_5, 0, none⟩)), (10, iv v0_10), (175, .bool !y31_2)] ?_
      refine at_then_normal ?_
      rcases Bool.eq_false_or_eq_true (!y31_2) with h5 | h5
      ·replace H := bifT H h5
       refine at_true (t := !y31_2) (x := C4 [1,1,1,1,1,0,1,0,0,1,0,0,1,1,1,0]) (y := C4 [1,1,1,1,1,0,1,0,0,1,0,0,1,1,1,1]) (o := .tmp 175) kf kf kf h5 ?_
       refine At.conv (Γ' := (HomesA b3_5 y12_1.2.2) :: (HomeA b3_2 y11_1.2.2) :: (Asn.own b12_5 (.cells #[iv y12_1.1.kind, iv y12_1.1.src, iv y12_1.1.dst, iv y12_1.1.id, iv y12_1.1.line, iv y12_1.1.ptr, iv y12_1.1.state, .bool y12_1.1.flag, .slice a12_1_00 (List.length y12_1.1.data) c12_1_00] 32 (0, 0))) :: (IntsA a12_1_00 c12_1_00 y12_1.1.data) :: (Asn.own b11_5 (.cells #[iv y11_1.1.kind, iv y11_1.1.src, iv y11_1.1.dst, iv y11_1.1.id, iv y11_1.1.line, iv y11_1.1.ptr, iv y11_1.1.state, .bool y11_1.1.flag, .slice a11_1_00 (List.length y11_1.1.data) c11_1_00] 32 (0, 0))) :: (IntsA a11_1_00 c11_1_00 y11_1.1.data) :: (Asn.own b9_4 (.cells #[iv x9_3.do_, iv x9_3.kind, iv x9_3.src, iv x9_3.dst, iv x9_3.id, iv x9_3.line, iv x9_3.ptr, iv x9_3.state, .bool x9_3.flag, .slice a9_3 (List.length x9_3.data) c9_3, iv x9_3.how] 49 (0, 0))) :: (ImmI a9_3 x9_3.data) :: (ImmI a1_1_00 y1_1.init) :: (Asn.own b1_2 (.cells #[iv y1_1.nodes, iv y1_1.lines, iv y1_1.words, iv y1_1.sets, iv y1_1.ways, iv y1_1.out, iv y1_1.inn, .slice a1_1_00 (List.length y1_1.init) c1_1_00] 26 (0, 0))) :: Γ) (fun w hw => HomesXA.shut (hw.pull (.there .here))) ?_
       refine aq (x := C4 [1,1,1,1,1,0,1,0,0,1,0,0,1,1,1,0,0]) (y := C4 [1,1,1,1,1,0,1,0,0,1,0,0,1,1,1,0,1]) ?_
       refine ar (id := 32) 1 ?_
       refine sp 6 (.bool false) ?_
       refine ops_end ?_
       refine ae [(6, .bool false)] ?_
       refine at_then_normal ?_
       refine at_ret kf ?_
       refine at_in_ret ?_
       refine at_then_ret ?_
       refine at_then_ret ?_
       refine at_in_ret ?_
       refine at_then_ret ?_
       obtain rfl := someE H
       refine at_backR [.bool false] (Γ) (rs := [.tmp 6]) kf (.cons (.tmp kf) .nil) (fun w hw => (Sat.less (.drop .here (.drop .here (.drop .here (.drop .here (.drop .here (.drop .here (.drop .here (.drop .here (.drop .here (.drop .here .refl)))))))))) hw)) ?_
       exact ⟨rfl, rfl⟩
      ·replace H := bifF H h5
       refine at_false (t := !y31_2) (x := C4 [1,1,1,1,1,0,1,0,0,1,0,0,1,1,1,0]) (y := C4 [1,1,1,1,1,0,1,0,0,1,0,0,1,1,1,1]) (o := .tmp 175) kf kf kf h5 ?_
       refine at_skip kf ?_
       refine at_in_normal ?_
       refine at_then_normal ?_
       refine ar (id := 8) 3 ?_
       refine sp 46 (iv v0_10) ?_
       obtain ⟨hc8_1_0, H⟩ := chkE H
       refine sr 47 (iv (v0_10 + (1 : Int))) (run_eq (v := iv (IntKind.i64.wrap (v0_10 + (1 : Int)))) (fun _ => kf) (by rw [inR.wrap hc8_1_0])) ?_
       refine sp 10 (iv (v0_10 + (1 : Int))) ?_
       refine ops_end ?_
       refine ae [(1, iv y2_3), (2, .slice actsa (List.length acts) actscap), (7, .pointer (some ⟨b1_2, 0, none⟩)), (8, .pointer (some ⟨b3_2, 0, none⟩)), (9, .pointer (some ⟨b3_5, 0, none⟩)), (10, iv (v0_10 + (1 : Int)))] ?_
       refine at_round_normal ?_
       refine At.conv (Γ' := (HomesA b3_5 y12_1.2.2) :: (HomeA b3_2 y11_1.2.2) :: (Asn.own b12_5 (.cells #[iv y12_1.1.kind, iv y12_1.1.src, iv y12_1.1.dst, iv y12_1.1.id, iv y12_1.1.line, iv y12_1.1.ptr, iv y12_1.1.state, .bool y12_1.1.flag, .slice a12_1_00 (List.length y12_1.1.data) c12_1_00] 32 (0, 0))) :: (IntsA a12_1_00 c12_1_00 y12_1.1.data) :: (Asn.own b11_5 (.cells #[iv y11_1.1.kind, iv y11_1.1.src, iv y11_1.1.dst, iv y11_1.1.id, iv y11_1.1.line, iv y11_1.1.ptr, iv y11_1.1.state, .bool y11_1.1.flag, .slice a11_1_00 (List.length y11_1.1.data) c11_1_00] 32 (0, 0))) :: (IntsA a11_1_00 c11_1_00 y11_1.1.data) :: (Asn.own b9_4 (.cells #[iv x9_3.do_, iv x9_3.kind, iv x9_3.src, iv x9_3.dst, iv x9_3.id, iv x9_3.line, iv x9_3.ptr, iv x9_3.state, .bool x9_3.flag, .slice a9_3 (List.length x9_3.data) c9_3, iv x9_3.how] 49 (0, 0))) :: (ImmI a9_3 x9_3.data) :: (ImmI a1_1_00 y1_1.init) :: (Asn.own b1_2 (.cells #[iv y1_1.nodes, iv y1_1.lines, iv y1_1.words, iv y1_1.sets, iv y1_1.ways, iv y1_1.out, iv y1_1.inn, .slice a1_1_00 (List.length y1_1.init) c1_1_00] 26 (0, 0))) :: Γ) (fun w hw => HomesXA.shut (hw.pull (.there .here))) ?_
       exact at_roundR fuel1 [(1, iv y2_3), (2, .slice actsa (List.length acts) actscap), (7, .pointer (some ⟨b1_2, 0, none⟩)), (8, .pointer (some ⟨b3_2, 0, none⟩)), (9, .pointer (some ⟨b3_5, 0, none⟩)), (10, iv (v0_10 + (1 : Int)))] ((HomesA b3_5 y12_1.2.2) :: (ImmI a1_1_00 y1_1.init) :: (HomeA b3_2 y11_1.2.2) :: (Asn.own b1_2 (.cells #[iv y1_1.nodes, iv y1_1.lines, iv y1_1.words, iv y1_1.sets, iv y1_1.ways, iv y1_1.out, iv y1_1.inn, .slice a1_1_00 (List.length y1_1.init) c1_1_00] 26 (0, 0))) :: Γ) (Nat.lt_succ_self _) ⟨kf, kf, kf, kf, kf, kf, trivial⟩ (fun w hw => (Sat.less (.take .here (.take (.there (.there (.there (.there (.there (.there (.there .here))))))) (.take .here (.take (.there (.there (.there (.there (.there (.there .here)))))) (.drop .here (.drop .here (.drop .here (.drop .here (.drop .here (.drop .here .refl)))))))))) hw)) ⟨fuel1, v0_10 + (1 : Int), y12_1.2.2, y11_1.2.2, H, rfl, rfl, rfl⟩
   ·replace H := bifF H h2
    refine at_false (t := decide (y10_2 = (4 : Int))) (x := C4 [1,1,1,1,1,0,1,0,0,1,0,0,1,0,1,0]) (y := C4 [1,1,1,1,1,0,1,0,0,1,0,0,1,0,1,1]) (o := .tmp 55) kf kf kf h2 ?_
    refine aq (x := C4 [1,1,1,1,1,0,1,0,0,1,0,0,1,0,1,1,0]) (y := C4 [1,1,1,1,1,0,1,0,0,1,0,0,1,0,1,1,1]) ?_
    refine ar (id := 15) 7 ?_
    refine sp 75 (.pointer (some ⟨b9_4, 1, none⟩)) ?_
    refine sl 76 (.agg #[iv x9_3.kind, iv x9_3.src, iv x9_3.dst, iv x9_3.id, iv x9_3.line, iv x9_3.ptr, iv x9_3.state, .bool x9_3.flag, .slice a9_3 (List.length x9_3.data) c9_3]) (loadN (off := 1) (vs := [iv x9_3.kind, iv x9_3.src, iv x9_3.dst, iv x9_3.id, iv x9_3.line, iv x9_3.ptr, iv x9_3.state, .bool x9_3.flag, .slice a9_3 (List.length x9_3.data) c9_3]) 9 (fun _ => kf) (holds_own .here) rfl (by exact ⟨rfl, rfl, rfl, rfl, rfl, rfl, rfl, rfl, rfl, trivial⟩)) ?_
    refine sp 77 (.pointer (some ⟨b9_4, 10, none⟩)) ?_
    refine sl 78 (iv x9_3.how) (load1 (off := 10) (fun _ => kf) (holds_own .here) kf) ?_
    obtain ⟨y15_4, hy15_4, H⟩ := bindE H
    refine s_call 79 19 #[.agg #[iv x9_3.kind, iv x9_3.src, iv x9_3.dst, iv x9_3.id, iv x9_3.line, iv x9_3.ptr, iv x9_3.state, .bool x9_3.flag, .slice a9_3 (List.length x9_3.data) c9_3], iv x9_3.how] kf kf (fun _ => kf) (PlPacketF_tr a9_3 c9_3 (⟨x9_3.kind, x9_3.src, x9_3.dst, x9_3.id, x9_3.line, x9_3.ptr, x9_3.state, x9_3.flag, x9_3.data⟩ : PktS) x9_3.how (ImmR.reads (k := 1) (.there .here)) hcpx9_3 y15_4 hy15_4) ?_
    rintro _ _ ⟨a15_4_00, c15_4_00, rfl, rfl⟩
    refine s_step 16 kf kf (st_new (T := 32) (cells := #[iv (0), iv (0), iv (0), iv (0), iv (0), iv (0), iv (0), .bool false, .slice none 0 0]) (fun a => .pointer (some a)) (fun _ => kf)) ?_
    rintro _ _ ⟨b15_5, rfl, rfl⟩
    refine s_do kf kf (st_store (off := 0) (vs := [iv y15_4.kind, iv y15_4.src, iv y15_4.dst, iv y15_4.id, iv y15_4.line, iv y15_4.ptr, iv y15_4.state, .bool y15_4.flag, .slice a15_4_00 (List.length y15_4.data) c15_4_00]) (c' := #[iv y15_4.kind, iv y15_4.src, iv y15_4.dst, iv y15_4.id, iv y15_4.line, iv y15_4.ptr, iv y15_4.state, .bool y15_4.flag, .slice a15_4_00 (List.length y15_4.data) c15_4_00]) (fun _ => kf) .here kf kf kf) ?_
    rintro _ _ ⟨rfl, rfl⟩
    refine ops_end ?_
    refine ae [(1, iv y2_3), (2, .slice actsa (List.length acts) actscap), (7, .pointer (some ⟨b1_2, 0, none⟩)), (8, .pointer (some ⟨b3_2, 0, none⟩)), (9, .pointer (some ⟨b3_5, 0, none⟩)), (10, iv v0_10), (11, .pointer (some ⟨b9_4, 0, none⟩)), (16, .pointer (some ⟨b15_5, 0, none⟩))] ?_
    refine at_then_normal ?_
    refine at_seq_join (x := C4 [1,1,1,1,1,0,1,0,0,1,0,0,1,0,1,1,1,0]) (y := C4 [1,1,1,1,1,0,1,0,0,1,0,0,1,0,1,1,1,1]) (fun ff ΔΔ => ∃ (e2_b15_5_0 : Int) (e2_b15_5_1 : Int) (e2_b15_5_2 : Int) (e2_b15_5_4 : Int) (e2_b15_5_5 : Int) (e2_b15_5_6 : Int) (e2_b15_5_8x : List Int) (e2_b15_5_8a : Option Addr) (e2_b15_5_8c : Nat), homePlaysS_j2 v0_b3_2 y15_4 v0_b3_5 v0_10 (homePlaysS_l0 acts y1_1 y2_3 (homePlaysS_k0 ) fuel1) e2_b15_5_0 e2_b15_5_1 e2_b15_5_2 e2_b15_5_4 e2_b15_5_5 e2_b15_5_6 e2_b15_5_8x = some y ∧ ff = [(1, iv y2_3), (2, .slice actsa (List.length acts) actscap), (7, .pointer (some ⟨b1_2, 0, none⟩)), (8, .pointer (some ⟨b3_2, 0, none⟩)), (9, .pointer (some ⟨b3_5, 0, none⟩)), (10, iv v0_10), (16, .pointer (some ⟨b15_5, 0, none⟩))] ∧ (IntsA e2_b15_5_8a e2_b15_5_8c e2_b15_5_8x) :: (Asn.own b15_5 (.cells #[iv e2_b15_5_0, iv e2_b15_5_1, iv e2_b15_5_2, iv y15_4.id, iv e2_b15_5_4, iv e2_b15_5_5, iv e2_b15_5_6, .bool y15_4.flag, .slice e2_b15_5_8a (List.length e2_b15_5_8x) e2_b15_5_8c] 32 (0, 0))) :: (HomesA b3_5 v0_b3_5) :: (ImmI a1_1_00 y1_1.init) :: (HomeA b3_2 v0_b3_2) :: (Asn.own b1_2 (.cells #[iv y1_1.nodes, iv y1_1.lines, iv y1_1.words, iv y1_1.sets, iv y1_1.ways, iv y1_1.out, iv y1_1.inn, .slice a1_1_00 (List.length y1_1.init) c1_1_00] 26 (0, 0))) :: Γ = ΔΔ) kf ?_ ?_
    ·rintro _ _ ⟨e2_b15_5_0, e2_b15_5_1, e2_b15_5_2, e2_b15_5_4, e2_b15_5_5, e2_b15_5_6, e2_b15_5_8x, e2_b15_5_8a, e2_b15_5_8c, H, rfl, rfl⟩
     rw [homePlaysS_j2] at H
     refine aq (x := C4 [1,1,1,1,1,0,1,0,0,1,0,0,1,0,1,1,1,1,0]) (y := C4 [1,1,1,1,1,0,1,0,0,1,0,0,1,0,1,1,1,1,1]) ?_
     refine ar (id := 27) 11 ?_
     refine sp 145 (.pointer (some ⟨b3_2, 0, none⟩)) ?_
     refine sl 146 (.agg #[iv e2_b15_5_0, iv e2_b15_5_1, iv e2_b15_5_2, iv y15_4.id, iv e2_b15_5_4, iv e2_b15_5_5, iv e2_b15_5_6, .bool y15_4.flag, .slice e2_b15_5_8a (List.length e2_b15_5_8x) e2_b15_5_8c]) (loadN (off := 0) (vs := [iv e2_b15_5_0, iv e2_b15_5_1, iv e2_b15_5_2, iv y15_4.id, iv e2_b15_5_4, iv e2_b15_5_5, iv e2_b15_5_6, .bool y15_4.flag, .slice e2_b15_5_8a (List.length e2_b15_5_8x) e2_b15_5_8c]) 9 (fun _ => kf) (holds_own (.there .here)) rfl (by exact ⟨rfl, rfl, rfl, rfl, rfl, rfl, rfl, rfl, rfl, trivial⟩)) ?_
     obtain ⟨y27_2, hy27_2, H⟩ := bindE H
     refine s_call 147 10 #[.pointer (some ⟨b3_2, 0, none⟩), .agg #[iv e2_b15_5_0, iv e2_b15_5_1, iv e2_b15_5_2, iv y15_4.id, iv e2_b15_5_4, iv e2_b15_5_5, iv e2_b15_5_6, .bool y15_4.flag, .slice e2_b15_5_8a (List.length e2_b15_5_8x) e2_b15_5_8c]] kf kf (fun _ => kf) (Tr.conv (Γ' := (HomeA b3_2 v0_b3_2) :: (IntsA e2_b15_5_8a e2_b15_5_8c e2_b15_5_8x) :: (Asn.own b15_5 (.cells #[iv e2_b15_5_0, iv e2_b15_5_1, iv e2_b15_5_2, iv y15_4.id, iv e2_b15_5_4, iv e2_b15_5_5, iv e2_b15_5_6, .bool y15_4.flag, .slice e2_b15_5_8a (List.length e2_b15_5_8x) e2_b15_5_8c] 32 (0, 0))) :: (HomesA b3_5 v0_b3_5) :: (ImmI a1_1_00 y1_1.init) :: (Asn.own b1_2 (.cells #[iv y1_1.nodes, iv y1_1.lines, iv y1_1.words, iv y1_1.sets, iv y1_1.ways, iv y1_1.out, iv y1_1.inn, .slice a1_1_00 (List.length y1_1.init) c1_1_00] 26 (0, 0))) :: Γ) (fun w hw => (Sat.less (.take (.there (.there (.there (.there .here)))) (.take .here (.take .here (.take .here (.take .here (.take .here .refl)))))) hw)) (HHandleF_tr b3_2 v0_b3_2 e2_b15_5_8a e2_b15_5_8c (⟨e2_b15_5_0, e2_b15_5_1, e2_b15_5_2, y15_4.id, e2_b15_5_4, e2_b15_5_5, e2_b15_5_6, y15_4.flag, e2_b15_5_8x⟩ : PktS) (RowsA.reads (k := 1) .here) y27_2 hy27_2)) ?_
     rintro _ _ ⟨a27_2_00, c27_2_00, rfl, rfl⟩
     refine sp 144 (.tuple #[.agg #[iv y27_2.1.kind, iv y27_2.1.src, iv y27_2.1.dst, iv y27_2.1.id, iv y27_2.1.line, iv y27_2.1.ptr, iv y27_2.1.state, .bool y27_2.1.flag, .slice a27_2_00 (List.length y27_2.1.data) c27_2_00], .bool y27_2.2.1, iv y27_2.2.2.1]) ?_
     refine sp 148 (.agg #[iv y27_2.1.kind, iv y27_2.1.src, iv y27_2.1.dst, iv y27_2.1.id, iv y27_2.1.line, iv y27_2.1.ptr, iv y27_2.1.state, .bool y27_2.1.flag, .slice a27_2_00 (List.length y27_2.1.data) c27_2_00]) ?_
     refine sp 149 (.bool y27_2.2.1) ?_
     refine sp 150 (iv y27_2.2.2.1) ?_
     refine s_step 18 kf kf (st_new (T := 32) (cells := #[iv (0), iv (0), iv (0), iv (0), iv (0), iv (0), iv (0), .bool false, .slice none 0 0]) (fun a => .pointer (some a)) (fun _ => kf)) ?_
     rintro _ _ ⟨b27_7, rfl, rfl⟩
     refine s_do kf kf (st_store (off := 0) (vs := [iv y27_2.1.kind, iv y27_2.1.src, iv y27_2.1.dst, iv y27_2.1.id, iv y27_2.1.line, iv y27_2.1.ptr, iv y27_2.1.state, .bool y27_2.1.flag, .slice a27_2_00 (List.length y27_2.1.data) c27_2_00]) (c' := #[iv y27_2.1.kind, iv y27_2.1.src, iv y27_2.1.dst, iv y27_2.1.id, iv y27_2.1.line, iv y27_2.1.ptr, iv y27_2.1.state, .bool y27_2.1.flag, .slice a27_2_00 (List.length y27_2.1.data) c27_2_00]) (fun _ => kf) .here kf kf kf) ?_
     rintro _ _ ⟨rfl, rfl⟩
     refine sp 19 (.bool y27_2.2.1) ?_
     refine sp 20 (iv y27_2.2.2.1) ?_
     refine ops_end ?_
     refine ae [(1, iv y2_3), (2, .slice actsa (List.length acts) actscap), (7, .pointer (some ⟨b1_2, 0, none⟩)), (8, .pointer (some ⟨b3_2, 0, none⟩)), (9, .pointer (some ⟨b3_5, 0, none⟩)), (10, iv v0_10), (16, .pointer (some ⟨b15_5, 0, none⟩)), (18, .pointer (some ⟨b27_7, 0, none⟩)), (19, .bool y27_2.2.1), (20, iv y27_2.2.2.1)] ?_
     refine at_then_normal ?_
     refine aq (x := C4 [1,1,1,1,1,0,1,0,0,1,0,0,1,0,1,1,1,1,1,0]) (y := C4 [1,1,1,1,1,0,1,0,0,1,0,0,1,0,1,1,1,1,1,1]) ?_
     refine ar (id := 28) 11 ?_
     refine sp 152 (.pointer (some ⟨b3_5, 0, none⟩)) ?_
     refine sl 153 (.agg #[iv e2_b15_5_0, iv e2_b15_5_1, iv e2_b15_5_2, iv y15_4.id, iv e2_b15_5_4, iv e2_b15_5_5, iv e2_b15_5_6, .bool y15_4.flag, .slice e2_b15_5_8a (List.length e2_b15_5_8x) e2_b15_5_8c]) (loadN (off := 0) (vs := [iv e2_b15_5_0, iv e2_b15_5_1, iv e2_b15_5_2, iv y15_4.id, iv e2_b15_5_4, iv e2_b15_5_5, iv e2_b15_5_6, .bool y15_4.flag, .slice e2_b15_5_8a (List.length e2_b15_5_8x) e2_b15_5_8c]) 9 (fun _ => kf) (holds_own (.there (.there (.there (.there .here))))) rfl (by exact ⟨rfl, rfl, rfl, rfl, rfl, rfl, rfl, rfl, rfl, trivial⟩)) ?_
     obtain ⟨y28_2, hy28_2, H⟩ := bindE H
     refine s_call 154 22 #[.pointer (some ⟨b3_5, 0, none⟩), .agg #[iv e2_b15_5_0, iv e2_b15_5_1, iv e2_b15_5_2, iv y15_4.id, iv e2_b15_5_4, iv e2_b15_5_5, iv e2_b15_5_6, .bool y15_4.flag, .slice e2_b15_5_8a (List.length e2_b15_5_8x) e2_b15_5_8c]] kf kf (fun _ => kf) (Tr.conv (Γ' := (HomesA b3_5 v0_b3_5) :: (Asn.own b27_7 (.cells #[iv y27_2.1.kind, iv y27_2.1.src, iv y27_2.1.dst, iv y27_2.1.id, iv y27_2.1.line, iv y27_2.1.ptr, iv y27_2.1.state, .bool y27_2.1.flag, .slice a27_2_00 (List.length y27_2.1.data) c27_2_00] 32 (0, 0))) :: (IntsA a27_2_00 c27_2_00 y27_2.1.data) :: (HomeA b3_2 y27_2.2.2.2) :: (IntsA e2_b15_5_8a e2_b15_5_8c e2_b15_5_8x) :: (Asn.own b15_5 (.cells #[iv e2_b15_5_0, iv e2_b15_5_1, iv e2_b15_5_2, iv y15_4.id, iv e2_b15_5_4, iv e2_b15_5_5, iv e2_b15_5_6, .bool y15_4.flag, .slice e2_b15_5_8a (List.length e2_b15_5_8x) e2_b15_5_8c] 32 (0, 0))) :: (ImmI a1_1_00 y1_1.init) :: (Asn.own b1_2 (.cells #[iv y1_1.nodes, iv y1_1.lines, iv y1_1.words, iv y1_1.sets, iv y1_1.ways, iv y1_1.out, iv y1_1.inn, .slice a1_1_00 (List.length y1_1.init) c1_1_00] 26 (0, 0))) :: Γ) (fun w hw => (Sat.less (.take (.there (.there (.there (.there (.there .here))))) (.take .here (.take .here (.take .here (.take .here (.take .here (.take .here (.take .here .refl)))))))) hw)) (SHandle7F_tr b3_5 v0_b3_5 e2_b15_5_8a e2_b15_5_8c (⟨e2_b15_5_0, e2_b15_5_1, e2_b15_5_2, y15_4.id, e2_b15_5_4, e2_b15_5_5, e2_b15_5_6, y15_4.flag, e2_b15_5_8x⟩ : PktS) (RowsA.reads (k := 1) (.there (.there (.there .here)))) y28_2 hy28_2)) ?_
     rintro _ _ ⟨a28_2_00, c28_2_00, rfl, rfl⟩
     refine sp 151 (.tuple #[.agg #[iv y28_2.1.kind, iv y28_2.1.src, iv y28_2.1.dst, iv y28_2.1.id, iv y28_2.1.line, iv y28_2.1.ptr, iv y28_2.1.state, .bool y28_2.1.flag, .slice a28_2_00 (List.length y28_2.1.data) c28_2_00], .bool y28_2.2.1, iv y28_2.2.2.1]) ?_
     refine sp 155 (.agg #[iv y28_2.1.kind, iv y28_2.1.src, iv y28_2.1.dst, iv y28_2.1.id, iv y28_2.1.line, iv y28_2.1.ptr, iv y28_2.1.state, .bool y28_2.1.flag, .slice a28_2_00 (List.length y28_2.1.data) c28_2_00]) ?_
     refine sp 156 (.bool y28_2.2.1) ?_
     refine sp 157 (iv y28_2.2.2.1) ?_
     refine s_step 21 kf kf (st_new (T := 32) (cells := #[iv (0), iv (0), iv (0), iv (0), iv (0), iv (0), iv (0), .bool false, .slice none 0 0]) (fun a => .pointer (some a)) (fun _ => kf)) ?_
     rintro _ _ ⟨b28_7, rfl, rfl⟩
     refine s_do kf kf (st_store (off := 0) (vs := [iv y28_2.1.kind, iv y28_2.1.src, iv y28_2.1.dst, iv y28_2.1.id, iv y28_2.1.line, iv y28_2.1.ptr, iv y28_2.1.state, .bool y28_2.1.flag, .slice a28_2_00 (List.length y28_2.1.data) c28_2_00]) (c' := #[iv y28_2.1.kind, iv y28_2.1.src, iv y28_2.1.dst, iv y28_2.1.id, iv y28_2.1.line, iv y28_2.1.ptr, iv y28_2.1.state, .bool y28_2.1.flag, .slice a28_2_00 (List.length y28_2.1.data) c28_2_00]) (fun _ => kf) .here kf kf kf) ?_
     rintro _ _ ⟨rfl, rfl⟩
     refine sp 22 (.bool y28_2.2.1) ?_
     refine sp 23 (iv y28_2.2.2.1) ?_
     refine ops_end ?_
     refine ae [(1, iv y2_3), (2, .slice actsa (List.length acts) actscap), (7, .pointer (some ⟨b1_2, 0, none⟩)), (8, .pointer (some ⟨b3_2, 0, none⟩)), (9, .pointer (some ⟨b3_5, 0, none⟩)), (10, iv v0_10), (18, .pointer (some ⟨b27_7, 0, none⟩)), (19, .bool y27_2.2.1), (20, iv y27_2.2.2.1), (21, .pointer (some ⟨b28_7, 0, none⟩)), (22, .bool y28_2.2.1), (23, iv y28_2.2.2.1)] ?_
     refine at_then_normal ?_
     refine aq (x := C4 [1,1,1,1,1,0,1,0,0,1,0,0,1,0,1,1,1,1,1,1,0]) (y := C4 [1,1,1,1,1,0,1,0,0,1,0,0,1,0,1,1,1,1,1,1,1]) ?_
     refine ar (id := 29) 14 ?_
     refine sp 158 (.bool y27_2.2.1) ?_
     refine sp 159 (.bool y28_2.2.1) ?_
     refine sp 160 (.bool (!(y27_2.2.1 == y28_2.2.1))) ?_
     rcases Bool.eq_false_or_eq_true (!(y27_2.2.1 == y28_2.2.1)) with h6 | h6
     ·replace H := bifT H h6
      refine sr 161 (.bool true) (run_eq (v := .bool (!(y27_2.2.1 == y28_2.2.1))) (fun _ => kf) (congrArg Value.bool h6)) ?_
      refine sa 162 ?_
      refine sa 163 ?_
      refine sa 164 ?_
      refine sp 165 (.bool true) ?_
      refine sp 166 (.bool true) ?_
      refine sa 167 ?_
      refine sa 168 ?_
      refine sa 169 ?_
      refine sa 170 ?_
      refine sp 171 (.bool true) ?_
      refine ops_end ?_
      refine ae [(1, iv y2_3), (2, .slice actsa (List.length acts) actscap), (7, .pointer (some ⟨b1_2, 0, none⟩)), (8, .pointer (some ⟨b3_2, 0, none⟩)), (9, .pointer (some ⟨b3_5, 0, none⟩)), (10, iv v0_10), (171, .bool true)] ?_
      refine at_then_normal ?_
      refine at_true (t := true) (x := C4 [1,1,1,1,1,0,1,0,0,1,0,0,1,0,1,1,1,1,1,1,1,0]) (y := C4 [1,1,1,1,1,0,1,0,0,1,0,0,1,0,1,1,1,1,1,1,1,1]) (o := .tmp 171) kf kf kf rfl ?_
      refine aq (x := C4 [1,1,1,1,1,0,1,0,0,1,0,0,1,0,1,1,1,1,1,1,1,0,0]) (y := C4 [1,1,1,1,1,0,1,0,0,1,0,0,1,0,1,1,1,1,1,1,1,0,1]) ?_
      refine ar (id := 30) 1 ?_
      refine sp 6 (.bool false) ?_
      refine ops_end ?_
      refine ae [(6, .bool false)] ?_
      refine at_then_normal ?_
      refine at_ret kf ?_
      refine at_then_ret ?_
      refine at_in_ret ?_
      refine at_then_ret ?_
      refine at_then_ret ?_
      refine at_in_ret ?_
      refine at_then_ret ?_
      obtain rfl := someE H
      refine at_backR [.bool false] (Γ) (rs := [.tmp 6]) kf (.cons (.tmp kf) .nil) (fun w hw => (Sat.less (.drop .here (.drop .here (.drop .here (.drop .here (.drop .here (.drop .here (.drop .here (.drop .here (.drop .here (.drop .here .refl)))))))))) hw)) ?_
      exact ⟨rfl, rfl⟩
     ·replace H := bifF H h6
      refine sr 161 (.bool false) (run_eq (v := .bool (!(y27_2.2.1 == y28_2.2.1))) (fun _ => kf) (congrArg Value.bool h6)) ?_
      refine sp 162 (iv y27_2.2.2.1) ?_
      refine sp 163 (iv y28_2.2.2.1) ?_
      refine sp 164 (.bool (!(decide (y27_2.2.2.1 = y28_2.2.2.1)))) ?_
      refine sp 165 (.bool (!(decide (y27_2.2.2.1 = y28_2.2.2.1)))) ?_
      rcases Bool.eq_false_or_eq_true (!(decide (y27_2.2.2.1 = y28_2.2.2.1))) with h7 | h7
      ·replace H := bifT H h7
       refine sr 166 (.bool true) (run_eq (v := .bool (!(decide (y27_2.2.2.1 = y28_2.2.2.1)))) (fun _ => kf) (congrArg Value.bool h7)) ?_
       refine sa 167 ?_
       refine sa 168 ?_
       refine sa 169 ?_
       refine sa 170 ?_
       refine sp 171 (.bool true) ?_
       refine ops_end ?_
       refine ae [(1, iv y2_3), (2, .slice actsa (List.length acts) actscap), (7, .pointer (some ⟨b1_2, 0, none⟩)), (8, .pointer (some ⟨b3_2, 0, none⟩)), (9, .pointer (some ⟨b3_5, 0, none⟩)), (10, iv v0_10), (171, .bool true)] ?_
       refine at_then_normal ?_
       refine at_true (t := true) (x := C4 [1,1,1,1,1,0,1,0,0,1,0,0,1,0,1,1,1,1,1,1,1,0]) (y := C4 [1,1,1,1,1,0,1,0,0,1,0,0,1,0,1,1,1,1,1,1,1,1]) (o := .tmp 171) kf kf kf rfl ?_
       refine aq (x := C4 [1,1,1,1,1,0,1,0,0,1,0,0,1,0,1,1,1,1,1,1,1,0,0]) (y := C4 [1,1,1,1,1,0,1,0,0,1,0,0,1,0,1,1,1,1,1,1,1,0,1]) ?_
       refine ar (id := 30) 1 ?_
       refine sp 6 (.bool false) ?_
       refine ops_end ?_
       refine ae [(6, .bool false)] ?_
       refine at_then_normal ?_
       refine at_ret kf ?_
       refine at_then_ret ?_
       refine at_in_ret ?_
       refine at_then_ret ?_
       refine at_then_ret ?_
       refine at_in_ret ?_
       refine at_then_ret ?_
       obtain rfl := someE H
       refine at_backR [.bool false] (Γ) (rs := [.tmp 6]) kf (.cons (.tmp kf) .nil) (fun w hw => (Sat.less (.drop .here (.drop .here (.drop .here (.drop .here (.drop .here (.drop .here (.drop .here (.drop .here (.drop .here (.drop .here .refl)))))))))) hw)) ?_
       exact ⟨rfl, rfl⟩
      ·replace H := bifF H h7
       refine sr 166 (.bool false) (run_eq (v := .bool (!(decide (y27_2.2.2.1 = y28_2.2.2.1)))) (fun _ => kf) (congrArg Value.bool h7)) ?_
       refine sl 167 (.agg #[iv y27_2.1.kind, iv y27_2.1.src, iv y27_2.1.dst, iv y27_2.1.id, iv y27_2.1.line, iv y27_2.1.ptr, iv y27_2.1.state, .bool y27_2.1.flag, .slice a27_2_00 (List.length y27_2.1.data) c27_2_00]) (loadN (off := 0) (vs := [iv y27_2.1.kind, iv y27_2.1.src, iv y27_2.1.dst, iv y27_2.1.id, iv y27_2.1.line, iv y27_2.1.ptr, iv y27_2.1.state, .bool y27_2.1.flag, .slice a27_2_00 (List.length y27_2.1.data) c27_2_00]) 9 (fun _ => kf) (holds_own (.there (.there (.there .here)))) rfl (by exact ⟨rfl, rfl, rfl, rfl, rfl, rfl, rfl, rfl, rfl, trivial⟩)) ?_
       refine sl 168 (.agg #[iv y28_2.1.kind, iv y28_2.1.src, iv y28_2.1.dst, iv y28_2.1.id, iv y28_2.1.line, iv y28_2.1.ptr, iv y28_2.1.state, .bool y28_2.1.flag, .slice a28_2_00 (List.length y28_2.1.data) c28_2_00]) (loadN (off := 0) (vs := [iv y28_2.1.kind, iv y28_2.1.src, iv y28_2.1.dst, iv y28_2.1.id, iv y28_2.1.line, iv y28_2.1.ptr, iv y28_2.1.state, .bool y28_2.1.flag, .slice a28_2_00 (List.length y28_2.1.data) c28_2_00]) 9 (fun _ => kf) (holds_own .here) rfl (by exact ⟨rfl, rfl, rfl, rfl, rfl, rfl, rfl, rfl, rfl, trivial⟩)) ?_
       obtain ⟨y29_11, hy29_11, H⟩ := bindE H
       refine s_call 169 18 #[.agg #[iv y27_2.1.kind, iv y27_2.1.src, iv y27_2.1.dst, iv y27_2.1.id, iv y27_2.1.line, iv y27_2.1.ptr, iv y27_2.1.state, .bool y27_2.1.flag, .slice a27_2_00 (List.length y27_2.1.data) c27_2_00], .agg #[iv y28_2.1.kind, iv y28_2.1.src, iv y28_2.1.dst, iv y28_2.1.id, iv y28_2.1.line, iv y28_2.1.ptr, iv y28_2.1.state, .bool y28_2.1.flag, .slice a28_2_00 (List.length y28_2.1.data) c28_2_00]] kf kf (fun _ => kf) (RSamePF_tr a27_2_00 c27_2_00 y27_2.1 a28_2_00 c28_2_00 y28_2.1 (RowsA.reads (k := 1) (.there (.there (.there (.there .here))))) (RowsA.reads (k := 1) (.there .here)) y29_11 hy29_11) ?_
       rintro _ _ ⟨rfl, rfl⟩
       refine sp 170 (.bool !y29_11) ?_
       refine sp 171 (.bool !y29_11) ?_
       refine ops_end ?_
       refine ae [(1, iv y2_3), (2, .slice actsa (List.length acts) actscap), (7, .pointer (some ⟨b1_2, 0, none⟩)), (8, .pointer (some ⟨b3_2, 0, none⟩)), (9, .pointer (some ⟨b3_5, 0, none⟩)), (10, iv v0_10), (171, .bool !y29_11)] ?_
       refine at_then_normal ?_
       rcases Bool.eq_false_or_eq_true (!y29_11) with h8 | h8
       ·replace H := bifT H h8
        refine at_true (t := !y29_11) (x := C4 [1,1,1,1,1,0,1,0,0,1,0,0,1,0,1,1,1,1,1,1,1,0]) (y := C4 [1,1,1,1,1,0,1,0,0,1,0,0,1,0,1,1,1,1,1,1,1,1]) (o := .tmp 171) kf kf kf h8 ?_
        refine aq (x := C4 [1,1,1,1,1,0,1,0,0,1,0,0,1,0,1,1,1,1,1,1,1,0,0]) (y := C4 [1,1,1,1,1,0,1,0,0,1,0,0,1,0,1,1,1,1,1,1,1,0,1]) ?_
        refine ar (id := 30) 1 ?_
        refine sp 6 (.bool false) ?_
        refine ops_end ?_
        refine ae [(6, .bool false)] ?_
        refine at_then_normal ?_
        refine at_ret kf ?_
        refine at_then_ret ?_
        refine at_in_ret ?_
        refine at_then_ret ?_
        refine at_then_ret ?_
        refine at_in_ret ?_
        refine at_then_ret ?_
        obtain rfl := someE H
        refine at_backR [.bool false] (Γ) (rs := [.tmp 6]) kf (.cons (.tmp kf) .nil) (fun w hw => (Sat.less (.drop .here (.drop .here (.drop .here (.drop .here (.drop .here (.drop .here (.drop .here (.drop .here (.drop .here (.drop .here .refl)))))))))) hw)) ?_
        exact ⟨rfl, rfl⟩
       ·replace H := bifF H h8
        refine at_false (t := !y29_11) (x := C4 [1,1,1,1,1,0,1,0,0,1,0,0,1,0,1,1,1,1,1,1,1,0]) (y := C4 [1,1,1,1,1,0,1,0,0,1,0,0,1,0,1,1,1,1,1,1,1,1]) (o := .tmp 171) kf kf kf h8 ?_
        refine at_skip kf ?_
        refine at_then_normal ?_
        refine aq (x := C4 [1,1,1,1,1,0,1,0,0,1,0,0,1,1,0]) (y := C4 [1,1,1,1,1,0,1,0,0,1,0,0,1,1,1]) ?_
        refine ar (id := 31) 4 ?_
        refine sp 172 (.pointer (some ⟨b3_2, 0, none⟩)) ?_
        refine sp 173 (.pointer (some ⟨b3_5, 0, none⟩)) ?_
        refine HomesA.tox (.there (.there .here)) ?_
        intro x31_2_b3_5
        obtain ⟨y31_2, hy31_2, H⟩ := bindE H
        refine s_call 174 23 #[.pointer (some ⟨b3_2, 0, none⟩), .pointer (some ⟨b3_5, 0, none⟩)] kf kf (fun _ => kf) (Tr.conv (Γ' := (HomeA b3_2 y27_2.2.2.2) :: (HomesXA b3_5 x31_2_b3_5 y28_2.2.2.2) :: (Asn.own b28_7 (.cells #[iv y28_2.1.kind, iv y28_2.1.src, iv y28_2.1.dst, iv y28_2.1.id, iv y28_2.1.line, iv y28_2.1.ptr, iv y28_2.1.state, .bool y28_2.1.flag, .slice a28_2_00 (List.length y28_2.1.data) c28_2_00] 32 (0, 0))) :: (IntsA a28_2_00 c28_2_00 y28_2.1.data) :: (Asn.own b27_7 (.cells #[iv y27_2.1.kind, iv y27_2.1.src, iv y27_2.1.dst, iv y27_2.1.id, iv y27_2.1.line, iv y27_2.1.ptr, iv y27_2.1.state, .bool y27_2.1.flag, .slice a27_2_00 (List.length y27_2.1.data) c27_2_00] 32 (0, 0))) :: (IntsA a27_2_00 c27_2_00 y27_2.1.data) :: (IntsA e2_b15_5_8a e2_b15_5_8c e2_b15_5_8x) :: (Asn.own b15_5 (.cells #[iv e2_b15_5_0, iv e2_b15_5_1, iv e2_b15_5_2, iv y15_4.id, iv e2_b15_5_4, iv e2_b15_5_5, iv e2_b15_5_6, .bool y15_4.flag, .slice e2_b15_5_8a (List.length e2_b15_5_8x) e2_b15_5_8c] 32 (0, 0))) :: (ImmI a1_1_00 y1_1.init) :: (Asn.own b1_2 (.cells #[iv y1_1.nodes, iv y1_1.lines, iv y1_1.words, iv y1_1.sets, iv y1_1.ways, iv y1_1.out, iv y1_1.inn, .slice a1_1_00 (List.length y1_1.init) c1_1_00] 26 (0, 0))) :: Γ) (fun w hw => (Sat.less (.take (.there (.there (.there (.there (.there .here))))) (.take .here (.take .here (.take .here (.take .here (.take .here (.take .here (.take .here (.take .here (.take .here .refl)))))))))) hw)) (Same11F_tr b3_2 y27_2.2.2.2 b3_5 x31_2_b3_5 y28_2.2.2.2 y31_2 hy31_2)) ?_
        rintro _ _ ⟨rfl, rfl⟩
        refine sp 175 (.bool !y31_2) ?_
        refine ops_end ?_
        refine ae [(1, iv y2_3), (2, .slice actsa (List.length acts) actscap), (7, .pointer (some ⟨b1_2, 0, none⟩)), (8, .pointer (some ⟨b3_2, 0, none⟩)), (9, .pointer (some ⟨b3_5, 0, none⟩)), (10, iv v0_10), (175, .bool !y31_2)] ?_
        refine at_then_normal ?_
        rcases Bool.eq_false_or_eq_true (!y31_2) with h9 | h9
        ·replace H := bifT H h9
         refine at_true (t := !y31_2) (x := C4 [1,1,1,1,1,0,1,0,0,1,0,0,1,1,1,0]) (y := C4 [1,1,1,1,1,0,1,0,0,1,0,0,1,1,1,1]) (o := .tmp 175) kf kf kf h9 ?_
         refine At.conv (Γ' := (HomesA b3_5 y28_2.2.2.2) :: (HomeA b3_2 y27_2.2.2.2) :: (Asn.own b28_7 (.cells #[iv y28_2.1.kind, iv y28_2.1.src, iv y28_2.1.dst, iv y28_2.1.id, iv y28_2.1.line, iv y28_2.1.ptr, iv y28_2.1.state, .bool y28_2.1.flag, .slice a28_2_00 (List.length y28_2.1.data) c28_2_00] 32 (0, 0))) :: (IntsA a28_2_00 c28_2_00 y28_2.1.data) :: (Asn.own b27_7 (.cells #[iv y27_2.1.kind, iv y27_2.1.src, iv y27_2.1.dst, iv y27_2.1.id, iv y27_2.1.line, iv y27_2.1.ptr, iv y27_2.1.state, .bool y27_2.1.flag, .slice a27_2_00 (List.length y27_2.1.data) c27_2_00] 32 (0, 0))) :: (IntsA a27_2_00 c27_2_00 y27_2.1.data) :: (IntsA e2_b15_5_8a e2_b15_5_8c e2_b15_5_8x) :: (Asn.own b15_5 (.cells #[iv e2_b15_5_0, iv e2_b15_5_1, iv e2_b15_5_2, iv y15_4.id, iv e2_b15_5_4, iv e2_b15_5_5, iv e2_b15_5_6, .bool y15_4.flag, .slice e2_b15_5_8a (List.length e2_b15_5_8x) e2_b15_5_8c] 32 (0, 0))) :: (ImmI a1_1_00 y1_1.init) :: (Asn.own b1_2 (.cells #[iv y1_1.nodes, iv y1_1.lines, iv y1_1.words, iv y1_1.sets, iv y1_1.ways, iv y1_1.out, iv y1_1.inn, .slice a1_1_00 (List.length y1_1.init) c1_1_00] 26 (0, 0))) :: Γ) (fun w hw => HomesXA.shut (hw.pull (.there .here))) ?_
         refine aq (x := C4 [1,1,1,1,1,0,1,0,0,1,0,0,1,1,1,0,0]) (y := C4 [1,1,1,1,1,0,1,0,0,1,0,0,1,1,1,0,1]) ?_
         refine ar (id := 32) 1 ?_
         refine sp 6 (.bool false) ?_
         refine ops_end ?_
         refine ae [(6, .bool false)] ?_
         refine at_then_normal ?_
         refine at_ret kf ?_
         refine at_in_ret ?_
         refine at_then_ret ?_
         refine at_then_ret ?_
         refine at_in_ret ?_
         refine at_then_ret ?_
         obtain rfl := someE H
         refine at_backR [.bool false] (Γ) (rs := [.tmp 6]) kf (.cons (.tmp kf) .nil) (fun w hw => (Sat.less (.drop .here (.drop .here (.drop .here (.drop .here (.drop .here (.drop .here (.drop .here (.drop .here (.drop .here (.drop .here .refl)))))))))) hw)) ?_
         exact ⟨rfl, rfl⟩
        ·replace H := bifF H h9
         refine at_false (t := !y31_2) (x := C4 [1,1,1,1,1,0,1,0,0,1,0,0,1,1,1,0]) (y := C4 [1,1,1,1,1,0,1,0,0,1,0,0,1,1,1,1]) (o := .tmp 175) kf kf kf h9 ?_
         refine at_skip kf ?_
         refine at_in_normal ?_
         refine at_then_normal ?_
         refine ar (id := 8) 3 ?_
         refine sp 46 (iv v0_10) ?_
         obtain ⟨hc8_1_0, H⟩ := chkE H
         refine sr 47 (iv (v0_10 + (1 : Int))) (run_eq (v := iv (IntKind.i64.wrap (v0_10 + (1 : Int)))) (fun _ => kf) (by rw [inR.wrap hc8_1_0])) ?_
         refine sp 10 (iv (v0_10 + (1 : Int))) ?_
         refine ops_end ?_
         refine ae [(1, iv y2_3), (2, .slice actsa (List.length acts) actscap), (7, .pointer (some ⟨b1_2, 0, none⟩)), (8, .pointer (some ⟨b3_2, 0, none⟩)), (9, .pointer (some ⟨b3_5, 0, none⟩)), (10, iv (v0_10 + (1 : Int)))] ?_
         refine at_round_normal ?_
         refine At.conv (Γ' := (HomesA b3_5 y28_2.2.2.2) :: (HomeA b3_2 y27_2.2.2.2) :: (Asn.own b28_7 (.cells #[iv y28_2.1.kind, iv y28_2.1.src, iv y28_2.1.dst, iv y28_2.1.id, iv y28_2.1.line, iv y28_2.1.ptr, iv y28_2.1.state, .bool y28_2.1.flag, .slice a28_2_00 (List.length y28_2.1.data) c28_2_00] 32 (0, 0))) :: (IntsA a28_2_00 c28_2_00 y28_2.1.data) :: (Asn.own b27_7 (.cells #[iv y27_2.1.kind, iv y27_2.1.src, iv y27_2.1.dst, iv y27_2.1.id, iv y27_2.1.line, iv y27_2.1.ptr, iv y27_2.1.state, .bool y27_2.1.flag, .slice a27_2_00 (List.length y27_2.1.data) c27_2_00] 32 (0, 0))) :: (IntsA a27_2_00 c27_2_00 y27_2.1.data) :: (IntsA e2_b15_5_8a e2_b15_5_8c e2_b15_5_8x) :: (Asn.own b15_5 (.cells #[iv e2_b15_5_0, iv e2_b15_5_1, iv e2_b15_5_2, iv y15_4.id, iv e2_b15_5_4, iv e2_b15_5_5, iv e2_b15_5_6, .bool y15_4.flag, .slice e2_b15_5_8a (List.length e2_b15_5_8x) e2_b15_5_8c] 32 (0, 0))) :: (ImmI a1_1_00 y1_1.init) :: (Asn.own b1_2 (.cells #[iv y1_1.nodes, iv y1_1.lines, iv y1_1.words, iv y1_1.sets, iv y1_1.ways, iv y1_1.out, iv y1_1.inn, .slice a1_1_00 (List.length y1_1.init) c1_1_00] 26 (0, 0))) :: Γ) (fun w hw => HomesXA.shut (hw.pull (.there .here))) ?_
         exact at_roundR fuel1 [(1, iv y2_3), (2, .slice actsa (List.length acts) actscap), (7, .pointer (some ⟨b1_2, 0, none⟩)), (8, .pointer (some ⟨b3_2, 0, none⟩)), (9, .pointer (some ⟨b3_5, 0, none⟩)), (10, iv (v0_10 + (1 : Int)))] ((HomesA b3_5 y28_2.2.2.2) :: (ImmI a1_1_00 y1_1.init) :: (HomeA b3_2 y27_2.2.2.2) :: (Asn.own b1_2 (.cells #[iv y1_1.nodes, iv y1_1.lines, iv y1_1.words, iv y1_1.sets, iv y1_1.ways, iv y1_1.out, iv y1_1.inn, .slice a1_1_00 (List.length y1_1.init) c1_1_00] 26 (0, 0))) :: Γ) (Nat.lt_succ_self _) ⟨kf, kf, kf, kf, kf, kf, trivial⟩ (fun w hw => (Sat.less (.take .here (.take (.there (.there (.there (.there (.there (.there (.there .here))))))) (.take .here (.take (.there (.there (.there (.there (.there (.there .here)))))) (.drop .here (.drop .here (.drop .here (.drop .here (.drop .here (.drop .here .refl)))))))))) hw)) ⟨fuel1, v0_10 + (1 : Int), y28_2.2.2.2, y27_2.2.2.2, H, rfl, rfl, rfl⟩
    ·refine aq (x := C4 [1,1,1,1,1,0,1,0,0,1,0,0,1,0,1,1,1,0,0]) (y := C4 [1,1,1,1,1,0,1,0,0,1,0,0,1,0,1,1,1,0,1]) ?_
     refine ar (id := 16) 4 ?_
     refine sp 80 (.pointer (some ⟨b9_4, 10, none⟩)) ?_
     refine sl 81 (iv x9_3.how) (load1 (off := 10) (fun _ => kf) (holds_own (.there (.there .here))) kf) ?_
     refine sr 82 (iv (x9_3.how.tmod (4 : Int))) (run_remP (a := x9_3.how) (b := 4) (fun _ => kf) (by decide)) ?_
     refine sp 83 (.bool (!(decide ((x9_3.how.tmod (4 : Int)) = (3 : Int))))) ?_
     refine ops_end ?_
     refine ae [(1, iv y2_3), (2, .slice actsa (List.length acts) actscap), (7, .pointer (some ⟨b1_2, 0, none⟩)), (8, .pointer (some ⟨b3_2, 0, none⟩)), (9, .pointer (some ⟨b3_5, 0, none⟩)), (10, iv v0_10), (11, .pointer (some ⟨b9_4, 0, none⟩)), (16, .pointer (some ⟨b15_5, 0, none⟩)), (83, .bool (!(decide ((x9_3.how.tmod (4 : Int)) = (3 : Int)))))] ?_
     refine at_then_normal ?_
     rcases Bool.eq_false_or_eq_true (!(decide ((x9_3.how.tmod (4 : Int)) = (3 : Int)))) with h10 | h10
     ·replace H := bifT H h10
      refine at_true (t := !(decide ((x9_3.how.tmod (4 : Int)) = (3 : Int)))) (x := C4 [1,1,1,1,1,0,1,0,0,1,0,0,1,0,1,1,1,0,1,0]) (y := C4 [1,1,1,1,1,0,1,0,0,1,0,0,1,0,1,1,1,0,1,1]) (o := .tmp 83) kf kf kf h10 ?_
      refine aq (x := C4 [1,1,1,1,1,0,1,0,0,1,0,0,1,0,1,1,1,0,1,0,0]) (y := C4 [1,1,1,1,1,0,1,0,0,1,0,0,1,0,1,1,1,0,1,0,1]) ?_
      refine ar (id := 17) 10 ?_
      refine sp 84 (iv y2_3) ?_
      refine sp 85 (.pointer (some ⟨b15_5, 1, none⟩)) ?_
      refine sl 86 (iv y15_4.src) (load1 (off := 1) (fun _ => kf) (holds_own .here) kf) ?_
      refine sp 87 (.pointer (some ⟨b1_2, 0, none⟩)) ?_
      refine sl 88 (iv y1_1.nodes) (load1 (off := 0) (fun _ => kf) (holds_own (.there (.there (.there (.there (.there (.there (.there .here)))))))) kf) ?_
      obtain ⟨y17_5, hy17_5, H⟩ := bindE H
      refine s_quiet 89 (iv y17_5) 9 #[iv y15_4.src, iv y1_1.nodes] kf kf (fun _ => kf) (WithinF_tr y15_4.src y1_1.nodes y17_5 hy17_5) ?_
      refine sp 90 (.pointer (some ⟨b15_5, 2, none⟩)) ?_
      refine s_do kf kf (st_store (off := 2) (vs := [iv y2_3]) (c' := #[iv y15_4.kind, iv y15_4.src, iv y2_3, iv y15_4.id, iv y15_4.line, iv y15_4.ptr, iv y15_4.state, .bool y15_4.flag, .slice a15_4_00 (List.length y15_4.data) c15_4_00]) (fun _ => kf) .here kf kf kf) ?_
      rintro _ _ ⟨rfl, rfl⟩
      refine sp 91 (.pointer (some ⟨b15_5, 1, none⟩)) ?_
      refine s_do kf kf (st_store (off := 1) (vs := [iv y17_5]) (c' := #[iv y15_4.kind, iv y17_5, iv y2_3, iv y15_4.id, iv y15_4.line, iv y15_4.ptr, iv y15_4.state, .bool y15_4.flag, .slice a15_4_00 (List.length y15_4.data) c15_4_00]) (fun _ => kf) .here kf kf kf) ?_
      rintro _ _ ⟨rfl, rfl⟩
      refine ops_end ?_
      refine ae [(1, iv y2_3), (2, .slice actsa (List.length acts) actscap), (7, .pointer (some ⟨b1_2, 0, none⟩)), (8, .pointer (some ⟨b3_2, 0, none⟩)), (9, .pointer (some ⟨b3_5, 0, none⟩)), (10, iv v0_10), (11, .pointer (some ⟨b9_4, 0, none⟩)), (16, .pointer (some ⟨b15_5, 0, none⟩))] ?_
      refine at_then_normal ?_
      refine aq (x := C4 [1,1,1,1,1,0,1,0,0,1,0,0,1,0,1,1,1,0,1,0,1,0]) (y := C4 [1,1,1,1,1,0,1,0,0,1,0,0,1,0,1,1,1,0,1,0,1,1]) ?_
      refine ar (id := 18) 12 ?_
      refine sp 92 (.pointer (some ⟨b15_5, 4, none⟩)) ?_
      refine sl 93 (iv y15_4.line) (load1 (off := 4) (fun _ => kf) (holds_own .here) kf) ?_
      refine sp 94 (.pointer (some ⟨b1_2, 0, none⟩)) ?_
      refine sl 95 (iv y1_1.nodes) (load1 (off := 0) (fun _ => kf) (holds_own (.there (.there (.there (.there (.there (.there (.there .here)))))))) kf) ?_
      refine sp 96 (iv (wr (y15_4.line * y1_1.nodes))) ?_
      refine sp 97 (iv y2_3) ?_
      obtain ⟨u18_6, hu18_6, H⟩ := letE H
      refine sr 98 (iv u18_6) (run_eq (v := iv (wr ((wr (y15_4.line * y1_1.nodes)) + y2_3))) (fun _ => kf) (by rw [hu18_6])) ?_
      refine sp 99 (.pointer (some ⟨b1_2, 1, none⟩)) ?_
      refine sl 100 (iv y1_1.lines) (load1 (off := 1) (fun _ => kf) (holds_own (.there (.there (.there (.there (.there (.there (.there .here)))))))) kf) ?_
      obtain ⟨y18_9, hy18_9, H⟩ := bindE H
      refine s_quiet 101 (iv y18_9) 9 #[iv u18_6, iv y1_1.lines] kf kf (fun _ => kf) (WithinF_tr u18_6 y1_1.lines y18_9 hy18_9) ?_
      refine sp 102 (.pointer (some ⟨b15_5, 4, none⟩)) ?_
      refine s_do kf kf (st_store (off := 4) (vs := [iv y18_9]) (c' := #[iv y15_4.kind, iv y17_5, iv y2_3, iv y15_4.id, iv y18_9, iv y15_4.ptr, iv y15_4.state, .bool y15_4.flag, .slice a15_4_00 (List.length y15_4.data) c15_4_00]) (fun _ => kf) .here kf kf kf) ?_
      rintro _ _ ⟨rfl, rfl⟩
      refine ops_end ?_
      refine ae [(1, iv y2_3), (2, .slice actsa (List.length acts) actscap), (7, .pointer (some ⟨b1_2, 0, none⟩)), (8, .pointer (some ⟨b3_2, 0, none⟩)), (9, .pointer (some ⟨b3_5, 0, none⟩)), (10, iv v0_10), (11, .pointer (some ⟨b9_4, 0, none⟩)), (16, .pointer (some ⟨b15_5, 0, none⟩))] ?_
      refine at_then_normal ?_
      refine aq (x := C4 [1,1,1,1,1,0,1,0,0,1,0,0,1,0,1,1,1,0,1,0,1,1,0]) (y := C4 [1,1,1,1,1,0,1,0,0,1,0,0,1,0,1,1,1,0,1,0,1,1,1]) ?_
      refine ar (id := 19) 2 ?_
      refine sp 103 (.pointer (some ⟨b15_5, 0, none⟩)) ?_
      refine s_do kf kf (st_store (off := 0) (vs := [iv (1)]) (c' := #[iv (1), iv y17_5, iv y2_3, iv y15_4.id, iv y18_9, iv y15_4.ptr, iv y15_4.state, .bool y15_4.flag, .slice a15_4_00 (List.length y15_4.data) c15_4_00]) (fun _ => kf) .here kf kf kf) ?_
      rintro _ _ ⟨rfl, rfl⟩
      refine ops_end ?_
      refine ae [(1, iv y2_3), (2, .slice actsa (List.length acts) actscap), (7, .pointer (some ⟨b1_2, 0, none⟩)), (8, .pointer (some ⟨b3_2, 0, none⟩)), (9, .pointer (some ⟨b3_5, 0, none⟩)), (10, iv v0_10), (11, .pointer (some ⟨b9_4, 0, none⟩)), (16, .pointer (some ⟨b15_5, 0, none⟩))] ?_
      refine at_then_normal ?_
      refine aq (x := C4 [1,1,1,1,1,0,1,0,0,1,0,0,1,0,1,1,1,0,1,0,1,1,1,0]) (y := C4 [1,1,1,1,1,0,1,0,0,1,0,0,1,0,1,1,1,0,1,0,1,1,1,1]) ?_
      refine at_region_draw (id := 20) kf kf ?_
      refine dp 0 104 (.pointer (some ⟨b3_5, 0, none⟩)) ?_
      refine dp 1 105 (.pointer (some ⟨b3_5, 0, none⟩)) ?_
      refine dp 2 106 (.pointer (some ⟨b3_5, 10, none⟩)) ?_
      refine dp 3 107 (.pointer (some ⟨b15_5, 4, none⟩)) ?_
      refine dl 4 108 (iv y18_9) (load1 (off := 4) (fun _ => kf) (holds_own .here) kf) ?_
      refine HomesA.tox_draw (.there (.there (.there (.there .here)))) ?_
      intro x20_5_b3_5
      obtain ⟨y20_5, hy20_5, H⟩ := bindE H
      refine d_call 5 109 [2, 4, 1, 3, 0] [] [] 20 #[.pointer (some ⟨b3_5, 10, none⟩), iv y18_9] kf kf kf (fun _ => kf) (QOwnerF_tr b3_5 x20_5_b3_5 v0_b3_5 y18_9 y20_5 hy20_5) ?_
      rintro _ _ ⟨rfl, rfl⟩
      refine ⟨stable_nil, ?_⟩
      refine dp 6 17 (iv y20_5) ?_
      refine draw_end kf ?_
      refine ae [(1, iv y2_3), (2, .slice actsa (List.length acts) actscap), (7, .pointer (some ⟨b1_2, 0, none⟩)), (8, .pointer (some ⟨b3_2, 0, none⟩)), (9, .pointer (some ⟨b3_5, 0, none⟩)), (10, iv v0_10), (11, .pointer (some ⟨b9_4, 0, none⟩)), (16, .pointer (some ⟨b15_5, 0, none⟩)), (17, iv y20_5)] ?_
      refine at_then_normal ?_
      refine At.conv (Γ' := (HomesA b3_5 v0_b3_5) :: (Asn.own b15_5 (.cells #[iv (1), iv y17_5, iv y2_3, iv y15_4.id, iv y18_9, iv y15_4.ptr, iv y15_4.state, .bool y15_4.flag, .slice a15_4_00 (List.length y15_4.data) c15_4_00] 32 (0, 0))) :: (IntsA a15_4_00 c15_4_00 y15_4.data) :: (Asn.own b9_4 (.cells #[iv x9_3.do_, iv x9_3.kind, iv x9_3.src, iv x9_3.dst, iv x9_3.id, iv x9_3.line, iv x9_3.ptr, iv x9_3.state, .bool x9_3.flag, .slice a9_3 (List.length x9_3.data) c9_3, iv x9_3.how] 49 (0, 0))) :: (ImmI a9_3 x9_3.data) :: (ImmI a1_1_00 y1_1.init) :: (HomeA b3_2 v0_b3_2) :: (Asn.own b1_2 (.cells #[iv y1_1.nodes, iv y1_1.lines, iv y1_1.words, iv y1_1.sets, iv y1_1.ways, iv y1_1.out, iv y1_1.inn, .slice a1_1_00 (List.length y1_1.init) c1_1_00] 26 (0, 0))) :: Γ) (fun w hw => HomesXA.shut (hw.pull .here)) ?_
      refine at_seq_join (x := C4 [1,1,1,1,1,0,1,0,0,1,0,0,1,0,1,1,1,0,1,0,1,1,1,1,0]) (y := C4 [1,1,1,1,1,0,1,0,0,1,0,0,1,0,1,1,1,0,1,0,1,1,1,1,1]) (fun ff ΔΔ => ∃ (e3_117 : Bool), homePlaysS_j3 x9_3 y15_4 y1_1 v0_b3_2 v0_b3_5 v0_10 (homePlaysS_l0 acts y1_1 y2_3 (homePlaysS_k0 ) fuel1) y20_5 y2_3 y18_9 y17_5 e3_117 = some y ∧ ff = [(1, iv y2_3), (2, .slice actsa (List.length acts) actscap), (7, .pointer (some ⟨b1_2, 0, none⟩)), (8, .pointer (some ⟨b3_2, 0, none⟩)), (9, .pointer (some ⟨b3_5, 0, none⟩)), (10, iv v0_10), (11, .pointer (some ⟨b9_4, 0, none⟩)), (16, .pointer (some ⟨b15_5, 0, none⟩)), (17, iv y20_5), (117, .bool e3_117)] ∧ (HomesA b3_5 v0_b3_5) :: (Asn.own b15_5 (.cells #[iv (1), iv y17_5, iv y2_3, iv y15_4.id, iv y18_9, iv y15_4.ptr, iv y15_4.state, .bool y15_4.flag, .slice a15_4_00 (List.length y15_4.data) c15_4_00] 32 (0, 0))) :: (IntsA a15_4_00 c15_4_00 y15_4.data) :: (Asn.own b9_4 (.cells #[iv x9_3.do_, iv x9_3.kind, iv x9_3.src, iv x9_3.dst, iv x9_3.id, iv x9_3.line, iv x9_3.ptr, iv x9_3.state, .bool x9_3.flag, .slice a9_3 (List.length x9_3.data) c9_3, iv x9_3.how] 49 (0, 0))) :: (ImmI a9_3 x9_3.data) :: (ImmI a1_1_00 y1_1.init) :: (HomeA b3_2 v0_b3_2) :: (Asn.own b1_2 (.cells #[iv y1_1.nodes, iv y1_1.lines, iv y1_1.words, iv y1_1.sets, iv y1_1.ways, iv y1_1.out, iv y1_1.inn, .slice a1_1_00 (List.length y1_1.init) c1_1_00] 26 (0, 0))) :: Γ = ΔΔ) kf ?_ ?_
      ·rintro _ _ ⟨e3_117, H, rfl, rfl⟩
       rw [homePlaysS_j3] at H
       rcases Bool.eq_false_or_eq_true (e3_117) with h11 | h11
       ·replace H := bifT H h11
        refine at_true (t := e3_117) (x := C4 [1,1,1,1,1,0,1,0,0,1,0,0,1,0,1,1,1,0,1,0,1,1,1,1,1,0]) (y := C4 [1,1,1,1,1,0,1,0,0,1,0,0,1,0,1,1,1,0,1,0,1,1,1,1,1,1]) (o := .tmp 117) kf kf kf h11 ?_
        refine aq (x := C4 [1,1,1,1,1,0,1,0,0,1,0,0,1,0,1,1,1,0,1,0,1,1,1,1,1,0,0]) (y := C4 [1,1,1,1,1,0,1,0,0,1,0,0,1,0,1,1,1,0,1,0,1,1,1,1,1,0,1]) ?_
        refine ar (id := 22) 5 ?_
        refine sp 118 (iv y20_5) ?_
        refine sp 119 (.pointer (some ⟨b15_5, 0, none⟩)) ?_
        refine s_do kf kf (st_store (off := 0) (vs := [iv (2)]) (c' := #[iv (2), iv y17_5, iv y2_3, iv y15_4.id, iv y18_9, iv y15_4.ptr, iv y15_4.state, .bool y15_4.flag, .slice a15_4_00 (List.length y15_4.data) c15_4_00]) (fun _ => kf) (.there .here) kf kf kf) ?_
        rintro _ _ ⟨rfl, rfl⟩
        refine sp 120 (.pointer (some ⟨b15_5, 1, none⟩)) ?_
        refine s_do kf kf (st_store (off := 1) (vs := [iv y20_5]) (c' := #[iv (2), iv y20_5, iv y2_3, iv y15_4.id, iv y18_9, iv y15_4.ptr, iv y15_4.state, .bool y15_4.flag, .slice a15_4_00 (List.length y15_4.data) c15_4_00]) (fun _ => kf) .here kf kf kf) ?_
        rintro _ _ ⟨rfl, rfl⟩
        refine ops_end ?_
        refine ae [(1, iv y2_3), (2, .slice actsa (List.length acts) actscap), (7, .pointer (some ⟨b1_2, 0, none⟩)), (8, .pointer (some ⟨b3_2, 0, none⟩)), (9, .pointer (some ⟨b3_5, 0, none⟩)), (10, iv v0_10), (11, .pointer (some ⟨b9_4, 0, none⟩)), (16, .pointer (some ⟨b15_5, 0, none⟩))] ?_
        refine at_then_normal ?_
        refine aq (x := C4 [1,1,1,1,1,0,1,0,0,1,0,0,1,0,1,1,1,0,1,0,1,1,1,1,1,0,1,0]) (y := C4 [1,1,1,1,1,0,1,0,0,1,0,0,1,0,1,1,1,0,1,0,1,1,1,1,1,0,1,1]) ?_
        refine ar (id := 23) 4 ?_
        refine sp 121 (.pointer (some ⟨b9_4, 0, none⟩)) ?_
        refine sl 122 (iv x9_3.do_) (load1 (off := 0) (fun _ => kf) (holds_own (.there (.there (.there .here)))) kf) ?_
        refine sr 123 (iv (x9_3.do_.tmod (3 : Int))) (run_remP (a := x9_3.do_) (b := 3) (fun _ => kf) (by decide)) ?_
        refine sp 124 (.bool (!(decide ((x9_3.do_.tmod (3 : Int)) = (0 : Int))))) ?_
        refine ops_end ?_
        refine ae [(1, iv y2_3), (2, .slice actsa (List.length acts) actscap), (7, .pointer (some ⟨b1_2, 0, none⟩)), (8, .pointer (some ⟨b3_2, 0, none⟩)), (9, .pointer (some ⟨b3_5, 0, none⟩)), (10, iv v0_10), (16, .pointer (some ⟨b15_5, 0, none⟩)), (124, .bool (!(decide ((x9_3.do_.tmod (3 : Int)) = (0 : Int)))))] ?_
        refine at_then_normal ?_
        rcases Bool.eq_false_or_eq_true (!(decide ((x9_3.do_.tmod (3 : Int)) = (0 : Int)))) with h12 | h12
        ·replace H := bifT H h12
         refine at_true (t := !(decide ((x9_3.do_.tmod (3 : Int)) = (0 : Int)))) (x := C4 [1,1,1,1,1,0,1,0,0,1,0,0,1,0,1,1,1,0,1,0,1,1,1,1,1,0,1,1,0]) (y := C4 [1,1,1,1,1,0,1,0,0,1,0,0,1,0,1,1,1,0,1,0,1,1,1,1,1,0,1,1,1]) (o := .tmp 124) kf kf kf h12 ?_
         refine aq (x := C4 [1,1,1,1,1,0,1,0,0,1,0,0,1,0,1,1,1,0,1,0,1,1,1,1,1,0,1,1,0,0]) (y := C4 [1,1,1,1,1,0,1,0,0,1,0,0,1,0,1,1,1,0,1,0,1,1,1,1,1,0,1,1,0,1]) ?_
         refine ar (id := 24) 7 ?_
         refine sp 125 (.pointer (some ⟨b15_5, 5, none⟩)) ?_
         refine sl 126 (iv y15_4.ptr) (load1 (off := 5) (fun _ => kf) (holds_own .here) kf) ?_
         refine sp 127 (.pointer (some ⟨b1_2, 0, none⟩)) ?_
         refine sl 128 (iv y1_1.nodes) (load1 (off := 0) (fun _ => kf) (holds_own (.there (.there (.there (.there (.there (.there (.there .here)))))))) kf) ?_
         obtain ⟨y24_4, hy24_4, H⟩ := bindE H
         refine s_quiet 129 (iv y24_4) 9 #[iv y15_4.ptr, iv y1_1.nodes] kf kf (fun _ => kf) (WithinF_tr y15_4.ptr y1_1.nodes y24_4 hy24_4) ?_
         refine sp 130 (.pointer (some ⟨b15_5, 5, none⟩)) ?_
         refine s_do kf kf (st_store (off := 5) (vs := [iv y24_4]) (c' := #[iv (2), iv y20_5, iv y2_3, iv y15_4.id, iv y18_9, iv y24_4, iv y15_4.state, .bool y15_4.flag, .slice a15_4_00 (List.length y15_4.data) c15_4_00]) (fun _ => kf) .here kf kf kf) ?_
         rintro _ _ ⟨rfl, rfl⟩
         refine ops_end ?_
         refine ae [(1, iv y2_3), (2, .slice actsa (List.length acts) actscap), (7, .pointer (some ⟨b1_2, 0, none⟩)), (8, .pointer (some ⟨b3_2, 0, none⟩)), (9, .pointer (some ⟨b3_5, 0, none⟩)), (10, iv v0_10), (16, .pointer (some ⟨b15_5, 0, none⟩))] ?_
         refine at_then_normal ?_
         refine aq (x := C4 [1,1,1,1,1,0,1,0,0,1,0,0,1,0,1,1,1,0,1,0,1,1,1,1,1,0,1,1,0,1,0]) (y := C4 [1,1,1,1,1,0,1,0,0,1,0,0,1,0,1,1,1,0,1,0,1,1,1,1,1,0,1,1,0,1,1]) ?_
         refine ar (id := 25) 6 ?_
         refine sp 131 (.pointer (some ⟨b15_5, 6, none⟩)) ?_
         refine sl 132 (iv y15_4.state) (load1 (off := 6) (fun _ => kf) (holds_own .here) kf) ?_
         obtain ⟨y25_2, hy25_2, H⟩ := bindE H
         refine s_quiet 133 (iv y25_2) 9 #[iv y15_4.state, iv (2)] kf kf (fun _ => kf) (WithinF_tr y15_4.state (2 : Int) y25_2 hy25_2) ?_
         refine sp 134 (iv (wr ((1 : Int) + y25_2))) ?_
         refine sp 135 (.pointer (some ⟨b15_5, 6, none⟩)) ?_
         refine s_do kf kf (st_store (off := 6) (vs := [iv (wr ((1 : Int) + y25_2))]) (c' := #[iv (2), iv y20_5, iv y2_3, iv y15_4.id, iv y18_9, iv y24_4, iv (wr ((1 : Int) + y25_2)), .bool y15_4.flag, .slice a15_4_00 (List.length y15_4.data) c15_4_00]) (fun _ => kf) .here kf kf kf) ?_
         rintro _ _ ⟨rfl, rfl⟩
         refine ops_end ?_
         refine ae [(1, iv y2_3), (2, .slice actsa (List.length acts) actscap), (7, .pointer (some ⟨b1_2, 0, none⟩)), (8, .pointer (some ⟨b3_2, 0, none⟩)), (9, .pointer (some ⟨b3_5, 0, none⟩)), (10, iv v0_10), (16, .pointer (some ⟨b15_5, 0, none⟩))] ?_
         refine at_then_normal ?_
         refine at_region_draw (id := 26) kf kf ?_
         refine dp 0 136 (.pointer (some ⟨b15_5, 8, none⟩)) ?_
         refine dl 1 137 (.slice a15_4_00 (List.length y15_4.data) c15_4_00) (load1 (off := 8) (fun _ => kf) (holds_own .here) kf) ?_
         refine dp 4 140 (.pointer (some ⟨b1_2, 2, none⟩)) ?_
         refine dl 5 141 (iv y1_1.words) (load1 (off := 2) (fun _ => kf) (holds_own (.there (.there (.there (.there (.there (.there (.there .here)))))))) kf) ?_
         obtain ⟨l26_2, hl26_2, H⟩ := letE H
         refine d_step 2 138 [] [4, 0] [5, 1] kf kf kf (st_new_ints (T := 3) (xs := l26_2) 4 hl26_2 (fun _ => kf) kf) ?_
         rintro _ _ ⟨b26_2, rfl, rfl⟩
         refine ⟨(stable_cons 5 141 (iv y1_1.words) kf kf kf (load1 (off := 2) (fun _ => kf) (holds_own (.there (.there (.there (.there (.there (.there (.there (.there .here))))))))) kf) (stable_cons 1 137 (.slice a15_4_00 (List.length y15_4.data) c15_4_00) kf kf kf (load1 (off := 8) (fun _ => kf) (holds_own (.there .here)) kf) stable_nil)), ?_⟩
         obtain ⟨hc26_3_0, H⟩ := chkE H
         obtain ⟨l26_3, hl26_3, H⟩ := letE H
         refine d_step 3 139 [1, 2, 0] [4] [5] kf kf kf (st_append_ints (xs := y15_4.data) (ys := l26_2) (zs := l26_3) (m1 := (List.length y15_4.data)) (m2 := (List.length l26_2)) (m := List.length l26_3) (cap2 := 4) 22 22 3 (tinfo 3) (fun _ => kf) kf kf kf kf kf (.there (.there (.there .here))) (RowsA.reads (k := 1) .here) (by first | rfl | simp) (by first | rfl | simp) (by rw [← hl26_3]; first | done | simp) (by rw [← hl26_3]; first | done | simp) (by rw [← hl26_3]; exact hc26_3_0)) ?_
         rintro _ _ ⟨a26_3, c26_3, rfl, rfl⟩
         refine ⟨(stable_cons 5 141 (iv y1_1.words) kf kf kf (load1 (off := 2) (fun _ => kf) (holds_own (.there (.there (.there (.there (.there (.there (.there (.there .here))))))))) kf) stable_nil), ?_⟩
         obtain ⟨y26_6, hy26_6, H⟩ := bindE H
         refine Draw.known (p := (List.length l26_3) ≤ c26_3) (fun w hw => by have := (RowsA.len (hw.pull .here)).2; simpa using this) ?_
         intro hcap2
         refine d_call 6 142 [3, 5, 1, 2, 4, 0] [] [] 21 #[.slice a26_3 (List.length l26_3) c26_3, iv y1_1.words] kf kf kf (fun _ => kf) (CutF_tr a26_3 c26_3 l26_3 y1_1.words (RowsA.reads (k := 1) .here) hcap2 y26_6 hy26_6) ?_
         rintro _ _ ⟨a26_6_00, c26_6_00, rfl, rfl⟩
         refine ⟨stable_nil, ?_⟩
         refine dp 7 143 (.pointer (some ⟨b15_5, 8, none⟩)) ?_
         refine d_do 8 [7, 6, 0, 1, 2, 3, 4, 5] [] [] kf kf kf (st_store (off := 8) (vs := [.slice a26_6_00 (List.length y26_6) c26_6_00]) (c' := #[iv (2), iv y20_5, iv y2_3, iv y15_4.id, iv y18_9, iv y24_4, iv (wr ((1 : Int) + y25_2)), .bool y15_4.flag, .slice a26_6_00 (List.length y26_6) c26_6_00]) (fun _ => kf) (.there (.there (.there .here))) kf kf kf) ?_
         rintro _ _ ⟨rfl, rfl⟩
         refine ⟨stable_nil, ?_⟩
         refine draw_end kf ?_
         refine ae [(1, iv y2_3), (2, .slice actsa (List.length acts) actscap), (7, .pointer (some ⟨b1_2, 0, none⟩)), (8, .pointer (some ⟨b3_2, 0, none⟩)), (9, .pointer (some ⟨b3_5, 0, none⟩)), (10, iv v0_10), (16, .pointer (some ⟨b15_5, 0, none⟩))] ?_
         refine at_round_normal ?_
         exact at_join_mk [(1, iv y2_3), (2, .slice actsa (List.length acts) actscap), (7, .pointer (some ⟨b1_2, 0, none⟩)), (8, .pointer (some ⟨b3_2, 0, none⟩)), (9, .pointer (some ⟨b3_5, 0, none⟩)), (10, iv v0_10), (16, .pointer (some ⟨b15_5, 0, none⟩))] ((IntsA a26_6_00 c26_6_00 y26_6) :: (Asn.own b15_5 (.cells #[iv 2, iv y20_5, iv y2_3, iv y15_4.id, iv y18_9, iv y24_4, iv (wr ((1 : Int) + y25_2)), .bool y15_4.flag, .slice a26_6_00 (List.length y26_6) c26_6_00] 32 (0, 0))) :: (HomesA b3_5 v0_b3_5) :: (ImmI a1_1_00 y1_1.init) :: (HomeA b3_2 v0_b3_2) :: (Asn.own b1_2 (.cells #[iv y1_1.nodes, iv y1_1.lines, iv y1_1.words, iv y1_1.sets, iv y1_1.ways, iv y1_1.out, iv y1_1.inn, .slice a1_1_00 (List.length y1_1.init) c1_1_00] 26 (0, 0))) :: Γ) ⟨kf, kf, kf, kf, kf, kf, kf, trivial⟩ (fun w hw => (Sat.less (.take (.there .here) (.take .here (.take (.there (.there .here)) (.take (.there (.there (.there (.there .here)))) (.take (.there (.there (.there (.there .here)))) (.take (.there (.there (.there (.there .here)))) (.drop .here (.drop .here (.drop .here (.drop .here .refl)))))))))) hw)) ⟨2, y20_5, y2_3, y18_9, y24_4, wr ((1 : Int) + y25_2), y26_6, a26_6_00, c26_6_00, H, rfl, rfl⟩
        ·replace H := bifF H h12
         refine at_false (t := !(decide ((x9_3.do_.tmod (3 : Int)) = (0 : Int)))) (x := C4 [1,1,1,1,1,0,1,0,0,1,0,0,1,0,1,1,1,0,1,0,1,1,1,1,1,0,1,1,0]) (y := C4 [1,1,1,1,1,0,1,0,0,1,0,0,1,0,1,1,1,0,1,0,1,1,1,1,1,0,1,1,1]) (o := .tmp 124) kf kf kf h12 ?_
         refine at_skip kf ?_
         refine at_round_normal ?_
         exact at_join_mk [(1, iv y2_3), (2, .slice actsa (List.length acts) actscap), (7, .pointer (some ⟨b1_2, 0, none⟩)), (8, .pointer (some ⟨b3_2, 0, none⟩)), (9, .pointer (some ⟨b3_5, 0, none⟩)), (10, iv v0_10), (16, .pointer (some ⟨b15_5, 0, none⟩))] ((IntsA a15_4_00 c15_4_00 y15_4.data) :: (Asn.own b15_5 (.cells #[iv 2, iv y20_5, iv y2_3, iv y15_4.id, iv y18_9, iv y15_4.ptr, iv y15_4.state, .bool y15_4.flag, .slice a15_4_00 (List.length y15_4.data) c15_4_00] 32 (0, 0))) :: (HomesA b3_5 v0_b3_5) :: (ImmI a1_1_00 y1_1.init) :: (HomeA b3_2 v0_b3_2) :: (Asn.own b1_2 (.cells #[iv y1_1.nodes, iv y1_1.lines, iv y1_1.words, iv y1_1.sets, iv y1_1.ways, iv y1_1.out, iv y1_1.inn, .slice a1_1_00 (List.length y1_1.init) c1_1_00] 26 (0, 0))) :: Γ) ⟨kf, kf, kf, kf, kf, kf, kf, trivial⟩ (fun w hw => (Sat.less (.take (.there (.there .here)) (.take .here (.take .here (.take (.there (.there .here)) (.take (.there (.there .here)) (.take (.there (.there .here)) (.drop .here (.drop .here .refl)))))))) hw)) ⟨2, y20_5, y2_3, y18_9, y15_4.ptr, y15_4.state, y15_4.data, a15_4_00, c15_4_00, H, rfl, rfl⟩
       ·replace H := bifF H h11
        refine at_false (t := e3_117) (x := C4 [1,1,1,1,1,0,1,0,0,1,0,0,1,0,1,1,1,0,1,0,1,1,1,1,1,0]) (y := C4 [1,1,1,1,1,0,1,0,0,1,0,0,1,0,1,1,1,0,1,0,1,1,1,1,1,1]) (o := .tmp 117) kf kf kf h11 ?_
        refine at_skip kf ?_
        refine at_round_normal ?_
        exact at_join_mk [(1, iv y2_3), (2, .slice actsa (List.length acts) actscap), (7, .pointer (some ⟨b1_2, 0, none⟩)), (8, .pointer (some ⟨b3_2, 0, none⟩)), (9, .pointer (some ⟨b3_5, 0, none⟩)), (10, iv v0_10), (16, .pointer (some ⟨b15_5, 0, none⟩))] ((IntsA a15_4_00 c15_4_00 y15_4.data) :: (Asn.own b15_5 (.cells #[iv 1, iv y17_5, iv y2_3, iv y15_4.id, iv y18_9, iv y15_4.ptr, iv y15_4.state, .bool y15_4.flag, .slice a15_4_00 (List.length y15_4.data) c15_4_00] 32 (0, 0))) :: (HomesA b3_5 v0_b3_5) :: (ImmI a1_1_00 y1_1.init) :: (HomeA b3_2 v0_b3_2) :: (Asn.own b1_2 (.cells #[iv y1_1.nodes, iv y1_1.lines, iv y1_1.words, iv y1_1.sets, iv y1_1.ways, iv y1_1.out, iv y1_1.inn, .slice a1_1_00 (List.length y1_1.init) c1_1_00] 26 (0, 0))) :: Γ) ⟨kf, kf, kf, kf, kf, kf, kf, trivial⟩ (fun w hw => (Sat.less (.take (.there (.there .here)) (.take (.there .here) (.take .here (.take (.there (.there .here)) (.take (.there (.there .here)) (.take (.there (.there .here)) (.drop .here (.drop .here .refl)))))))) hw)) ⟨1, y17_5, y2_3, y18_9, y15_4.ptr, y15_4.state, y15_4.data, a15_4_00, c15_4_00, H, rfl, rfl⟩
      ·refine ar (id := 21) 8 ?_
       refine sp 110 (.pointer (some ⟨b9_4, 0, none⟩)) ?_
       refine sl 111 (iv x9_3.do_) (load1 (off := 0) (fun _ => kf) (holds_own (.there (.there (.there .here)))) kf) ?_
       obtain ⟨y21_2, hy21_2, H⟩ := bindE H
       refine s_quiet 112 (iv y21_2) 9 #[iv x9_3.do_, iv (5)] kf kf (fun _ => kf) (WithinF_tr x9_3.do_ (5 : Int) y21_2 hy21_2) ?_
       refine sp 113 (.bool (decide (y21_2 < (2 : Int)))) ?_
       rcases Bool.eq_false_or_eq_true (decide (y21_2 < (2 : Int))) with h13 | h13
       ·replace H := bifT H h13
        refine sr 114 (.bool true) (run_eq (v := .bool (decide (y21_2 < (2 : Int)))) (fun _ => kf) (congrArg Value.bool h13)) ?_
        refine sp 115 (iv y20_5) ?_
        refine sp 116 (.bool (!(decide (y20_5 = ((-1) : Int))))) ?_
        refine sp 117 (.bool (!(decide (y20_5 = ((-1) : Int))))) ?_
        refine ops_end ?_
        refine ae [(1, iv y2_3), (2, .slice actsa (List.length acts) actscap), (7, .pointer (some ⟨b1_2, 0, none⟩)), (8, .pointer (some ⟨b3_2, 0, none⟩)), (9, .pointer (some ⟨b3_5, 0, none⟩)), (10, iv v0_10), (11, .pointer (some ⟨b9_4, 0, none⟩)), (16, .pointer (some ⟨b15_5, 0, none⟩)), (17, iv y20_5), (117, .bool (!(decide (y20_5 = ((-1) : Int)))))] ?_
        refine at_round_normal ?_
        exact at_join_mk [(1, iv y2_3), (2, .slice actsa (List.length acts) actscap), (7, .pointer (some ⟨b1_2, 0, none⟩)), (8, .pointer (some ⟨b3_2, 0, none⟩)), (9, .pointer (some ⟨b3_5, 0, none⟩)), (10, iv v0_10), (11, .pointer (some ⟨b9_4, 0, none⟩)), (16, .pointer (some ⟨b15_5, 0, none⟩)), (17, iv y20_5), (117, .bool (!(decide (y20_5 = ((-1) : Int)))))] ((HomesA b3_5 v0_b3_5) :: (Asn.own b15_5 (.cells #[iv (1), iv y17_5, iv y2_3, iv y15_4.id, iv y18_9, iv y15_4.ptr, iv y15_4.state, .bool y15_4.flag, .slice a15_4_00 (List.length y15_4.data) c15_4_00] 32 (0, 0))) :: (IntsA a15_4_00 c15_4_00 y15_4.data) :: (Asn.own b9_4 (.cells #[iv x9_3.do_, iv x9_3.kind, iv x9_3.src, iv x9_3.dst, iv x9_3.id, iv x9_3.line, iv x9_3.ptr, iv x9_3.state, .bool x9_3.flag, .slice a9_3 (List.length x9_3.data) c9_3, iv x9_3.how] 49 (0, 0))) :: (ImmI a9_3 x9_3.data) :: (ImmI a1_1_00 y1_1.init) :: (HomeA b3_2 v0_b3_2) :: (Asn.own b1_2 (.cells #[iv y1_1.nodes, iv y1_1.lines, iv y1_1.words, iv y1_1.sets, iv y1_1.ways, iv y1_1.out, iv y1_1.inn, .slice a1_1_00 (List.length y1_1.init) c1_1_00] 26 (0, 0))) :: Γ) ⟨kf, kf, kf, kf, kf, kf, kf, kf, kf, kf, trivial⟩ (fun w hw => (Sat.less (.take .here (.take .here (.take .here (.take .here (.take .here (.take .here (.take .here (.take .here .refl)))))))) hw)) ⟨!(decide (y20_5 = ((-1) : Int))), H, rfl, rfl⟩
       ·replace H := bifF H h13
        refine sr 114 (.bool false) (run_eq (v := .bool (decide (y21_2 < (2 : Int)))) (fun _ => kf) (congrArg Value.bool h13)) ?_
        refine sa 115 ?_
        refine sa 116 ?_
        refine sp 117 (.bool false) ?_
        refine ops_end ?_
        refine ae [(1, iv y2_3), (2, .slice actsa (List.length acts) actscap), (7, .pointer (some ⟨b1_2, 0, none⟩)), (8, .pointer (some ⟨b3_2, 0, none⟩)), (9, .pointer (some ⟨b3_5, 0, none⟩)), (10, iv v0_10), (11, .pointer (some ⟨b9_4, 0, none⟩)), (16, .pointer (some ⟨b15_5, 0, none⟩)), (17, iv y20_5), (117, .bool false)] ?_
        refine at_round_normal ?_
        exact at_join_mk [(1, iv y2_3), (2, .slice actsa (List.length acts) actscap), (7, .pointer (some ⟨b1_2, 0, none⟩)), (8, .pointer (some ⟨b3_2, 0, none⟩)), (9, .pointer (some ⟨b3_5, 0, none⟩)), (10, iv v0_10), (11, .pointer (some ⟨b9_4, 0, none⟩)), (16, .pointer (some ⟨b15_5, 0, none⟩)), (17, iv y20_5), (117, .bool false)] ((HomesA b3_5 v0_b3_5) :: (Asn.own b15_5 (.cells #[iv (1), iv y17_5, iv y2_3, iv y15_4.id, iv y18_9, iv y15_4.ptr, iv y15_4.state, .bool y15_4.flag, .slice a15_4_00 (List.length y15_4.data) c15_4_00] 32 (0, 0))) :: (IntsA a15_4_00 c15_4_00 y15_4.data) :: (Asn.own b9_4 (.cells #[iv x9_3.do_, iv x9_3.kind, iv x9_3.src, iv x9_3.dst, iv x9_3.id, iv x9_3.line, iv x9_3.ptr, iv x9_3.state, .bool x9_3.flag, .slice a9_3 (List.length x9_3.data) c9_3, iv x9_3.how] 49 (0, 0))) :: (ImmI a9_3 x9_3.data) :: (ImmI a1_1_00 y1_1.init) :: (HomeA b3_2 v0_b3_2) :: (Asn.own b1_2 (.cells #[iv y1_1.nodes, iv y1_1.lines, iv y1_1.words, iv y1_1.sets, iv y1_1.ways, iv y1_1.out, iv y1_1.inn, .slice a1_1_00 (List.length y1_1.init) c1_1_00] 26 (0, 0))) :: Γ) ⟨kf, kf, kf, kf, kf, kf, kf, kf, kf, kf, trivial⟩ (fun w hw => (Sat.less (.take .here (.take .here (.take .here (.take .here (.take .here (.take .here (.take .here (.take .here .refl)))))))) hw)) ⟨false, H, rfl, rfl⟩
     ·replace H := bifF H h10
      refine at_false (t := !(decide ((x9_3.how.tmod (4 : Int)) = (3 : Int)))) (x := C4 [1,1,1,1,1,0,1,0,0,1,0,0,1,0,1,1,1,0,1,0]) (y := C4 [1,1,1,1,1,0,1,0,0,1,0,0,1,0,1,1,1,0,1,1]) (o := .tmp 83) kf kf kf h10 ?_
      refine at_skip kf ?_
      refine at_round_normal ?_
      exact at_join_mk [(1, iv y2_3), (2, .slice actsa (List.length acts) actscap), (7, .pointer (some ⟨b1_2, 0, none⟩)), (8, .pointer (some ⟨b3_2, 0, none⟩)), (9, .pointer (some ⟨b3_5, 0, none⟩)), (10, iv v0_10), (16, .pointer (some ⟨b15_5, 0, none⟩))] ((IntsA a15_4_00 c15_4_00 y15_4.data) :: (Asn.own b15_5 (.cells #[iv y15_4.kind, iv y15_4.src, iv y15_4.dst, iv y15_4.id, iv y15_4.line, iv y15_4.ptr, iv y15_4.state, .bool y15_4.flag, .slice a15_4_00 (List.length y15_4.data) c15_4_00] 32 (0, 0))) :: (HomesA b3_5 v0_b3_5) :: (ImmI a1_1_00 y1_1.init) :: (HomeA b3_2 v0_b3_2) :: (Asn.own b1_2 (.cells #[iv y1_1.nodes, iv y1_1.lines, iv y1_1.words, iv y1_1.sets, iv y1_1.ways, iv y1_1.out, iv y1_1.inn, .slice a1_1_00 (List.length y1_1.init) c1_1_00] 26 (0, 0))) :: Γ) ⟨kf, kf, kf, kf, kf, kf, kf, trivial⟩ (fun w hw => (Sat.less (.take (.there .here) (.take .here (.take (.there (.there .here)) (.take (.there (.there .here)) (.take (.there (.there .here)) (.take (.there (.there .here)) (.drop .here (.drop .here .refl)))))))) hw)) ⟨y15_4.kind, y15_4.src, y15_4.dst, y15_4.line, y15_4.ptr, y15_4.state, y15_4.data, a15_4_00, c15_4_00, H, rfl, rfl⟩
  ·replace H := bifF H h1
   refine at_false (t := e1_45) (x := C4 [1,1,1,1,1,0,1,0,0,0,1,0]) (y := C4 [1,1,1,1,1,0,1,0,0,0,1,1]) (o := .tmp 45) kf kf kf h1 ?_
   refine at_exit (i := 0) kf ?_
   refine at_then_exit ?_
   refine at_then_exit ?_
   rw [homePlaysS_k0] at H
   refine ae [(1, iv y2_3), (2, .slice actsa (List.length acts) actscap), (7, .pointer (some ⟨b1_2, 0, none⟩)), (8, .pointer (some ⟨b3_2, 0, none⟩)), (9, .pointer (some ⟨b3_5, 0, none⟩)), (10, iv v0_10)] ?_
   refine At.conv (Γ' := (HomesA b3_5 v0_b3_5) :: (ImmI a1_1_00 y1_1.init) :: (HomeA b3_2 v0_b3_2) :: (Asn.own b1_2 (.cells #[iv y1_1.nodes, iv y1_1.lines, iv y1_1.words, iv y1_1.sets, iv y1_1.ways, iv y1_1.out, iv y1_1.inn, .slice a1_1_00 (List.length y1_1.init) c1_1_00] 26 (0, 0))) :: Γ) (fun w hw => (Sat.less (.take .here (.take .here (.take .here (.take .here .refl)))) hw)) ?_
   refine at_in_here ?_
   refine at_then_normal ?_
   refine aq (x := C4 [1,1,1,1,1,1,0]) (y := C4 [1,1,1,1,1,1,1]) ?_
   refine ar (id := 33) 2 ?_
   obtain ⟨y33_0, hy33_0, H⟩ := bindE H
   refine s_call 176 14 #[] kf kf (fun _ => kf) (W11F_tr  y33_0 hy33_0) ?_
   rintro _ _ ⟨rfl, rfl⟩
   refine sp 6 (.bool y33_0) ?_
   refine ops_end ?_
   refine ae [(6, .bool y33_0)] ?_
   refine at_then_normal ?_
   refine at_ret kf ?_
   obtain rfl := someE H
   refine at_backR [.bool y33_0] (Γ) (rs := [.tmp 6]) kf (.cons (.tmp kf) .nil) (fun w hw => (Sat.less (.drop .here (.drop .here (.drop .here (.drop .here .refl)))) hw)) ?_
   exact ⟨rfl, rfl⟩
 ·refine ar (id := 7) 8 ?_
  refine sp 38 (iv v0_10) ?_
  refine sp 39 (.slice actsa (List.length acts) actscap) ?_
  refine sp 40 (iv (((List.length acts) : Nat) : Int)) ?_
  refine sp 41 (.bool (decide (v0_10 < (((List.length acts) : Nat) : Int)))) ?_
  rcases Bool.eq_false_or_eq_true (decide (v0_10 < (((List.length acts) : Nat) : Int))) with h14 | h14
  ·replace H := bifT H h14
   refine sr 42 (.bool true) (run_eq (v := .bool (decide (v0_10 < (((List.length acts) : Nat) : Int)))) (fun _ => kf) (congrArg Value.bool h14)) ?_
   refine sp 43 (iv v0_10) ?_
   refine sp 44 (.bool (decide (v0_10 < (24 : Int)))) ?_
   refine sp 45 (.bool (decide (v0_10 < (24 : Int)))) ?_
   refine ops_end ?_
   refine ae [(1, iv y2_3), (2, .slice actsa (List.length acts) actscap), (7, .pointer (some ⟨b1_2, 0, none⟩)), (8, .pointer (some ⟨b3_2, 0, none⟩)), (9, .pointer (some ⟨b3_5, 0, none⟩)), (10, iv v0_10), (45, .bool (decide (v0_10 < (24 : Int))))] ?_
   refine at_round_normal ?_
   exact at_join_mk [(1, iv y2_3), (2, .slice actsa (List.length acts) actscap), (7, .pointer (some ⟨b1_2, 0, none⟩)), (8, .pointer (some ⟨b3_2, 0, none⟩)), (9, .pointer (some ⟨b3_5, 0, none⟩)), (10, iv v0_10), (45, .bool (decide (v0_10 < (24 : Int))))] ((HomesA b3_5 v0_b3_5) :: (ImmI a1_1_00 y1_1.init) :: (HomeA b3_2 v0_b3_2) :: (Asn.own b1_2 (.cells #[iv y1_1.nodes, iv y1_1.lines, iv y1_1.words, iv y1_1.sets, iv y1_1.ways, iv y1_1.out, iv y1_1.inn, .slice a1_1_00 (List.length y1_1.init) c1_1_00] 26 (0, 0))) :: Γ) ⟨kf, kf, kf, kf, kf, kf, kf, trivial⟩ (fun w hw => (Sat.less (.take .here (.take .here (.take .here (.take .here .refl)))) hw)) ⟨decide (v0_10 < (24 : Int)), H, rfl, rfl⟩
  ·replace H := bifF H h14
   refine sr 42 (.bool false) (run_eq (v := .bool (decide (v0_10 < (((List.length acts) : Nat) : Int)))) (fun _ => kf) (congrArg Value.bool h14)) ?_
   refine sa 43 ?_
   refine sa 44 ?_
   refine sp 45 (.bool false) ?_
   refine ops_end ?_
   refine ae [(1, iv y2_3), (2, .slice actsa (List.length acts) actscap), (7, .pointer (some ⟨b1_2, 0, none⟩)), (8, .pointer (some ⟨b3_2, 0, none⟩)), (9, .pointer (some ⟨b3_5, 0, none⟩)), (10, iv v0_10), (45, .bool false)] ?_
   refine at_round_normal ?_
   exact at_join_mk [(1, iv y2_3), (2, .slice actsa (List.length acts) actscap), (7, .pointer (some ⟨b1_2, 0, none⟩)), (8, .pointer (some ⟨b3_2, 0, none⟩)), (9, .pointer (some ⟨b3_5, 0, none⟩)), (10, iv v0_10), (45, .bool false)] ((HomesA b3_5 v0_b3_5) :: (ImmI a1_1_00 y1_1.init) :: (HomeA b3_2 v0_b3_2) :: (Asn.own b1_2 (.cells #[iv y1_1.nodes, iv y1_1.lines, iv y1_1.words, iv y1_1.sets, iv y1_1.ways, iv y1_1.out, iv y1_1.inn, .slice a1_1_00 (List.length y1_1.init) c1_1_00] 26 (0, 0))) :: Γ) ⟨kf, kf, kf, kf, kf, kf, kf, trivial⟩ (fun w hw => (Sat.less (.take .here (.take .here (.take .here (.take .here .refl)))) hw)) ⟨false, H, rfl, rfl⟩
end Go.Proofs.Ytcigheahollkcaa
