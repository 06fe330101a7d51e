/- Requests to a cache: each function answers what its plain function says. -/
import Derived.Test.YtcigheahollkcaaOwnB
import Derived.Test.YtcigheahollkcaaKsA
namespace Go.Proofs.Ytcigheahollkcaa
open Go Go.RowKit
set_option linter.unusedVariables false
set_option linter.unusedSimpArgs false
def pbelowS (n : Int) (least : Int) (bound : Int) : Option (Bool) :=
 (bif decide (least ≤ n) then some (decide (n < bound)) else some false)
noncomputable def C48 (p : List Nat) : Code := codeAt (bodyOf Try.f48) p
set_option maxRecDepth 100000 in
set_option maxHeartbeats 8000000 in
theorem PBelowF_tr {W0 : World} {Γ : List Asn} (n : Int) (least : Int) (bound : Int)  (y : Bool) (H : pbelowS n least bound = some y) : Tr Try.prog 48 #[.int .i64 n, .int .i64 least, .int .i64 bound] W0 (Γ) (fun r Δ => r = .bool y ∧ Δ = Γ) := by
 unfold pbelowS at H
 refine Tr.enter (fn := Try.f48) (c := C48 []) (args := [.int .i64 n, .int .i64 least, .int .i64 bound]) 15 Try.func48 kf kf ?_
 refine ae [(0, .int .i64 n), (1, .int .i64 least), (2, .int .i64 bound)] ?_
 refine aq (x := C48 [0]) (y := C48 [1]) ?_
 refine ar (id := 0) 1 ?_
 refine sp 6 (.bool false) ?_
 refine ops_end ?_
 refine ae [(0, .int .i64 n), (1, .int .i64 least), (2, .int .i64 bound)] ?_
 refine at_then_normal ?_
 refine aq (x := C48 [1,0]) (y := C48 [1,1]) ?_
 refine ar (id := 1) 9 ?_
 refine sp 7 (.int .i64 n) ?_
 refine sp 8 (.int .i64 least) ?_
 refine sp 9 (.bool (decide (least ≤ n))) ?_
 rcases Bool.eq_false_or_eq_true (decide (least ≤ n)) with h1 | h1
 ·replace H := bifT H h1
  refine sr 10 (.bool true) (run_eq (v := .bool (decide (least ≤ n))) (fun _ => kf) (congrArg Value.bool h1)) ?_
  refine sp 11 (.int .i64 n) ?_
  refine sp 12 (.int .i64 bound) ?_
  refine sp 13 (.bool (decide (n < bound))) ?_
  refine sp 14 (.bool (decide (n < bound))) ?_
  refine sp 6 (.bool (decide (n < bound))) ?_
  refine ops_end ?_
  refine ae [(6, .bool (decide (n < bound)))] ?_
  refine at_then_normal ?_
  refine at_ret kf ?_
  obtain rfl := someE H
  refine at_backR [.bool (decide (n < bound))] (Γ) (rs := [.tmp 6]) kf (.cons (.tmp kf) .nil) (fun w hw => (Sat.less .refl hw)) ?_
  exact ⟨rfl, rfl⟩
 ·replace H := bifF H h1
  refine sr 10 (.bool false) (run_eq (v := .bool (decide (least ≤ n))) (fun _ => kf) (congrArg Value.bool h1)) ?_
  refine sa 11 ?_
  refine sa 12 ?_
  refine sa 13 ?_
  refine sp 14 (.bool false) ?_
  refine sp 6 (.bool false) ?_
  refine ops_end ?_
  refine ae [(6, .bool false)] ?_
  refine at_then_normal ?_
  refine at_ret kf ?_
  obtain rfl := someE H
  refine at_backR [.bool false] (Γ) (rs := [.tmp 6]) kf (.cons (.tmp kf) .nil) (fun w hw => (Sat.less .refl hw)) ?_
  exact ⟨rfl, rfl⟩
def pcheckS_j1 (e0_3 : Bool) (p : PktS) (e1_4 : Bool) : Option (Int) :=
 (bif !e0_3 then some (1 : Int) else (bif !e1_4 then some (1 : Int) else (pbelowS p.state (0 : Int) (3 : Int)).bind fun y3_9 => (bif !y3_9 then some (1 : Int) else (bif decide ((4 : Int) < (((List.length p.data) : Nat) : Int)) then some (1 : Int) else some (0 : Int)))))
def pcheckS_j0 (p : PktS) (e0_3 : Bool) : Option (Int) :=
 (pbelowS p.kind (1 : Int) (10 : Int)).bind fun y2_2 => (bif y2_2 then (pbelowS p.line (0 : Int) (8 : Int)).bind fun y2_6 => (bif y2_6 then (pbelowS p.ptr ((-1) : Int) (6 : Int)).bind fun y2_11 => pcheckS_j1 e0_3 p y2_11 else pcheckS_j1 e0_3 p false) else pcheckS_j1 e0_3 p false)
def pcheckS (p : PktS) : Option (Int) :=
 (pbelowS p.src (0 : Int) (6 : Int)).bind fun y1_2 => (bif y1_2 then (pbelowS p.dst (0 : Int) (6 : Int)).bind fun y1_6 => (bif y1_6 then (pbelowS p.id (0 : Int) (4096 : Int)).bind fun y1_11 => pcheckS_j0 p y1_11 else pcheckS_j0 p false) else pcheckS_j0 p false)
noncomputable def C27 (p : List Nat) : Code := codeAt (bodyOf Try.f27) p
set_option maxRecDepth 100000 in
set_option maxHeartbeats 8000000 in
theorem PCheckF_tr {W0 : World} {Γ : List Asn} (pa : Option Addr) (pcap : Nat) (p : PktS) (hrpa : Reads W0 Γ pa (ints p.data)) (y : Int) (H : pcheckS p = some y) : Tr Try.prog 27 #[.agg #[.int .i64 p.kind, .int .i64 p.src, .int .i64 p.dst, .int .i64 p.id, .int .i64 p.line, .int .i64 p.ptr, .int .i64 p.state, .bool p.flag, .slice pa (List.length p.data) pcap]] W0 (Γ) (fun r Δ => r = .int .i64 y ∧ Δ = Γ) := by
 unfold pcheckS at H
 refine Tr.enter (fn := Try.f27) (c := C27 []) (args := [.agg #[.int .i64 p.kind, .int .i64 p.src, .int .i64 p.dst, .int .i64 p.id, .int .i64 p.line, .int .i64 p.ptr, .int .i64 p.state, .bool p.flag, .slice pa (List.length p.data) pcap]]) 49 Try.func27 kf kf ?_
 refine ae [(0, .agg #[.int .i64 p.kind, .int .i64 p.src, .int .i64 p.dst, .int .i64 p.id, .int .i64 p.line, .int .i64 p.ptr, .int .i64 p.state, .bool p.flag, .slice pa (List.length p.data) pcap])] ?_
 refine aq (x := C27 [0]) (y := C27 [1]) ?_
 refine ar (id := 0) 2 ?_
 refine s_step 1 kf kf (st_new (T := 32) (cells := #[.int .i64 p.kind, .int .i64 p.src, .int .i64 p.dst, .int .i64 p.id, .int .i64 p.line, .int .i64 p.ptr, .int .i64 p.state, .bool p.flag, .slice pa (List.length p.data) pcap]) (fun a => .pointer (some a)) (fun _ => kf)) ?_
 rintro _ _ ⟨b0_0, rfl, rfl⟩
 refine sp 2 (.int .i64 (0)) ?_
 refine ops_end ?_
 refine ae [(1, .pointer (some ⟨b0_0, 0, none⟩))] ?_
 refine at_then_normal ?_
 refine at_seq_join (x := C27 [1,0]) (y := C27 [1,1]) (fun ff ΔΔ => ∃ (e0_3 : Bool), pcheckS_j0 p e0_3 = some y ∧ ff = [(1, .pointer (some ⟨b0_0, 0, none⟩)), (3, .bool e0_3)] ∧ (Asn.own b0_0 (.cells #[.int .i64 p.kind, .int .i64 p.src, .int .i64 p.dst, .int .i64 p.id, .int .i64 p.line, .int .i64 p.ptr, .int .i64 p.state, .bool p.flag, .slice pa (List.length p.data) pcap] 32 (0, 0))) :: Γ = ΔΔ) kf ?_ ?_
 ·rintro _ _ ⟨e0_3, H, rfl, rfl⟩
  rw [pcheckS_j0] at H
  refine at_seq_join (x := C27 [1,1,0]) (y := C27 [1,1,1]) (fun ff ΔΔ => ∃ (e1_4 : Bool), pcheckS_j1 e0_3 p e1_4 = some y ∧ ff = [(1, .pointer (some ⟨b0_0, 0, none⟩)), (3, .bool e0_3), (4, .bool e1_4)] ∧ (Asn.own b0_0 (.cells #[.int .i64 p.kind, .int .i64 p.src, .int .i64 p.dst, .int .i64 p.id, .int .i64 p.line, .int .i64 p.ptr, .int .i64 p.state, .bool p.flag, .slice pa (List.length p.data) pcap] 32 (0, 0))) :: Γ = ΔΔ) kf ?_ ?_
  ·rintro _ _ ⟨e1_4, H, rfl, rfl⟩
   rw [pcheckS_j1] at H
   refine aq (x := C27 [1,1,1,0]) (y := C27 [1,1,1,1]) ?_
   refine aq (x := C27 [1,1,1,0,0]) (y := C27 [1,1,1,0,1]) ?_
   refine ar (id := 3) 18 ?_
   refine sp 31 (.bool e0_3) ?_
   refine sp 32 (.bool !e0_3) ?_
   rcases Bool.eq_false_or_eq_true (!e0_3) with h1 | h1
   ·replace H := bifT H h1
    refine sr 33 (.bool true) (run_eq (v := .bool (!e0_3)) (fun _ => kf) (congrArg Value.bool h1)) ?_
    refine sa 34 ?_
    refine sa 35 ?_
    refine sp 36 (.bool true) ?_
    refine sp 37 (.bool true) ?_
    refine sa 38 ?_
    refine sa 39 ?_
    refine sa 40 ?_
    refine sa 41 ?_
    refine sp 42 (.bool true) ?_
    refine sp 43 (.bool true) ?_
    refine sa 44 ?_
    refine sa 45 ?_
    refine sa 46 ?_
    refine sa 47 ?_
    refine sp 48 (.bool true) ?_
    refine ops_end ?_
    refine ae [(48, .bool true)] ?_
    refine at_then_normal ?_
    refine at_true (t := true) (x := C27 [1,1,1,0,1,0]) (y := C27 [1,1,1,0,1,1]) (o := .tmp 48) kf kf kf rfl ?_
    refine aq (x := C27 [1,1,1,0,1,0,0]) (y := C27 [1,1,1,0,1,0,1]) ?_
    refine ar (id := 4) 1 ?_
    refine sp 2 (.int .i64 (1)) ?_
    refine ops_end ?_
    refine ae [(2, .int .i64 (1))] ?_
    refine at_then_normal ?_
    refine at_ret kf ?_
    refine at_then_ret ?_
    obtain rfl := someE H
    refine at_backR [.int .i64 (1)] (Γ) (rs := [.tmp 2]) kf (.cons (.tmp kf) .nil) (fun w hw => (Sat.less (.drop .here .refl) hw)) ?_
    exact ⟨rfl, rfl⟩
   ·replace H := bifF H h1
    refine sr 33 (.bool false) (run_eq (v := .bool (!e0_3)) (fun _ => kf) (congrArg Value.bool h1)) ?_
    refine sp 34 (.bool e1_4) ?_
    refine sp 35 (.bool !e1_4) ?_
    refine sp 36 (.bool !e1_4) ?_
    rcases Bool.eq_false_or_eq_true (!e1_4) with h2 | h2
    ·replace H := bifT H h2
     refine sr 37 (.bool true) (run_eq (v := .bool (!e1_4)) (fun _ => kf) (congrArg Value.bool h2)) ?_
     refine sa 38 ?_
     refine sa 39 ?_
     refine sa 40 ?_
     refine sa 41 ?_
     refine sp 42 (.bool true) ?_
     refine sp 43 (.bool true) ?_
     refine sa 44 ?_
     refine sa 45 ?_
     refine sa 46 ?_
     refine sa 47 ?_
     refine sp 48 (.bool true) ?_
     refine ops_end ?_
     refine ae [(48, .bool true)] ?_
     refine at_then_normal ?_
     refine at_true (t := true) (x := C27 [1,1,1,0,1,0]) (y := C27 [1,1,1,0,1,1]) (o := .tmp 48) kf kf kf rfl ?_
     refine aq (x := C27 [1,1,1,0,1,0,0]) (y := C27 [1,1,1,0,1,0,1]) ?_
     refine ar (id := 4) 1 ?_
     refine sp 2 (.int .i64 (1)) ?_
     refine ops_end ?_
     refine ae [(2, .int .i64 (1))] ?_
     refine at_then_normal ?_
     refine at_ret kf ?_
     refine at_then_ret ?_
     obtain rfl := someE H
     refine at_backR [.int .i64 (1)] (Γ) (rs := [.tmp 2]) kf (.cons (.tmp kf) .nil) (fun w hw => (Sat.less (.drop .here .refl) hw)) ?_
     exact ⟨rfl, rfl⟩
    ·replace H := bifF H h2
     refine sr 37 (.bool false) (run_eq (v := .bool (!e1_4)) (fun _ => kf) (congrArg Value.bool h2)) ?_
     refine sp 38 (.pointer (some ⟨b0_0, 6, none⟩)) ?_
     refine sl 39 (.int .i64 p.state) (load1 (off := 6) (fun _ => kf) (holds_own .here) kf) ?_
     obtain ⟨y3_9, hy3_9, H⟩ := bindE H
     refine s_quiet 40 (.bool y3_9) 48 #[.int .i64 p.state, .int .i64 (0), .int .i64 (3)] kf kf (fun _ => kf) (PBelowF_tr p.state (0 : Int) (3 : Int) y3_9 hy3_9) ?_
     refine sp 41 (.bool !y3_9) ?_
     refine sp 42 (.bool !y3_9) ?_
     rcases Bool.eq_false_or_eq_true (!y3_9) with h3 | h3
     ·replace H := bifT H h3
      refine sr 43 (.bool true) (run_eq (v := .bool (!y3_9)) (fun _ => kf) (congrArg Value.bool h3)) ?_
      refine sa 44 ?_
      refine sa 45 ?_
      refine sa 46 ?_
      refine sa 47 ?_
      refine sp 48 (.bool true) ?_
      refine ops_end ?_
      refine ae [(48, .bool true)] ?_
      refine at_then_normal ?_
      refine at_true (t := true) (x := C27 [1,1,1,0,1,0]) (y := C27 [1,1,1,0,1,1]) (o := .tmp 48) kf kf kf rfl ?_
      refine aq (x := C27 [1,1,1,0,1,0,0]) (y := C27 [1,1,1,0,1,0,1]) ?_
      refine ar (id := 4) 1 ?_
      refine sp 2 (.int .i64 (1)) ?_
      refine ops_end ?_
      refine ae [(2, .int .i64 (1))] ?_
      refine at_then_normal ?_
      refine at_ret kf ?_
      refine at_then_ret ?_
      obtain rfl := someE H
      refine at_backR [.int .i64 (1)] (Γ) (rs := [.tmp 2]) kf (.cons (.tmp kf) .nil) (fun w hw => (Sat.less (.drop .here .refl) hw)) ?_
      exact ⟨rfl, rfl⟩
     ·replace H := bifF H h3
      refine sr 43 (.bool false) (run_eq (v := .bool (!y3_9)) (fun _ => kf) (congrArg Value.bool h3)) ?_
      refine sp 44 (.pointer (some ⟨b0_0, 8, none⟩)) ?_
      refine sl 45 (.slice pa (List.length p.data) pcap) (load1 (off := 8) (fun _ => kf) (holds_own .here) kf) ?_
      refine sp 46 (.int .i64 (((List.length p.data) : Nat) : Int)) ?_
      refine sp 47 (.bool (decide ((4 : Int) < (((List.length p.data) : Nat) : Int)))) ?_
      refine sp 48 (.bool (decide ((4 : Int) < (((List.length p.data) : Nat) : Int)))) ?_
      refine ops_end ?_
      refine ae [(48, .bool (decide ((4 : Int) < (((List.length p.data) : Nat) : Int))))] ?_
      refine at_then_normal ?_
      rcases Bool.eq_false_or_eq_true (decide ((4 : Int) < (((List.length p.data) : Nat) : Int))) with h4 | h4
      ·replace H := bifT H h4
       refine at_true (t := decide ((4 : Int) < (((List.length p.data) : Nat) : Int))) (x := C27 [1,1,1,0,1,0]) (y := C27 [1,1,1,0,1,1]) (o := .tmp 48) kf kf kf h4 ?_
       refine aq (x := C27 [1,1,1,0,1,0,0]) (y := C27 [1,1,1,0,1,0,1]) ?_
       refine ar (id := 4) 1 ?_
       refine sp 2 (.int .i64 (1)) ?_
       refine ops_end ?_
       refine ae [(2, .int .i64 (1))] ?_
       refine at_then_normal ?_
       refine at_ret kf ?_
       refine at_then_ret ?_
       obtain rfl := someE H
       refine at_backR [.int .i64 (1)] (Γ) (rs := [.tmp 2]) kf (.cons (.tmp kf) .nil) (fun w hw => (Sat.less (.drop .here .refl) hw)) ?_
       exact ⟨rfl, rfl⟩
      ·replace H := bifF H h4
       refine at_false (t := decide ((4 : Int) < (((List.length p.data) : Nat) : Int))) (x := C27 [1,1,1,0,1,0]) (y := C27 [1,1,1,0,1,1]) (o := .tmp 48) kf kf kf h4 ?_
       refine at_skip kf ?_
       refine at_then_normal ?_
       refine aq (x := C27 [1,1,1,1,0]) (y := C27 [1,1,1,1,1]) ?_
       refine ar (id := 5) 1 ?_
       refine sp 2 (.int .i64 (0)) ?_
       refine ops_end ?_
       refine ae [(2, .int .i64 (0))] ?_
       refine at_then_normal ?_
       refine at_ret kf ?_
       obtain rfl := someE H
       refine at_backR [.int .i64 (0)] (Γ) (rs := [.tmp 2]) kf (.cons (.tmp kf) .nil) (fun w hw => (Sat.less (.drop .here .refl) hw)) ?_
       exact ⟨rfl, rfl⟩
  ·refine ar (id := 2) 14 ?_
   refine sp 18 (.pointer (some ⟨b0_0, 0, none⟩)) ?_
   refine sl 19 (.int .i64 p.kind) (load1 (off := 0) (fun _ => kf) (holds_own .here) kf) ?_
   obtain ⟨y2_2, hy2_2, H⟩ := bindE H
   refine s_quiet 20 (.bool y2_2) 48 #[.int .i64 p.kind, .int .i64 (1), .int .i64 (10)] kf kf (fun _ => kf) (PBelowF_tr p.kind (1 : Int) (10 : Int) y2_2 hy2_2) ?_
   rcases Bool.eq_false_or_eq_true (y2_2) with h5 | h5
   ·replace H := bifT H h5
    refine sr 21 (.bool true) (run_eq (v := .bool (y2_2)) (fun _ => kf) (congrArg Value.bool h5)) ?_
    refine sp 22 (.pointer (some ⟨b0_0, 4, none⟩)) ?_
    refine sl 23 (.int .i64 p.line) (load1 (off := 4) (fun _ => kf) (holds_own .here) kf) ?_
    obtain ⟨y2_6, hy2_6, H⟩ := bindE H
    refine s_quiet 24 (.bool y2_6) 48 #[.int .i64 p.line, .int .i64 (0), .int .i64 (8)] kf kf (fun _ => kf) (PBelowF_tr p.line (0 : Int) (8 : Int) y2_6 hy2_6) ?_
    refine sp 25 (.bool y2_6) ?_
    rcases Bool.eq_false_or_eq_true (y2_6) with h6 | h6
    ·replace H := bifT H h6
     refine sr 26 (.bool true) (run_eq (v := .bool (y2_6)) (fun _ => kf) (congrArg Value.bool h6)) ?_
     refine sp 27 (.pointer (some ⟨b0_0, 5, none⟩)) ?_
     refine sl 28 (.int .i64 p.ptr) (load1 (off := 5) (fun _ => kf) (holds_own .here) kf) ?_
     obtain ⟨y2_11, hy2_11, H⟩ := bindE H
     refine s_quiet 29 (.bool y2_11) 48 #[.int .i64 p.ptr, .int .i64 (-1), .int .i64 (6)] kf kf (fun _ => kf) (PBelowF_tr p.ptr ((-1) : Int) (6 : Int) y2_11 hy2_11) ?_
     refine sp 30 (.bool y2_11) ?_
     refine sp 4 (.bool y2_11) ?_
     refine ops_end ?_
     refine ae [(1, .pointer (some ⟨b0_0, 0, none⟩)), (3, .bool e0_3), (4, .bool y2_11)] ?_
     refine at_round_normal ?_
     exact at_join_mk [(1, .pointer (some ⟨b0_0, 0, none⟩)), (3, .bool e0_3), (4, .bool y2_11)] ((Asn.own b0_0 (.cells #[.int .i64 p.kind, .int .i64 p.src, .int .i64 p.dst, .int .i64 p.id, .int .i64 p.line, .int .i64 p.ptr, .int .i64 p.state, .bool p.flag, .slice pa (List.length p.data) pcap] 32 (0, 0))) :: Γ) ⟨kf, kf, kf, trivial⟩ (fun w hw => (Sat.less (.take .here .refl) hw)) ⟨y2_11, H, rfl, rfl⟩
    ·replace H := bifF H h6
     refine sr 26 (.bool false) (run_eq (v := .bool (y2_6)) (fun _ => kf) (congrArg Value.bool h6)) ?_
     refine sa 27 ?_
     refine sa 28 ?_
     refine sa 29 ?_
     refine sp 30 (.bool false) ?_
     refine sp 4 (.bool false) ?_
     refine ops_end ?_
     refine ae [(1, .pointer (some ⟨b0_0, 0, none⟩)), (3, .bool e0_3), (4, .bool false)] ?_
     refine at_round_normal ?_
     exact at_join_mk [(1, .pointer (some ⟨b0_0, 0, none⟩)), (3, .bool e0_3), (4, .bool false)] ((Asn.own b0_0 (.cells #[.int .i64 p.kind, .int .i64 p.src, .int .i64 p.dst, .int .i64 p.id, .int .i64 p.line, .int .i64 p.ptr, .int .i64 p.state, .bool p.flag, .slice pa (List.length p.data) pcap] 32 (0, 0))) :: Γ) ⟨kf, kf, kf, trivial⟩ (fun w hw => (Sat.less (.take .here .refl) hw)) ⟨false, H, rfl, rfl⟩
   ·replace H := bifF H h5
    refine sr 21 (.bool false) (run_eq (v := .bool (y2_2)) (fun _ => kf) (congrArg Value.bool h5)) ?_
    refine sa 22 ?_
    refine sa 23 ?_
    refine sa 24 ?_
    refine sp 25 (.bool false) ?_
    refine sp 26 (.bool false) ?_
    refine sa 27 ?_
    refine sa 28 ?_
    refine sa 29 ?_
    refine sp 30 (.bool false) ?_
    refine sp 4 (.bool false) ?_
    refine ops_end ?_
    refine ae [(1, .pointer (some ⟨b0_0, 0, none⟩)), (3, .bool e0_3), (4, .bool false)] ?_
    refine at_round_normal ?_
    exact at_join_mk [(1, .pointer (some ⟨b0_0, 0, none⟩)), (3, .bool e0_3), (4, .bool false)] ((Asn.own b0_0 (.cells #[.int .i64 p.kind, .int .i64 p.src, .int .i64 p.dst, .int .i64 p.id, .int .i64 p.line, .int .i64 p.ptr, .int .i64 p.state, .bool p.flag, .slice pa (List.length p.data) pcap] 32 (0, 0))) :: Γ) ⟨kf, kf, kf, trivial⟩ (fun w hw => (Sat.less (.take .here .refl) hw)) ⟨false, H, rfl, rfl⟩
 ·refine ar (id := 1) 14 ?_
  refine sp 5 (.pointer (some ⟨b0_0, 1, none⟩)) ?_
  refine sl 6 (.int .i64 p.src) (load1 (off := 1) (fun _ => kf) (holds_own .here) kf) ?_
  obtain ⟨y1_2, hy1_2, H⟩ := bindE H
  refine s_quiet 7 (.bool y1_2) 48 #[.int .i64 p.src, .int .i64 (0), .int .i64 (6)] kf kf (fun _ => kf) (PBelowF_tr p.src (0 : Int) (6 : Int) y1_2 hy1_2) ?_
  rcases Bool.eq_false_or_eq_true (y1_2) with h7 | h7
  ·replace H := bifT H h7
   refine sr 8 (.bool true) (run_eq (v := .bool (y1_2)) (fun _ => kf) (congrArg Value.bool h7)) ?_
   refine sp 9 (.pointer (some ⟨b0_0, 2, none⟩)) ?_
   refine sl 10 (.int .i64 p.dst) (load1 (off := 2) (fun _ => kf) (holds_own .here) kf) ?_
   obtain ⟨y1_6, hy1_6, H⟩ := bindE H
   refine s_quiet 11 (.bool y1_6) 48 #[.int .i64 p.dst, .int .i64 (0), .int .i64 (6)] kf kf (fun _ => kf) (PBelowF_tr p.dst (0 : Int) (6 : Int) y1_6 hy1_6) ?_
   refine sp 12 (.bool y1_6) ?_
   rcases Bool.eq_false_or_eq_true (y1_6) with h8 | h8
   ·replace H := bifT H h8
    refine sr 13 (.bool true) (run_eq (v := .bool (y1_6)) (fun _ => kf) (congrArg Value.bool h8)) ?_
    refine sp 14 (.pointer (some ⟨b0_0, 3, none⟩)) ?_
    refine sl 15 (.int .i64 p.id) (load1 (off := 3) (fun _ => kf) (holds_own .here) kf) ?_
    obtain ⟨y1_11, hy1_11, H⟩ := bindE H
    refine s_quiet 16 (.bool y1_11) 48 #[.int .i64 p.id, .int .i64 (0), .int .i64 (4096)] kf kf (fun _ => kf) (PBelowF_tr p.id (0 : Int) (4096 : Int) y1_11 hy1_11) ?_
    refine sp 17 (.bool y1_11) ?_
    refine sp 3 (.bool y1_11) ?_
    refine ops_end ?_
    refine ae [(1, .pointer (some ⟨b0_0, 0, none⟩)), (3, .bool y1_11)] ?_
    refine at_round_normal ?_
    exact at_join_mk [(1, .pointer (some ⟨b0_0, 0, none⟩)), (3, .bool y1_11)] ((Asn.own b0_0 (.cells #[.int .i64 p.kind, .int .i64 p.src, .int .i64 p.dst, .int .i64 p.id, .int .i64 p.line, .int .i64 p.ptr, .int .i64 p.state, .bool p.flag, .slice pa (List.length p.data) pcap] 32 (0, 0))) :: Γ) ⟨kf, kf, trivial⟩ (fun w hw => (Sat.less (.take .here .refl) hw)) ⟨y1_11, H, rfl, rfl⟩
   ·replace H := bifF H h8
    refine sr 13 (.bool false) (run_eq (v := .bool (y1_6)) (fun _ => kf) (congrArg Value.bool h8)) ?_
    refine sa 14 ?_
    refine sa 15 ?_
    refine sa 16 ?_
    refine sp 17 (.bool false) ?_
    refine sp 3 (.bool false) ?_
    refine ops_end ?_
    refine ae [(1, .pointer (some ⟨b0_0, 0, none⟩)), (3, .bool false)] ?_
    refine at_round_normal ?_
    exact at_join_mk [(1, .pointer (some ⟨b0_0, 0, none⟩)), (3, .bool false)] ((Asn.own b0_0 (.cells #[.int .i64 p.kind, .int .i64 p.src, .int .i64 p.dst, .int .i64 p.id, .int .i64 p.line, .int .i64 p.ptr, .int .i64 p.state, .bool p.flag, .slice pa (List.length p.data) pcap] 32 (0, 0))) :: Γ) ⟨kf, kf, trivial⟩ (fun w hw => (Sat.less (.take .here .refl) hw)) ⟨false, H, rfl, rfl⟩
  ·replace H := bifF H h7
   refine sr 8 (.bool false) (run_eq (v := .bool (y1_2)) (fun _ => kf) (congrArg Value.bool h7)) ?_
   refine sa 9 ?_
   refine sa 10 ?_
   refine sa 11 ?_
   refine sp 12 (.bool false) ?_
   refine sp 13 (.bool false) ?_
   refine sa 14 ?_
   refine sa 15 ?_
   refine sa 16 ?_
   refine sp 17 (.bool false) ?_
   refine sp 3 (.bool false) ?_
   refine ops_end ?_
   refine ae [(1, .pointer (some ⟨b0_0, 0, none⟩)), (3, .bool false)] ?_
   refine at_round_normal ?_
   exact at_join_mk [(1, .pointer (some ⟨b0_0, 0, none⟩)), (3, .bool false)] ((Asn.own b0_0 (.cells #[.int .i64 p.kind, .int .i64 p.src, .int .i64 p.dst, .int .i64 p.id, .int .i64 p.line, .int .i64 p.ptr, .int .i64 p.state, .bool p.flag, .slice pa (List.length p.data) pcap] 32 (0, 0))) :: Γ) ⟨kf, kf, trivial⟩ (fun w hw => (Sat.less (.take .here .refl) hw)) ⟨false, H, rfl, rfl⟩
end Go.Proofs.Ytcigheahollkcaa
