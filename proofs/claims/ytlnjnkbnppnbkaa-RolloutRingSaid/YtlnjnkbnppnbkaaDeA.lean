/- Deals: each function answers what its plain function says. -/
import Derived.Test.YtlnjnkbnppnbkaaOwnA
import Derived.Test.YtlnjnkbnppnbkaaKsA
import Derived.Test.YtlnjnkbnppnbkaaSvA
namespace Go.Proofs.Ytlnjnkbnppnbkaa
open Go Go.RowKit
set_option linter.unusedVariables false
set_option linter.unusedSimpArgs false
def dkindS (s : Int) : Option (Int) :=
 (bif decide (s = (1 : Int)) then some (1 : Int) else (bif decide (s = (2 : Int)) then some (3 : Int) else (bif decide (s = (3 : Int)) then some (6 : Int) else (bif decide (s = (4 : Int)) then some (4 : Int) else (bif decide (s = (5 : Int)) then some (5 : Int) else (bif decide (s = (6 : Int)) then some (2 : Int) else some (0 : Int)))))))
noncomputable def C49 (p : List Nat) : Code := codeAt (bodyOf Try.f49) p
set_option maxRecDepth 100000 in
set_option maxHeartbeats 8000000 in
theorem DKindF_tr {W0 : World} {Γ : List Asn} (s : Int)  (y : Int) (H : dkindS s = some y) : Tr Try.prog 49 #[.int .i64 s] W0 (Γ) (fun r Δ => r = .int .i64 y ∧ Δ = Γ) := by
 unfold dkindS at H
 refine Tr.enter (fn := Try.f49) (c := C49 []) (args := [.int .i64 s]) 16 Try.func49 (by kernel_rfl) (by kernel_rfl) ?_
 refine ae [(0, .int .i64 s)] ?_
 refine aq (x := C49 [0]) (y := C49 [1]) ?_
 refine ar (id := 0) 1 ?_
 refine sp 2 (.int .i64 (0)) ?_
 refine ops_end ?_
 refine ae [(0, .int .i64 s)] ?_
 refine at_then_normal ?_
 refine aq (x := C49 [1,0]) (y := C49 [1,1]) ?_
 refine aq (x := C49 [1,0,0]) (y := C49 [1,0,1]) ?_
 refine ar (id := 1) 1 ?_
 refine sp 3 (.int .i64 s) ?_
 refine ops_end ?_
 refine ae [(3, .int .i64 s)] ?_
 refine at_then_normal ?_
 refine at_block (i := 0) (x := C49 [1,0,1,0]) (by kernel_rfl) ?_
 refine aq (x := C49 [1,0,1,0,0]) (y := C49 [1,0,1,0,1]) ?_
 refine ar (id := 2) 2 ?_
 refine sp 5 (.bool (decide (s = (1 : Int)))) ?_
 refine sp 4 (.bool (decide (s = (1 : Int)))) ?_
 refine ops_end ?_
 refine ae [(3, .int .i64 s), (4, .bool (decide (s = (1 : Int))))] ?_
 refine at_then_normal ?_
 rcases Bool.eq_false_or_eq_true (decide (s = (1 : Int))) with h1 | h1
 ·replace H := bifT H h1
  refine at_true (t := decide (s = (1 : Int))) (x := C49 [1,0,1,0,1,0]) (y := C49 [1,0,1,0,1,1]) (o := .tmp 4) (by kernel_rfl) (by kernel_rfl) (by kernel_rfl) h1 ?_
  refine aq (x := C49 [1,0,1,0,1,0,0]) (y := C49 [1,0,1,0,1,0,1]) ?_
  refine ar (id := 3) 1 ?_
  refine sp 2 (.int .i64 (1)) ?_
  refine ops_end ?_
  refine ae [(2, .int .i64 (1))] ?_
  refine at_then_normal ?_
  refine at_ret (by kernel_rfl) ?_
  refine at_in_ret ?_
  refine at_then_ret ?_
  obtain rfl := someE H
  refine at_backR [.int .i64 (1)] (Γ) (rs := [.tmp 2]) (by kernel_rfl) (.cons (.tmp (by kernel_rfl)) .nil) (fun w hw => (Sat.less .refl hw)) ?_
  exact ⟨rfl, rfl⟩
 ·replace H := bifF H h1
  refine at_false (t := decide (s = (1 : Int))) (x := C49 [1,0,1,0,1,0]) (y := C49 [1,0,1,0,1,1]) (o := .tmp 4) (by kernel_rfl) (by kernel_rfl) (by kernel_rfl) h1 ?_
  refine aq (x := C49 [1,0,1,0,1,1,0]) (y := C49 [1,0,1,0,1,1,1]) ?_
  refine ar (id := 4) 2 ?_
  refine sp 7 (.bool (decide (s = (2 : Int)))) ?_
  refine sp 6 (.bool (decide (s = (2 : Int)))) ?_
  refine ops_end ?_
  refine ae [(3, .int .i64 s), (6, .bool (decide (s = (2 : Int))))] ?_
  refine at_then_normal ?_
  rcases Bool.eq_false_or_eq_true (decide (s = (2 : Int))) with h2 | h2
  ·replace H := bifT H h2
   refine at_true (t := decide (s = (2 : Int))) (x := C49 [1,0,1,0,1,1,1,0]) (y := C49 [1,0,1,0,1,1,1,1]) (o := .tmp 6) (by kernel_rfl) (by kernel_rfl) (by kernel_rfl) h2 ?_
   refine aq (x := C49 [1,0,1,0,1,1,1,0,0]) (y := C49 [1,0,1,0,1,1,1,0,1]) ?_
   refine ar (id := 5) 1 ?_
   refine sp 2 (.int .i64 (3)) ?_
   refine ops_end ?_
   refine ae [(2, .int .i64 (3))] ?_
   refine at_then_normal ?_
   refine at_ret (by kernel_rfl) ?_
   refine at_in_ret ?_
   refine at_then_ret ?_
   obtain rfl := someE H
   refine at_backR [.int .i64 (3)] (Γ) (rs := [.tmp 2]) (by kernel_rfl) (.cons (.tmp (by kernel_rfl)) .nil) (fun w hw => (Sat.less .refl hw)) ?_
   exact ⟨rfl, rfl⟩
  ·replace H := bifF H h2
   refine at_false (t := decide (s = (2 : Int))) (x := C49 [1,0,1,0,1,1,1,0]) (y := C49 [1,0,1,0,1,1,1,1]) (o := .tmp 6) (by kernel_rfl) (by kernel_rfl) (by kernel_rfl) h2 ?_
   refine aq (x := C49 [1,0,1,0,1,1,1,1,0]) (y := C49 [1,0,1,0,1,1,1,1,1]) ?_
   refine ar (id := 6) 2 ?_
   refine sp 9 (.bool (decide (s = (3 : Int)))) ?_
   refine sp 8 (.bool (decide (s = (3 : Int)))) ?_
   refine ops_end ?_
   refine ae [(3, .int .i64 s), (8, .bool (decide (s = (3 : Int))))] ?_
   refine at_then_normal ?_
   rcases Bool.eq_false_or_eq_true (decide (s = (3 : Int))) with h3 | h3
   ·replace H := bifT H h3
    refine at_true (t := decide (s = (3 : Int))) (x := C49 [1,0,1,0,1,1,1,1,1,0]) (y := C49 [1,0,1,0,1,1,1,1,1,1]) (o := .tmp 8) (by kernel_rfl) (by kernel_rfl) (by kernel_rfl) h3 ?_
    refine aq (x := C49 [1,0,1,0,1,1,1,1,1,0,0]) (y := C49 [1,0,1,0,1,1,1,1,1,0,1]) ?_
    refine ar (id := 7) 1 ?_
    refine sp 2 (.int .i64 (6)) ?_
    refine ops_end ?_
    refine ae [(2, .int .i64 (6))] ?_
    refine at_then_normal ?_
    refine at_ret (by kernel_rfl) ?_
    refine at_in_ret ?_
    refine at_then_ret ?_
    obtain rfl := someE H
    refine at_backR [.int .i64 (6)] (Γ) (rs := [.tmp 2]) (by kernel_rfl) (.cons (.tmp (by kernel_rfl)) .nil) (fun w hw => (Sat.less .refl hw)) ?_
    exact ⟨rfl, rfl⟩
   ·replace H := bifF H h3
    refine at_false (t := decide (s = (3 : Int))) (x := C49 [1,0,1,0,1,1,1,1,1,0]) (y := C49 [1,0,1,0,1,1,1,1,1,1]) (o := .tmp 8) (by kernel_rfl) (by kernel_rfl) (by kernel_rfl) h3 ?_
    refine aq (x := C49 [1,0,1,0,1,1,1,1,1,1,0]) (y := C49 [1,0,1,0,1,1,1,1,1,1,1]) ?_
    refine ar (id := 8) 2 ?_
    refine sp 11 (.bool (decide (s = (4 : Int)))) ?_
    refine sp 10 (.bool (decide (s = (4 : Int)))) ?_
    refine ops_end ?_
    refine ae [(3, .int .i64 s), (10, .bool (decide (s = (4 : Int))))] ?_
    refine at_then_normal ?_
    rcases Bool.eq_false_or_eq_true (decide (s = (4 : Int))) with h4 | h4
    ·replace H := bifT H h4
     refine at_true (t := decide (s = (4 : Int))) (x := C49 [1,0,1,0,1,1,1,1,1,1,1,0]) (y := C49 [1,0,1,0,1,1,1,1,1,1,1,1]) (o := .tmp 10) (by kernel_rfl) (by kernel_rfl) (by kernel_rfl) h4 ?_
     refine aq (x := C49 [1,0,1,0,1,1,1,1,1,1,1,0,0]) (y := C49 [1,0,1,0,1,1,1,1,1,1,1,0,1]) ?_
     refine ar (id := 9) 1 ?_
     refine sp 2 (.int .i64 (4)) ?_
     refine ops_end ?_
     refine ae [(2, .int .i64 (4))] ?_
     refine at_then_normal ?_
     refine at_ret (by kernel_rfl) ?_
     refine at_in_ret ?_
     refine at_then_ret ?_
     obtain rfl := someE H
     refine at_backR [.int .i64 (4)] (Γ) (rs := [.tmp 2]) (by kernel_rfl) (.cons (.tmp (by kernel_rfl)) .nil) (fun w hw => (Sat.less .refl hw)) ?_
     exact ⟨rfl, rfl⟩
    ·replace H := bifF H h4
     refine at_false (t := decide (s = (4 : Int))) (x := C49 [1,0,1,0,1,1,1,1,1,1,1,0]) (y := C49 [1,0,1,0,1,1,1,1,1,1,1,1]) (o := .tmp 10) (by kernel_rfl) (by kernel_rfl) (by kernel_rfl) h4 ?_
     refine aq (x := C49 [1,0,1,0,1,1,1,1,1,1,1,1,0]) (y := C49 [1,0,1,0,1,1,1,1,1,1,1,1,1]) ?_
     refine ar (id := 10) 2 ?_
     refine sp 13 (.bool (decide (s = (5 : Int)))) ?_
     refine sp 12 (.bool (decide (s = (5 : Int)))) ?_
     refine ops_end ?_
     refine ae [(3, .int .i64 s), (12, .bool (decide (s = (5 : Int))))] ?_
     refine at_then_normal ?_
     rcases Bool.eq_false_or_eq_true (decide (s = (5 : Int))) with h5 | h5
     ·replace H := bifT H h5
      refine at_true (t := decide (s = (5 : Int))) (x := C49 [1,0,1,0,1,1,1,1,1,1,1,1,1,0]) (y := C49 [1,0,1,0,1,1,1,1,1,1,1,1,1,1]) (o := .tmp 12) (by kernel_rfl) (by kernel_rfl) (by kernel_rfl) h5 ?_
      refine aq (x := C49 [1,0,1,0,1,1,1,1,1,1,1,1,1,0,0]) (y := C49 [1,0,1,0,1,1,1,1,1,1,1,1,1,0,1]) ?_
      refine ar (id := 11) 1 ?_
      refine sp 2 (.int .i64 (5)) ?_
      refine ops_end ?_
      refine ae [(2, .int .i64 (5))] ?_
      refine at_then_normal ?_
      refine at_ret (by kernel_rfl) ?_
      refine at_in_ret ?_
      refine at_then_ret ?_
      obtain rfl := someE H
      refine at_backR [.int .i64 (5)] (Γ) (rs := [.tmp 2]) (by kernel_rfl) (.cons (.tmp (by kernel_rfl)) .nil) (fun w hw => (Sat.less .refl hw)) ?_
      exact ⟨rfl, rfl⟩
     ·replace H := bifF H h5
      refine at_false (t := decide (s = (5 : Int))) (x := C49 [1,0,1,0,1,1,1,1,1,1,1,1,1,0]) (y := C49 [1,0,1,0,1,1,1,1,1,1,1,1,1,1]) (o := .tmp 12) (by kernel_rfl) (by kernel_rfl) (by kernel_rfl) h5 ?_
      refine aq (x := C49 [1,0,1,0,1,1,1,1,1,1,1,1,1,1,0]) (y := C49 [1,0,1,0,1,1,1,1,1,1,1,1,1,1,1]) ?_
      refine ar (id := 12) 2 ?_
      refine sp 15 (.bool (decide (s = (6 : Int)))) ?_
      refine sp 14 (.bool (decide (s = (6 : Int)))) ?_
      refine ops_end ?_
      refine ae [(14, .bool (decide (s = (6 : Int))))] ?_
      refine at_then_normal ?_
      rcases Bool.eq_false_or_eq_true (decide (s = (6 : Int))) with h6 | h6
      ·replace H := bifT H h6
       refine at_true (t := decide (s = (6 : Int))) (x := C49 [1,0,1,0,1,1,1,1,1,1,1,1,1,1,1,0]) (y := C49 [1,0,1,0,1,1,1,1,1,1,1,1,1,1,1,1]) (o := .tmp 14) (by kernel_rfl) (by kernel_rfl) (by kernel_rfl) h6 ?_
       refine aq (x := C49 [1,0,1,0,1,1,1,1,1,1,1,1,1,1,1,0,0]) (y := C49 [1,0,1,0,1,1,1,1,1,1,1,1,1,1,1,0,1]) ?_
       refine ar (id := 13) 1 ?_
       refine sp 2 (.int .i64 (2)) ?_
       refine ops_end ?_
       refine ae [(2, .int .i64 (2))] ?_
       refine at_then_normal ?_
       refine at_ret (by kernel_rfl) ?_
       refine at_in_ret ?_
       refine at_then_ret ?_
       obtain rfl := someE H
       refine at_backR [.int .i64 (2)] (Γ) (rs := [.tmp 2]) (by kernel_rfl) (.cons (.tmp (by kernel_rfl)) .nil) (fun w hw => (Sat.less .refl hw)) ?_
       exact ⟨rfl, rfl⟩
      ·replace H := bifF H h6
       refine at_false (t := decide (s = (6 : Int))) (x := C49 [1,0,1,0,1,1,1,1,1,1,1,1,1,1,1,0]) (y := C49 [1,0,1,0,1,1,1,1,1,1,1,1,1,1,1,1]) (o := .tmp 14) (by kernel_rfl) (by kernel_rfl) (by kernel_rfl) h6 ?_
       refine at_skip (by kernel_rfl) ?_
       refine at_in_normal ?_
       refine at_then_normal ?_
       refine aq (x := C49 [1,1,0]) (y := C49 [1,1,1]) ?_
       refine ar (id := 14) 1 ?_
       refine sp 2 (.int .i64 (0)) ?_
       refine ops_end ?_
       refine ae [(2, .int .i64 (0))] ?_
       refine at_then_normal ?_
       refine at_ret (by kernel_rfl) ?_
       obtain rfl := someE H
       refine at_backR [.int .i64 (0)] (Γ) (rs := [.tmp 2]) (by kernel_rfl) (.cons (.tmp (by kernel_rfl)) .nil) (fun w hw => (Sat.less .refl hw)) ?_
       exact ⟨rfl, rfl⟩
def dfitsS (d : DealS) (p : PktS) : Option (Bool) :=
 (dkindS d.step).bind fun y1_2 => (pansS y1_2).bind fun y1_3 => (bif !(decide (y1_3 = (0 : Int))) then (bif decide (p.kind = y1_3) then (bif decide (p.id = d.id) then some (decide (p.line = d.line)) else some false) else some false) else some false)
noncomputable def C42 (p : List Nat) : Code := codeAt (bodyOf Try.f42) p
set_option maxRecDepth 100000 in
set_option maxHeartbeats 8000000 in
theorem DFitsF_tr {W0 : World} {Γ : List Asn} (da : Option Addr) (dcap : Nat) (d : DealS) (pa : Option Addr) (pcap : Nat) (p : PktS) (hrda : Reads W0 Γ da (ints d.data)) (hrpa : Reads W0 Γ pa (ints p.data)) (y : Bool) (H : dfitsS d p = some y) : Tr Try.prog 42 #[.agg #[.int .i64 d.kind, .int .i64 d.line, .int .i64 d.id, .int .i64 d.step, .int .i64 d.state, .int .i64 d.head, .slice da (List.length d.data) dcap, .int .i64 d.next, .int .i64 d.told], .agg #[.int .i64 p.kind, .int .i64 p.src, .int .i64 p.dst, .int .i64 p.id, .int .i64 p.line, .int .i64 p.ptr, .int .i64 p.state, .bool p.flag, .slice pa (List.length p.data) pcap]] W0 (Γ) (fun r Δ => r = .bool y ∧ Δ = Γ) := by
 unfold dfitsS at H
 refine Tr.enter (fn := Try.f42) (c := C42 []) (args := [.agg #[.int .i64 d.kind, .int .i64 d.line, .int .i64 d.id, .int .i64 d.step, .int .i64 d.state, .int .i64 d.head, .slice da (List.length d.data) dcap, .int .i64 d.next, .int .i64 d.told], .agg #[.int .i64 p.kind, .int .i64 p.src, .int .i64 p.dst, .int .i64 p.id, .int .i64 p.line, .int .i64 p.ptr, .int .i64 p.state, .bool p.flag, .slice pa (List.length p.data) pcap]]) 32 Try.func42 (by kernel_rfl) (by kernel_rfl) ?_
 refine ae [(0, .agg #[.int .i64 d.kind, .int .i64 d.line, .int .i64 d.id, .int .i64 d.step, .int .i64 d.state, .int .i64 d.head, .slice da (List.length d.data) dcap, .int .i64 d.next, .int .i64 d.told]), (1, .agg #[.int .i64 p.kind, .int .i64 p.src, .int .i64 p.dst, .int .i64 p.id, .int .i64 p.line, .int .i64 p.ptr, .int .i64 p.state, .bool p.flag, .slice pa (List.length p.data) pcap])] ?_
 refine aq (x := C42 [0]) (y := C42 [1]) ?_
 refine ar (id := 0) 3 ?_
 refine s_step 2 (by kernel_rfl) (by kernel_rfl) (st_new (T := 35) (cells := #[.int .i64 d.kind, .int .i64 d.line, .int .i64 d.id, .int .i64 d.step, .int .i64 d.state, .int .i64 d.head, .slice da (List.length d.data) dcap, .int .i64 d.next, .int .i64 d.told]) (fun a => .pointer (some a)) (fun _ => by kernel_rfl)) ?_
 rintro _ _ ⟨b0_0, rfl, rfl⟩
 refine s_step 3 (by kernel_rfl) (by kernel_rfl) (st_new (T := 40) (cells := #[.int .i64 p.kind, .int .i64 p.src, .int .i64 p.dst, .int .i64 p.id, .int .i64 p.line, .int .i64 p.ptr, .int .i64 p.state, .bool p.flag, .slice pa (List.length p.data) pcap]) (fun a => .pointer (some a)) (fun _ => by kernel_rfl)) ?_
 rintro _ _ ⟨b0_1, rfl, rfl⟩
 refine sp 4 (.bool false) ?_
 refine ops_end ?_
 refine ae [(2, .pointer (some ⟨b0_0, 0, none⟩)), (3, .pointer (some ⟨b0_1, 0, none⟩))] ?_
 refine at_then_normal ?_
 refine aq (x := C42 [1,0]) (y := C42 [1,1]) ?_
 refine ar (id := 1) 5 ?_
 refine sp 6 (.pointer (some ⟨b0_0, 3, none⟩)) ?_
 refine sl 7 (.int .i64 d.step) (load1 (off := 3) (fun _ => by kernel_rfl) (holds_own (.there .here)) (by kernel_rfl)) ?_
 obtain ⟨y1_2, hy1_2, H⟩ := bindE H
 refine s_quiet 8 (.int .i64 y1_2) 49 #[.int .i64 d.step] (by kernel_rfl) (by kernel_rfl) (fun _ => by kernel_rfl) (DKindF_tr d.step y1_2 hy1_2) ?_
 obtain ⟨y1_3, hy1_3, H⟩ := bindE H
 refine s_quiet 9 (.int .i64 y1_3) 53 #[.int .i64 y1_2] (by kernel_rfl) (by kernel_rfl) (fun _ => by kernel_rfl) (PAnsF_tr y1_2 y1_3 hy1_3) ?_
 refine sp 5 (.int .i64 y1_3) ?_
 refine ops_end ?_
 refine ae [(2, .pointer (some ⟨b0_0, 0, none⟩)), (3, .pointer (some ⟨b0_1, 0, none⟩)), (5, .int .i64 y1_3)] ?_
 refine at_then_normal ?_
 refine aq (x := C42 [1,1,0]) (y := C42 [1,1,1]) ?_
 refine ar (id := 2) 23 ?_
 refine sp 10 (.int .i64 y1_3) ?_
 refine sp 11 (.bool (!(decide (y1_3 = (0 : Int))))) ?_
 rcases Bool.eq_false_or_eq_true (!(decide (y1_3 = (0 : Int)))) with h1 | h1
 ·replace H := bifT H h1
  refine sr 12 (.bool true) (run_eq (v := .bool (!(decide (y1_3 = (0 : Int))))) (fun _ => by kernel_rfl) (congrArg Value.bool h1)) ?_
  refine sp 13 (.pointer (some ⟨b0_1, 0, none⟩)) ?_
  refine sl 14 (.int .i64 p.kind) (load1 (off := 0) (fun _ => by kernel_rfl) (holds_own .here) (by kernel_rfl)) ?_
  refine sp 15 (.int .i64 y1_3) ?_
  refine sp 16 (.bool (decide (p.kind = y1_3))) ?_
  refine sp 17 (.bool (decide (p.kind = y1_3))) ?_
  rcases Bool.eq_false_or_eq_true (decide (p.kind = y1_3)) with h2 | h2
  ·replace H := bifT H h2
   refine sr 18 (.bool true) (run_eq (v := .bool (decide (p.kind = y1_3))) (fun _ => by kernel_rfl) (congrArg Value.bool h2)) ?_
   refine sp 19 (.pointer (some ⟨b0_1, 3, none⟩)) ?_
   refine sl 20 (.int .i64 p.id) (load1 (off := 3) (fun _ => by kernel_rfl) (holds_own .here) (by kernel_rfl)) ?_
   refine sp 21 (.pointer (some ⟨b0_0, 2, none⟩)) ?_
   refine sl 22 (.int .i64 d.id) (load1 (off := 2) (fun _ => by kernel_rfl) (holds_own (.there .here)) (by kernel_rfl)) ?_
   refine sp 23 (.bool (decide (p.id = d.id))) ?_
   refine sp 24 (.bool (decide (p.id = d.id))) ?_
   rcases Bool.eq_false_or_eq_true (decide (p.id = d.id)) with h3 | h3
   ·replace H := bifT H h3
    refine sr 25 (.bool true) (run_eq (v := .bool (decide (p.id = d.id))) (fun _ => by kernel_rfl) (congrArg Value.bool h3)) ?_
    refine sp 26 (.pointer (some ⟨b0_1, 4, none⟩)) ?_
    refine sl 27 (.int .i64 p.line) (load1 (off := 4) (fun _ => by kernel_rfl) (holds_own .here) (by kernel_rfl)) ?_
    refine sp 28 (.pointer (some ⟨b0_0, 1, none⟩)) ?_
    refine sl 29 (.int .i64 d.line) (load1 (off := 1) (fun _ => by kernel_rfl) (holds_own (.there .here)) (by kernel_rfl)) ?_
    refine sp 30 (.bool (decide (p.line = d.line))) ?_
    refine sp 31 (.bool (decide (p.line = d.line))) ?_
    refine sp 4 (.bool (decide (p.line = d.line))) ?_
    refine ops_end ?_
    refine ae [(4, .bool (decide (p.line = d.line)))] ?_
    refine at_then_normal ?_
    refine at_ret (by kernel_rfl) ?_
    obtain rfl := someE H
    refine at_backR [.bool (decide (p.line = d.line))] (Γ) (rs := [.tmp 4]) (by kernel_rfl) (.cons (.tmp (by kernel_rfl)) .nil) (fun w hw => (Sat.less (.drop .here (.drop .here .refl)) hw)) ?_
    exact ⟨rfl, rfl⟩
   ·replace H := bifF H h3
    refine sr 25 (.bool false) (run_eq (v := .bool (decide (p.id = d.id))) (fun _ => by kernel_rfl) (congrArg Value.bool h3)) ?_
    refine sa 26 ?_
    refine sa 27 ?_
    refine sa 28 ?_
    refine sa 29 ?_
    refine sa 30 ?_
    refine sp 31 (.bool false) ?_
    refine sp 4 (.bool false) ?_
    refine ops_end ?_
    refine ae [(4, .bool false)] ?_
    refine at_then_normal ?_
    refine at_ret (by kernel_rfl) ?_
    obtain rfl := someE H
    refine at_backR [.bool false] (Γ) (rs := [.tmp 4]) (by kernel_rfl) (.cons (.tmp (by kernel_rfl)) .nil) (fun w hw => (Sat.less (.drop .here (.drop .here .refl)) hw)) ?_
    exact ⟨rfl, rfl⟩
  ·replace H := bifF H h2
   refine sr 18 (.bool false) (run_eq (v := .bool (decide (p.kind = y1_3))) (fun _ => by kernel_rfl) (congrArg Value.bool h2)) ?_
   refine sa 19 ?_
   refine sa 20 ?_
   refine sa 21 ?_
   refine sa 22 ?_
   refine sa 23 ?_
   refine sp 24 (.bool false) ?_
   refine sp 25 (.bool false) ?_
   refine sa 26 ?_
   refine sa 27 ?_
   refine sa 28 ?_
   refine sa 29 ?_
   refine sa 30 ?_
   refine sp 31 (.bool false) ?_
   refine sp 4 (.bool false) ?_
   refine ops_end ?_
   refine ae [(4, .bool false)] ?_
   refine at_then_normal ?_
   refine at_ret (by kernel_rfl) ?_
   obtain rfl := someE H
   refine at_backR [.bool false] (Γ) (rs := [.tmp 4]) (by kernel_rfl) (.cons (.tmp (by kernel_rfl)) .nil) (fun w hw => (Sat.less (.drop .here (.drop .here .refl)) hw)) ?_
   exact ⟨rfl, rfl⟩
 ·replace H := bifF H h1
  refine sr 12 (.bool false) (run_eq (v := .bool (!(decide (y1_3 = (0 : Int))))) (fun _ => by kernel_rfl) (congrArg Value.bool h1)) ?_
  refine sa 13 ?_
  refine sa 14 ?_
  refine sa 15 ?_
  refine sa 16 ?_
  refine sp 17 (.bool false) ?_
  refine sp 18 (.bool false) ?_
  refine sa 19 ?_
  refine sa 20 ?_
  refine sa 21 ?_
  refine sa 22 ?_
  refine sa 23 ?_
  refine sp 24 (.bool false) ?_
  refine sp 25 (.bool false) ?_
  refine sa 26 ?_
  refine sa 27 ?_
  refine sa 28 ?_
  refine sa 29 ?_
  refine sa 30 ?_
  refine sp 31 (.bool false) ?_
  refine sp 4 (.bool false) ?_
  refine ops_end ?_
  refine ae [(4, .bool false)] ?_
  refine at_then_normal ?_
  refine at_ret (by kernel_rfl) ?_
  obtain rfl := someE H
  refine at_backR [.bool false] (Γ) (rs := [.tmp 4]) (by kernel_rfl) (.cons (.tmp (by kernel_rfl)) .nil) (fun w hw => (Sat.less (.drop .here (.drop .here .refl)) hw)) ?_
  exact ⟨rfl, rfl⟩
def dbeginS (k : Int) (line : Int) (id : Int) : Option (DealS) :=
 some (⟨k, line, id, 1, 0, (-1), ([] : List Int), (-1), (-1)⟩ : DealS)
noncomputable def C17 (p : List Nat) : Code := codeAt (bodyOf Try.f17) p
set_option maxRecDepth 100000 in
set_option maxHeartbeats 8000000 in
theorem DBeginF_tr {W0 : World} {Γ : List Asn} (k : Int) (line : Int) (id : Int)  (y : DealS) (H : dbeginS k line id = some y) : Tr Try.prog 17 #[.int .i64 k, .int .i64 line, .int .i64 id] W0 (Γ) (fun r Δ => ∃ (a0_0 : Option Addr) (c0_0 : Nat), r = .agg #[.int .i64 y.kind, .int .i64 y.line, .int .i64 y.id, .int .i64 y.step, .int .i64 y.state, .int .i64 y.head, .slice a0_0 (List.length y.data) c0_0, .int .i64 y.next, .int .i64 y.told] ∧ Δ = (ImmI a0_0 y.data) :: Γ) := by
 unfold dbeginS at H
 refine Tr.enter (fn := Try.f17) (c := C17 []) (args := [.int .i64 k, .int .i64 line, .int .i64 id]) 11 Try.func17 (by kernel_rfl) (by kernel_rfl) ?_
 refine ae [(0, .int .i64 k), (1, .int .i64 line), (2, .int .i64 id)] ?_
 refine aq (x := C17 [0]) (y := C17 [1]) ?_
 refine ar (id := 0) 1 ?_
 refine s_step 6 (by kernel_rfl) (by kernel_rfl) (st_new (T := 35) (cells := #[.int .i64 (0), .int .i64 (0), .int .i64 (0), .int .i64 (0), .int .i64 (0), .int .i64 (0), .slice none 0 0, .int .i64 (0), .int .i64 (0)]) (fun a => .pointer (some a)) (fun _ => by kernel_rfl)) ?_
 rintro _ _ ⟨b0_0, rfl, rfl⟩
 refine ops_end ?_
 refine ae [(0, .int .i64 k), (1, .int .i64 line), (2, .int .i64 id), (6, .pointer (some ⟨b0_0, 0, none⟩))] ?_
 refine at_then_normal ?_
 refine aq (x := C17 [1,0]) (y := C17 [1,1]) ?_
 refine ar (id := 1) 5 ?_
 refine sp 7 (.int .i64 k) ?_
 refine sp 8 (.int .i64 line) ?_
 refine sp 9 (.int .i64 id) ?_
 refine sp 10 (.agg #[.int .i64 k, .int .i64 line, .int .i64 id, .int .i64 (1), .int .i64 (0), .int .i64 (-1), .slice none 0 0, .int .i64 (-1), .int .i64 (-1)]) ?_
 refine s_do (by kernel_rfl) (by kernel_rfl) (st_store (off := 0) (vs := [.int .i64 k, .int .i64 line, .int .i64 id, .int .i64 (1), .int .i64 (0), .int .i64 (-1), .slice none 0 0, .int .i64 (-1), .int .i64 (-1)]) (c' := #[.int .i64 k, .int .i64 line, .int .i64 id, .int .i64 (1), .int .i64 (0), .int .i64 (-1), .slice none 0 0, .int .i64 (-1), .int .i64 (-1)]) (fun _ => by kernel_rfl) .here (by kernel_rfl) (by kernel_rfl) (by kernel_rfl)) ?_
 rintro _ _ ⟨rfl, rfl⟩
 refine ops_end ?_
 refine ae [(6, .pointer (some ⟨b0_0, 0, none⟩))] ?_
 refine at_then_normal ?_
 refine at_ret (by kernel_rfl) ?_
 obtain rfl := someE H
 refine at_backR [.agg #[.int .i64 k, .int .i64 line, .int .i64 id, .int .i64 (1), .int .i64 (0), .int .i64 (-1), .slice none 0 0, .int .i64 (-1), .int .i64 (-1)]] ((ImmI none ([] : List Int)) :: Γ) (rs := [.cell 6 35]) (by kernel_rfl) (.cons (.cell (by kernel_rfl) (retN (off := 0) (vs := [.int .i64 k, .int .i64 line, .int .i64 id, .int .i64 (1), .int .i64 (0), .int .i64 (-1), .slice none 0 0, .int .i64 (-1), .int .i64 (-1)]) 9 (fun _ => by kernel_rfl) (holds_own .here) rfl (by exact ⟨rfl, rfl, rfl, rfl, rfl, rfl, rfl, rfl, rfl, trivial⟩))) .nil) (fun w hw => (Sat.less (.take .here (.drop .here .refl)) (ImmR.nil_mk (k := 1) (a := none) hw))) ?_
 exact ⟨none, 0, rfl, rfl⟩
def daskS (d : DealS) (node : Int) (home : Int) : Option (PktS) :=
 (dkindS d.step).bind fun y1_2 => (bif decide (d.step = (1 : Int)) then some (⟨y1_2, node, home, d.id, d.line, 0, 0, false, ([] : List Int)⟩ : PktS) else (bif decide (d.step = (2 : Int)) then some (⟨y1_2, node, d.head, d.id, d.line, node, 0, false, ([] : List Int)⟩ : PktS) else (bif decide (d.step = (3 : Int)) then some (⟨y1_2, node, d.next, d.id, d.line, 0, 0, false, ([] : List Int)⟩ : PktS) else (bif decide (d.step = (4 : Int)) then some (⟨y1_2, node, d.head, d.id, d.line, d.next, 0, false, ([] : List Int)⟩ : PktS) else (bif decide (d.step = (5 : Int)) then some (⟨y1_2, node, d.next, d.id, d.line, d.head, 0, false, ([] : List Int)⟩ : PktS) else (bif decide (d.step = (6 : Int)) then (copyS d.data).bind fun y15_10 => some (⟨y1_2, node, home, d.id, d.line, d.head, d.state, decide ((0 : Int) < (((List.length d.data) : Nat) : Int)), y15_10⟩ : PktS) else some (⟨0, 0, 0, 0, 0, 0, 0, false, ([] : List Int)⟩ : PktS)))))))
noncomputable def C26 (p : List Nat) : Code := codeAt (bodyOf Try.f26) p
set_option maxRecDepth 100000 in
set_option maxHeartbeats 8000000 in
theorem DAskF_tr {W0 : World} {Γ : List Asn} (da : Option Addr) (dcap : Nat) (d : DealS) (node : Int) (home : Int) (hrda : Reads W0 Γ da (ints d.data)) (y : PktS) (H : daskS d node home = some y) : Tr Try.prog 26 #[.agg #[.int .i64 d.kind, .int .i64 d.line, .int .i64 d.id, .int .i64 d.step, .int .i64 d.state, .int .i64 d.head, .slice da (List.length d.data) dcap, .int .i64 d.next, .int .i64 d.told], .int .i64 node, .int .i64 home] W0 (Γ) (fun r Δ => ∃ (a0_0 : Option Addr) (c0_0 : Nat), r = .agg #[.int .i64 y.kind, .int .i64 y.src, .int .i64 y.dst, .int .i64 y.id, .int .i64 y.line, .int .i64 y.ptr, .int .i64 y.state, .bool y.flag, .slice a0_0 (List.length y.data) c0_0] ∧ Δ = (IntsA a0_0 c0_0 y.data) :: Γ) := by
 unfold daskS at H
 refine Tr.enter (fn := Try.f26) (c := C26 []) (args := [.agg #[.int .i64 d.kind, .int .i64 d.line, .int .i64 d.id, .int .i64 d.step, .int .i64 d.state, .int .i64 d.head, .slice da (List.length d.data) dcap, .int .i64 d.next, .int .i64 d.told], .int .i64 node, .int .i64 home]) 70 Try.func26 (by kernel_rfl) (by kernel_rfl) ?_
 refine ae [(0, .agg #[.int .i64 d.kind, .int .i64 d.line, .int .i64 d.id, .int .i64 d.step, .int .i64 d.state, .int .i64 d.head, .slice da (List.length d.data) dcap, .int .i64 d.next, .int .i64 d.told]), (1, .int .i64 node), (2, .int .i64 home)] ?_
 refine aq (x := C26 [0]) (y := C26 [1]) ?_
 refine ar (id := 0) 2 ?_
 refine s_step 3 (by kernel_rfl) (by kernel_rfl) (st_new (T := 35) (cells := #[.int .i64 d.kind, .int .i64 d.line, .int .i64 d.id, .int .i64 d.step, .int .i64 d.state, .int .i64 d.head, .slice da (List.length d.data) dcap, .int .i64 d.next, .int .i64 d.told]) (fun a => .pointer (some a)) (fun _ => by kernel_rfl)) ?_
 rintro _ _ ⟨b0_0, rfl, rfl⟩
 refine s_step 6 (by kernel_rfl) (by kernel_rfl) (st_new (T := 40) (cells := #[.int .i64 (0), .int .i64 (0), .int .i64 (0), .int .i64 (0), .int .i64 (0), .int .i64 (0), .int .i64 (0), .bool false, .slice none 0 0]) (fun a => .pointer (some a)) (fun _ => by kernel_rfl)) ?_
 rintro _ _ ⟨b0_1, rfl, rfl⟩
 refine ops_end ?_
 refine ae [(1, .int .i64 node), (2, .int .i64 home), (3, .pointer (some ⟨b0_0, 0, none⟩)), (6, .pointer (some ⟨b0_1, 0, none⟩))] ?_
 refine at_then_normal ?_
 refine aq (x := C26 [1,0]) (y := C26 [1,1]) ?_
 refine at_region_draw (id := 1) (by kernel_rfl) (by kernel_rfl) ?_
 refine dp 0 8 (.pointer (some ⟨b0_0, 3, none⟩)) ?_
 refine dl 1 9 (.int .i64 d.step) (load1 (off := 3) (fun _ => by kernel_rfl) (holds_own (.there .here)) (by kernel_rfl)) ?_
 obtain ⟨y1_2, hy1_2, H⟩ := bindE H
 refine d_quiet 2 10 (.int .i64 y1_2) 49 #[.int .i64 d.step] (by kernel_rfl) (by kernel_rfl) (by kernel_rfl) (fun _ => by kernel_rfl) (fun _ => (DKindF_tr d.step y1_2 hy1_2)) ?_
 refine dp 3 11 (.int .i64 node) ?_
 refine dp 4 12 (.int .i64 home) ?_
 refine dp 5 13 (.pointer (some ⟨b0_0, 2, none⟩)) ?_
 refine dl 6 14 (.int .i64 d.id) (load1 (off := 2) (fun _ => by kernel_rfl) (holds_own (.there .here)) (by kernel_rfl)) ?_
 refine dp 7 15 (.pointer (some ⟨b0_0, 1, none⟩)) ?_
 refine dl 8 16 (.int .i64 d.line) (load1 (off := 1) (fun _ => by kernel_rfl) (holds_own (.there .here)) (by kernel_rfl)) ?_
 refine dp 9 17 (.agg #[.int .i64 y1_2, .int .i64 node, .int .i64 home, .int .i64 d.id, .int .i64 d.line, .int .i64 (0), .int .i64 (0), .bool false, .slice none 0 0]) ?_
 refine d_step 10 7 [] [9, 7, 5, 4, 3, 2, 0] [8, 6, 1] (by kernel_rfl) (by kernel_rfl) (by kernel_rfl) (st_new (T := 40) (cells := #[.int .i64 (0), .int .i64 (0), .int .i64 (0), .int .i64 (0), .int .i64 (0), .int .i64 (0), .int .i64 (0), .bool false, .slice none 0 0]) (fun a => .pointer (some a)) (fun _ => by kernel_rfl)) ?_
 rintro _ _ ⟨b1_10, rfl, rfl⟩
 refine ⟨(stable_cons 8 16 (.int .i64 d.line) (by kernel_rfl) (by kernel_rfl) (by kernel_rfl) (load1 (off := 1) (fun _ => by kernel_rfl) (holds_own (.there (.there .here))) (by kernel_rfl)) (stable_cons 6 14 (.int .i64 d.id) (by kernel_rfl) (by kernel_rfl) (by kernel_rfl) (load1 (off := 2) (fun _ => by kernel_rfl) (holds_own (.there (.there .here))) (by kernel_rfl)) (stable_cons 1 9 (.int .i64 d.step) (by kernel_rfl) (by kernel_rfl) (by kernel_rfl) (load1 (off := 3) (fun _ => by kernel_rfl) (holds_own (.there (.there .here))) (by kernel_rfl)) stable_nil))), ?_⟩
 refine d_do 11 [10, 9, 2, 0, 1, 3, 4, 5, 6, 7, 8] [] [] (by kernel_rfl) (by kernel_rfl) (by kernel_rfl) (st_store (off := 0) (vs := [.int .i64 y1_2, .int .i64 node, .int .i64 home, .int .i64 d.id, .int .i64 d.line, .int .i64 (0), .int .i64 (0), .bool false, .slice none 0 0]) (c' := #[.int .i64 y1_2, .int .i64 node, .int .i64 home, .int .i64 d.id, .int .i64 d.line, .int .i64 (0), .int .i64 (0), .bool false, .slice none 0 0]) (fun _ => by kernel_rfl) .here (by kernel_rfl) (by kernel_rfl) (by kernel_rfl)) ?_
 rintro _ _ ⟨rfl, rfl⟩
 refine ⟨stable_nil, ?_⟩
 refine draw_end (by kernel_rfl) ?_
 refine ae [(1, .int .i64 node), (3, .pointer (some ⟨b0_0, 0, none⟩)), (6, .pointer (some ⟨b0_1, 0, none⟩)), (7, .pointer (some ⟨b1_10, 0, none⟩))] ?_
 refine at_then_normal ?_
 refine aq (x := C26 [1,1,0]) (y := C26 [1,1,1]) ?_
 refine aq (x := C26 [1,1,0,0]) (y := C26 [1,1,0,1]) ?_
 refine ar (id := 2) 2 ?_
 refine sp 18 (.pointer (some ⟨b0_0, 3, none⟩)) ?_
 refine sl 19 (.int .i64 d.step) (load1 (off := 3) (fun _ => by kernel_rfl) (holds_own (.there (.there .here))) (by kernel_rfl)) ?_
 refine ops_end ?_
 refine ae [(1, .int .i64 node), (3, .pointer (some ⟨b0_0, 0, none⟩)), (6, .pointer (some ⟨b0_1, 0, none⟩)), (7, .pointer (some ⟨b1_10, 0, none⟩)), (19, .int .i64 d.step)] ?_
 refine at_then_normal ?_
 refine at_block (i := 0) (x := C26 [1,1,0,1,0]) (by kernel_rfl) ?_
 refine aq (x := C26 [1,1,0,1,0,0]) (y := C26 [1,1,0,1,0,1]) ?_
 refine ar (id := 4) 2 ?_
 refine sp 22 (.bool (decide (d.step = (1 : Int)))) ?_
 refine sp 21 (.bool (decide (d.step = (1 : Int)))) ?_
 refine ops_end ?_
 refine ae [(1, .int .i64 node), (3, .pointer (some ⟨b0_0, 0, none⟩)), (6, .pointer (some ⟨b0_1, 0, none⟩)), (7, .pointer (some ⟨b1_10, 0, none⟩)), (19, .int .i64 d.step), (21, .bool (decide (d.step = (1 : Int))))] ?_
 refine at_then_normal ?_
 rcases Bool.eq_false_or_eq_true (decide (d.step = (1 : Int))) with h1 | h1
 ·replace H := bifT H h1
  refine at_true (t := decide (d.step = (1 : Int))) (x := C26 [1,1,0,1,0,1,0]) (y := C26 [1,1,0,1,0,1,1]) (o := .tmp 21) (by kernel_rfl) (by kernel_rfl) (by kernel_rfl) h1 ?_
  refine aq (x := C26 [1,1,0,1,0,1,0,0]) (y := C26 [1,1,0,1,0,1,0,1]) ?_
  refine ar (id := 5) 2 ?_
  refine sl 23 (.agg #[.int .i64 y1_2, .int .i64 node, .int .i64 home, .int .i64 d.id, .int .i64 d.line, .int .i64 (0), .int .i64 (0), .bool false, .slice none 0 0]) (loadN (off := 0) (vs := [.int .i64 y1_2, .int .i64 node, .int .i64 home, .int .i64 d.id, .int .i64 d.line, .int .i64 (0), .int .i64 (0), .bool false, .slice none 0 0]) 9 (fun _ => by kernel_rfl) (holds_own .here) rfl (by exact ⟨rfl, rfl, rfl, rfl, rfl, rfl, rfl, rfl, rfl, trivial⟩)) ?_
  refine s_do (by kernel_rfl) (by kernel_rfl) (st_store (off := 0) (vs := [.int .i64 y1_2, .int .i64 node, .int .i64 home, .int .i64 d.id, .int .i64 d.line, .int .i64 (0), .int .i64 (0), .bool false, .slice none 0 0]) (c' := #[.int .i64 y1_2, .int .i64 node, .int .i64 home, .int .i64 d.id, .int .i64 d.line, .int .i64 (0), .int .i64 (0), .bool false, .slice none 0 0]) (fun _ => by kernel_rfl) (.there .here) (by kernel_rfl) (by kernel_rfl) (by kernel_rfl)) ?_
  rintro _ _ ⟨rfl, rfl⟩
  refine ops_end ?_
  refine ae [(6, .pointer (some ⟨b0_1, 0, none⟩))] ?_
  refine at_then_normal ?_
  refine at_ret (by kernel_rfl) ?_
  refine at_in_ret ?_
  refine at_then_ret ?_
  obtain rfl := someE H
  refine at_backR [.agg #[.int .i64 y1_2, .int .i64 node, .int .i64 home, .int .i64 d.id, .int .i64 d.line, .int .i64 (0), .int .i64 (0), .bool false, .slice none 0 0]] ((IntsA none 0 ([] : List Int)) :: Γ) (rs := [.cell 6 40]) (by kernel_rfl) (.cons (.cell (by kernel_rfl) (retN (off := 0) (vs := [.int .i64 y1_2, .int .i64 node, .int .i64 home, .int .i64 d.id, .int .i64 d.line, .int .i64 (0), .int .i64 (0), .bool false, .slice none 0 0]) 9 (fun _ => by kernel_rfl) (holds_own .here) rfl (by exact ⟨rfl, rfl, rfl, rfl, rfl, rfl, rfl, rfl, rfl, trivial⟩))) .nil) (fun w hw => (Sat.less (.take .here (.drop .here (.drop .here (.drop .here .refl)))) (RowsA.none_mk (k := 1) (a := none) hw))) ?_
  exact ⟨none, 0, rfl, rfl⟩
 ·replace H := bifF H h1
  refine at_false (t := decide (d.step = (1 : Int))) (x := C26 [1,1,0,1,0,1,0]) (y := C26 [1,1,0,1,0,1,1]) (o := .tmp 21) (by kernel_rfl) (by kernel_rfl) (by kernel_rfl) h1 ?_
  refine aq (x := C26 [1,1,0,1,0,1,1,0]) (y := C26 [1,1,0,1,0,1,1,1]) ?_
  refine ar (id := 6) 2 ?_
  refine sp 25 (.bool (decide (d.step = (2 : Int)))) ?_
  refine sp 24 (.bool (decide (d.step = (2 : Int)))) ?_
  refine ops_end ?_
  refine ae [(1, .int .i64 node), (3, .pointer (some ⟨b0_0, 0, none⟩)), (6, .pointer (some ⟨b0_1, 0, none⟩)), (7, .pointer (some ⟨b1_10, 0, none⟩)), (19, .int .i64 d.step), (24, .bool (decide (d.step = (2 : Int))))] ?_
  refine at_then_normal ?_
  rcases Bool.eq_false_or_eq_true (decide (d.step = (2 : Int))) with h2 | h2
  ·replace H := bifT H h2
   refine at_true (t := decide (d.step = (2 : Int))) (x := C26 [1,1,0,1,0,1,1,1,0]) (y := C26 [1,1,0,1,0,1,1,1,1]) (o := .tmp 24) (by kernel_rfl) (by kernel_rfl) (by kernel_rfl) h2 ?_
   refine ar (id := 7) 7 ?_
   refine sp 26 (.pointer (some ⟨b0_0, 5, none⟩)) ?_
   refine sl 27 (.int .i64 d.head) (load1 (off := 5) (fun _ => by kernel_rfl) (holds_own (.there (.there .here))) (by kernel_rfl)) ?_
   refine sp 28 (.int .i64 node) ?_
   refine sp 29 (.pointer (some ⟨b1_10, 2, none⟩)) ?_
   refine s_do (by kernel_rfl) (by kernel_rfl) (st_store (off := 2) (vs := [.int .i64 d.head]) (c' := #[.int .i64 y1_2, .int .i64 node, .int .i64 d.head, .int .i64 d.id, .int .i64 d.line, .int .i64 (0), .int .i64 (0), .bool false, .slice none 0 0]) (fun _ => by kernel_rfl) .here (by kernel_rfl) (by kernel_rfl) (by kernel_rfl)) ?_
   rintro _ _ ⟨rfl, rfl⟩
   refine sp 30 (.pointer (some ⟨b1_10, 5, none⟩)) ?_
   refine s_do (by kernel_rfl) (by kernel_rfl) (st_store (off := 5) (vs := [.int .i64 node]) (c' := #[.int .i64 y1_2, .int .i64 node, .int .i64 d.head, .int .i64 d.id, .int .i64 d.line, .int .i64 node, .int .i64 (0), .bool false, .slice none 0 0]) (fun _ => by kernel_rfl) .here (by kernel_rfl) (by kernel_rfl) (by kernel_rfl)) ?_
   rintro _ _ ⟨rfl, rfl⟩
   refine ops_end ?_
   refine ae [(6, .pointer (some ⟨b0_1, 0, none⟩)), (7, .pointer (some ⟨b1_10, 0, none⟩))] ?_
   refine at_in_normal ?_
   refine at_then_normal ?_
   refine aq (x := C26 [1,1,1,0]) (y := C26 [1,1,1,1]) ?_
   refine ar (id := 16) 2 ?_
   refine sl 69 (.agg #[.int .i64 y1_2, .int .i64 node, .int .i64 d.head, .int .i64 d.id, .int .i64 d.line, .int .i64 node, .int .i64 (0), .bool false, .slice none 0 0]) (loadN (off := 0) (vs := [.int .i64 y1_2, .int .i64 node, .int .i64 d.head, .int .i64 d.id, .int .i64 d.line, .int .i64 node, .int .i64 (0), .bool false, .slice none 0 0]) 9 (fun _ => by kernel_rfl) (holds_own .here) rfl (by exact ⟨rfl, rfl, rfl, rfl, rfl, rfl, rfl, rfl, rfl, trivial⟩)) ?_
   refine s_do (by kernel_rfl) (by kernel_rfl) (st_store (off := 0) (vs := [.int .i64 y1_2, .int .i64 node, .int .i64 d.head, .int .i64 d.id, .int .i64 d.line, .int .i64 node, .int .i64 (0), .bool false, .slice none 0 0]) (c' := #[.int .i64 y1_2, .int .i64 node, .int .i64 d.head, .int .i64 d.id, .int .i64 d.line, .int .i64 node, .int .i64 (0), .bool false, .slice none 0 0]) (fun _ => by kernel_rfl) (.there .here) (by kernel_rfl) (by kernel_rfl) (by kernel_rfl)) ?_
   rintro _ _ ⟨rfl, rfl⟩
   refine ops_end ?_
   refine ae [(6, .pointer (some ⟨b0_1, 0, none⟩))] ?_
   refine at_then_normal ?_
   refine at_ret (by kernel_rfl) ?_
   obtain rfl := someE H
   refine at_backR [.agg #[.int .i64 y1_2, .int .i64 node, .int .i64 d.head, .int .i64 d.id, .int .i64 d.line, .int .i64 node, .int .i64 (0), .bool false, .slice none 0 0]] ((IntsA none 0 ([] : List Int)) :: Γ) (rs := [.cell 6 40]) (by kernel_rfl) (.cons (.cell (by kernel_rfl) (retN (off := 0) (vs := [.int .i64 y1_2, .int .i64 node, .int .i64 d.head, .int .i64 d.id, .int .i64 d.line, .int .i64 node, .int .i64 (0), .bool false, .slice none 0 0]) 9 (fun _ => by kernel_rfl) (holds_own .here) rfl (by exact ⟨rfl, rfl, rfl, rfl, rfl, rfl, rfl, rfl, rfl, trivial⟩))) .nil) (fun w hw => (Sat.less (.take .here (.drop .here (.drop .here (.drop .here .refl)))) (RowsA.none_mk (k := 1) (a := none) hw))) ?_
   exact ⟨none, 0, rfl, rfl⟩
  ·replace H := bifF H h2
   refine at_false (t := decide (d.step = (2 : Int))) (x := C26 [1,1,0,1,0,1,1,1,0]) (y := C26 [1,1,0,1,0,1,1,1,1]) (o := .tmp 24) (by kernel_rfl) (by kernel_rfl) (by kernel_rfl) h2 ?_
   refine aq (x := C26 [1,1,0,1,0,1,1,1,1,0]) (y := C26 [1,1,0,1,0,1,1,1,1,1]) ?_
   refine ar (id := 8) 2 ?_
   refine sp 32 (.bool (decide (d.step = (3 : Int)))) ?_
   refine sp 31 (.bool (decide (d.step = (3 : Int)))) ?_
   refine ops_end ?_
   refine ae [(3, .pointer (some ⟨b0_0, 0, none⟩)), (6, .pointer (some ⟨b0_1, 0, none⟩)), (7, .pointer (some ⟨b1_10, 0, none⟩)), (19, .int .i64 d.step), (31, .bool (decide (d.step = (3 : Int))))] ?_
   refine at_then_normal ?_
   rcases Bool.eq_false_or_eq_true (decide (d.step = (3 : Int))) with h3 | h3
   ·replace H := bifT H h3
    refine at_true (t := decide (d.step = (3 : Int))) (x := C26 [1,1,0,1,0,1,1,1,1,1,0]) (y := C26 [1,1,0,1,0,1,1,1,1,1,1]) (o := .tmp 31) (by kernel_rfl) (by kernel_rfl) (by kernel_rfl) h3 ?_
    refine ar (id := 9) 4 ?_
    refine sp 33 (.pointer (some ⟨b0_0, 7, none⟩)) ?_
    refine sl 34 (.int .i64 d.next) (load1 (off := 7) (fun _ => by kernel_rfl) (holds_own (.there (.there .here))) (by kernel_rfl)) ?_
    refine sp 35 (.pointer (some ⟨b1_10, 2, none⟩)) ?_
    refine s_do (by kernel_rfl) (by kernel_rfl) (st_store (off := 2) (vs := [.int .i64 d.next]) (c' := #[.int .i64 y1_2, .int .i64 node, .int .i64 d.next, .int .i64 d.id, .int .i64 d.line, .int .i64 (0), .int .i64 (0), .bool false, .slice none 0 0]) (fun _ => by kernel_rfl) .here (by kernel_rfl) (by kernel_rfl) (by kernel_rfl)) ?_
    rintro _ _ ⟨rfl, rfl⟩
    refine ops_end ?_
    refine ae [(6, .pointer (some ⟨b0_1, 0, none⟩)), (7, .pointer (some ⟨b1_10, 0, none⟩))] ?_
    refine at_in_normal ?_
    refine at_then_normal ?_
    refine aq (x := C26 [1,1,1,0]) (y := C26 [1,1,1,1]) ?_
    refine ar (id := 16) 2 ?_
    refine sl 69 (.agg #[.int .i64 y1_2, .int .i64 node, .int .i64 d.next, .int .i64 d.id, .int .i64 d.line, .int .i64 (0), .int .i64 (0), .bool false, .slice none 0 0]) (loadN (off := 0) (vs := [.int .i64 y1_2, .int .i64 node, .int .i64 d.next, .int .i64 d.id, .int .i64 d.line, .int .i64 (0), .int .i64 (0), .bool false, .slice none 0 0]) 9 (fun _ => by kernel_rfl) (holds_own .here) rfl (by exact ⟨rfl, rfl, rfl, rfl, rfl, rfl, rfl, rfl, rfl, trivial⟩)) ?_
    refine s_do (by kernel_rfl) (by kernel_rfl) (st_store (off := 0) (vs := [.int .i64 y1_2, .int .i64 node, .int .i64 d.next, .int .i64 d.id, .int .i64 d.line, .int .i64 (0), .int .i64 (0), .bool false, .slice none 0 0]) (c' := #[.int .i64 y1_2, .int .i64 node, .int .i64 d.next, .int .i64 d.id, .int .i64 d.line, .int .i64 (0), .int .i64 (0), .bool false, .slice none 0 0]) (fun _ => by kernel_rfl) (.there .here) (by kernel_rfl) (by kernel_rfl) (by kernel_rfl)) ?_
    rintro _ _ ⟨rfl, rfl⟩
    refine ops_end ?_
    refine ae [(6, .pointer (some ⟨b0_1, 0, none⟩))] ?_
    refine at_then_normal ?_
    refine at_ret (by kernel_rfl) ?_
    obtain rfl := someE H
    refine at_backR [.agg #[.int .i64 y1_2, .int .i64 node, .int .i64 d.next, .int .i64 d.id, .int .i64 d.line, .int .i64 (0), .int .i64 (0), .bool false, .slice none 0 0]] ((IntsA none 0 ([] : List Int)) :: Γ) (rs := [.cell 6 40]) (by kernel_rfl) (.cons (.cell (by kernel_rfl) (retN (off := 0) (vs := [.int .i64 y1_2, .int .i64 node, .int .i64 d.next, .int .i64 d.id, .int .i64 d.line, .int .i64 (0), .int .i64 (0), .bool false, .slice none 0 0]) 9 (fun _ => by kernel_rfl) (holds_own .here) rfl (by exact ⟨rfl, rfl, rfl, rfl, rfl, rfl, rfl, rfl, rfl, trivial⟩))) .nil) (fun w hw => (Sat.less (.take .here (.drop .here (.drop .here (.drop .here .refl)))) (RowsA.none_mk (k := 1) (a := none) hw))) ?_
    exact ⟨none, 0, rfl, rfl⟩
   ·replace H := bifF H h3
    refine at_false (t := decide (d.step = (3 : Int))) (x := C26 [1,1,0,1,0,1,1,1,1,1,0]) (y := C26 [1,1,0,1,0,1,1,1,1,1,1]) (o := .tmp 31) (by kernel_rfl) (by kernel_rfl) (by kernel_rfl) h3 ?_
    refine aq (x := C26 [1,1,0,1,0,1,1,1,1,1,1,0]) (y := C26 [1,1,0,1,0,1,1,1,1,1,1,1]) ?_
    refine ar (id := 10) 2 ?_
    refine sp 37 (.bool (decide (d.step = (4 : Int)))) ?_
    refine sp 36 (.bool (decide (d.step = (4 : Int)))) ?_
    refine ops_end ?_
    refine ae [(3, .pointer (some ⟨b0_0, 0, none⟩)), (6, .pointer (some ⟨b0_1, 0, none⟩)), (7, .pointer (some ⟨b1_10, 0, none⟩)), (19, .int .i64 d.step), (36, .bool (decide (d.step = (4 : Int))))] ?_
    refine at_then_normal ?_
    rcases Bool.eq_false_or_eq_true (decide (d.step = (4 : Int))) with h4 | h4
    ·replace H := bifT H h4
     refine at_true (t := decide (d.step = (4 : Int))) (x := C26 [1,1,0,1,0,1,1,1,1,1,1,1,0]) (y := C26 [1,1,0,1,0,1,1,1,1,1,1,1,1]) (o := .tmp 36) (by kernel_rfl) (by kernel_rfl) (by kernel_rfl) h4 ?_
     refine at_region_draw (id := 11) (by kernel_rfl) (by kernel_rfl) ?_
     refine dp 0 38 (.pointer (some ⟨b0_0, 5, none⟩)) ?_
     refine dl 1 39 (.int .i64 d.head) (load1 (off := 5) (fun _ => by kernel_rfl) (holds_own (.there (.there .here))) (by kernel_rfl)) ?_
     refine dp 2 40 (.pointer (some ⟨b0_0, 7, none⟩)) ?_
     refine dl 3 41 (.int .i64 d.next) (load1 (off := 7) (fun _ => by kernel_rfl) (holds_own (.there (.there .here))) (by kernel_rfl)) ?_
     refine dp 4 42 (.pointer (some ⟨b1_10, 2, none⟩)) ?_
     refine d_do 5 [4, 1, 0] [2] [3] (by kernel_rfl) (by kernel_rfl) (by kernel_rfl) (st_store (off := 2) (vs := [.int .i64 d.head]) (c' := #[.int .i64 y1_2, .int .i64 node, .int .i64 d.head, .int .i64 d.id, .int .i64 d.line, .int .i64 (0), .int .i64 (0), .bool false, .slice none 0 0]) (fun _ => by kernel_rfl) .here (by kernel_rfl) (by kernel_rfl) (by kernel_rfl)) ?_
     rintro _ _ ⟨rfl, rfl⟩
     refine ⟨(stable_cons 3 41 (.int .i64 d.next) (by kernel_rfl) (by kernel_rfl) (by kernel_rfl) (load1 (off := 7) (fun _ => by kernel_rfl) (holds_own (.there (.there .here))) (by kernel_rfl)) stable_nil), ?_⟩
     refine dp 6 43 (.pointer (some ⟨b1_10, 5, none⟩)) ?_
     refine d_do 7 [6, 3, 5, 0, 1, 2, 4] [] [] (by kernel_rfl) (by kernel_rfl) (by kernel_rfl) (st_store (off := 5) (vs := [.int .i64 d.next]) (c' := #[.int .i64 y1_2, .int .i64 node, .int .i64 d.head, .int .i64 d.id, .int .i64 d.line, .int .i64 d.next, .int .i64 (0), .bool false, .slice none 0 0]) (fun _ => by kernel_rfl) .here (by kernel_rfl) (by kernel_rfl) (by kernel_rfl)) ?_
     rintro _ _ ⟨rfl, rfl⟩
     refine ⟨stable_nil, ?_⟩
     refine draw_end (by kernel_rfl) ?_
     refine ae [(6, .pointer (some ⟨b0_1, 0, none⟩)), (7, .pointer (some ⟨b1_10, 0, none⟩))] ?_
     refine at_in_normal ?_
     refine at_then_normal ?_
     refine aq (x := C26 [1,1,1,0]) (y := C26 [1,1,1,1]) ?_
     refine ar (id := 16) 2 ?_
     refine sl 69 (.agg #[.int .i64 y1_2, .int .i64 node, .int .i64 d.head, .int .i64 d.id, .int .i64 d.line, .int .i64 d.next, .int .i64 (0), .bool false, .slice none 0 0]) (loadN (off := 0) (vs := [.int .i64 y1_2, .int .i64 node, .int .i64 d.head, .int .i64 d.id, .int .i64 d.line, .int .i64 d.next, .int .i64 (0), .bool false, .slice none 0 0]) 9 (fun _ => by kernel_rfl) (holds_own .here) rfl (by exact ⟨rfl, rfl, rfl, rfl, rfl, rfl, rfl, rfl, rfl, trivial⟩)) ?_
     refine s_do (by kernel_rfl) (by kernel_rfl) (st_store (off := 0) (vs := [.int .i64 y1_2, .int .i64 node, .int .i64 d.head, .int .i64 d.id, .int .i64 d.line, .int .i64 d.next, .int .i64 (0), .bool false, .slice none 0 0]) (c' := #[.int .i64 y1_2, .int .i64 node, .int .i64 d.head, .int .i64 d.id, .int .i64 d.line, .int .i64 d.next, .int .i64 (0), .bool false, .slice none 0 0]) (fun _ => by kernel_rfl) (.there .here) (by kernel_rfl) (by kernel_rfl) (by kernel_rfl)) ?_
     rintro _ _ ⟨rfl, rfl⟩
     refine ops_end ?_
     refine ae [(6, .pointer (some ⟨b0_1, 0, none⟩))] ?_
     refine at_then_normal ?_
     refine at_ret (by kernel_rfl) ?_
     obtain rfl := someE H
     refine at_backR [.agg #[.int .i64 y1_2, .int .i64 node, .int .i64 d.head, .int .i64 d.id, .int .i64 d.line, .int .i64 d.next, .int .i64 (0), .bool false, .slice none 0 0]] ((IntsA none 0 ([] : List Int)) :: Γ) (rs := [.cell 6 40]) (by kernel_rfl) (.cons (.cell (by kernel_rfl) (retN (off := 0) (vs := [.int .i64 y1_2, .int .i64 node, .int .i64 d.head, .int .i64 d.id, .int .i64 d.line, .int .i64 d.next, .int .i64 (0), .bool false, .slice none 0 0]) 9 (fun _ => by kernel_rfl) (holds_own .here) rfl (by exact ⟨rfl, rfl, rfl, rfl, rfl, rfl, rfl, rfl, rfl, trivial⟩))) .nil) (fun w hw => (Sat.less (.take .here (.drop .here (.drop .here (.drop .here .refl)))) (RowsA.none_mk (k := 1) (a := none) hw))) ?_
     exact ⟨none, 0, rfl, rfl⟩
    ·replace H := bifF H h4
     refine at_false (t := decide (d.step = (4 : Int))) (x := C26 [1,1,0,1,0,1,1,1,1,1,1,1,0]) (y := C26 [1,1,0,1,0,1,1,1,1,1,1,1,1]) (o := .tmp 36) (by kernel_rfl) (by kernel_rfl) (by kernel_rfl) h4 ?_
     refine aq (x := C26 [1,1,0,1,0,1,1,1,1,1,1,1,1,0]) (y := C26 [1,1,0,1,0,1,1,1,1,1,1,1,1,1]) ?_
     refine ar (id := 12) 2 ?_
     refine sp 45 (.bool (decide (d.step = (5 : Int)))) ?_
     refine sp 44 (.bool (decide (d.step = (5 : Int)))) ?_
     refine ops_end ?_
     refine ae [(3, .pointer (some ⟨b0_0, 0, none⟩)), (6, .pointer (some ⟨b0_1, 0, none⟩)), (7, .pointer (some ⟨b1_10, 0, none⟩)), (19, .int .i64 d.step), (44, .bool (decide (d.step = (5 : Int))))] ?_
     refine at_then_normal ?_
     rcases Bool.eq_false_or_eq_true (decide (d.step = (5 : Int))) with h5 | h5
     ·replace H := bifT H h5
      refine at_true (t := decide (d.step = (5 : Int))) (x := C26 [1,1,0,1,0,1,1,1,1,1,1,1,1,1,0]) (y := C26 [1,1,0,1,0,1,1,1,1,1,1,1,1,1,1]) (o := .tmp 44) (by kernel_rfl) (by kernel_rfl) (by kernel_rfl) h5 ?_
      refine at_region_draw (id := 13) (by kernel_rfl) (by kernel_rfl) ?_
      refine dp 0 46 (.pointer (some ⟨b0_0, 7, none⟩)) ?_
      refine dl 1 47 (.int .i64 d.next) (load1 (off := 7) (fun _ => by kernel_rfl) (holds_own (.there (.there .here))) (by kernel_rfl)) ?_
      refine dp 2 48 (.pointer (some ⟨b0_0, 5, none⟩)) ?_
      refine dl 3 49 (.int .i64 d.head) (load1 (off := 5) (fun _ => by kernel_rfl) (holds_own (.there (.there .here))) (by kernel_rfl)) ?_
      refine dp 4 50 (.pointer (some ⟨b1_10, 2, none⟩)) ?_
      refine d_do 5 [4, 1, 0] [2] [3] (by kernel_rfl) (by kernel_rfl) (by kernel_rfl) (st_store (off := 2) (vs := [.int .i64 d.next]) (c' := #[.int .i64 y1_2, .int .i64 node, .int .i64 d.next, .int .i64 d.id, .int .i64 d.line, .int .i64 (0), .int .i64 (0), .bool false, .slice none 0 0]) (fun _ => by kernel_rfl) .here (by kernel_rfl) (by kernel_rfl) (by kernel_rfl)) ?_
      rintro _ _ ⟨rfl, rfl⟩
      refine ⟨(stable_cons 3 49 (.int .i64 d.head) (by kernel_rfl) (by kernel_rfl) (by kernel_rfl) (load1 (off := 5) (fun _ => by kernel_rfl) (holds_own (.there (.there .here))) (by kernel_rfl)) stable_nil), ?_⟩
      refine dp 6 51 (.pointer (some ⟨b1_10, 5, none⟩)) ?_
      refine d_do 7 [6, 3, 5, 0, 1, 2, 4] [] [] (by kernel_rfl) (by kernel_rfl) (by kernel_rfl) (st_store (off := 5) (vs := [.int .i64 d.head]) (c' := #[.int .i64 y1_2, .int .i64 node, .int .i64 d.next, .int .i64 d.id, .int .i64 d.line, .int .i64 d.head, .int .i64 (0), .bool false, .slice none 0 0]) (fun _ => by kernel_rfl) .here (by kernel_rfl) (by kernel_rfl) (by kernel_rfl)) ?_
      rintro _ _ ⟨rfl, rfl⟩
      refine ⟨stable_nil, ?_⟩
      refine draw_end (by kernel_rfl) ?_
      refine ae [(6, .pointer (some ⟨b0_1, 0, none⟩)), (7, .pointer (some ⟨b1_10, 0, none⟩))] ?_
      refine at_in_normal ?_
      refine at_then_normal ?_
      refine aq (x := C26 [1,1,1,0]) (y := C26 [1,1,1,1]) ?_
      refine ar (id := 16) 2 ?_
      refine sl 69 (.agg #[.int .i64 y1_2, .int .i64 node, .int .i64 d.next, .int .i64 d.id, .int .i64 d.line, .int .i64 d.head, .int .i64 (0), .bool false, .slice none 0 0]) (loadN (off := 0) (vs := [.int .i64 y1_2, .int .i64 node, .int .i64 d.next, .int .i64 d.id, .int .i64 d.line, .int .i64 d.head, .int .i64 (0), .bool false, .slice none 0 0]) 9 (fun _ => by kernel_rfl) (holds_own .here) rfl (by exact ⟨rfl, rfl, rfl, rfl, rfl, rfl, rfl, rfl, rfl, trivial⟩)) ?_
      refine s_do (by kernel_rfl) (by kernel_rfl) (st_store (off := 0) (vs := [.int .i64 y1_2, .int .i64 node, .int .i64 d.next, .int .i64 d.id, .int .i64 d.line, .int .i64 d.head, .int .i64 (0), .bool false, .slice none 0 0]) (c' := #[.int .i64 y1_2, .int .i64 node, .int .i64 d.next, .int .i64 d.id, .int .i64 d.line, .int .i64 d.head, .int .i64 (0), .bool false, .slice none 0 0]) (fun _ => by kernel_rfl) (.there .here) (by kernel_rfl) (by kernel_rfl) (by kernel_rfl)) ?_
      rintro _ _ ⟨rfl, rfl⟩
      refine ops_end ?_
      refine ae [(6, .pointer (some ⟨b0_1, 0, none⟩))] ?_
      refine at_then_normal ?_
      refine at_ret (by kernel_rfl) ?_
      obtain rfl := someE H
      refine at_backR [.agg #[.int .i64 y1_2, .int .i64 node, .int .i64 d.next, .int .i64 d.id, .int .i64 d.line, .int .i64 d.head, .int .i64 (0), .bool false, .slice none 0 0]] ((IntsA none 0 ([] : List Int)) :: Γ) (rs := [.cell 6 40]) (by kernel_rfl) (.cons (.cell (by kernel_rfl) (retN (off := 0) (vs := [.int .i64 y1_2, .int .i64 node, .int .i64 d.next, .int .i64 d.id, .int .i64 d.line, .int .i64 d.head, .int .i64 (0), .bool false, .slice none 0 0]) 9 (fun _ => by kernel_rfl) (holds_own .here) rfl (by exact ⟨rfl, rfl, rfl, rfl, rfl, rfl, rfl, rfl, rfl, trivial⟩))) .nil) (fun w hw => (Sat.less (.take .here (.drop .here (.drop .here (.drop .here .refl)))) (RowsA.none_mk (k := 1) (a := none) hw))) ?_
      exact ⟨none, 0, rfl, rfl⟩
     ·replace H := bifF H h5
      refine at_false (t := decide (d.step = (5 : Int))) (x := C26 [1,1,0,1,0,1,1,1,1,1,1,1,1,1,0]) (y := C26 [1,1,0,1,0,1,1,1,1,1,1,1,1,1,1]) (o := .tmp 44) (by kernel_rfl) (by kernel_rfl) (by kernel_rfl) h5 ?_
      refine aq (x := C26 [1,1,0,1,0,1,1,1,1,1,1,1,1,1,1,0]) (y := C26 [1,1,0,1,0,1,1,1,1,1,1,1,1,1,1,1]) ?_
      refine ar (id := 14) 2 ?_
      refine sp 53 (.bool (decide (d.step = (6 : Int)))) ?_
      refine sp 52 (.bool (decide (d.step = (6 : Int)))) ?_
      refine ops_end ?_
      refine ae [(3, .pointer (some ⟨b0_0, 0, none⟩)), (6, .pointer (some ⟨b0_1, 0, none⟩)), (7, .pointer (some ⟨b1_10, 0, none⟩)), (52, .bool (decide (d.step = (6 : Int))))] ?_
      refine at_then_normal ?_
      rcases Bool.eq_false_or_eq_true (decide (d.step = (6 : Int))) with h6 | h6
      ·replace H := bifT H h6
       refine at_true (t := decide (d.step = (6 : Int))) (x := C26 [1,1,0,1,0,1,1,1,1,1,1,1,1,1,1,1,0]) (y := C26 [1,1,0,1,0,1,1,1,1,1,1,1,1,1,1,1,1]) (o := .tmp 52) (by kernel_rfl) (by kernel_rfl) (by kernel_rfl) h6 ?_
       refine at_region_draw (id := 15) (by kernel_rfl) (by kernel_rfl) ?_
       refine dp 0 54 (.pointer (some ⟨b0_0, 4, none⟩)) ?_
       refine dl 1 55 (.int .i64 d.state) (load1 (off := 4) (fun _ => by kernel_rfl) (holds_own (.there (.there .here))) (by kernel_rfl)) ?_
       refine dp 2 56 (.pointer (some ⟨b0_0, 5, none⟩)) ?_
       refine dl 3 57 (.int .i64 d.head) (load1 (off := 5) (fun _ => by kernel_rfl) (holds_own (.there (.there .here))) (by kernel_rfl)) ?_
       refine dp 4 58 (.pointer (some ⟨b0_0, 6, none⟩)) ?_
       refine dl 5 59 (.slice da (List.length d.data) dcap) (load1 (off := 6) (fun _ => by kernel_rfl) (holds_own (.there (.there .here))) (by kernel_rfl)) ?_
       refine dp 6 60 (.int .i64 (((List.length d.data) : Nat) : Int)) ?_
       refine dp 7 61 (.bool (decide ((0 : Int) < (((List.length d.data) : Nat) : Int)))) ?_
       refine dp 8 62 (.pointer (some ⟨b0_0, 6, none⟩)) ?_
       refine dl 9 63 (.slice da (List.length d.data) dcap) (load1 (off := 6) (fun _ => by kernel_rfl) (holds_own (.there (.there .here))) (by kernel_rfl)) ?_
       refine dp 11 65 (.pointer (some ⟨b1_10, 6, none⟩)) ?_
       obtain ⟨y15_10, hy15_10, H⟩ := bindE H
       refine d_call 10 64 [9, 8] [11, 7, 6, 4, 2, 0] [5, 3, 1] 41 #[.slice da (List.length d.data) dcap] (by kernel_rfl) (by kernel_rfl) (by kernel_rfl) (fun _ => by kernel_rfl) (CloneF_tr da dcap d.data (Reads.conv (fun w hw => hw.less (.drop .here (.drop .here (.drop .here .refl)))) hrda) y15_10 hy15_10) ?_
       rintro _ _ ⟨a15_10_00, c15_10_00, rfl, rfl⟩
       refine ⟨(stable_cons 5 59 (.slice da (List.length d.data) dcap) (by kernel_rfl) (by kernel_rfl) (by kernel_rfl) (load1 (off := 6) (fun _ => by kernel_rfl) (holds_own (.there (.there (.there .here)))) (by kernel_rfl)) (stable_cons 3 57 (.int .i64 d.head) (by kernel_rfl) (by kernel_rfl) (by kernel_rfl) (load1 (off := 5) (fun _ => by kernel_rfl) (holds_own (.there (.there (.there .here)))) (by kernel_rfl)) (stable_cons 1 55 (.int .i64 d.state) (by kernel_rfl) (by kernel_rfl) (by kernel_rfl) (load1 (off := 4) (fun _ => by kernel_rfl) (holds_own (.there (.there (.there .here)))) (by kernel_rfl)) stable_nil))), ?_⟩
       refine d_do 12 [11, 1, 10, 0, 9, 8] [7, 6, 4, 2] [5, 3] (by kernel_rfl) (by kernel_rfl) (by kernel_rfl) (st_store (off := 6) (vs := [.int .i64 d.state]) (c' := #[.int .i64 y1_2, .int .i64 node, .int .i64 home, .int .i64 d.id, .int .i64 d.line, .int .i64 (0), .int .i64 d.state, .bool false, .slice none 0 0]) (fun _ => by kernel_rfl) (.there .here) (by kernel_rfl) (by kernel_rfl) (by kernel_rfl)) ?_
       rintro _ _ ⟨rfl, rfl⟩
       refine ⟨(stable_cons 5 59 (.slice da (List.length d.data) dcap) (by kernel_rfl) (by kernel_rfl) (by kernel_rfl) (load1 (off := 6) (fun _ => by kernel_rfl) (holds_own (.there (.there (.there .here)))) (by kernel_rfl)) (stable_cons 3 57 (.int .i64 d.head) (by kernel_rfl) (by kernel_rfl) (by kernel_rfl) (load1 (off := 5) (fun _ => by kernel_rfl) (holds_own (.there (.there (.there .here)))) (by kernel_rfl)) stable_nil)), ?_⟩
       refine dp 13 66 (.pointer (some ⟨b1_10, 5, none⟩)) ?_
       refine d_do 14 [13, 3, 12, 0, 1, 2, 11, 10, 9, 8] [7, 6, 4] [5] (by kernel_rfl) (by kernel_rfl) (by kernel_rfl) (st_store (off := 5) (vs := [.int .i64 d.head]) (c' := #[.int .i64 y1_2, .int .i64 node, .int .i64 home, .int .i64 d.id, .int .i64 d.line, .int .i64 d.head, .int .i64 d.state, .bool false, .slice none 0 0]) (fun _ => by kernel_rfl) .here (by kernel_rfl) (by kernel_rfl) (by kernel_rfl)) ?_
       rintro _ _ ⟨rfl, rfl⟩
       refine ⟨(stable_cons 5 59 (.slice da (List.length d.data) dcap) (by kernel_rfl) (by kernel_rfl) (by kernel_rfl) (load1 (off := 6) (fun _ => by kernel_rfl) (holds_own (.there (.there (.there .here)))) (by kernel_rfl)) stable_nil), ?_⟩
       refine dp 15 67 (.pointer (some ⟨b1_10, 7, none⟩)) ?_
       refine d_do 16 [15, 7, 14, 0, 1, 2, 3, 4, 5, 6, 11, 12, 13, 10, 9, 8] [] [] (by kernel_rfl) (by kernel_rfl) (by kernel_rfl) (st_store (off := 7) (vs := [.bool (decide ((0 : Int) < (((List.length d.data) : Nat) : Int)))]) (c' := #[.int .i64 y1_2, .int .i64 node, .int .i64 home, .int .i64 d.id, .int .i64 d.line, .int .i64 d.head, .int .i64 d.state, .bool (decide ((0 : Int) < (((List.length d.data) : Nat) : Int))), .slice none 0 0]) (fun _ => by kernel_rfl) .here (by kernel_rfl) (by kernel_rfl) (by kernel_rfl)) ?_
       rintro _ _ ⟨rfl, rfl⟩
       refine ⟨stable_nil, ?_⟩
       refine dp 17 68 (.pointer (some ⟨b1_10, 8, none⟩)) ?_
       refine d_do 18 [17, 10, 16, 0, 1, 2, 3, 4, 5, 6, 7, 8, 9, 11, 12, 13, 14, 15] [] [] (by kernel_rfl) (by kernel_rfl) (by kernel_rfl) (st_store (off := 8) (vs := [.slice a15_10_00 (List.length y15_10) c15_10_00]) (c' := #[.int .i64 y1_2, .int .i64 node, .int .i64 home, .int .i64 d.id, .int .i64 d.line, .int .i64 d.head, .int .i64 d.state, .bool (decide ((0 : Int) < (((List.length d.data) : Nat) : Int))), .slice a15_10_00 (List.length y15_10) c15_10_00]) (fun _ => by kernel_rfl) .here (by kernel_rfl) (by kernel_rfl) (by kernel_rfl)) ?_
       rintro _ _ ⟨rfl, rfl⟩
       refine ⟨stable_nil, ?_⟩
       refine draw_end (by kernel_rfl) ?_
       refine ae [(6, .pointer (some ⟨b0_1, 0, none⟩)), (7, .pointer (some ⟨b1_10, 0, none⟩))] ?_
       refine at_in_normal ?_
       refine at_then_normal ?_
       refine aq (x := C26 [1,1,1,0]) (y := C26 [1,1,1,1]) ?_
       refine ar (id := 16) 2 ?_
       refine sl 69 (.agg #[.int .i64 y1_2, .int .i64 node, .int .i64 home, .int .i64 d.id, .int .i64 d.line, .int .i64 d.head, .int .i64 d.state, .bool (decide ((0 : Int) < (((List.length d.data) : Nat) : Int))), .slice a15_10_00 (List.length y15_10) c15_10_00]) (loadN (off := 0) (vs := [.int .i64 y1_2, .int .i64 node, .int .i64 home, .int .i64 d.id, .int .i64 d.line, .int .i64 d.head, .int .i64 d.state, .bool (decide ((0 : Int) < (((List.length d.data) : Nat) : Int))), .slice a15_10_00 (List.length y15_10) c15_10_00]) 9 (fun _ => by kernel_rfl) (holds_own .here) rfl (by exact ⟨rfl, rfl, rfl, rfl, rfl, rfl, rfl, rfl, rfl, trivial⟩)) ?_
       refine s_do (by kernel_rfl) (by kernel_rfl) (st_store (off := 0) (vs := [.int .i64 y1_2, .int .i64 node, .int .i64 home, .int .i64 d.id, .int .i64 d.line, .int .i64 d.head, .int .i64 d.state, .bool (decide ((0 : Int) < (((List.length d.data) : Nat) : Int))), .slice a15_10_00 (List.length y15_10) c15_10_00]) (c' := #[.int .i64 y1_2, .int .i64 node, .int .i64 home, .int .i64 d.id, .int .i64 d.line, .int .i64 d.head, .int .i64 d.state, .bool (decide ((0 : Int) < (((List.length d.data) : Nat) : Int))), .slice a15_10_00 (List.length y15_10) c15_10_00]) (fun _ => by kernel_rfl) (.there (.there .here)) (by kernel_rfl) (by kernel_rfl) (by kernel_rfl)) ?_
       rintro _ _ ⟨rfl, rfl⟩
       refine ops_end ?_
       refine ae [(6, .pointer (some ⟨b0_1, 0, none⟩))] ?_
       refine at_then_normal ?_
       refine at_ret (by kernel_rfl) ?_
       obtain rfl := someE H
       refine at_backR [.agg #[.int .i64 y1_2, .int .i64 node, .int .i64 home, .int .i64 d.id, .int .i64 d.line, .int .i64 d.head, .int .i64 d.state, .bool (decide ((0 : Int) < (((List.length d.data) : Nat) : Int))), .slice a15_10_00 (List.length y15_10) c15_10_00]] ((IntsA a15_10_00 c15_10_00 y15_10) :: Γ) (rs := [.cell 6 40]) (by kernel_rfl) (.cons (.cell (by kernel_rfl) (retN (off := 0) (vs := [.int .i64 y1_2, .int .i64 node, .int .i64 home, .int .i64 d.id, .int .i64 d.line, .int .i64 d.head, .int .i64 d.state, .bool (decide ((0 : Int) < (((List.length d.data) : Nat) : Int))), .slice a15_10_00 (List.length y15_10) c15_10_00]) 9 (fun _ => by kernel_rfl) (holds_own .here) rfl (by exact ⟨rfl, rfl, rfl, rfl, rfl, rfl, rfl, rfl, rfl, trivial⟩))) .nil) (fun w hw => (Sat.less (.take (.there (.there .here)) (.drop .here (.drop .here (.drop .here .refl)))) hw)) ?_
       exact ⟨a15_10_00, c15_10_00, rfl, rfl⟩
      ·replace H := bifF H h6
       refine at_false (t := decide (d.step = (6 : Int))) (x := C26 [1,1,0,1,0,1,1,1,1,1,1,1,1,1,1,1,0]) (y := C26 [1,1,0,1,0,1,1,1,1,1,1,1,1,1,1,1,1]) (o := .tmp 52) (by kernel_rfl) (by kernel_rfl) (by kernel_rfl) h6 ?_
       refine aq (x := C26 [1,1,0,1,0,1,1,1,1,1,1,1,1,1,1,1,1,0]) (y := C26 [1,1,0,1,0,1,1,1,1,1,1,1,1,1,1,1,1,1]) ?_
       refine ar (id := 3) 2 ?_
       refine sp 20 (.agg #[.int .i64 (0), .int .i64 (0), .int .i64 (0), .int .i64 (0), .int .i64 (0), .int .i64 (0), .int .i64 (0), .bool false, .slice none 0 0]) ?_
       refine s_do (by kernel_rfl) (by kernel_rfl) (st_store (off := 0) (vs := [.int .i64 (0), .int .i64 (0), .int .i64 (0), .int .i64 (0), .int .i64 (0), .int .i64 (0), .int .i64 (0), .bool false, .slice none 0 0]) (c' := #[.int .i64 (0), .int .i64 (0), .int .i64 (0), .int .i64 (0), .int .i64 (0), .int .i64 (0), .int .i64 (0), .bool false, .slice none 0 0]) (fun _ => by kernel_rfl) (.there .here) (by kernel_rfl) (by kernel_rfl) (by kernel_rfl)) ?_
       rintro _ _ ⟨rfl, rfl⟩
       refine ops_end ?_
       refine ae [(6, .pointer (some ⟨b0_1, 0, none⟩))] ?_
       refine at_then_normal ?_
       refine at_ret (by kernel_rfl) ?_
       refine at_in_ret ?_
       refine at_then_ret ?_
       obtain rfl := someE H
       refine at_backR [.agg #[.int .i64 (0), .int .i64 (0), .int .i64 (0), .int .i64 (0), .int .i64 (0), .int .i64 (0), .int .i64 (0), .bool false, .slice none 0 0]] ((IntsA none 0 ([] : List Int)) :: Γ) (rs := [.cell 6 40]) (by kernel_rfl) (.cons (.cell (by kernel_rfl) (retN (off := 0) (vs := [.int .i64 (0), .int .i64 (0), .int .i64 (0), .int .i64 (0), .int .i64 (0), .int .i64 (0), .int .i64 (0), .bool false, .slice none 0 0]) 9 (fun _ => by kernel_rfl) (holds_own .here) rfl (by exact ⟨rfl, rfl, rfl, rfl, rfl, rfl, rfl, rfl, rfl, trivial⟩))) .nil) (fun w hw => (Sat.less (.take .here (.drop .here (.drop .here (.drop .here .refl)))) (RowsA.none_mk (k := 1) (a := none) hw))) ?_
       exact ⟨none, 0, rfl, rfl⟩
def eisS (e : Ent) (i : Int) : Option (Bool) :=
 (bif decide ((0 : Int) ≤ i) then some (decide (i < (((List.length e.data) : Nat) : Int))) else some false)
noncomputable def C45 (p : List Nat) : Code := codeAt (bodyOf Try.f45) p
set_option maxRecDepth 100000 in
set_option maxHeartbeats 8000000 in
theorem EIsF_tr {W0 : World} {Γ : List Asn} (ea : Option Addr) (ecap : Nat) (e : Ent) (i : Int) (hrea : Reads W0 Γ ea (ints e.data)) (y : Bool) (H : eisS e i = some y) : Tr Try.prog 45 #[.agg #[.int .i64 e.fwd, .int .i64 e.back, .int .i64 e.line, .int .i64 e.used, .bool e.dirty, .slice ea (List.length e.data) ecap], .int .i64 i] W0 (Γ) (fun r Δ => r = .bool y ∧ Δ = Γ) := by
 unfold eisS at H
 refine Tr.enter (fn := Try.f45) (c := C45 []) (args := [.agg #[.int .i64 e.fwd, .int .i64 e.back, .int .i64 e.line, .int .i64 e.used, .bool e.dirty, .slice ea (List.length e.data) ecap], .int .i64 i]) 14 Try.func45 (by kernel_rfl) (by kernel_rfl) ?_
 refine ae [(0, .agg #[.int .i64 e.fwd, .int .i64 e.back, .int .i64 e.line, .int .i64 e.used, .bool e.dirty, .slice ea (List.length e.data) ecap]), (1, .int .i64 i)] ?_
 refine aq (x := C45 [0]) (y := C45 [1]) ?_
 refine ar (id := 0) 2 ?_
 refine s_step 2 (by kernel_rfl) (by kernel_rfl) (st_new (T := 32) (cells := #[.int .i64 e.fwd, .int .i64 e.back, .int .i64 e.line, .int .i64 e.used, .bool e.dirty, .slice ea (List.length e.data) ecap]) (fun a => .pointer (some a)) (fun _ => by kernel_rfl)) ?_
 rintro _ _ ⟨b0_0, rfl, rfl⟩
 refine sp 4 (.bool false) ?_
 refine ops_end ?_
 refine ae [(1, .int .i64 i), (2, .pointer (some ⟨b0_0, 0, none⟩))] ?_
 refine at_then_normal ?_
 refine aq (x := C45 [1,0]) (y := C45 [1,1]) ?_
 refine ar (id := 1) 10 ?_
 refine sp 5 (.int .i64 i) ?_
 refine sp 6 (.bool (decide ((0 : Int) ≤ i))) ?_
 rcases Bool.eq_false_or_eq_true (decide ((0 : Int) ≤ i)) with h1 | h1
 ·replace H := bifT H h1
  refine sr 7 (.bool true) (run_eq (v := .bool (decide ((0 : Int) ≤ i))) (fun _ => by kernel_rfl) (congrArg Value.bool h1)) ?_
  refine sp 8 (.int .i64 i) ?_
  refine sp 9 (.pointer (some ⟨b0_0, 5, none⟩)) ?_
  refine sl 10 (.slice ea (List.length e.data) ecap) (load1 (off := 5) (fun _ => by kernel_rfl) (holds_own .here) (by kernel_rfl)) ?_
  refine sp 11 (.int .i64 (((List.length e.data) : Nat) : Int)) ?_
  refine sp 12 (.bool (decide (i < (((List.length e.data) : Nat) : Int)))) ?_
  refine sp 13 (.bool (decide (i < (((List.length e.data) : Nat) : Int)))) ?_
  refine sp 4 (.bool (decide (i < (((List.length e.data) : Nat) : Int)))) ?_
  refine ops_end ?_
  refine ae [(4, .bool (decide (i < (((List.length e.data) : Nat) : Int))))] ?_
  refine at_then_normal ?_
  refine at_ret (by kernel_rfl) ?_
  obtain rfl := someE H
  refine at_backR [.bool (decide (i < (((List.length e.data) : Nat) : Int)))] (Γ) (rs := [.tmp 4]) (by kernel_rfl) (.cons (.tmp (by kernel_rfl)) .nil) (fun w hw => (Sat.less (.drop .here .refl) hw)) ?_
  exact ⟨rfl, rfl⟩
 ·replace H := bifF H h1
  refine sr 7 (.bool false) (run_eq (v := .bool (decide ((0 : Int) ≤ i))) (fun _ => by kernel_rfl) (congrArg Value.bool h1)) ?_
  refine sa 8 ?_
  refine sa 9 ?_
  refine sa 10 ?_
  refine sa 11 ?_
  refine sa 12 ?_
  refine sp 13 (.bool false) ?_
  refine sp 4 (.bool false) ?_
  refine ops_end ?_
  refine ae [(4, .bool false)] ?_
  refine at_then_normal ?_
  refine at_ret (by kernel_rfl) ?_
  obtain rfl := someE H
  refine at_backR [.bool false] (Γ) (rs := [.tmp 4]) (by kernel_rfl) (.cons (.tmp (by kernel_rfl)) .nil) (fun w hw => (Sat.less (.drop .here .refl) hw)) ?_
  exact ⟨rfl, rfl⟩
def ewordS (e : Ent) (i : Int) : Option (Int) :=
 (eisS e i).bind fun y1_2 => (bif !y1_2 then some (0 : Int) else chk (0 ≤ i ∧ i < ((e.data.length : Nat) : Int)) (some (nth e.data i)))
noncomputable def C20 (p : List Nat) : Code := codeAt (bodyOf Try.f20) p
set_option maxRecDepth 100000 in
set_option maxHeartbeats 8000000 in
theorem EWordF_tr {W0 : World} {Γ : List Asn} (ea : Option Addr) (ecap : Nat) (e : Ent) (i : Int) (hrea : Reads W0 Γ ea (ints e.data)) (y : Int) (H : ewordS e i = some y) : Tr Try.prog 20 #[.agg #[.int .i64 e.fwd, .int .i64 e.back, .int .i64 e.line, .int .i64 e.used, .bool e.dirty, .slice ea (List.length e.data) ecap], .int .i64 i] W0 (Γ) (fun r Δ => r = .int .i64 y ∧ Δ = Γ) := by
 unfold ewordS at H
 refine Tr.enter (fn := Try.f20) (c := C20 []) (args := [.agg #[.int .i64 e.fwd, .int .i64 e.back, .int .i64 e.line, .int .i64 e.used, .bool e.dirty, .slice ea (List.length e.data) ecap], .int .i64 i]) 14 Try.func20 (by kernel_rfl) (by kernel_rfl) ?_
 refine ae [(0, .agg #[.int .i64 e.fwd, .int .i64 e.back, .int .i64 e.line, .int .i64 e.used, .bool e.dirty, .slice ea (List.length e.data) ecap]), (1, .int .i64 i)] ?_
 refine aq (x := C20 [0]) (y := C20 [1]) ?_
 refine ar (id := 0) 2 ?_
 refine s_step 2 (by kernel_rfl) (by kernel_rfl) (st_new (T := 32) (cells := #[.int .i64 e.fwd, .int .i64 e.back, .int .i64 e.line, .int .i64 e.used, .bool e.dirty, .slice ea (List.length e.data) ecap]) (fun a => .pointer (some a)) (fun _ => by kernel_rfl)) ?_
 rintro _ _ ⟨b0_0, rfl, rfl⟩
 refine sp 4 (.int .i64 (0)) ?_
 refine ops_end ?_
 refine ae [(1, .int .i64 i), (2, .pointer (some ⟨b0_0, 0, none⟩))] ?_
 refine at_then_normal ?_
 refine aq (x := C20 [1,0]) (y := C20 [1,1]) ?_
 refine aq (x := C20 [1,0,0]) (y := C20 [1,0,1]) ?_
 refine ar (id := 1) 4 ?_
 refine sl 5 (.agg #[.int .i64 e.fwd, .int .i64 e.back, .int .i64 e.line, .int .i64 e.used, .bool e.dirty, .slice ea (List.length e.data) ecap]) (loadN (off := 0) (vs := [.int .i64 e.fwd, .int .i64 e.back, .int .i64 e.line, .int .i64 e.used, .bool e.dirty, .slice ea (List.length e.data) ecap]) 6 (fun _ => by kernel_rfl) (holds_own .here) rfl (by exact ⟨rfl, rfl, rfl, rfl, rfl, rfl, trivial⟩)) ?_
 refine sp 6 (.int .i64 i) ?_
 obtain ⟨y1_2, hy1_2, H⟩ := bindE H
 refine s_call 7 45 #[.agg #[.int .i64 e.fwd, .int .i64 e.back, .int .i64 e.line, .int .i64 e.used, .bool e.dirty, .slice ea (List.length e.data) ecap], .int .i64 i] (by kernel_rfl) (by kernel_rfl) (fun _ => by kernel_rfl) (EIsF_tr ea ecap e i (Reads.conv (fun w hw => hw.less (.drop .here .refl)) hrea) y1_2 hy1_2) ?_
 rintro _ _ ⟨rfl, rfl⟩
 refine sp 8 (.bool !y1_2) ?_
 refine ops_end ?_
 refine ae [(1, .int .i64 i), (2, .pointer (some ⟨b0_0, 0, none⟩)), (8, .bool !y1_2)] ?_
 refine at_then_normal ?_
 rcases Bool.eq_false_or_eq_true (!y1_2) with h1 | h1
 ·replace H := bifT H h1
  refine at_true (t := !y1_2) (x := C20 [1,0,1,0]) (y := C20 [1,0,1,1]) (o := .tmp 8) (by kernel_rfl) (by kernel_rfl) (by kernel_rfl) h1 ?_
  refine aq (x := C20 [1,0,1,0,0]) (y := C20 [1,0,1,0,1]) ?_
  refine ar (id := 2) 1 ?_
  refine sp 4 (.int .i64 (0)) ?_
  refine ops_end ?_
  refine ae [(4, .int .i64 (0))] ?_
  refine at_then_normal ?_
  refine at_ret (by kernel_rfl) ?_
  refine at_then_ret ?_
  obtain rfl := someE H
  refine at_backR [.int .i64 (0)] (Γ) (rs := [.tmp 4]) (by kernel_rfl) (.cons (.tmp (by kernel_rfl)) .nil) (fun w hw => (Sat.less (.drop .here .refl) hw)) ?_
  exact ⟨rfl, rfl⟩
 ·replace H := bifF H h1
  refine at_false (t := !y1_2) (x := C20 [1,0,1,0]) (y := C20 [1,0,1,1]) (o := .tmp 8) (by kernel_rfl) (by kernel_rfl) (by kernel_rfl) h1 ?_
  refine at_skip (by kernel_rfl) ?_
  refine at_then_normal ?_
  refine aq (x := C20 [1,1,0]) (y := C20 [1,1,1]) ?_
  refine ar (id := 3) 6 ?_
  refine sp 9 (.pointer (some ⟨b0_0, 5, none⟩)) ?_
  refine sl 10 (.slice ea (List.length e.data) ecap) (load1 (off := 5) (fun _ => by kernel_rfl) (holds_own .here) (by kernel_rfl)) ?_
  refine sp 11 (.int .i64 i) ?_
  obtain ⟨hc3_3_0, H⟩ := chkE H
  refine reads_at (Reads.conv (fun w hw => hw.less (.drop .here .refl)) hrea) (by have := hc3_3_0; omega) ?_
  intro bb1 oo1 ha1
  refine sr 12 (.pointer (some ⟨bb1, oo1 + ((i).toNat * 1 + 0), none⟩)) (index_at (t := 30) (sz := 1) (E := 3) (a := ea) (m := (List.length e.data)) (c := ecap) (b := bb1) (off := oo1) (i := (i).toNat) (tinfo 3) (fun _ => by kernel_rfl) (by kernel_rfl) (by kernel_rfl) (by kernel_rfl) ha1 (idx_cast hc3_3_0) (idx_nat hc3_3_0) rfl) ?_
  refine sl 13 (.int .i64 (nth e.data i)) (load1_at (off := oo1 + ((i).toNat * 1 + 0)) (v := .int .i64 (nth e.data i)) (fun _ => by kernel_rfl) rfl (reads_cell (k := 1) (Reads.conv (fun w hw => hw.less (.drop .here .refl)) hrea) (ints_rows _) ha1 (nth_row hc3_3_0) (show [(.int .i64 (nth e.data i) : Value)][0]? = some _ from rfl))) ?_
  refine sp 4 (.int .i64 (nth e.data i)) ?_
  refine ops_end ?_
  refine ae [(4, .int .i64 (nth e.data i))] ?_
  refine at_then_normal ?_
  refine at_ret (by kernel_rfl) ?_
  obtain rfl := someE H
  refine at_backR [.int .i64 (nth e.data i)] (Γ) (rs := [.tmp 4]) (by kernel_rfl) (.cons (.tmp (by kernel_rfl)) .nil) (fun w hw => (Sat.less (.drop .here .refl) hw)) ?_
  exact ⟨rfl, rfl⟩
def lheadS (l : LinkS) : Option (Bool) :=
 some (decide (l.back = ((-1) : Int)))
noncomputable def C34 (p : List Nat) : Code := codeAt (bodyOf Try.f34) p
set_option maxRecDepth 100000 in
set_option maxHeartbeats 8000000 in
theorem LHeadF_tr {W0 : World} {Γ : List Asn} (l : LinkS)  (y : Bool) (H : lheadS l = some y) : Tr Try.prog 34 #[.agg #[.int .i64 l.fwd, .int .i64 l.back]] W0 (Γ) (fun r Δ => r = .bool y ∧ Δ = Γ) := by
 unfold lheadS at H
 refine Tr.enter (fn := Try.f34) (c := C34 []) (args := [.agg #[.int .i64 l.fwd, .int .i64 l.back]]) 6 Try.func34 (by kernel_rfl) (by kernel_rfl) ?_
 refine ae [(0, .agg #[.int .i64 l.fwd, .int .i64 l.back])] ?_
 refine aq (x := C34 [0]) (y := C34 [1]) ?_
 refine ar (id := 0) 2 ?_
 refine s_step 1 (by kernel_rfl) (by kernel_rfl) (st_new (T := 29) (cells := #[.int .i64 l.fwd, .int .i64 l.back]) (fun a => .pointer (some a)) (fun _ => by kernel_rfl)) ?_
 rintro _ _ ⟨b0_0, rfl, rfl⟩
 refine sp 2 (.bool false) ?_
 refine ops_end ?_
 refine ae [(1, .pointer (some ⟨b0_0, 0, none⟩))] ?_
 refine at_then_normal ?_
 refine aq (x := C34 [1,0]) (y := C34 [1,1]) ?_
 refine ar (id := 1) 4 ?_
 refine sp 3 (.pointer (some ⟨b0_0, 1, none⟩)) ?_
 refine sl 4 (.int .i64 l.back) (load1 (off := 1) (fun _ => by kernel_rfl) (holds_own .here) (by kernel_rfl)) ?_
 refine sp 5 (.bool (decide (l.back = ((-1) : Int)))) ?_
 refine sp 2 (.bool (decide (l.back = ((-1) : Int)))) ?_
 refine ops_end ?_
 refine ae [(2, .bool (decide (l.back = ((-1) : Int))))] ?_
 refine at_then_normal ?_
 refine at_ret (by kernel_rfl) ?_
 obtain rfl := someE H
 refine at_backR [.bool (decide (l.back = ((-1) : Int)))] (Γ) (rs := [.tmp 2]) (by kernel_rfl) (.cons (.tmp (by kernel_rfl)) .nil) (fun w hw => (Sat.less (.drop .here .refl) hw)) ?_
 exact ⟨rfl, rfl⟩
def ltailS (l : LinkS) : Option (Bool) :=
 some (decide (l.fwd = ((-1) : Int)))
noncomputable def C44 (p : List Nat) : Code := codeAt (bodyOf Try.f44) p
set_option maxRecDepth 100000 in
set_option maxHeartbeats 8000000 in
theorem LTailF_tr {W0 : World} {Γ : List Asn} (l : LinkS)  (y : Bool) (H : ltailS l = some y) : Tr Try.prog 44 #[.agg #[.int .i64 l.fwd, .int .i64 l.back]] W0 (Γ) (fun r Δ => r = .bool y ∧ Δ = Γ) := by
 unfold ltailS at H
 refine Tr.enter (fn := Try.f44) (c := C44 []) (args := [.agg #[.int .i64 l.fwd, .int .i64 l.back]]) 6 Try.func44 (by kernel_rfl) (by kernel_rfl) ?_
 refine ae [(0, .agg #[.int .i64 l.fwd, .int .i64 l.back])] ?_
 refine aq (x := C44 [0]) (y := C44 [1]) ?_
 refine ar (id := 0) 2 ?_
 refine s_step 1 (by kernel_rfl) (by kernel_rfl) (st_new (T := 29) (cells := #[.int .i64 l.fwd, .int .i64 l.back]) (fun a => .pointer (some a)) (fun _ => by kernel_rfl)) ?_
 rintro _ _ ⟨b0_0, rfl, rfl⟩
 refine sp 2 (.bool false) ?_
 refine ops_end ?_
 refine ae [(1, .pointer (some ⟨b0_0, 0, none⟩))] ?_
 refine at_then_normal ?_
 refine aq (x := C44 [1,0]) (y := C44 [1,1]) ?_
 refine ar (id := 1) 4 ?_
 refine sp 3 (.pointer (some ⟨b0_0, 0, none⟩)) ?_
 refine sl 4 (.int .i64 l.fwd) (load1 (off := 0) (fun _ => by kernel_rfl) (holds_own .here) (by kernel_rfl)) ?_
 refine sp 5 (.bool (decide (l.fwd = ((-1) : Int)))) ?_
 refine sp 2 (.bool (decide (l.fwd = ((-1) : Int)))) ?_
 refine ops_end ?_
 refine ae [(2, .bool (decide (l.fwd = ((-1) : Int))))] ?_
 refine at_then_normal ?_
 refine at_ret (by kernel_rfl) ?_
 obtain rfl := someE H
 refine at_backR [.bool (decide (l.fwd = ((-1) : Int)))] (Γ) (rs := [.tmp 2]) (by kernel_rfl) (.cons (.tmp (by kernel_rfl)) .nil) (fun w hw => (Sat.less (.drop .here .refl) hw)) ?_
 exact ⟨rfl, rfl⟩
def lonlyS (l : LinkS) : Option (Bool) :=
 (lheadS (⟨l.fwd, l.back⟩ : LinkS)).bind fun y1_1 => (bif y1_1 then (ltailS (⟨l.fwd, l.back⟩ : LinkS)).bind fun y1_4 => some y1_4 else some false)
noncomputable def C19 (p : List Nat) : Code := codeAt (bodyOf Try.f19) p
set_option maxRecDepth 100000 in
set_option maxHeartbeats 8000000 in
theorem LOnlyF_tr {W0 : World} {Γ : List Asn} (l : LinkS)  (y : Bool) (H : lonlyS l = some y) : Tr Try.prog 19 #[.agg #[.int .i64 l.fwd, .int .i64 l.back]] W0 (Γ) (fun r Δ => r = .bool y ∧ Δ = Γ) := by
 unfold lonlyS at H
 refine Tr.enter (fn := Try.f19) (c := C19 []) (args := [.agg #[.int .i64 l.fwd, .int .i64 l.back]]) 9 Try.func19 (by kernel_rfl) (by kernel_rfl) ?_
 refine ae [(0, .agg #[.int .i64 l.fwd, .int .i64 l.back])] ?_
 refine aq (x := C19 [0]) (y := C19 [1]) ?_
 refine ar (id := 0) 2 ?_
 refine s_step 1 (by kernel_rfl) (by kernel_rfl) (st_new (T := 29) (cells := #[.int .i64 l.fwd, .int .i64 l.back]) (fun a => .pointer (some a)) (fun _ => by kernel_rfl)) ?_
 rintro _ _ ⟨b0_0, rfl, rfl⟩
 refine sp 2 (.bool false) ?_
 refine ops_end ?_
 refine ae [(1, .pointer (some ⟨b0_0, 0, none⟩))] ?_
 refine at_then_normal ?_
 refine aq (x := C19 [1,0]) (y := C19 [1,1]) ?_
 refine ar (id := 1) 7 ?_
 refine sl 3 (.agg #[.int .i64 l.fwd, .int .i64 l.back]) (loadN (off := 0) (vs := [.int .i64 l.fwd, .int .i64 l.back]) 2 (fun _ => by kernel_rfl) (holds_own .here) rfl (by exact ⟨rfl, rfl, trivial⟩)) ?_
 obtain ⟨y1_1, hy1_1, H⟩ := bindE H
 refine s_quiet 4 (.bool y1_1) 34 #[.agg #[.int .i64 l.fwd, .int .i64 l.back]] (by kernel_rfl) (by kernel_rfl) (fun _ => by kernel_rfl) (LHeadF_tr (⟨l.fwd, l.back⟩ : LinkS) y1_1 hy1_1) ?_
 rcases Bool.eq_false_or_eq_true (y1_1) with h1 | h1
 ·replace H := bifT H h1
  refine sr 5 (.bool true) (run_eq (v := .bool (y1_1)) (fun _ => by kernel_rfl) (congrArg Value.bool h1)) ?_
  refine sl 6 (.agg #[.int .i64 l.fwd, .int .i64 l.back]) (loadN (off := 0) (vs := [.int .i64 l.fwd, .int .i64 l.back]) 2 (fun _ => by kernel_rfl) (holds_own .here) rfl (by exact ⟨rfl, rfl, trivial⟩)) ?_
  obtain ⟨y1_4, hy1_4, H⟩ := bindE H
  refine s_quiet 7 (.bool y1_4) 44 #[.agg #[.int .i64 l.fwd, .int .i64 l.back]] (by kernel_rfl) (by kernel_rfl) (fun _ => by kernel_rfl) (LTailF_tr (⟨l.fwd, l.back⟩ : LinkS) y1_4 hy1_4) ?_
  refine sp 8 (.bool y1_4) ?_
  refine sp 2 (.bool y1_4) ?_
  refine ops_end ?_
  refine ae [(2, .bool y1_4)] ?_
  refine at_then_normal ?_
  refine at_ret (by kernel_rfl) ?_
  obtain rfl := someE H
  refine at_backR [.bool y1_4] (Γ) (rs := [.tmp 2]) (by kernel_rfl) (.cons (.tmp (by kernel_rfl)) .nil) (fun w hw => (Sat.less (.drop .here .refl) hw)) ?_
  exact ⟨rfl, rfl⟩
 ·replace H := bifF H h1
  refine sr 5 (.bool false) (run_eq (v := .bool (y1_1)) (fun _ => by kernel_rfl) (congrArg Value.bool h1)) ?_
  refine sa 6 ?_
  refine sa 7 ?_
  refine sp 8 (.bool false) ?_
  refine sp 2 (.bool false) ?_
  refine ops_end ?_
  refine ae [(2, .bool false)] ?_
  refine at_then_normal ?_
  refine at_ret (by kernel_rfl) ?_
  obtain rfl := someE H
  refine at_backR [.bool false] (Γ) (rs := [.tmp 2]) (by kernel_rfl) (.cons (.tmp (by kernel_rfl)) .nil) (fun w hw => (Sat.less (.drop .here .refl) hw)) ?_
  exact ⟨rfl, rfl⟩
end Go.Proofs.Ytlnjnkbnppnbkaa
