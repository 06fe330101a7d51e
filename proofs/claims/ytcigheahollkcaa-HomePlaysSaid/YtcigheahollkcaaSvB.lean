/- Requests to a cache, in the second writing: each function answers what its plain function says. -/
import Derived.Test.YtcigheahollkcaaOwnB
import Derived.Test.YtcigheahollkcaaKsA
namespace Go.Proofs.Ytcigheahollkcaa
open Go Go.RowKit
set_option linter.unusedVariables false
set_option linter.unusedSimpArgs false
def rrightS (p : PktS) : Option (Bool) :=
 (bif decide ((1 : Int) ≤ p.kind) then (bif decide (p.kind ≤ (9 : Int)) then (bif decide ((0 : Int) ≤ p.src) then (bif decide (p.src < (6 : Int)) then (bif decide ((0 : Int) ≤ p.dst) then (bif decide (p.dst < (6 : Int)) then (bif decide ((0 : Int) ≤ p.id) then (bif decide (p.id < (4096 : Int)) then (bif decide ((0 : Int) ≤ p.line) then (bif decide (p.line < (8 : Int)) then (bif decide (((-1) : Int) ≤ p.ptr) then (bif decide (p.ptr < (6 : Int)) then (bif decide ((0 : Int) ≤ p.state) then (bif decide (p.state ≤ (2 : Int)) then some (decide ((((List.length p.data) : Nat) : Int) ≤ (4 : Int))) else some false) else some false) else some false) else some false) else some false) else some false) else some false) else some false) else some false) else some false) else some false) else some false) else some false) else some false)
noncomputable def C39 (p : List Nat) : Code := codeAt (bodyOf Try.f39) p
set_option maxRecDepth 100000 in
set_option maxHeartbeats 8000000 in
theorem RRightF_tr {W0 : World} {Γ : List Asn} (pa : Option Addr) (pcap : Nat) (p : PktS) (hrpa : Reads W0 Γ pa (ints p.data)) (y : Bool) (H : rrightS p = some y) : Tr Try.prog 39 #[.agg #[.int .i64 p.kind, .int .i64 p.src, .int .i64 p.dst, .int .i64 p.id, .int .i64 p.line, .int .i64 p.ptr, .int .i64 p.state, .bool p.flag, .slice pa (List.length p.data) pcap]] W0 (Γ) (fun r Δ => r = .bool y ∧ Δ = Γ) := by
 unfold rrightS at H
 refine Tr.enter (fn := Try.f39) (c := C39 []) (args := [.agg #[.int .i64 p.kind, .int .i64 p.src, .int .i64 p.dst, .int .i64 p.id, .int .i64 p.line, .int .i64 p.ptr, .int .i64 p.state, .bool p.flag, .slice pa (List.length p.data) pcap]]) 77 Try.func39 kf kf ?_
 refine ae [(0, .agg #[.int .i64 p.kind, .int .i64 p.src, .int .i64 p.dst, .int .i64 p.id, .int .i64 p.line, .int .i64 p.ptr, .int .i64 p.state, .bool p.flag, .slice pa (List.length p.data) pcap])] ?_
 refine aq (x := C39 [0]) (y := C39 [1]) ?_
 refine ar (id := 0) 2 ?_
 refine s_step 1 kf kf (st_new (T := 32) (cells := #[.int .i64 p.kind, .int .i64 p.src, .int .i64 p.dst, .int .i64 p.id, .int .i64 p.line, .int .i64 p.ptr, .int .i64 p.state, .bool p.flag, .slice pa (List.length p.data) pcap]) (fun a => .pointer (some a)) (fun _ => kf)) ?_
 rintro _ _ ⟨b0_0, rfl, rfl⟩
 refine sp 2 (.bool false) ?_
 refine ops_end ?_
 refine ae [(1, .pointer (some ⟨b0_0, 0, none⟩))] ?_
 refine at_then_normal ?_
 refine aq (x := C39 [1,0]) (y := C39 [1,1]) ?_
 refine ar (id := 1) 75 ?_
 refine sp 3 (.pointer (some ⟨b0_0, 0, none⟩)) ?_
 refine sl 4 (.int .i64 p.kind) (load1 (off := 0) (fun _ => kf) (holds_own .here) kf) ?_
 refine sp 5 (.bool (decide ((1 : Int) ≤ p.kind))) ?_
 rcases Bool.eq_false_or_eq_true (decide ((1 : Int) ≤ p.kind)) with h1 | h1
 ·replace H := bifT H h1
  refine sr 6 (.bool true) (run_eq (v := .bool (decide ((1 : Int) ≤ p.kind))) (fun _ => kf) (congrArg Value.bool h1)) ?_
  refine sp 7 (.pointer (some ⟨b0_0, 0, none⟩)) ?_
  refine sl 8 (.int .i64 p.kind) (load1 (off := 0) (fun _ => kf) (holds_own .here) kf) ?_
  refine sp 9 (.bool (decide (p.kind ≤ (9 : Int)))) ?_
  refine sp 10 (.bool (decide (p.kind ≤ (9 : Int)))) ?_
  rcases Bool.eq_false_or_eq_true (decide (p.kind ≤ (9 : Int))) with h2 | h2
  ·replace H := bifT H h2
   refine sr 11 (.bool true) (run_eq (v := .bool (decide (p.kind ≤ (9 : Int)))) (fun _ => kf) (congrArg Value.bool h2)) ?_
   refine sp 12 (.pointer (some ⟨b0_0, 1, none⟩)) ?_
   refine sl 13 (.int .i64 p.src) (load1 (off := 1) (fun _ => kf) (holds_own .here) kf) ?_
   refine sp 14 (.bool (decide ((0 : Int) ≤ p.src))) ?_
   refine sp 15 (.bool (decide ((0 : Int) ≤ p.src))) ?_
   rcases Bool.eq_false_or_eq_true (decide ((0 : Int) ≤ p.src)) with h3 | h3
   ·replace H := bifT H h3
    refine sr 16 (.bool true) (run_eq (v := .bool (decide ((0 : Int) ≤ p.src))) (fun _ => kf) (congrArg Value.bool h3)) ?_
    refine sp 17 (.pointer (some ⟨b0_0, 1, none⟩)) ?_
    refine sl 18 (.int .i64 p.src) (load1 (off := 1) (fun _ => kf) (holds_own .here) kf) ?_
    refine sp 19 (.bool (decide (p.src < (6 : Int)))) ?_
    refine sp 20 (.bool (decide (p.src < (6 : Int)))) ?_
    rcases Bool.eq_false_or_eq_true (decide (p.src < (6 : Int))) with h4 | h4
    ·replace H := bifT H h4
     refine sr 21 (.bool true) (run_eq (v := .bool (decide (p.src < (6 : Int)))) (fun _ => kf) (congrArg Value.bool h4)) ?_
     refine sp 22 (.pointer (some ⟨b0_0, 2, none⟩)) ?_
     refine sl 23 (.int .i64 p.dst) (load1 (off := 2) (fun _ => kf) (holds_own .here) kf) ?_
     refine sp 24 (.bool (decide ((0 : Int) ≤ p.dst))) ?_
     refine sp 25 (.bool (decide ((0 : Int) ≤ p.dst))) ?_
     rcases Bool.eq_false_or_eq_true (decide ((0 : Int) ≤ p.dst)) with h5 | h5
     ·replace H := bifT H h5
      refine sr 26 (.bool true) (run_eq (v := .bool (decide ((0 : Int) ≤ p.dst))) (fun _ => kf) (congrArg Value.bool h5)) ?_
      refine sp 27 (.pointer (some ⟨b0_0, 2, none⟩)) ?_
      refine sl 28 (.int .i64 p.dst) (load1 (off := 2) (fun _ => kf) (holds_own .here) kf) ?_
      refine sp 29 (.bool (decide (p.dst < (6 : Int)))) ?_
      refine sp 30 (.bool (decide (p.dst < (6 : Int)))) ?_
      rcases Bool.eq_false_or_eq_true (decide (p.dst < (6 : Int))) with h6 | h6
      ·replace H := bifT H h6
       refine sr 31 (.bool true) (run_eq (v := .bool (decide (p.dst < (6 : Int)))) (fun _ => kf) (congrArg Value.bool h6)) ?_
       refine sp 32 (.pointer (some ⟨b0_0, 3, none⟩)) ?_
       refine sl 33 (.int .i64 p.id) (load1 (off := 3) (fun _ => kf) (holds_own .here) kf) ?_
       refine sp 34 (.bool (decide ((0 : Int) ≤ p.id))) ?_
       refine sp 35 (.bool (decide ((0 : Int) ≤ p.id))) ?_
       rcases Bool.eq_false_or_eq_true (decide ((0 : Int) ≤ p.id)) with h7 | h7
       ·replace H := bifT H h7
        refine sr 36 (.bool true) (run_eq (v := .bool (decide ((0 : Int) ≤ p.id))) (fun _ => kf) (congrArg Value.bool h7)) ?_
        refine sp 37 (.pointer (some ⟨b0_0, 3, none⟩)) ?_
        refine sl 38 (.int .i64 p.id) (load1 (off := 3) (fun _ => kf) (holds_own .here) kf) ?_
        refine sp 39 (.bool (decide (p.id < (4096 : Int)))) ?_
        refine sp 40 (.bool (decide (p.id < (4096 : Int)))) ?_
        rcases Bool.eq_false_or_eq_true (decide (p.id < (4096 : Int))) with h8 | h8
        ·replace H := bifT H h8
         refine sr 41 (.bool true) (run_eq (v := .bool (decide (p.id < (4096 : Int)))) (fun _ => kf) (congrArg Value.bool h8)) ?_
         refine sp 42 (.pointer (some ⟨b0_0, 4, none⟩)) ?_
         refine sl 43 (.int .i64 p.line) (load1 (off := 4) (fun _ => kf) (holds_own .here) kf) ?_
         refine sp 44 (.bool (decide ((0 : Int) ≤ p.line))) ?_
         refine sp 45 (.bool (decide ((0 : Int) ≤ p.line))) ?_
         rcases Bool.eq_false_or_eq_true (decide ((0 : Int) ≤ p.line)) with h9 | h9
         ·replace H := bifT H h9
          refine sr 46 (.bool true) (run_eq (v := .bool (decide ((0 : Int) ≤ p.line))) (fun _ => kf) (congrArg Value.bool h9)) ?_
          refine sp 47 (.pointer (some ⟨b0_0, 4, none⟩)) ?_
          refine sl 48 (.int .i64 p.line) (load1 (off := 4) (fun _ => kf) (holds_own .here) kf) ?_
          refine sp 49 (.bool (decide (p.line < (8 : Int)))) ?_
          refine sp 50 (.bool (decide (p.line < (8 : Int)))) ?_
          rcases Bool.eq_false_or_eq_true (decide (p.line < (8 : Int))) with h10 | h10
          ·replace H := bifT H h10
           refine sr 51 (.bool true) (run_eq (v := .bool (decide (p.line < (8 : Int)))) (fun _ => kf) (congrArg Value.bool h10)) ?_
           refine sp 52 (.pointer (some ⟨b0_0, 5, none⟩)) ?_
           refine sl 53 (.int .i64 p.ptr) (load1 (off := 5) (fun _ => kf) (holds_own .here) kf) ?_
           refine sp 54 (.bool (decide (((-1) : Int) ≤ p.ptr))) ?_
           refine sp 55 (.bool (decide (((-1) : Int) ≤ p.ptr))) ?_
           rcases Bool.eq_false_or_eq_true (decide (((-1) : Int) ≤ p.ptr)) with h11 | h11
           ·replace H := bifT H h11
            refine sr 56 (.bool true) (run_eq (v := .bool (decide (((-1) : Int) ≤ p.ptr))) (fun _ => kf) (congrArg Value.bool h11)) ?_
            refine sp 57 (.pointer (some ⟨b0_0, 5, none⟩)) ?_
            refine sl 58 (.int .i64 p.ptr) (load1 (off := 5) (fun _ => kf) (holds_own .here) kf) ?_
            refine sp 59 (.bool (decide (p.ptr < (6 : Int)))) ?_
            refine sp 60 (.bool (decide (p.ptr < (6 : Int)))) ?_
            rcases Bool.eq_false_or_eq_true (decide (p.ptr < (6 : Int))) with h12 | h12
            ·replace H := bifT H h12
             refine sr 61 (.bool true) (run_eq (v := .bool (decide (p.ptr < (6 : Int)))) (fun _ => kf) (congrArg Value.bool h12)) ?_
             refine sp 62 (.pointer (some ⟨b0_0, 6, none⟩)) ?_
             refine sl 63 (.int .i64 p.state) (load1 (off := 6) (fun _ => kf) (holds_own .here) kf) ?_
             refine sp 64 (.bool (decide ((0 : Int) ≤ p.state))) ?_
             refine sp 65 (.bool (decide ((0 : Int) ≤ p.state))) ?_
             rcases Bool.eq_false_or_eq_true (decide ((0 : Int) ≤ p.state)) with h13 | h13
             ·replace H := bifT H h13
              refine sr 66 (.bool true) (run_eq (v := .bool (decide ((0 : Int) ≤ p.state))) (fun _ => kf) (congrArg Value.bool h13)) ?_
              refine sp 67 (.pointer (some ⟨b0_0, 6, none⟩)) ?_
              refine sl 68 (.int .i64 p.state) (load1 (off := 6) (fun _ => kf) (holds_own .here) kf) ?_
              refine sp 69 (.bool (decide (p.state ≤ (2 : Int)))) ?_
              refine sp 70 (.bool (decide (p.state ≤ (2 : Int)))) ?_
              rcases Bool.eq_false_or_eq_true (decide (p.state ≤ (2 : Int))) with h14 | h14
              ·replace H := bifT H h14
               refine sr 71 (.bool true) (run_eq (v := .bool (decide (p.state ≤ (2 : Int)))) (fun _ => kf) (congrArg Value.bool h14)) ?_
               refine sp 72 (.pointer (some ⟨b0_0, 8, none⟩)) ?_
               refine sl 73 (.slice pa (List.length p.data) pcap) (load1 (off := 8) (fun _ => kf) (holds_own .here) kf) ?_
               refine sp 74 (.int .i64 (((List.length p.data) : Nat) : Int)) ?_
               refine sp 75 (.bool (decide ((((List.length p.data) : Nat) : Int) ≤ (4 : Int)))) ?_
               refine sp 76 (.bool (decide ((((List.length p.data) : Nat) : Int) ≤ (4 : Int)))) ?_
               refine sp 2 (.bool (decide ((((List.length p.data) : Nat) : Int) ≤ (4 : Int)))) ?_
               refine ops_end ?_
               refine ae [(2, .bool (decide ((((List.length p.data) : Nat) : Int) ≤ (4 : Int))))] ?_
               refine at_then_normal ?_
               refine at_ret kf ?_
               obtain rfl := someE H
               refine at_backR [.bool (decide ((((List.length p.data) : Nat) : Int) ≤ (4 : Int)))] (Γ) (rs := [.tmp 2]) kf (.cons (.tmp kf) .nil) (fun w hw => (Sat.less (.drop .here .refl) hw)) ?_
               exact ⟨rfl, rfl⟩
              ·replace H := bifF H h14
               refine sr 71 (.bool false) (run_eq (v := .bool (decide (p.state ≤ (2 : Int)))) (fun _ => kf) (congrArg Value.bool h14)) ?_
               refine sa 72 ?_
               refine sa 73 ?_
               refine sa 74 ?_
               refine sa 75 ?_
               refine sp 76 (.bool false) ?_
               refine sp 2 (.bool false) ?_
               refine ops_end ?_
               refine ae [(2, .bool false)] ?_
               refine at_then_normal ?_
               refine at_ret kf ?_
               obtain rfl := someE H
               refine at_backR [.bool false] (Γ) (rs := [.tmp 2]) kf (.cons (.tmp kf) .nil) (fun w hw => (Sat.less (.drop .here .refl) hw)) ?_
               exact ⟨rfl, rfl⟩
             ·replace H := bifF H h13
              refine sr 66 (.bool false) (run_eq (v := .bool (decide ((0 : Int) ≤ p.state))) (fun _ => kf) (congrArg Value.bool h13)) ?_
              refine sa 67 ?_
              refine sa 68 ?_
              refine sa 69 ?_
              refine sp 70 (.bool false) ?_
              refine sp 71 (.bool false) ?_
              refine sa 72 ?_
              refine sa 73 ?_
              refine sa 74 ?_
              refine sa 75 ?_
              refine sp 76 (.bool false) ?_
              refine sp 2 (.bool false) ?_
              refine ops_end ?_
              refine ae [(2, .bool false)] ?_
              refine at_then_normal ?_
              refine at_ret kf ?_
              obtain rfl := someE H
              refine at_backR [.bool false] (Γ) (rs := [.tmp 2]) kf (.cons (.tmp kf) .nil) (fun w hw => (Sat.less (.drop .here .refl) hw)) ?_
              exact ⟨rfl, rfl⟩
            ·replace H := bifF H h12
             refine sr 61 (.bool false) (run_eq (v := .bool (decide (p.ptr < (6 : Int)))) (fun _ => kf) (congrArg Value.bool h12)) ?_
             refine sa 62 ?_
             refine sa 63 ?_
             refine sa 64 ?_
             refine sp 65 (.bool false) ?_
             refine sp 66 (.bool false) ?_
             refine sa 67 ?_
             refine sa 68 ?_
             refine sa 69 ?_
             refine sp 70 (.bool false) ?_
             refine sp 71 (.bool false) ?_
             refine sa 72 ?_
             refine sa 73 ?_
             refine sa 74 ?_
             refine sa 75 ?_
             refine sp 76 (.bool false) ?_
             refine sp 2 (.bool false) ?_
             refine ops_end ?_
             refine ae [(2, .bool false)] ?_
             refine at_then_normal ?_
             refine at_ret kf ?_
             obtain rfl := someE H
             refine at_backR [.bool false] (Γ) (rs := [.tmp 2]) kf (.cons (.tmp kf) .nil) (fun w hw => (Sat.less (.drop .here .refl) hw)) ?_
             exact ⟨rfl, rfl⟩
           ·replace H := bifF H h11
            refine sr 56 (.bool false) (run_eq (v := .bool (decide (((-1) : Int) ≤ p.ptr))) (fun _ => kf) (congrArg Value.bool h11)) ?_
            refine sa 57 ?_
            refine sa 58 ?_
            refine sa 59 ?_
            refine sp 60 (.bool false) ?_
            refine sp 61 (.bool false) ?_
            refine sa 62 ?_
            refine sa 63 ?_
            refine sa 64 ?_
            refine sp 65 (.bool false) ?_
            refine sp 66 (.bool false) ?_
            refine sa 67 ?_
            refine sa 68 ?_
            refine sa 69 ?_
            refine sp 70 (.bool false) ?_
            refine sp 71 (.bool false) ?_
            refine sa 72 ?_
            refine sa 73 ?_
            refine sa 74 ?_
            refine sa 75 ?_
            refine sp 76 (.bool false) ?_
            refine sp 2 (.bool false) ?_
            refine ops_end ?_
            refine ae [(2, .bool false)] ?_
            refine at_then_normal ?_
            refine at_ret kf ?_
            obtain rfl := someE H
            refine at_backR [.bool false] (Γ) (rs := [.tmp 2]) kf (.cons (.tmp kf) .nil) (fun w hw => (Sat.less (.drop .here .refl) hw)) ?_
            exact ⟨rfl, rfl⟩
          ·replace H := bifF H h10
           refine sr 51 (.bool false) (run_eq (v := .bool (decide (p.line < (8 : Int)))) (fun _ => kf) (congrArg Value.bool h10)) ?_
           refine sa 52 ?_
           refine sa 53 ?_
           refine sa 54 ?_
           refine sp 55 (.bool false) ?_
           refine sp 56 (.bool false) ?_
           refine sa 57 ?_
           refine sa 58 ?_
           refine sa 59 ?_
           refine sp 60 (.bool false) ?_
           refine sp 61 (.bool false) ?_
           refine sa 62 ?_
           refine sa 63 ?_
           refine sa 64 ?_
           refine sp 65 (.bool false) ?_
           refine sp 66 (.bool false) ?_
           refine sa 67 ?_
           refine sa 68 ?_
           refine sa 69 ?_
           refine sp 70 (.bool false) ?_
           refine sp 71 (.bool false) ?_
           refine sa 72 ?_
           refine sa 73 ?_
           refine sa 74 ?_
           refine sa 75 ?_
           refine sp 76 (.bool false) ?_
           refine sp 2 (.bool false) ?_
           refine ops_end ?_
           refine ae [(2, .bool false)] ?_
           refine at_then_normal ?_
           refine at_ret kf ?_
           obtain rfl := someE H
           refine at_backR [.bool false] (Γ) (rs := [.tmp 2]) kf (.cons (.tmp kf) .nil) (fun w hw => (Sat.less (.drop .here .refl) hw)) ?_
           exact ⟨rfl, rfl⟩
         ·replace H := bifF H h9
          refine sr 46 (.bool false) (run_eq (v := .bool (decide ((0 : Int) ≤ p.line))) (fun _ => kf) (congrArg Value.bool h9)) ?_
          refine sa 47 ?_
          refine sa 48 ?_
          refine sa 49 ?_
          refine sp 50 (.bool false) ?_
          refine sp 51 (.bool false) ?_
          refine sa 52 ?_
          refine sa 53 ?_
          refine sa 54 ?_
          refine sp 55 (.bool false) ?_
          refine sp 56 (.bool false) ?_
          refine sa 57 ?_
          refine sa 58 ?_
          refine sa 59 ?_
          refine sp 60 (.bool false) ?_
          refine sp 61 (.bool false) ?_
          refine sa 62 ?_
          refine sa 63 ?_
          refine sa 64 ?_
          refine sp 65 (.bool false) ?_
          refine sp 66 (.bool false) ?_
          refine sa 67 ?_
          refine sa 68 ?_
          refine sa 69 ?_
          refine sp 70 (.bool false) ?_
          refine sp 71 (.bool false) ?_
          refine sa 72 ?_
          refine sa 73 ?_
          refine sa 74 ?_
          refine sa 75 ?_
          refine sp 76 (.bool false) ?_
          refine sp 2 (.bool false) ?_
          refine ops_end ?_
          refine ae [(2, .bool false)] ?_
          refine at_then_normal ?_
          refine at_ret kf ?_
          obtain rfl := someE H
          refine at_backR [.bool false] (Γ) (rs := [.tmp 2]) kf (.cons (.tmp kf) .nil) (fun w hw => (Sat.less (.drop .here .refl) hw)) ?_
          exact ⟨rfl, rfl⟩
        ·replace H := bifF H h8
         refine sr 41 (.bool false) (run_eq (v := .bool (decide (p.id < (4096 : Int)))) (fun _ => kf) (congrArg Value.bool h8)) ?_
         refine sa 42 ?_
         refine sa 43 ?_
         refine sa 44 ?_
         refine sp 45 (.bool false) ?_
         refine sp 46 (.bool false) ?_
         refine sa 47 ?_
         refine sa 48 ?_
         refine sa 49 ?_
         refine sp 50 (.bool false) ?_
         refine sp 51 (.bool false) ?_
         refine sa 52 ?_
         refine sa 53 ?_
         refine sa 54 ?_
         refine sp 55 (.bool false) ?_
         refine sp 56 (.bool false) ?_
         refine sa 57 ?_
         refine sa 58 ?_
         refine sa 59 ?_
         refine sp 60 (.bool false) ?_
         refine sp 61 (.bool false) ?_
         refine sa 62 ?_
         refine sa 63 ?_
         refine sa 64 ?_
         refine sp 65 (.bool false) ?_
         refine sp 66 (.bool false) ?_
         refine sa 67 ?_
         refine sa 68 ?_
         refine sa 69 ?_
         refine sp 70 (.bool false) ?_
         refine sp 71 (.bool false) ?_
         refine sa 72 ?_
         refine sa 73 ?_
         refine sa 74 ?_
         refine sa 75 ?_
         refine sp 76 (.bool false) ?_
         refine sp 2 (.bool false) ?_
         refine ops_end ?_
         refine ae [(2, .bool false)] ?_
         refine at_then_normal ?_
         refine at_ret kf ?_
         obtain rfl := someE H
         refine at_backR [.bool false] (Γ) (rs := [.tmp 2]) kf (.cons (.tmp kf) .nil) (fun w hw => (Sat.less (.drop .here .refl) hw)) ?_
         exact ⟨rfl, rfl⟩
       ·replace H := bifF H h7
        refine sr 36 (.bool false) (run_eq (v := .bool (decide ((0 : Int) ≤ p.id))) (fun _ => kf) (congrArg Value.bool h7)) ?_
        refine sa 37 ?_
        refine sa 38 ?_
        refine sa 39 ?_
        refine sp 40 (.bool false) ?_
        refine sp 41 (.bool false) ?_
        refine sa 42 ?_
        refine sa 43 ?_
        refine sa 44 ?_
        refine sp 45 (.bool false) ?_
        refine sp 46 (.bool false) ?_
        refine sa 47 ?_
        refine sa 48 ?_
        refine sa 49 ?_
        refine sp 50 (.bool false) ?_
        refine sp 51 (.bool false) ?_
        refine sa 52 ?_
        refine sa 53 ?_
        refine sa 54 ?_
        refine sp 55 (.bool false) ?_
        refine sp 56 (.bool false) ?_
        refine sa 57 ?_
        refine sa 58 ?_
        refine sa 59 ?_
        refine sp 60 (.bool false) ?_
        refine sp 61 (.bool false) ?_
        refine sa 62 ?_
        refine sa 63 ?_
        refine sa 64 ?_
        refine sp 65 (.bool false) ?_
        refine sp 66 (.bool false) ?_
        refine sa 67 ?_
        refine sa 68 ?_
        refine sa 69 ?_
        refine sp 70 (.bool false) ?_
        refine sp 71 (.bool false) ?_
        refine sa 72 ?_
        refine sa 73 ?_
        refine sa 74 ?_
        refine sa 75 ?_
        refine sp 76 (.bool false) ?_
        refine sp 2 (.bool false) ?_
        refine ops_end ?_
        refine ae [(2, .bool false)] ?_
        refine at_then_normal ?_
        refine at_ret kf ?_
        obtain rfl := someE H
        refine at_backR [.bool false] (Γ) (rs := [.tmp 2]) kf (.cons (.tmp kf) .nil) (fun w hw => (Sat.less (.drop .here .refl) hw)) ?_
        exact ⟨rfl, rfl⟩
      ·replace H := bifF H h6
       refine sr 31 (.bool false) (run_eq (v := .bool (decide (p.dst < (6 : Int)))) (fun _ => kf) (congrArg Value.bool h6)) ?_
       refine sa 32 ?_
       refine sa 33 ?_
       refine sa 34 ?_
       refine sp 35 (.bool false) ?_
       refine sp 36 (.bool false) ?_
       refine sa 37 ?_
       refine sa 38 ?_
       refine sa 39 ?_
       refine sp 40 (.bool false) ?_
       refine sp 41 (.bool false) ?_
       refine sa 42 ?_
       refine sa 43 ?_
       refine sa 44 ?_
       refine sp 45 (.bool false) ?_
       refine sp 46 (.bool false) ?_
       refine sa 47 ?_
       refine sa 48 ?_
       refine sa 49 ?_
       refine sp 50 (.bool false) ?_
       refine sp 51 (.bool false) ?_
       refine sa 52 ?_
       refine sa 53 ?_
       refine sa 54 ?_
       refine sp 55 (.bool false) ?_
       refine sp 56 (.bool false) ?_
       refine sa 57 ?_
       refine sa 58 ?_
       refine sa 59 ?_
       refine sp 60 (.bool false) ?_
       refine sp 61 (.bool false) ?_
       refine sa 62 ?_
       refine sa 63 ?_
       refine sa 64 ?_
       refine sp 65 (.bool false) ?_
       refine sp 66 (.bool false) ?_
       refine sa 67 ?_
       refine sa 68 ?_
       refine sa 69 ?_
       refine sp 70 (.bool false) ?_
       refine sp 71 (.bool false) ?_
       refine sa 72 ?_
       refine sa 73 ?_
       refine sa 74 ?_
       refine sa 75 ?_
       refine sp 76 (.bool false) ?_
       refine sp 2 (.bool false) ?_
       refine ops_end ?_
       refine ae [(2, .bool false)] ?_
       refine at_then_normal ?_
       refine at_ret kf ?_
       obtain rfl := someE H
       refine at_backR [.bool false] (Γ) (rs := [.tmp 2]) kf (.cons (.tmp kf) .nil) (fun w hw => (Sat.less (.drop .here .refl) hw)) ?_
       exact ⟨rfl, rfl⟩
     ·replace H := bifF H h5
      refine sr 26 (.bool false) (run_eq (v := .bool (decide ((0 : Int) ≤ p.dst))) (fun _ => kf) (congrArg Value.bool h5)) ?_
      refine sa 27 ?_
      refine sa 28 ?_
      refine sa 29 ?_
      refine sp 30 (.bool false) ?_
      refine sp 31 (.bool false) ?_
      refine sa 32 ?_
      refine sa 33 ?_
      refine sa 34 ?_
      refine sp 35 (.bool false) ?_
      refine sp 36 (.bool false) ?_
      refine sa 37 ?_
      refine sa 38 ?_
      refine sa 39 ?_
      refine sp 40 (.bool false) ?_
      refine sp 41 (.bool false) ?_
      refine sa 42 ?_
      refine sa 43 ?_
      refine sa 44 ?_
      refine sp 45 (.bool false) ?_
      refine sp 46 (.bool false) ?_
      refine sa 47 ?_
      refine sa 48 ?_
      refine sa 49 ?_
      refine sp 50 (.bool false) ?_
      refine sp 51 (.bool false) ?_
      refine sa 52 ?_
      refine sa 53 ?_
      refine sa 54 ?_
      refine sp 55 (.bool false) ?_
      refine sp 56 (.bool false) ?_
      refine sa 57 ?_
      refine sa 58 ?_
      refine sa 59 ?_
      refine sp 60 (.bool false) ?_
      refine sp 61 (.bool false) ?_
      refine sa 62 ?_
      refine sa 63 ?_
      refine sa 64 ?_
      refine sp 65 (.bool false) ?_
      refine sp 66 (.bool false) ?_
      refine sa 67 ?_
      refine sa 68 ?_
      refine sa 69 ?_
      refine sp 70 (.bool false) ?_
      refine sp 71 (.bool false) ?_
      refine sa 72 ?_
      refine sa 73 ?_
      refine sa 74 ?_
      refine sa 75 ?_
      refine sp 76 (.bool false) ?_
      refine sp 2 (.bool false) ?_
      refine ops_end ?_
      refine ae [(2, .bool false)] ?_
      refine at_then_normal ?_
      refine at_ret kf ?_
      obtain rfl := someE H
      refine at_backR [.bool false] (Γ) (rs := [.tmp 2]) kf (.cons (.tmp kf) .nil) (fun w hw => (Sat.less (.drop .here .refl) hw)) ?_
      exact ⟨rfl, rfl⟩
    ·replace H := bifF H h4
     refine sr 21 (.bool false) (run_eq (v := .bool (decide (p.src < (6 : Int)))) (fun _ => kf) (congrArg Value.bool h4)) ?_
     refine sa 22 ?_
     refine sa 23 ?_
     refine sa 24 ?_
     refine sp 25 (.bool false) ?_
     refine sp 26 (.bool false) ?_
     refine sa 27 ?_
     refine sa 28 ?_
     refine sa 29 ?_
     refine sp 30 (.bool false) ?_
     refine sp 31 (.bool false) ?_
     refine sa 32 ?_
     refine sa 33 ?_
     refine sa 34 ?_
     refine sp 35 (.bool false) ?_
     refine sp 36 (.bool false) ?_
     refine sa 37 ?_
     refine sa 38 ?_
     refine sa 39 ?_
     refine sp 40 (.bool false) ?_
     refine sp 41 (.bool false) ?_
     refine sa 42 ?_
     refine sa 43 ?_
     refine sa 44 ?_
     refine sp 45 (.bool false) ?_
     refine sp 46 (.bool false) ?_
     refine sa 47 ?_
     refine sa 48 ?_
     refine sa 49 ?_
     refine sp 50 (.bool false) ?_
     refine sp 51 (.bool false) ?_
     refine sa 52 ?_
     refine sa 53 ?_
     refine sa 54 ?_
     refine sp 55 (.bool false) ?_
     refine sp 56 (.bool false) ?_
     refine sa 57 ?_
     refine sa 58 ?_
     refine sa 59 ?_
     refine sp 60 (.bool false) ?_
     refine sp 61 (.bool false) ?_
     refine sa 62 ?_
     refine sa 63 ?_
     refine sa 64 ?_
     refine sp 65 (.bool false) ?_
     refine sp 66 (.bool false) ?_
     refine sa 67 ?_
     refine sa 68 ?_
     refine sa 69 ?_
     refine sp 70 (.bool false) ?_
     refine sp 71 (.bool false) ?_
     refine sa 72 ?_
     refine sa 73 ?_
     refine sa 74 ?_
     refine sa 75 ?_
     refine sp 76 (.bool false) ?_
     refine sp 2 (.bool false) ?_
     refine ops_end ?_
     refine ae [(2, .bool false)] ?_
     refine at_then_normal ?_
     refine at_ret kf ?_
     obtain rfl := someE H
     refine at_backR [.bool false] (Γ) (rs := [.tmp 2]) kf (.cons (.tmp kf) .nil) (fun w hw => (Sat.less (.drop .here .refl) hw)) ?_
     exact ⟨rfl, rfl⟩
   ·replace H := bifF H h3
    refine sr 16 (.bool false) (run_eq (v := .bool (decide ((0 : Int) ≤ p.src))) (fun _ => kf) (congrArg Value.bool h3)) ?_
    refine sa 17 ?_
    refine sa 18 ?_
    refine sa 19 ?_
    refine sp 20 (.bool false) ?_
    refine sp 21 (.bool false) ?_
    refine sa 22 ?_
    refine sa 23 ?_
    refine sa 24 ?_
    refine sp 25 (.bool false) ?_
    refine sp 26 (.bool false) ?_
    refine sa 27 ?_
    refine sa 28 ?_
    refine sa 29 ?_
    refine sp 30 (.bool false) ?_
    refine sp 31 (.bool false) ?_
    refine sa 32 ?_
    refine sa 33 ?_
    refine sa 34 ?_
    refine sp 35 (.bool false) ?_
    refine sp 36 (.bool false) ?_
    refine sa 37 ?_
    refine sa 38 ?_
    refine sa 39 ?_
    refine sp 40 (.bool false) ?_
    refine sp 41 (.bool false) ?_
    refine sa 42 ?_
    refine sa 43 ?_
    refine sa 44 ?_
    refine sp 45 (.bool false) ?_
    refine sp 46 (.bool false) ?_
    refine sa 47 ?_
    refine sa 48 ?_
    refine sa 49 ?_
    refine sp 50 (.bool false) ?_
    refine sp 51 (.bool false) ?_
    refine sa 52 ?_
    refine sa 53 ?_
    refine sa 54 ?_
    refine sp 55 (.bool false) ?_
    refine sp 56 (.bool false) ?_
    refine sa 57 ?_
    refine sa 58 ?_
    refine sa 59 ?_
    refine sp 60 (.bool false) ?_
    refine sp 61 (.bool false) ?_
    refine sa 62 ?_
    refine sa 63 ?_
    refine sa 64 ?_
    refine sp 65 (.bool false) ?_
    refine sp 66 (.bool false) ?_
    refine sa 67 ?_
    refine sa 68 ?_
    refine sa 69 ?_
    refine sp 70 (.bool false) ?_
    refine sp 71 (.bool false) ?_
    refine sa 72 ?_
    refine sa 73 ?_
    refine sa 74 ?_
    refine sa 75 ?_
    refine sp 76 (.bool false) ?_
    refine sp 2 (.bool false) ?_
    refine ops_end ?_
    refine ae [(2, .bool false)] ?_
    refine at_then_normal ?_
    refine at_ret kf ?_
    obtain rfl := someE H
    refine at_backR [.bool false] (Γ) (rs := [.tmp 2]) kf (.cons (.tmp kf) .nil) (fun w hw => (Sat.less (.drop .here .refl) hw)) ?_
    exact ⟨rfl, rfl⟩
  ·replace H := bifF H h2
   refine sr 11 (.bool false) (run_eq (v := .bool (decide (p.kind ≤ (9 : Int)))) (fun _ => kf) (congrArg Value.bool h2)) ?_
   refine sa 12 ?_
   refine sa 13 ?_
   refine sa 14 ?_
   refine sp 15 (.bool false) ?_
   refine sp 16 (.bool false) ?_
   refine sa 17 ?_
   refine sa 18 ?_
   refine sa 19 ?_
   refine sp 20 (.bool false) ?_
   refine sp 21 (.bool false) ?_
   refine sa 22 ?_
   refine sa 23 ?_
   refine sa 24 ?_
   refine sp 25 (.bool false) ?_
   refine sp 26 (.bool false) ?_
   refine sa 27 ?_
   refine sa 28 ?_
   refine sa 29 ?_
   refine sp 30 (.bool false) ?_
   refine sp 31 (.bool false) ?_
   refine sa 32 ?_
   refine sa 33 ?_
   refine sa 34 ?_
   refine sp 35 (.bool false) ?_
   refine sp 36 (.bool false) ?_
   refine sa 37 ?_
   refine sa 38 ?_
   refine sa 39 ?_
   refine sp 40 (.bool false) ?_
   refine sp 41 (.bool false) ?_
   refine sa 42 ?_
   refine sa 43 ?_
   refine sa 44 ?_
   refine sp 45 (.bool false) ?_
   refine sp 46 (.bool false) ?_
   refine sa 47 ?_
   refine sa 48 ?_
   refine sa 49 ?_
   refine sp 50 (.bool false) ?_
   refine sp 51 (.bool false) ?_
   refine sa 52 ?_
   refine sa 53 ?_
   refine sa 54 ?_
   refine sp 55 (.bool false) ?_
   refine sp 56 (.bool false) ?_
   refine sa 57 ?_
   refine sa 58 ?_
   refine sa 59 ?_
   refine sp 60 (.bool false) ?_
   refine sp 61 (.bool false) ?_
   refine sa 62 ?_
   refine sa 63 ?_
   refine sa 64 ?_
   refine sp 65 (.bool false) ?_
   refine sp 66 (.bool false) ?_
   refine sa 67 ?_
   refine sa 68 ?_
   refine sa 69 ?_
   refine sp 70 (.bool false) ?_
   refine sp 71 (.bool false) ?_
   refine sa 72 ?_
   refine sa 73 ?_
   refine sa 74 ?_
   refine sa 75 ?_
   refine sp 76 (.bool false) ?_
   refine sp 2 (.bool false) ?_
   refine ops_end ?_
   refine ae [(2, .bool false)] ?_
   refine at_then_normal ?_
   refine at_ret kf ?_
   obtain rfl := someE H
   refine at_backR [.bool false] (Γ) (rs := [.tmp 2]) kf (.cons (.tmp kf) .nil) (fun w hw => (Sat.less (.drop .here .refl) hw)) ?_
   exact ⟨rfl, rfl⟩
 ·replace H := bifF H h1
  refine sr 6 (.bool false) (run_eq (v := .bool (decide ((1 : Int) ≤ p.kind))) (fun _ => kf) (congrArg Value.bool h1)) ?_
  refine sa 7 ?_
  refine sa 8 ?_
  refine sa 9 ?_
  refine sp 10 (.bool false) ?_
  refine sp 11 (.bool false) ?_
  refine sa 12 ?_
  refine sa 13 ?_
  refine sa 14 ?_
  refine sp 15 (.bool false) ?_
  refine sp 16 (.bool false) ?_
  refine sa 17 ?_
  refine sa 18 ?_
  refine sa 19 ?_
  refine sp 20 (.bool false) ?_
  refine sp 21 (.bool false) ?_
  refine sa 22 ?_
  refine sa 23 ?_
  refine sa 24 ?_
  refine sp 25 (.bool false) ?_
  refine sp 26 (.bool false) ?_
  refine sa 27 ?_
  refine sa 28 ?_
  refine sa 29 ?_
  refine sp 30 (.bool false) ?_
  refine sp 31 (.bool false) ?_
  refine sa 32 ?_
  refine sa 33 ?_
  refine sa 34 ?_
  refine sp 35 (.bool false) ?_
  refine sp 36 (.bool false) ?_
  refine sa 37 ?_
  refine sa 38 ?_
  refine sa 39 ?_
  refine sp 40 (.bool false) ?_
  refine sp 41 (.bool false) ?_
  refine sa 42 ?_
  refine sa 43 ?_
  refine sa 44 ?_
  refine sp 45 (.bool false) ?_
  refine sp 46 (.bool false) ?_
  refine sa 47 ?_
  refine sa 48 ?_
  refine sa 49 ?_
  refine sp 50 (.bool false) ?_
  refine sp 51 (.bool false) ?_
  refine sa 52 ?_
  refine sa 53 ?_
  refine sa 54 ?_
  refine sp 55 (.bool false) ?_
  refine sp 56 (.bool false) ?_
  refine sa 57 ?_
  refine sa 58 ?_
  refine sa 59 ?_
  refine sp 60 (.bool false) ?_
  refine sp 61 (.bool false) ?_
  refine sa 62 ?_
  refine sa 63 ?_
  refine sa 64 ?_
  refine sp 65 (.bool false) ?_
  refine sp 66 (.bool false) ?_
  refine sa 67 ?_
  refine sa 68 ?_
  refine sa 69 ?_
  refine sp 70 (.bool false) ?_
  refine sp 71 (.bool false) ?_
  refine sa 72 ?_
  refine sa 73 ?_
  refine sa 74 ?_
  refine sa 75 ?_
  refine sp 76 (.bool false) ?_
  refine sp 2 (.bool false) ?_
  refine ops_end ?_
  refine ae [(2, .bool false)] ?_
  refine at_then_normal ?_
  refine at_ret kf ?_
  obtain rfl := someE H
  refine at_backR [.bool false] (Γ) (rs := [.tmp 2]) kf (.cons (.tmp kf) .nil) (fun w hw => (Sat.less (.drop .here .refl) hw)) ?_
  exact ⟨rfl, rfl⟩
def rsamepS_k1 (e1_72 : Int) : Option (Bool) :=
 some true
def rsamepS_l1 (a : PktS) (b : PktS) (k1 : Int → Option (Bool)) : Nat → Int → Option (Bool)
 | 0 => fun _ => none
 | m + 1 => fun v1_72 => (bif decide (v1_72 < (((List.length a.data) : Nat) : Int)) then chk (0 ≤ v1_72 ∧ v1_72 < ((a.data.length : Nat) : Int)) (chk (0 ≤ v1_72 ∧ v1_72 < ((b.data.length : Nat) : Int)) ((bif !(decide ((nth a.data v1_72) = (nth b.data v1_72))) then some false else chk (inR (v1_72 + (1 : Int))) ((rsamepS_l1 a b k1 m) (v1_72 + (1 : Int)))))) else k1 v1_72)
def rsamepS_j0 (a : PktS) (b : PktS) (e0_68 : Bool) : Option (Bool) :=
 (bif e0_68 then some false else rsamepS_l1 a b (rsamepS_k1 ) 64 0)
def rsamepS (a : PktS) (b : PktS) : Option (Bool) :=
 (bif !(decide (a.kind = b.kind)) then rsamepS_j0 a b true else (bif !(decide (a.src = b.src)) then rsamepS_j0 a b true else (bif !(decide (a.dst = b.dst)) then rsamepS_j0 a b true else (bif !(decide (a.id = b.id)) then rsamepS_j0 a b true else (bif !(decide (a.line = b.line)) then rsamepS_j0 a b true else (bif !(decide (a.ptr = b.ptr)) then rsamepS_j0 a b true else (bif !(decide (a.state = b.state)) then rsamepS_j0 a b true else (bif !(a.flag == b.flag) then rsamepS_j0 a b true else rsamepS_j0 a b (!(decide ((((List.length a.data) : Nat) : Int) = (((List.length b.data) : Nat) : Int))))))))))))
noncomputable def C18 (p : List Nat) : Code := codeAt (bodyOf Try.f18) p
set_option maxRecDepth 100000 in
set_option maxHeartbeats 8000000 in
theorem RSamePF_tr {W0 : World} {Γ : List Asn} (aa : Option Addr) (acap : Nat) (a : PktS) (ba : Option Addr) (bcap : Nat) (b : PktS) (hraa : Reads W0 Γ aa (ints a.data)) (hrba : Reads W0 Γ ba (ints b.data)) (y : Bool) (H : rsamepS a b = some y) : Tr Try.prog 18 #[.agg #[.int .i64 a.kind, .int .i64 a.src, .int .i64 a.dst, .int .i64 a.id, .int .i64 a.line, .int .i64 a.ptr, .int .i64 a.state, .bool a.flag, .slice aa (List.length a.data) acap], .agg #[.int .i64 b.kind, .int .i64 b.src, .int .i64 b.dst, .int .i64 b.id, .int .i64 b.line, .int .i64 b.ptr, .int .i64 b.state, .bool b.flag, .slice ba (List.length b.data) bcap]] W0 (Γ) (fun r Δ => r = .bool y ∧ Δ = Γ) := by
 unfold rsamepS at H
 refine Tr.enter (fn := Try.f18) (c := C18 []) (args := [.agg #[.int .i64 a.kind, .int .i64 a.src, .int .i64 a.dst, .int .i64 a.id, .int .i64 a.line, .int .i64 a.ptr, .int .i64 a.state, .bool a.flag, .slice aa (List.length a.data) acap], .agg #[.int .i64 b.kind, .int .i64 b.src, .int .i64 b.dst, .int .i64 b.id, .int .i64 b.line, .int .i64 b.ptr, .int .i64 b.state, .bool b.flag, .slice ba (List.length b.data) bcap]]) 87 Try.func18 kf kf ?_
 refine ae [(0, .agg #[.int .i64 a.kind, .int .i64 a.src, .int .i64 a.dst, .int .i64 a.id, .int .i64 a.line, .int .i64 a.ptr, .int .i64 a.state, .bool a.flag, .slice aa (List.length a.data) acap]), (1, .agg #[.int .i64 b.kind, .int .i64 b.src, .int .i64 b.dst, .int .i64 b.id, .int .i64 b.line, .int .i64 b.ptr, .int .i64 b.state, .bool b.flag, .slice ba (List.length b.data) bcap])] ?_
 refine aq (x := C18 [0]) (y := C18 [1]) ?_
 refine ar (id := 0) 3 ?_
 refine s_step 2 kf kf (st_new (T := 32) (cells := #[.int .i64 a.kind, .int .i64 a.src, .int .i64 a.dst, .int .i64 a.id, .int .i64 a.line, .int .i64 a.ptr, .int .i64 a.state, .bool a.flag, .slice aa (List.length a.data) acap]) (fun a => .pointer (some a)) (fun _ => kf)) ?_
 rintro _ _ ⟨b0_0, rfl, rfl⟩
 refine s_step 3 kf kf (st_new (T := 32) (cells := #[.int .i64 b.kind, .int .i64 b.src, .int .i64 b.dst, .int .i64 b.id, .int .i64 b.line, .int .i64 b.ptr, .int .i64 b.state, .bool b.flag, .slice ba (List.length b.data) bcap]) (fun a => .pointer (some a)) (fun _ => kf)) ?_
 rintro _ _ ⟨b0_1, rfl, rfl⟩
 refine sp 4 (.bool false) ?_
 refine ops_end ?_
 refine ae [(2, .pointer (some ⟨b0_0, 0, none⟩)), (3, .pointer (some ⟨b0_1, 0, none⟩))] ?_
 refine at_then_normal ?_
 refine aq (x := C18 [1,0]) (y := C18 [1,1]) ?_
 refine at_seq_join (x := C18 [1,0,0]) (y := C18 [1,0,1]) (fun ff ΔΔ => ∃ (e0_68 : Bool), rsamepS_j0 a b e0_68 = some y ∧ ff = [(2, .pointer (some ⟨b0_0, 0, none⟩)), (3, .pointer (some ⟨b0_1, 0, none⟩)), (68, .bool e0_68)] ∧ (Asn.own b0_1 (.cells #[.int .i64 b.kind, .int .i64 b.src, .int .i64 b.dst, .int .i64 b.id, .int .i64 b.line, .int .i64 b.ptr, .int .i64 b.state, .bool b.flag, .slice ba (List.length b.data) bcap] 32 (0, 0))) :: (Asn.own b0_0 (.cells #[.int .i64 a.kind, .int .i64 a.src, .int .i64 a.dst, .int .i64 a.id, .int .i64 a.line, .int .i64 a.ptr, .int .i64 a.state, .bool a.flag, .slice aa (List.length a.data) acap] 32 (0, 0))) :: Γ = ΔΔ) kf ?_ ?_
 ·rintro _ _ ⟨e0_68, H, rfl, rfl⟩
  rw [rsamepS_j0] at H
  rcases Bool.eq_false_or_eq_true (e0_68) with h1 | h1
  ·replace H := bifT H h1
   refine at_true (t := e0_68) (x := C18 [1,0,1,0]) (y := C18 [1,0,1,1]) (o := .tmp 68) kf kf kf h1 ?_
   refine aq (x := C18 [1,0,1,0,0]) (y := C18 [1,0,1,0,1]) ?_
   refine ar (id := 2) 1 ?_
   refine sp 4 (.bool false) ?_
   refine ops_end ?_
   refine ae [(4, .bool false)] ?_
   refine at_then_normal ?_
   refine at_ret kf ?_
   refine at_then_ret ?_
   obtain rfl := someE H
   refine at_backR [.bool false] (Γ) (rs := [.tmp 4]) kf (.cons (.tmp kf) .nil) (fun w hw => (Sat.less (.drop .here (.drop .here .refl)) hw)) ?_
   exact ⟨rfl, rfl⟩
  ·replace H := bifF H h1
   refine at_false (t := e0_68) (x := C18 [1,0,1,0]) (y := C18 [1,0,1,1]) (o := .tmp 68) kf kf kf h1 ?_
   refine at_skip kf ?_
   refine at_then_normal ?_
   refine aq (x := C18 [1,1,0]) (y := C18 [1,1,1]) ?_
   refine aq (x := C18 [1,1,0,0]) (y := C18 [1,1,0,1]) ?_
   refine ar (id := 3) 4 ?_
   refine sp 69 (.pointer (some ⟨b0_0, 8, none⟩)) ?_
   refine sl 70 (.slice aa (List.length a.data) acap) (load1 (off := 8) (fun _ => kf) (holds_own (.there .here)) kf) ?_
   refine sp 71 (.int .i64 (((List.length a.data) : Nat) : Int)) ?_
   refine sp 72 (.int .i64 (0)) ?_
   refine ops_end ?_
   refine ae [(2, .pointer (some ⟨b0_0, 0, none⟩)), (3, .pointer (some ⟨b0_1, 0, none⟩)), (71, .int .i64 (((List.length a.data) : Nat) : Int)), (72, .int .i64 (0))] ?_
   refine at_then_normal ?_
   refine at_block (i := 0) (x := C18 [1,1,0,1,0]) kf ?_
   refine At.conv (Γ' := (Asn.own b0_1 (.cells #[.int .i64 b.kind, .int .i64 b.src, .int .i64 b.dst, .int .i64 b.id, .int .i64 b.line, .int .i64 b.ptr, .int .i64 b.state, .bool b.flag, .slice ba (List.length b.data) bcap] 32 (0, 0))) :: (Asn.own b0_0 (.cells #[.int .i64 a.kind, .int .i64 a.src, .int .i64 a.dst, .int .i64 a.id, .int .i64 a.line, .int .i64 a.ptr, .int .i64 a.state, .bool a.flag, .slice aa (List.length a.data) acap] 32 (0, 0))) :: Γ) (fun w hw => (Sat.less (.take .here (.take .here .refl)) hw)) ?_
   refine at_loopR (x := C18 [1,1,0,1,0,0]) (fun mm ff ΔΔ => ∃ (fuel : Nat) (v1_72 : Int), rsamepS_l1 a b (rsamepS_k1 ) fuel v1_72 = some y ∧ fuel = mm ∧ ff = [(2, .pointer (some ⟨b0_0, 0, none⟩)), (3, .pointer (some ⟨b0_1, 0, none⟩)), (71, .int .i64 (((List.length a.data) : Nat) : Int)), (72, .int .i64 v1_72)] ∧ (Asn.own b0_1 (.cells #[.int .i64 b.kind, .int .i64 b.src, .int .i64 b.dst, .int .i64 b.id, .int .i64 b.line, .int .i64 b.ptr, .int .i64 b.state, .bool b.flag, .slice ba (List.length b.data) bcap] 32 (0, 0))) :: (Asn.own b0_0 (.cells #[.int .i64 a.kind, .int .i64 a.src, .int .i64 a.dst, .int .i64 a.id, .int .i64 a.line, .int .i64 a.ptr, .int .i64 a.state, .bool a.flag, .slice aa (List.length a.data) acap] 32 (0, 0))) :: Γ = ΔΔ) (64) kf [(2, .pointer (some ⟨b0_0, 0, none⟩)), (3, .pointer (some ⟨b0_1, 0, none⟩)), (71, .int .i64 (((List.length a.data) : Nat) : Int)), (72, .int .i64 0)] ⟨kf, kf, kf, kf, trivial⟩ ⟨64, 0, H, rfl, rfl, rfl⟩ ?_
   rintro _ _ _ ⟨fuel1, v1_72, H, rfl, rfl, rfl⟩
   rcases fuel1 with _ | fuel1
   ·exact (noneE H).elim
   rw [rsamepS_l1] at H
   refine aq (x := C18 [1,1,0,1,0,0,0]) (y := C18 [1,1,0,1,0,0,1]) ?_
   refine ar (id := 4) 1 ?_
   refine sp 73 (.bool (decide (v1_72 < (((List.length a.data) : Nat) : Int)))) ?_
   refine ops_end ?_
   refine ae [(2, .pointer (some ⟨b0_0, 0, none⟩)), (3, .pointer (some ⟨b0_1, 0, none⟩)), (71, .int .i64 (((List.length a.data) : Nat) : Int)), (72, .int .i64 v1_72), (73, .bool (decide (v1_72 < (((List.length a.data) : Nat) : Int))))] ?_
   refine at_then_normal ?_
   refine aq (x := C18 [1,1,0,1,0,0,1,0]) (y := C18 [1,1,0,1,0,0,1,1]) ?_
   rcases Bool.eq_false_or_eq_true (decide (v1_72 < (((List.length a.data) : Nat) : Int))) with h2 | h2
   ·replace H := bifT H h2
    refine at_true (t := decide (v1_72 < (((List.length a.data) : Nat) : Int))) (x := C18 [1,1,0,1,0,0,1,0,0]) (y := C18 [1,1,0,1,0,0,1,0,1]) (o := .tmp 73) kf kf kf h2 ?_
    refine at_skip kf ?_
    refine at_then_normal ?_
    refine aq (x := C18 [1,1,0,1,0,0,1,1,0]) (y := C18 [1,1,0,1,0,0,1,1,1]) ?_
    refine at_block (i := 1) (x := C18 [1,1,0,1,0,0,1,1,0,0]) kf ?_
    refine aq (x := C18 [1,1,0,1,0,0,1,1,0,0,0]) (y := C18 [1,1,0,1,0,0,1,1,0,0,1]) ?_
    refine ar (id := 5) 2 ?_
    refine sp 74 (.int .i64 v1_72) ?_
    refine sp 5 (.int .i64 v1_72) ?_
    refine ops_end ?_
    refine ae [(2, .pointer (some ⟨b0_0, 0, none⟩)), (3, .pointer (some ⟨b0_1, 0, none⟩)), (5, .int .i64 v1_72), (71, .int .i64 (((List.length a.data) : Nat) : Int)), (72, .int .i64 v1_72)] ?_
    refine at_then_normal ?_
    refine aq (x := C18 [1,1,0,1,0,0,1,1,0,0,1,0]) (y := C18 [1,1,0,1,0,0,1,1,0,0,1,1]) ?_
    refine at_region_draw (id := 6) kf kf ?_
    refine dp 0 75 (.pointer (some ⟨b0_0, 8, none⟩)) ?_
    refine dl 1 76 (.slice aa (List.length a.data) acap) (load1 (off := 8) (fun _ => kf) (holds_own (.there .here)) kf) ?_
    refine dp 2 77 (.int .i64 v1_72) ?_
    obtain ⟨hc6_3_0, H⟩ := chkE H
    refine reads_at_draw (Reads.conv (fun w hw => hw.less (.drop .here (.drop .here .refl))) hraa) (by have := hc6_3_0; omega) ?_
    intro bb1 oo1 ha1
    refine d_pure 3 78 (.pointer (some ⟨bb1, oo1 + ((v1_72).toNat * 1 + 0), none⟩)) kf kf kf (index_at (t := 22) (sz := 1) (E := 3) (a := aa) (m := (List.length a.data)) (c := acap) (b := bb1) (off := oo1) (i := (v1_72).toNat) (tinfo 3) (fun _ => kf) kf kf kf ha1 (idx_cast hc6_3_0) (idx_nat hc6_3_0) rfl) ?_
    refine dl 4 79 (.int .i64 (nth a.data v1_72)) (load1_at (off := oo1 + ((v1_72).toNat * 1 + 0)) (v := .int .i64 (nth a.data v1_72)) (fun _ => kf) rfl (reads_cell (k := 1) (Reads.conv (fun w hw => hw.less (.drop .here (.drop .here .refl))) hraa) (ints_rows _) ha1 (nth_row hc6_3_0) (show [(.int .i64 (nth a.data v1_72) : Value)][0]? = some _ from rfl))) ?_
    refine dp 5 80 (.pointer (some ⟨b0_1, 8, none⟩)) ?_
    refine dl 6 81 (.slice ba (List.length b.data) bcap) (load1 (off := 8) (fun _ => kf) (holds_own .here) kf) ?_
    refine dp 7 82 (.int .i64 v1_72) ?_
    obtain ⟨hc6_8_0, H⟩ := chkE H
    refine reads_at_draw (Reads.conv (fun w hw => hw.less (.drop .here (.drop .here .refl))) hrba) (by have := hc6_8_0; omega) ?_
    intro bb2 oo2 ha2
    refine d_pure 8 83 (.pointer (some ⟨bb2, oo2 + ((v1_72).toNat * 1 + 0), none⟩)) kf kf kf (index_at (t := 22) (sz := 1) (E := 3) (a := ba) (m := (List.length b.data)) (c := bcap) (b := bb2) (off := oo2) (i := (v1_72).toNat) (tinfo 3) (fun _ => kf) kf kf kf ha2 (idx_cast hc6_8_0) (idx_nat hc6_8_0) rfl) ?_
    refine dl 9 84 (.int .i64 (nth b.data v1_72)) (load1_at (off := oo2 + ((v1_72).toNat * 1 + 0)) (v := .int .i64 (nth b.data v1_72)) (fun _ => kf) rfl (reads_cell (k := 1) (Reads.conv (fun w hw => hw.less (.drop .here (.drop .here .refl))) hrba) (ints_rows _) ha2 (nth_row hc6_8_0) (show [(.int .i64 (nth b.data v1_72) : Value)][0]? = some _ from rfl))) ?_
    refine dp 10 85 (.bool (!(decide ((nth a.data v1_72) = (nth b.data v1_72))))) ?_
    refine draw_end kf ?_
    refine ae [(2, .pointer (some ⟨b0_0, 0, none⟩)), (3, .pointer (some ⟨b0_1, 0, none⟩)), (71, .int .i64 (((List.length a.data) : Nat) : Int)), (72, .int .i64 v1_72), (85, .bool (!(decide ((nth a.data v1_72) = (nth b.data v1_72)))))] ?_
    refine at_then_normal ?_
    rcases Bool.eq_false_or_eq_true (!(decide ((nth a.data v1_72) = (nth b.data v1_72)))) with h3 | h3
    ·replace H := bifT H h3
     refine at_true (t := !(decide ((nth a.data v1_72) = (nth b.data v1_72)))) (x := C18 [1,1,0,1,0,0,1,1,0,0,1,1,0]) (y := C18 [1,1,0,1,0,0,1,1,0,0,1,1,1]) (o := .tmp 85) kf kf kf h3 ?_
     refine aq (x := C18 [1,1,0,1,0,0,1,1,0,0,1,1,0,0]) (y := C18 [1,1,0,1,0,0,1,1,0,0,1,1,0,1]) ?_
     refine ar (id := 7) 1 ?_
     refine sp 4 (.bool false) ?_
     refine ops_end ?_
     refine ae [(4, .bool false)] ?_
     refine at_then_normal ?_
     refine at_ret kf ?_
     refine at_in_ret ?_
     refine at_then_ret ?_
     refine at_then_ret ?_
     refine at_in_ret ?_
     refine at_then_ret ?_
     obtain rfl := someE H
     refine at_backR [.bool false] (Γ) (rs := [.tmp 4]) kf (.cons (.tmp kf) .nil) (fun w hw => (Sat.less (.drop .here (.drop .here .refl)) hw)) ?_
     exact ⟨rfl, rfl⟩
    ·replace H := bifF H h3
     refine at_false (t := !(decide ((nth a.data v1_72) = (nth b.data v1_72)))) (x := C18 [1,1,0,1,0,0,1,1,0,0,1,1,0]) (y := C18 [1,1,0,1,0,0,1,1,0,0,1,1,1]) (o := .tmp 85) kf kf kf h3 ?_
     refine at_skip kf ?_
     refine at_in_normal ?_
     refine at_then_normal ?_
     refine ar (id := 8) 2 ?_
     obtain ⟨hc8_0_0, H⟩ := chkE H
     refine sr 86 (.int .i64 (v1_72 + (1 : Int))) (run_eq (v := .int .i64 (IntKind.i64.wrap (v1_72 + (1 : Int)))) (fun _ => kf) (by rw [inR.wrap hc8_0_0])) ?_
     refine sp 72 (.int .i64 (v1_72 + (1 : Int))) ?_
     refine ops_end ?_
     refine ae [(2, .pointer (some ⟨b0_0, 0, none⟩)), (3, .pointer (some ⟨b0_1, 0, none⟩)), (71, .int .i64 (((List.length a.data) : Nat) : Int)), (72, .int .i64 (v1_72 + (1 : Int)))] ?_
     refine at_round_normal ?_
     exact at_roundR fuel1 [(2, .pointer (some ⟨b0_0, 0, none⟩)), (3, .pointer (some ⟨b0_1, 0, none⟩)), (71, .int .i64 (((List.length a.data) : Nat) : Int)), (72, .int .i64 (v1_72 + (1 : Int)))] ((Asn.own b0_1 (.cells #[.int .i64 b.kind, .int .i64 b.src, .int .i64 b.dst, .int .i64 b.id, .int .i64 b.line, .int .i64 b.ptr, .int .i64 b.state, .bool b.flag, .slice ba (List.length b.data) bcap] 32 (0, 0))) :: (Asn.own b0_0 (.cells #[.int .i64 a.kind, .int .i64 a.src, .int .i64 a.dst, .int .i64 a.id, .int .i64 a.line, .int .i64 a.ptr, .int .i64 a.state, .bool a.flag, .slice aa (List.length a.data) acap] 32 (0, 0))) :: Γ) (Nat.lt_succ_self _) ⟨kf, kf, kf, kf, trivial⟩ (fun w hw => (Sat.less (.take .here (.take .here .refl)) hw)) ⟨fuel1, v1_72 + (1 : Int), H, rfl, rfl, rfl⟩
   ·replace H := bifF H h2
    refine at_false (t := decide (v1_72 < (((List.length a.data) : Nat) : Int))) (x := C18 [1,1,0,1,0,0,1,0,0]) (y := C18 [1,1,0,1,0,0,1,0,1]) (o := .tmp 73) kf kf kf h2 ?_
    refine at_exit (i := 0) kf ?_
    refine at_then_exit ?_
    refine at_then_exit ?_
    rw [rsamepS_k1] at H
    refine ae [(2, .pointer (some ⟨b0_0, 0, none⟩)), (3, .pointer (some ⟨b0_1, 0, none⟩)), (71, .int .i64 (((List.length a.data) : Nat) : Int)), (72, .int .i64 v1_72)] ?_
    refine At.conv (Γ' := (Asn.own b0_1 (.cells #[.int .i64 b.kind, .int .i64 b.src, .int .i64 b.dst, .int .i64 b.id, .int .i64 b.line, .int .i64 b.ptr, .int .i64 b.state, .bool b.flag, .slice ba (List.length b.data) bcap] 32 (0, 0))) :: (Asn.own b0_0 (.cells #[.int .i64 a.kind, .int .i64 a.src, .int .i64 a.dst, .int .i64 a.id, .int .i64 a.line, .int .i64 a.ptr, .int .i64 a.state, .bool a.flag, .slice aa (List.length a.data) acap] 32 (0, 0))) :: Γ) (fun w hw => (Sat.less (.take .here (.take .here .refl)) hw)) ?_
    refine at_in_here ?_
    refine at_then_normal ?_
    refine aq (x := C18 [1,1,1,0]) (y := C18 [1,1,1,1]) ?_
    refine ar (id := 9) 1 ?_
    refine sp 4 (.bool true) ?_
    refine ops_end ?_
    refine ae [(4, .bool true)] ?_
    refine at_then_normal ?_
    refine at_ret kf ?_
    obtain rfl := someE H
    refine at_backR [.bool true] (Γ) (rs := [.tmp 4]) kf (.cons (.tmp kf) .nil) (fun w hw => (Sat.less (.drop .here (.drop .here .refl)) hw)) ?_
    exact ⟨rfl, rfl⟩
 ·refine ar (id := 1) 63 ?_
  refine sp 6 (.pointer (some ⟨b0_0, 0, none⟩)) ?_
  refine sl 7 (.int .i64 a.kind) (load1 (off := 0) (fun _ => kf) (holds_own (.there .here)) kf) ?_
  refine sp 8 (.pointer (some ⟨b0_1, 0, none⟩)) ?_
  refine sl 9 (.int .i64 b.kind) (load1 (off := 0) (fun _ => kf) (holds_own .here) kf) ?_
  refine sp 10 (.bool (!(decide (a.kind = b.kind)))) ?_
  rcases Bool.eq_false_or_eq_true (!(decide (a.kind = b.kind))) with h4 | h4
  ·replace H := bifT H h4
   refine sr 11 (.bool true) (run_eq (v := .bool (!(decide (a.kind = b.kind)))) (fun _ => kf) (congrArg Value.bool h4)) ?_
   refine sa 12 ?_
   refine sa 13 ?_
   refine sa 14 ?_
   refine sa 15 ?_
   refine sa 16 ?_
   refine sp 17 (.bool true) ?_
   refine sp 18 (.bool true) ?_
   refine sa 19 ?_
   refine sa 20 ?_
   refine sa 21 ?_
   refine sa 22 ?_
   refine sa 23 ?_
   refine sp 24 (.bool true) ?_
   refine sp 25 (.bool true) ?_
   refine sa 26 ?_
   refine sa 27 ?_
   refine sa 28 ?_
   refine sa 29 ?_
   refine sa 30 ?_
   refine sp 31 (.bool true) ?_
   refine sp 32 (.bool true) ?_
   refine sa 33 ?_
   refine sa 34 ?_
   refine sa 35 ?_
   refine sa 36 ?_
   refine sa 37 ?_
   refine sp 38 (.bool true) ?_
   refine sp 39 (.bool true) ?_
   refine sa 40 ?_
   refine sa 41 ?_
   refine sa 42 ?_
   refine sa 43 ?_
   refine sa 44 ?_
   refine sp 45 (.bool true) ?_
   refine sp 46 (.bool true) ?_
   refine sa 47 ?_
   refine sa 48 ?_
   refine sa 49 ?_
   refine sa 50 ?_
   refine sa 51 ?_
   refine sp 52 (.bool true) ?_
   refine sp 53 (.bool true) ?_
   refine sa 54 ?_
   refine sa 55 ?_
   refine sa 56 ?_
   refine sa 57 ?_
   refine sa 58 ?_
   refine sp 59 (.bool true) ?_
   refine sp 60 (.bool true) ?_
   refine sa 61 ?_
   refine sa 62 ?_
   refine sa 63 ?_
   refine sa 64 ?_
   refine sa 65 ?_
   refine sa 66 ?_
   refine sa 67 ?_
   refine sp 68 (.bool true) ?_
   refine ops_end ?_
   refine ae [(2, .pointer (some ⟨b0_0, 0, none⟩)), (3, .pointer (some ⟨b0_1, 0, none⟩)), (68, .bool true)] ?_
   refine at_round_normal ?_
   exact at_join_mk [(2, .pointer (some ⟨b0_0, 0, none⟩)), (3, .pointer (some ⟨b0_1, 0, none⟩)), (68, .bool true)] ((Asn.own b0_1 (.cells #[.int .i64 b.kind, .int .i64 b.src, .int .i64 b.dst, .int .i64 b.id, .int .i64 b.line, .int .i64 b.ptr, .int .i64 b.state, .bool b.flag, .slice ba (List.length b.data) bcap] 32 (0, 0))) :: (Asn.own b0_0 (.cells #[.int .i64 a.kind, .int .i64 a.src, .int .i64 a.dst, .int .i64 a.id, .int .i64 a.line, .int .i64 a.ptr, .int .i64 a.state, .bool a.flag, .slice aa (List.length a.data) acap] 32 (0, 0))) :: Γ) ⟨kf, kf, kf, trivial⟩ (fun w hw => (Sat.less (.take .here (.take .here .refl)) hw)) ⟨true, H, rfl, rfl⟩
  ·replace H := bifF H h4
   refine sr 11 (.bool false) (run_eq (v := .bool (!(decide (a.kind = b.kind)))) (fun _ => kf) (congrArg Value.bool h4)) ?_
   refine sp 12 (.pointer (some ⟨b0_0, 1, none⟩)) ?_
   refine sl 13 (.int .i64 a.src) (load1 (off := 1) (fun _ => kf) (holds_own (.there .here)) kf) ?_
   refine sp 14 (.pointer (some ⟨b0_1, 1, none⟩)) ?_
   refine sl 15 (.int .i64 b.src) (load1 (off := 1) (fun _ => kf) (holds_own .here) kf) ?_
   refine sp 16 (.bool (!(decide (a.src = b.src)))) ?_
   refine sp 17 (.bool (!(decide (a.src = b.src)))) ?_
   rcases Bool.eq_false_or_eq_true (!(decide (a.src = b.src))) with h5 | h5
   ·replace H := bifT H h5
    refine sr 18 (.bool true) (run_eq (v := .bool (!(decide (a.src = b.src)))) (fun _ => kf) (congrArg Value.bool h5)) ?_
    refine sa 19 ?_
    refine sa 20 ?_
    refine sa 21 ?_
    refine sa 22 ?_
    refine sa 23 ?_
    refine sp 24 (.bool true) ?_
    refine sp 25 (.bool true) ?_
    refine sa 26 ?_
    refine sa 27 ?_
    refine sa 28 ?_
    refine sa 29 ?_
    refine sa 30 ?_
    refine sp 31 (.bool true) ?_
    refine sp 32 (.bool true) ?_
    refine sa 33 ?_
    refine sa 34 ?_
    refine sa 35 ?_
    refine sa 36 ?_
    refine sa 37 ?_
    refine sp 38 (.bool true) ?_
    refine sp 39 (.bool true) ?_
    refine sa 40 ?_
    refine sa 41 ?_
    refine sa 42 ?_
    refine sa 43 ?_
    refine sa 44 ?_
    refine sp 45 (.bool true) ?_
    refine sp 46 (.bool true) ?_
    refine sa 47 ?_
    refine sa 48 ?_
    refine sa 49 ?_
    refine sa 50 ?_
    refine sa 51 ?_
    refine sp 52 (.bool true) ?_
    refine sp 53 (.bool true) ?_
    refine sa 54 ?_
    refine sa 55 ?_
    refine sa 56 ?_
    refine sa 57 ?_
    refine sa 58 ?_
    refine sp 59 (.bool true) ?_
    refine sp 60 (.bool true) ?_
    refine sa 61 ?_
    refine sa 62 ?_
    refine sa 63 ?_
    refine sa 64 ?_
    refine sa 65 ?_
    refine sa 66 ?_
    refine sa 67 ?_
    refine sp 68 (.bool true) ?_
    refine ops_end ?_
    refine ae [(2, .pointer (some ⟨b0_0, 0, none⟩)), (3, .pointer (some ⟨b0_1, 0, none⟩)), (68, .bool true)] ?_
    refine at_round_normal ?_
    exact at_join_mk [(2, .pointer (some ⟨b0_0, 0, none⟩)), (3, .pointer (some ⟨b0_1, 0, none⟩)), (68, .bool true)] ((Asn.own b0_1 (.cells #[.int .i64 b.kind, .int .i64 b.src, .int .i64 b.dst, .int .i64 b.id, .int .i64 b.line, .int .i64 b.ptr, .int .i64 b.state, .bool b.flag, .slice ba (List.length b.data) bcap] 32 (0, 0))) :: (Asn.own b0_0 (.cells #[.int .i64 a.kind, .int .i64 a.src, .int .i64 a.dst, .int .i64 a.id, .int .i64 a.line, .int .i64 a.ptr, .int .i64 a.state, .bool a.flag, .slice aa (List.length a.data) acap] 32 (0, 0))) :: Γ) ⟨kf, kf, kf, trivial⟩ (fun w hw => (Sat.less (.take .here (.take .here .refl)) hw)) ⟨true, H, rfl, rfl⟩
   ·replace H := bifF H h5
    refine sr 18 (.bool false) (run_eq (v := .bool (!(decide (a.src = b.src)))) (fun _ => kf) (congrArg Value.bool h5)) ?_
    refine sp 19 (.pointer (some ⟨b0_0, 2, none⟩)) ?_
    refine sl 20 (.int .i64 a.dst) (load1 (off := 2) (fun _ => kf) (holds_own (.there .here)) kf) ?_
    refine sp 21 (.pointer (some ⟨b0_1, 2, none⟩)) ?_
    refine sl 22 (.int .i64 b.dst) (load1 (off := 2) (fun _ => kf) (holds_own .here) kf) ?_
    refine sp 23 (.bool (!(decide (a.dst = b.dst)))) ?_
    refine sp 24 (.bool (!(decide (a.dst = b.dst)))) ?_
    rcases Bool.eq_false_or_eq_true (!(decide (a.dst = b.dst))) with h6 | h6
    ·replace H := bifT H h6
     refine sr 25 (.bool true) (run_eq (v := .bool (!(decide (a.dst = b.dst)))) (fun _ => kf) (congrArg Value.bool h6)) ?_
     refine sa 26 ?_
     refine sa 27 ?_
     refine sa 28 ?_
     refine sa 29 ?_
     refine sa 30 ?_
     refine sp 31 (.bool true) ?_
     refine sp 32 (.bool true) ?_
     refine sa 33 ?_
     refine sa 34 ?_
     refine sa 35 ?_
     refine sa 36 ?_
     refine sa 37 ?_
     refine sp 38 (.bool true) ?_
     refine sp 39 (.bool true) ?_
     refine sa 40 ?_
     refine sa 41 ?_
     refine sa 42 ?_
     refine sa 43 ?_
     refine sa 44 ?_
     refine sp 45 (.bool true) ?_
     refine sp 46 (.bool true) ?_
     refine sa 47 ?_
     refine sa 48 ?_
     refine sa 49 ?_
     refine sa 50 ?_
     refine sa 51 ?_
     refine sp 52 (.bool true) ?_
     refine sp 53 (.bool true) ?_
     refine sa 54 ?_
     refine sa 55 ?_
     refine sa 56 ?_
     refine sa 57 ?_
     refine sa 58 ?_
     refine sp 59 (.bool true) ?_
     refine sp 60 (.bool true) ?_
     refine sa 61 ?_
     refine sa 62 ?_
     refine sa 63 ?_
     refine sa 64 ?_
     refine sa 65 ?_
     refine sa 66 ?_
     refine sa 67 ?_
     refine sp 68 (.bool true) ?_
     refine ops_end ?_
     refine ae [(2, .pointer (some ⟨b0_0, 0, none⟩)), (3, .pointer (some ⟨b0_1, 0, none⟩)), (68, .bool true)] ?_
     refine at_round_normal ?_
     exact at_join_mk [(2, .pointer (some ⟨b0_0, 0, none⟩)), (3, .pointer (some ⟨b0_1, 0, none⟩)), (68, .bool true)] ((Asn.own b0_1 (.cells #[.int .i64 b.kind, .int .i64 b.src, .int .i64 b.dst, .int .i64 b.id, .int .i64 b.line, .int .i64 b.ptr, .int .i64 b.state, .bool b.flag, .slice ba (List.length b.data) bcap] 32 (0, 0))) :: (Asn.own b0_0 (.cells #[.int .i64 a.kind, .int .i64 a.src, .int .i64 a.dst, .int .i64 a.id, .int .i64 a.line, .int .i64 a.ptr, .int .i64 a.state, .bool a.flag, .slice aa (List.length a.data) acap] 32 (0, 0))) :: Γ) ⟨kf, kf, kf, trivial⟩ (fun w hw => (Sat.less (.take .here (.take .here .refl)) hw)) ⟨true, H, rfl, rfl⟩
    ·replace H := bifF H h6
     refine sr 25 (.bool false) (run_eq (v := .bool (!(decide (a.dst = b.dst)))) (fun _ => kf) (congrArg Value.bool h6)) ?_
     refine sp 26 (.pointer (some ⟨b0_0, 3, none⟩)) ?_
     refine sl 27 (.int .i64 a.id) (load1 (off := 3) (fun _ => kf) (holds_own (.there .here)) kf) ?_
     refine sp 28 (.pointer (some ⟨b0_1, 3, none⟩)) ?_
     refine sl 29 (.int .i64 b.id) (load1 (off := 3) (fun _ => kf) (holds_own .here) kf) ?_
     refine sp 30 (.bool (!(decide (a.id = b.id)))) ?_
     refine sp 31 (.bool (!(decide (a.id = b.id)))) ?_
     rcases Bool.eq_false_or_eq_true (!(decide (a.id = b.id))) with h7 | h7
     ·replace H := bifT H h7
      refine sr 32 (.bool true) (run_eq (v := .bool (!(decide (a.id = b.id)))) (fun _ => kf) (congrArg Value.bool h7)) ?_
      refine sa 33 ?_
      refine sa 34 ?_
      refine sa 35 ?_
      refine sa 36 ?_
      refine sa 37 ?_
      refine sp 38 (.bool true) ?_
      refine sp 39 (.bool true) ?_
      refine sa 40 ?_
      refine sa 41 ?_
      refine sa 42 ?_
      refine sa 43 ?_
      refine sa 44 ?_
      refine sp 45 (.bool true) ?_
      refine sp 46 (.bool true) ?_
      refine sa 47 ?_
      refine sa 48 ?_
      refine sa 49 ?_
      refine sa 50 ?_
      refine sa 51 ?_
      refine sp 52 (.bool true) ?_
      refine sp 53 (.bool true) ?_
      refine sa 54 ?_
      refine sa 55 ?_
      refine sa 56 ?_
      refine sa 57 ?_
      refine sa 58 ?_
      refine sp 59 (.bool true) ?_
      refine sp 60 (.bool true) ?_
      refine sa 61 ?_
      refine sa 62 ?_
      refine sa 63 ?_
      refine sa 64 ?_
      refine sa 65 ?_
      refine sa 66 ?_
      refine sa 67 ?_
      refine sp 68 (.bool true) ?_
      refine ops_end ?_
      refine ae [(2, .pointer (some ⟨b0_0, 0, none⟩)), (3, .pointer (some ⟨b0_1, 0, none⟩)), (68, .bool true)] ?_
      refine at_round_normal ?_
      exact at_join_mk [(2, .pointer (some ⟨b0_0, 0, none⟩)), (3, .pointer (some ⟨b0_1, 0, none⟩)), (68, .bool true)] ((Asn.own b0_1 (.cells #[.int .i64 b.kind, .int .i64 b.src, .int .i64 b.dst, .int .i64 b.id, .int .i64 b.line, .int .i64 b.ptr, .int .i64 b.state, .bool b.flag, .slice ba (List.length b.data) bcap] 32 (0, 0))) :: (Asn.own b0_0 (.cells #[.int .i64 a.kind, .int .i64 a.src, .int .i64 a.dst, .int .i64 a.id, .int .i64 a.line, .int .i64 a.ptr, .int .i64 a.state, .bool a.flag, .slice aa (List.length a.data) acap] 32 (0, 0))) :: Γ) ⟨kf, kf, kf, trivial⟩ (fun w hw => (Sat.less (.take .here (.take .here .refl)) hw)) ⟨true, H, rfl, rfl⟩
     ·replace H := bifF H h7
      refine sr 32 (.bool false) (run_eq (v := .bool (!(decide (a.id = b.id)))) (fun _ => kf) (congrArg Value.bool h7)) ?_
      refine sp 33 (.pointer (some ⟨b0_0, 4, none⟩)) ?_
      refine sl 34 (.int .i64 a.line) (load1 (off := 4) (fun _ => kf) (holds_own (.there .here)) kf) ?_
      refine sp 35 (.pointer (some ⟨b0_1, 4, none⟩)) ?_
      refine sl 36 (.int .i64 b.line) (load1 (off := 4) (fun _ => kf) (holds_own .here) kf) ?_
      refine sp 37 (.bool (!(decide (a.line = b.line)))) ?_
      refine sp 38 (.bool (!(decide (a.line = b.line)))) ?_
      rcases Bool.eq_false_or_eq_true (!(decide (a.line = b.line))) with h8 | h8
      ·replace H := bifT H h8
       refine sr 39 (.bool true) (run_eq (v := .bool (!(decide (a.line = b.line)))) (fun _ => kf) (congrArg Value.bool h8)) ?_
       refine sa 40 ?_
       refine sa 41 ?_
       refine sa 42 ?_
       refine sa 43 ?_
       refine sa 44 ?_
       refine sp 45 (.bool true) ?_
       refine sp 46 (.bool true) ?_
       refine sa 47 ?_
       refine sa 48 ?_
       refine sa 49 ?_
       refine sa 50 ?_
       refine sa 51 ?_
       refine sp 52 (.bool true) ?_
       refine sp 53 (.bool true) ?_
       refine sa 54 ?_
       refine sa 55 ?_
       refine sa 56 ?_
       refine sa 57 ?_
       refine sa 58 ?_
       refine sp 59 (.bool true) ?_
       refine sp 60 (.bool true) ?_
       refine sa 61 ?_
       refine sa 62 ?_
       refine sa 63 ?_
       refine sa 64 ?_
       refine sa 65 ?_
       refine sa 66 ?_
       refine sa 67 ?_
       refine sp 68 (.bool true) ?_
       refine ops_end ?_
       refine ae [(2, .pointer (some ⟨b0_0, 0, none⟩)), (3, .pointer (some ⟨b0_1, 0, none⟩)), (68, .bool true)] ?_
       refine at_round_normal ?_
       exact at_join_mk [(2, .pointer (some ⟨b0_0, 0, none⟩)), (3, .pointer (some ⟨b0_1, 0, none⟩)), (68, .bool true)] ((Asn.own b0_1 (.cells #[.int .i64 b.kind, .int .i64 b.src, .int .i64 b.dst, .int .i64 b.id, .int .i64 b.line, .int .i64 b.ptr, .int .i64 b.state, .bool b.flag, .slice ba (List.length b.data) bcap] 32 (0, 0))) :: (Asn.own b0_0 (.cells #[.int .i64 a.kind, .int .i64 a.src, .int .i64 a.dst, .int .i64 a.id, .int .i64 a.line, .int .i64 a.ptr, .int .i64 a.state, .bool a.flag, .slice aa (List.length a.data) acap] 32 (0, 0))) :: Γ) ⟨kf, kf, kf, trivial⟩ (fun w hw => (Sat.less (.take .here (.take .here .refl)) hw)) ⟨true, H, rfl, rfl⟩
      ·replace H := bifF H h8
       refine sr 39 (.bool false) (run_eq (v := .bool (!(decide (a.line = b.line)))) (fun _ => kf) (congrArg Value.bool h8)) ?_
       refine sp 40 (.pointer (some ⟨b0_0, 5, none⟩)) ?_
       refine sl 41 (.int .i64 a.ptr) (load1 (off := 5) (fun _ => kf) (holds_own (.there .here)) kf) ?_
       refine sp 42 (.pointer (some ⟨b0_1, 5, none⟩)) ?_
       refine sl 43 (.int .i64 b.ptr) (load1 (off := 5) (fun _ => kf) (holds_own .here) kf) ?_
       refine sp 44 (.bool (!(decide (a.ptr = b.ptr)))) ?_
       refine sp 45 (.bool (!(decide (a.ptr = b.ptr)))) ?_
       rcases Bool.eq_false_or_eq_true (!(decide (a.ptr = b.ptr))) with h9 | h9
       ·replace H := bifT H h9
        refine sr 46 (.bool true) (run_eq (v := .bool (!(decide (a.ptr = b.ptr)))) (fun _ => kf) (congrArg Value.bool h9)) ?_
        refine sa 47 ?_
        refine sa 48 ?_
        refine sa 49 ?_
        refine sa 50 ?_
        refine sa 51 ?_
        refine sp 52 (.bool true) ?_
        refine sp 53 (.bool true) ?_
        refine sa 54 ?_
        refine sa 55 ?_
        refine sa 56 ?_
        refine sa 57 ?_
        refine sa 58 ?_
        refine sp 59 (.bool true) ?_
        refine sp 60 (.bool true) ?_
        refine sa 61 ?_
        refine sa 62 ?_
        refine sa 63 ?_
        refine sa 64 ?_
        refine sa 65 ?_
        refine sa 66 ?_
        refine sa 67 ?_
        refine sp 68 (.bool true) ?_
        refine ops_end ?_
        refine ae [(2, .pointer (some ⟨b0_0, 0, none⟩)), (3, .pointer (some ⟨b0_1, 0, none⟩)), (68, .bool true)] ?_
        refine at_round_normal ?_
        exact at_join_mk [(2, .pointer (some ⟨b0_0, 0, none⟩)), (3, .pointer (some ⟨b0_1, 0, none⟩)), (68, .bool true)] ((Asn.own b0_1 (.cells #[.int .i64 b.kind, .int .i64 b.src, .int .i64 b.dst, .int .i64 b.id, .int .i64 b.line, .int .i64 b.ptr, .int .i64 b.state, .bool b.flag, .slice ba (List.length b.data) bcap] 32 (0, 0))) :: (Asn.own b0_0 (.cells #[.int .i64 a.kind, .int .i64 a.src, .int .i64 a.dst, .int .i64 a.id, .int .i64 a.line, .int .i64 a.ptr, .int .i64 a.state, .bool a.flag, .slice aa (List.length a.data) acap] 32 (0, 0))) :: Γ) ⟨kf, kf, kf, trivial⟩ (fun w hw => (Sat.less (.take .here (.take .here .refl)) hw)) ⟨true, H, rfl, rfl⟩
       ·replace H := bifF H h9
        refine sr 46 (.bool false) (run_eq (v := .bool (!(decide (a.ptr = b.ptr)))) (fun _ => kf) (congrArg Value.bool h9)) ?_
        refine sp 47 (.pointer (some ⟨b0_0, 6, none⟩)) ?_
        refine sl 48 (.int .i64 a.state) (load1 (off := 6) (fun _ => kf) (holds_own (.there .here)) kf) ?_
        refine sp 49 (.pointer (some ⟨b0_1, 6, none⟩)) ?_
        refine sl 50 (.int .i64 b.state) (load1 (off := 6) (fun _ => kf) (holds_own .here) kf) ?_
        refine sp 51 (.bool (!(decide (a.state = b.state)))) ?_
        refine sp 52 (.bool (!(decide (a.state = b.state)))) ?_
        rcases Bool.eq_false_or_eq_true (!(decide (a.state = b.state))) with h10 | h10
        ·replace H := bifT H h10
         refine sr 53 (.bool true) (run_eq (v := .bool (!(decide (a.state = b.state)))) (fun _ => kf) (congrArg Value.bool h10)) ?_
         refine sa 54 ?_
         refine sa 55 ?_
         refine sa 56 ?_
         refine sa 57 ?_
         refine sa 58 ?_
         refine sp 59 (.bool true) ?_
         refine sp 60 (.bool true) ?_
         refine sa 61 ?_
         refine sa 62 ?_
         refine sa 63 ?_
         refine sa 64 ?_
         refine sa 65 ?_
         refine sa 66 ?_
         refine sa 67 ?_
         refine sp 68 (.bool true) ?_
         refine ops_end ?_
         refine ae [(2, .pointer (some ⟨b0_0, 0, none⟩)), (3, .pointer (some ⟨b0_1, 0, none⟩)), (68, .bool true)] ?_
         refine at_round_normal ?_
         exact at_join_mk [(2, .pointer (some ⟨b0_0, 0, none⟩)), (3, .pointer (some ⟨b0_1, 0, none⟩)), (68, .bool true)] ((Asn.own b0_1 (.cells #[.int .i64 b.kind, .int .i64 b.src, .int .i64 b.dst, .int .i64 b.id, .int .i64 b.line, .int .i64 b.ptr, .int .i64 b.state, .bool b.flag, .slice ba (List.length b.data) bcap] 32 (0, 0))) :: (Asn.own b0_0 (.cells #[.int .i64 a.kind, .int .i64 a.src, .int .i64 a.dst, .int .i64 a.id, .int .i64 a.line, .int .i64 a.ptr, .int .i64 a.state, .bool a.flag, .slice aa (List.length a.data) acap] 32 (0, 0))) :: Γ) ⟨kf, kf, kf, trivial⟩ (fun w hw => (Sat.less (.take .here (.take .here .refl)) hw)) ⟨true, H, rfl, rfl⟩
        ·replace H := bifF H h10
         refine sr 53 (.bool false) (run_eq (v := .bool (!(decide (a.state = b.state)))) (fun _ => kf) (congrArg Value.bool h10)) ?_
         refine sp 54 (.pointer (some ⟨b0_0, 7, none⟩)) ?_
         refine sl 55 (.bool a.flag) (load1 (off := 7) (fun _ => kf) (holds_own (.there .here)) kf) ?_
         refine sp 56 (.pointer (some ⟨b0_1, 7, none⟩)) ?_
         refine sl 57 (.bool b.flag) (load1 (off := 7) (fun _ => kf) (holds_own .here) kf) ?_
         refine sp 58 (.bool (!(a.flag == b.flag))) ?_
         refine sp 59 (.bool (!(a.flag == b.flag))) ?_
         rcases Bool.eq_false_or_eq_true (!(a.flag == b.flag)) with h11 | h11
         ·replace H := bifT H h11
          refine sr 60 (.bool true) (run_eq (v := .bool (!(a.flag == b.flag))) (fun _ => kf) (congrArg Value.bool h11)) ?_
          refine sa 61 ?_
          refine sa 62 ?_
          refine sa 63 ?_
          refine sa 64 ?_
          refine sa 65 ?_
          refine sa 66 ?_
          refine sa 67 ?_
          refine sp 68 (.bool true) ?_
          refine ops_end ?_
          refine ae [(2, .pointer (some ⟨b0_0, 0, none⟩)), (3, .pointer (some ⟨b0_1, 0, none⟩)), (68, .bool true)] ?_
          refine at_round_normal ?_
          exact at_join_mk [(2, .pointer (some ⟨b0_0, 0, none⟩)), (3, .pointer (some ⟨b0_1, 0, none⟩)), (68, .bool true)] ((Asn.own b0_1 (.cells #[.int .i64 b.kind, .int .i64 b.src, .int .i64 b.dst, .int .i64 b.id, .int .i64 b.line, .int .i64 b.ptr, .int .i64 b.state, .bool b.flag, .slice ba (List.length b.data) bcap] 32 (0, 0))) :: (Asn.own b0_0 (.cells #[.int .i64 a.kind, .int .i64 a.src, .int .i64 a.dst, .int .i64 a.id, .int .i64 a.line, .int .i64 a.ptr, .int .i64 a.state, .bool a.flag, .slice aa (List.length a.data) acap] 32 (0, 0))) :: Γ) ⟨kf, kf, kf, trivial⟩ (fun w hw => (Sat.less (.take .here (.take .here .refl)) hw)) ⟨true, H, rfl, rfl⟩
         ·replace H := bifF H h11
          refine sr 60 (.bool false) (run_eq (v := .bool (!(a.flag == b.flag))) (fun _ => kf) (congrArg Value.bool h11)) ?_
          refine sp 61 (.pointer (some ⟨b0_0, 8, none⟩)) ?_
          refine sl 62 (.slice aa (List.length a.data) acap) (load1 (off := 8) (fun _ => kf) (holds_own (.there .here)) kf) ?_
          refine sp 63 (.int .i64 (((List.length a.data) : Nat) : Int)) ?_
          refine sp 64 (.pointer (some ⟨b0_1, 8, none⟩)) ?_
          refine sl 65 (.slice ba (List.length b.data) bcap) (load1 (off := 8) (fun _ => kf) (holds_own .here) kf) ?_
          refine sp 66 (.int .i64 (((List.length b.data) : Nat) : Int)) ?_
          refine sp 67 (.bool (!(decide ((((List.length a.data) : Nat) : Int) = (((List.length b.data) : Nat) : Int))))) ?_
          refine sp 68 (.bool (!(decide ((((List.length a.data) : Nat) : Int) = (((List.length b.data) : Nat) : Int))))) ?_
          refine ops_end ?_
          refine ae [(2, .pointer (some ⟨b0_0, 0, none⟩)), (3, .pointer (some ⟨b0_1, 0, none⟩)), (68, .bool (!(decide ((((List.length a.data) : Nat) : Int) = (((List.length b.data) : Nat) : Int)))))] ?_
          refine at_round_normal ?_
          exact at_join_mk [(2, .pointer (some ⟨b0_0, 0, none⟩)), (3, .pointer (some ⟨b0_1, 0, none⟩)), (68, .bool (!(decide ((((List.length a.data) : Nat) : Int) = (((List.length b.data) : Nat) : Int)))))] ((Asn.own b0_1 (.cells #[.int .i64 b.kind, .int .i64 b.src, .int .i64 b.dst, .int .i64 b.id, .int .i64 b.line, .int .i64 b.ptr, .int .i64 b.state, .bool b.flag, .slice ba (List.length b.data) bcap] 32 (0, 0))) :: (Asn.own b0_0 (.cells #[.int .i64 a.kind, .int .i64 a.src, .int .i64 a.dst, .int .i64 a.id, .int .i64 a.line, .int .i64 a.ptr, .int .i64 a.state, .bool a.flag, .slice aa (List.length a.data) acap] 32 (0, 0))) :: Γ) ⟨kf, kf, kf, trivial⟩ (fun w hw => (Sat.less (.take .here (.take .here .refl)) hw)) ⟨!(decide ((((List.length a.data) : Nat) : Int) = (((List.length b.data) : Nat) : Int))), H, rfl, rfl⟩
end Go.Proofs.Ytcigheahollkcaa
