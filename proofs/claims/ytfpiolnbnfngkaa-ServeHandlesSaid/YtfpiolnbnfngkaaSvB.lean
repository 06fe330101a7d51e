/- Requests to a cache, in the second writing: each function answers what its plain function says. -/
import Derived.Test.YtfpiolnbnfngkaaVcA
import Derived.Test.YtfpiolnbnfngkaaKsA
namespace Go.Proofs.Ytfpiolnbnfngkaa
open Go Go.RowKit
set_option linter.unusedVariables false
set_option linter.unusedSimpArgs false
def rrightS (p : PktS) : Option (Bool) :=
  (bif decide ((1 : Int) ≤ p.kind) then (bif decide (p.kind ≤ (9 : Int)) then (bif decide ((0 : Int) ≤ p.src) then (bif decide (p.src < (6 : Int)) then (bif decide ((0 : Int) ≤ p.dst) then (bif decide (p.dst < (6 : Int)) then (bif decide ((0 : Int) ≤ p.id) then (bif decide (p.id < (4096 : Int)) then (bif decide ((0 : Int) ≤ p.line) then (bif decide (p.line < (8 : Int)) then (bif decide (((-1) : Int) ≤ p.ptr) then (bif decide (p.ptr < (6 : Int)) then (bif decide ((0 : Int) ≤ p.state) then (bif decide (p.state ≤ (2 : Int)) then some (decide ((((List.length p.data) : Nat) : Int) ≤ (4 : Int))) else some false) else some false) else some false) else some false) else some false) else some false) else some false) else some false) else some false) else some false) else some false) else some false) else some false) else some false)
noncomputable def C63 (p : List Nat) : Code := codeAt (bodyOf Try.f63) p
set_option maxRecDepth 100000 in
set_option maxHeartbeats 8000000 in
theorem RRightF_tr {W0 : World} {Γ : List Asn} (pa : Option Addr) (pcap : Nat) (p : PktS) (hrpa : Reads W0 Γ pa (ints p.data)) (y : Bool) (H : rrightS p = some y) : Tr Try.prog 63 #[.agg #[.int .i64 p.kind, .int .i64 p.src, .int .i64 p.dst, .int .i64 p.id, .int .i64 p.line, .int .i64 p.ptr, .int .i64 p.state, .bool p.flag, .slice pa (List.length p.data) pcap]] W0 (Γ) (fun r Δ => r = .bool y ∧ Δ = Γ) := by
  unfold rrightS at H
  refine Tr.enter (fn := Try.f63) (c := C63 []) (args := [.agg #[.int .i64 p.kind, .int .i64 p.src, .int .i64 p.dst, .int .i64 p.id, .int .i64 p.line, .int .i64 p.ptr, .int .i64 p.state, .bool p.flag, .slice pa (List.length p.data) pcap]]) 77 Try.func63 (by kernel_rfl) (by kernel_rfl) ?_
  refine ae [(0, .agg #[.int .i64 p.kind, .int .i64 p.src, .int .i64 p.dst, .int .i64 p.id, .int .i64 p.line, .int .i64 p.ptr, .int .i64 p.state, .bool p.flag, .slice pa (List.length p.data) pcap])] ?_
  refine aq (x := C63 [0]) (y := C63 [1]) ?_
  refine ar (id := 0) 2 ?_
  refine s_step 1 (by kernel_rfl) (by kernel_rfl) (st_new (T := 35) (cells := #[.int .i64 p.kind, .int .i64 p.src, .int .i64 p.dst, .int .i64 p.id, .int .i64 p.line, .int .i64 p.ptr, .int .i64 p.state, .bool p.flag, .slice pa (List.length p.data) pcap]) (fun a => .pointer (some a)) (fun _ => by kernel_rfl)) ?_
  rintro _ _ ⟨b0_0, rfl, rfl⟩
  refine sp 2 (.bool false) ?_
  refine ops_end ?_
  refine ae [(1, .pointer (some ⟨b0_0, 0, none⟩))] ?_
  refine at_then_normal ?_
  refine aq (x := C63 [1,0]) (y := C63 [1,1]) ?_
  refine ar (id := 1) 75 ?_
  refine sp 3 (.pointer (some ⟨b0_0, 0, none⟩)) ?_
  refine sl 4 (.int .i64 p.kind) (load1 (off := 0) (fun _ => by kernel_rfl) (holds_own .here) (by kernel_rfl)) ?_
  refine sp 5 (.bool (decide ((1 : Int) ≤ p.kind))) ?_
  rcases Bool.eq_false_or_eq_true (decide ((1 : Int) ≤ p.kind)) with h1 | h1
  · replace H := bifT H h1
    refine sr 6 (.bool true) (run_eq (v := .bool (decide ((1 : Int) ≤ p.kind))) (fun _ => by kernel_rfl) (congrArg Value.bool h1)) ?_
    refine sp 7 (.pointer (some ⟨b0_0, 0, none⟩)) ?_
    refine sl 8 (.int .i64 p.kind) (load1 (off := 0) (fun _ => by kernel_rfl) (holds_own .here) (by kernel_rfl)) ?_
    refine sp 9 (.bool (decide (p.kind ≤ (9 : Int)))) ?_
    refine sp 10 (.bool (decide (p.kind ≤ (9 : Int)))) ?_
    rcases Bool.eq_false_or_eq_true (decide (p.kind ≤ (9 : Int))) with h2 | h2
    · replace H := bifT H h2
      refine sr 11 (.bool true) (run_eq (v := .bool (decide (p.kind ≤ (9 : Int)))) (fun _ => by kernel_rfl) (congrArg Value.bool h2)) ?_
      refine sp 12 (.pointer (some ⟨b0_0, 1, none⟩)) ?_
      refine sl 13 (.int .i64 p.src) (load1 (off := 1) (fun _ => by kernel_rfl) (holds_own .here) (by kernel_rfl)) ?_
      refine sp 14 (.bool (decide ((0 : Int) ≤ p.src))) ?_
      refine sp 15 (.bool (decide ((0 : Int) ≤ p.src))) ?_
      rcases Bool.eq_false_or_eq_true (decide ((0 : Int) ≤ p.src)) with h3 | h3
      · replace H := bifT H h3
        refine sr 16 (.bool true) (run_eq (v := .bool (decide ((0 : Int) ≤ p.src))) (fun _ => by kernel_rfl) (congrArg Value.bool h3)) ?_
        refine sp 17 (.pointer (some ⟨b0_0, 1, none⟩)) ?_
        refine sl 18 (.int .i64 p.src) (load1 (off := 1) (fun _ => by kernel_rfl) (holds_own .here) (by kernel_rfl)) ?_
        refine sp 19 (.bool (decide (p.src < (6 : Int)))) ?_
        refine sp 20 (.bool (decide (p.src < (6 : Int)))) ?_
        rcases Bool.eq_false_or_eq_true (decide (p.src < (6 : Int))) with h4 | h4
        · replace H := bifT H h4
          refine sr 21 (.bool true) (run_eq (v := .bool (decide (p.src < (6 : Int)))) (fun _ => by kernel_rfl) (congrArg Value.bool h4)) ?_
          refine sp 22 (.pointer (some ⟨b0_0, 2, none⟩)) ?_
          refine sl 23 (.int .i64 p.dst) (load1 (off := 2) (fun _ => by kernel_rfl) (holds_own .here) (by kernel_rfl)) ?_
          refine sp 24 (.bool (decide ((0 : Int) ≤ p.dst))) ?_
          refine sp 25 (.bool (decide ((0 : Int) ≤ p.dst))) ?_
          rcases Bool.eq_false_or_eq_true (decide ((0 : Int) ≤ p.dst)) with h5 | h5
          · replace H := bifT H h5
            refine sr 26 (.bool true) (run_eq (v := .bool (decide ((0 : Int) ≤ p.dst))) (fun _ => by kernel_rfl) (congrArg Value.bool h5)) ?_
            refine sp 27 (.pointer (some ⟨b0_0, 2, none⟩)) ?_
            refine sl 28 (.int .i64 p.dst) (load1 (off := 2) (fun _ => by kernel_rfl) (holds_own .here) (by kernel_rfl)) ?_
            refine sp 29 (.bool (decide (p.dst < (6 : Int)))) ?_
            refine sp 30 (.bool (decide (p.dst < (6 : Int)))) ?_
            rcases Bool.eq_false_or_eq_true (decide (p.dst < (6 : Int))) with h6 | h6
            · replace H := bifT H h6
              refine sr 31 (.bool true) (run_eq (v := .bool (decide (p.dst < (6 : Int)))) (fun _ => by kernel_rfl) (congrArg Value.bool h6)) ?_
              refine sp 32 (.pointer (some ⟨b0_0, 3, none⟩)) ?_
              refine sl 33 (.int .i64 p.id) (load1 (off := 3) (fun _ => by kernel_rfl) (holds_own .here) (by kernel_rfl)) ?_
              refine sp 34 (.bool (decide ((0 : Int) ≤ p.id))) ?_
              refine sp 35 (.bool (decide ((0 : Int) ≤ p.id))) ?_
              rcases Bool.eq_false_or_eq_true (decide ((0 : Int) ≤ p.id)) with h7 | h7
              · replace H := bifT H h7
                refine sr 36 (.bool true) (run_eq (v := .bool (decide ((0 : Int) ≤ p.id))) (fun _ => by kernel_rfl) (congrArg Value.bool h7)) ?_
                refine sp 37 (.pointer (some ⟨b0_0, 3, none⟩)) ?_
                refine sl 38 (.int .i64 p.id) (load1 (off := 3) (fun _ => by kernel_rfl) (holds_own .here) (by kernel_rfl)) ?_
                refine sp 39 (.bool (decide (p.id < (4096 : Int)))) ?_
                refine sp 40 (.bool (decide (p.id < (4096 : Int)))) ?_
                rcases Bool.eq_false_or_eq_true (decide (p.id < (4096 : Int))) with h8 | h8
                · replace H := bifT H h8
                  refine sr 41 (.bool true) (run_eq (v := .bool (decide (p.id < (4096 : Int)))) (fun _ => by kernel_rfl) (congrArg Value.bool h8)) ?_
                  refine sp 42 (.pointer (some ⟨b0_0, 4, none⟩)) ?_
                  refine sl 43 (.int .i64 p.line) (load1 (off := 4) (fun _ => by kernel_rfl) (holds_own .here) (by kernel_rfl)) ?_
                  refine sp 44 (.bool (decide ((0 : Int) ≤ p.line))) ?_
                  refine sp 45 (.bool (decide ((0 : Int) ≤ p.line))) ?_
                  rcases Bool.eq_false_or_eq_true (decide ((0 : Int) ≤ p.line)) with h9 | h9
                  · replace H := bifT H h9
                    refine sr 46 (.bool true) (run_eq (v := .bool (decide ((0 : Int) ≤ p.line))) (fun _ => by kernel_rfl) (congrArg Value.bool h9)) ?_
                    refine sp 47 (.pointer (some ⟨b0_0, 4, none⟩)) ?_
                    refine sl 48 (.int .i64 p.line) (load1 (off := 4) (fun _ => by kernel_rfl) (holds_own .here) (by kernel_rfl)) ?_
                    refine sp 49 (.bool (decide (p.line < (8 : Int)))) ?_
                    refine sp 50 (.bool (decide (p.line < (8 : Int)))) ?_
                    rcases Bool.eq_false_or_eq_true (decide (p.line < (8 : Int))) with h10 | h10
                    · replace H := bifT H h10
                      refine sr 51 (.bool true) (run_eq (v := .bool (decide (p.line < (8 : Int)))) (fun _ => by kernel_rfl) (congrArg Value.bool h10)) ?_
                      refine sp 52 (.pointer (some ⟨b0_0, 5, none⟩)) ?_
                      refine sl 53 (.int .i64 p.ptr) (load1 (off := 5) (fun _ => by kernel_rfl) (holds_own .here) (by kernel_rfl)) ?_
                      refine sp 54 (.bool (decide (((-1) : Int) ≤ p.ptr))) ?_
                      refine sp 55 (.bool (decide (((-1) : Int) ≤ p.ptr))) ?_
                      rcases Bool.eq_false_or_eq_true (decide (((-1) : Int) ≤ p.ptr)) with h11 | h11
                      · replace H := bifT H h11
                        refine sr 56 (.bool true) (run_eq (v := .bool (decide (((-1) : Int) ≤ p.ptr))) (fun _ => by kernel_rfl) (congrArg Value.bool h11)) ?_
                        refine sp 57 (.pointer (some ⟨b0_0, 5, none⟩)) ?_
                        refine sl 58 (.int .i64 p.ptr) (load1 (off := 5) (fun _ => by kernel_rfl) (holds_own .here) (by kernel_rfl)) ?_
                        refine sp 59 (.bool (decide (p.ptr < (6 : Int)))) ?_
                        refine sp 60 (.bool (decide (p.ptr < (6 : Int)))) ?_
                        rcases Bool.eq_false_or_eq_true (decide (p.ptr < (6 : Int))) with h12 | h12
                        · replace H := bifT H h12
                          refine sr 61 (.bool true) (run_eq (v := .bool (decide (p.ptr < (6 : Int)))) (fun _ => by kernel_rfl) (congrArg Value.bool h12)) ?_
                          refine sp 62 (.pointer (some ⟨b0_0, 6, none⟩)) ?_
                          refine sl 63 (.int .i64 p.state) (load1 (off := 6) (fun _ => by kernel_rfl) (holds_own .here) (by kernel_rfl)) ?_
                          refine sp 64 (.bool (decide ((0 : Int) ≤ p.state))) ?_
                          refine sp 65 (.bool (decide ((0 : Int) ≤ p.state))) ?_
                          rcases Bool.eq_false_or_eq_true (decide ((0 : Int) ≤ p.state)) with h13 | h13
                          · replace H := bifT H h13
                            refine sr 66 (.bool true) (run_eq (v := .bool (decide ((0 : Int) ≤ p.state))) (fun _ => by kernel_rfl) (congrArg Value.bool h13)) ?_
                            refine sp 67 (.pointer (some ⟨b0_0, 6, none⟩)) ?_
                            refine sl 68 (.int .i64 p.state) (load1 (off := 6) (fun _ => by kernel_rfl) (holds_own .here) (by kernel_rfl)) ?_
                            refine sp 69 (.bool (decide (p.state ≤ (2 : Int)))) ?_
                            refine sp 70 (.bool (decide (p.state ≤ (2 : Int)))) ?_
                            rcases Bool.eq_false_or_eq_true (decide (p.state ≤ (2 : Int))) with h14 | h14
                            · replace H := bifT H h14
                              refine sr 71 (.bool true) (run_eq (v := .bool (decide (p.state ≤ (2 : Int)))) (fun _ => by kernel_rfl) (congrArg Value.bool h14)) ?_
                              refine sp 72 (.pointer (some ⟨b0_0, 8, none⟩)) ?_
                              refine sl 73 (.slice pa (List.length p.data) pcap) (load1 (off := 8) (fun _ => by kernel_rfl) (holds_own .here) (by kernel_rfl)) ?_
                              refine sp 74 (.int .i64 (((List.length p.data) : Nat) : Int)) ?_
                              refine sp 75 (.bool (decide ((((List.length p.data) : Nat) : Int) ≤ (4 : Int)))) ?_
                              refine sp 76 (.bool (decide ((((List.length p.data) : Nat) : Int) ≤ (4 : Int)))) ?_
                              refine sp 2 (.bool (decide ((((List.length p.data) : Nat) : Int) ≤ (4 : Int)))) ?_
                              refine ops_end ?_
                              refine ae [(2, .bool (decide ((((List.length p.data) : Nat) : Int) ≤ (4 : Int))))] ?_
                              refine at_then_normal ?_
                              refine at_ret (by kernel_rfl) ?_
                              obtain rfl := someE H
                              refine at_backR [.bool (decide ((((List.length p.data) : Nat) : Int) ≤ (4 : Int)))] (Γ) (rs := [.tmp 2]) (by kernel_rfl) (.cons (.tmp (by kernel_rfl)) .nil) (fun w hw => (Sat.less (.drop .here .refl) hw)) ?_
                              exact ⟨rfl, rfl⟩
                            · replace H := bifF H h14
                              refine sr 71 (.bool false) (run_eq (v := .bool (decide (p.state ≤ (2 : Int)))) (fun _ => by kernel_rfl) (congrArg Value.bool h14)) ?_
                              refine sa 72 ?_
                              refine sa 73 ?_
                              refine sa 74 ?_
                              refine sa 75 ?_
                              refine sp 76 (.bool false) ?_
                              refine sp 2 (.bool false) ?_
                              refine ops_end ?_
                              refine ae [(2, .bool false)] ?_
                              refine at_then_normal ?_
                              refine at_ret (by kernel_rfl) ?_
                              obtain rfl := someE H
                              refine at_backR [.bool false] (Γ) (rs := [.tmp 2]) (by kernel_rfl) (.cons (.tmp (by kernel_rfl)) .nil) (fun w hw => (Sat.less (.drop .here .refl) hw)) ?_
                              exact ⟨rfl, rfl⟩
                          · replace H := bifF H h13
                            refine sr 66 (.bool false) (run_eq (v := .bool (decide ((0 : Int) ≤ p.state))) (fun _ => by kernel_rfl) (congrArg Value.bool h13)) ?_
                            refine sa 67 ?_
                            refine sa 68 ?_
                            refine sa 69 ?_
                            refine sp 70 (.bool false) ?_
                            refine sp 71 (.bool false) ?_
                            refine sa 72 ?_
                            refine sa 73 ?_
                            refine sa 74 ?_
                            refine sa 75 ?_
                            refine sp 76 (.bool false) ?_
                            refine sp 2 (.bool false) ?_
                            refine ops_end ?_
                            refine ae [(2, .bool false)] ?_
                            refine at_then_normal ?_
                            refine at_ret (by kernel_rfl) ?_
                            obtain rfl := someE H
                            refine at_backR [.bool false] (Γ) (rs := [.tmp 2]) (by kernel_rfl) (.cons (.tmp (by kernel_rfl)) .nil) (fun w hw => (Sat.less (.drop .here .refl) hw)) ?_
                            exact ⟨rfl, rfl⟩
                        · replace H := bifF H h12
                          refine sr 61 (.bool false) (run_eq (v := .bool (decide (p.ptr < (6 : Int)))) (fun _ => by kernel_rfl) (congrArg Value.bool h12)) ?_
                          refine sa 62 ?_
                          refine sa 63 ?_
                          refine sa 64 ?_
                          refine sp 65 (.bool false) ?_
                          refine sp 66 (.bool false) ?_
                          refine sa 67 ?_
                          refine sa 68 ?_
                          refine sa 69 ?_
                          refine sp 70 (.bool false) ?_
                          refine sp 71 (.bool false) ?_
                          refine sa 72 ?_
                          refine sa 73 ?_
                          refine sa 74 ?_
                          refine sa 75 ?_
                          refine sp 76 (.bool false) ?_
                          refine sp 2 (.bool false) ?_
                          refine ops_end ?_
                          refine ae [(2, .bool false)] ?_
                          refine at_then_normal ?_
                          refine at_ret (by kernel_rfl) ?_
                          obtain rfl := someE H
                          refine at_backR [.bool false] (Γ) (rs := [.tmp 2]) (by kernel_rfl) (.cons (.tmp (by kernel_rfl)) .nil) (fun w hw => (Sat.less (.drop .here .refl) hw)) ?_
                          exact ⟨rfl, rfl⟩
                      · replace H := bifF H h11
                        refine sr 56 (.bool false) (run_eq (v := .bool (decide (((-1) : Int) ≤ p.ptr))) (fun _ => by kernel_rfl) (congrArg Value.bool h11)) ?_
                        refine sa 57 ?_
                        refine sa 58 ?_
                        refine sa 59 ?_
                        refine sp 60 (.bool false) ?_
                        refine sp 61 (.bool false) ?_
                        refine sa 62 ?_
                        refine sa 63 ?_
                        refine sa 64 ?_
                        refine sp 65 (.bool false) ?_
                        refine sp 66 (.bool false) ?_
                        refine sa 67 ?_
                        refine sa 68 ?_
                        refine sa 69 ?_
                        refine sp 70 (.bool false) ?_
                        refine sp 71 (.bool false) ?_
                        refine sa 72 ?_
                        refine sa 73 ?_
                        refine sa 74 ?_
                        refine sa 75 ?_
                        refine sp 76 (.bool false) ?_
                        refine sp 2 (.bool false) ?_
                        refine ops_end ?_
                        refine ae [(2, .bool false)] ?_
                        refine at_then_normal ?_
                        refine at_ret (by kernel_rfl) ?_
                        obtain rfl := someE H
                        refine at_backR [.bool false] (Γ) (rs := [.tmp 2]) (by kernel_rfl) (.cons (.tmp (by kernel_rfl)) .nil) (fun w hw => (Sat.less (.drop .here .refl) hw)) ?_
                        exact ⟨rfl, rfl⟩
                    · replace H := bifF H h10
                      refine sr 51 (.bool false) (run_eq (v := .bool (decide (p.line < (8 : Int)))) (fun _ => by kernel_rfl) (congrArg Value.bool h10)) ?_
                      refine sa 52 ?_
                      refine sa 53 ?_
                      refine sa 54 ?_
                      refine sp 55 (.bool false) ?_
                      refine sp 56 (.bool false) ?_
                      refine sa 57 ?_
                      refine sa 58 ?_
                      refine sa 59 ?_
                      refine sp 60 (.bool false) ?_
                      refine sp 61 (.bool false) ?_
                      refine sa 62 ?_
                      refine sa 63 ?_
                      refine sa 64 ?_
                      refine sp 65 (.bool false) ?_
                      refine sp 66 (.bool false) ?_
                      refine sa 67 ?_
                      refine sa 68 ?_
                      refine sa 69 ?_
                      refine sp 70 (.bool false) ?_
                      refine sp 71 (.bool false) ?_
                      refine sa 72 ?_
                      refine sa 73 ?_
                      refine sa 74 ?_
                      refine sa 75 ?_
                      refine sp 76 (.bool false) ?_
                      refine sp 2 (.bool false) ?_
                      refine ops_end ?_
                      refine ae [(2, .bool false)] ?_
                      refine at_then_normal ?_
                      refine at_ret (by kernel_rfl) ?_
                      obtain rfl := someE H
                      refine at_backR [.bool false] (Γ) (rs := [.tmp 2]) (by kernel_rfl) (.cons (.tmp (by kernel_rfl)) .nil) (fun w hw => (Sat.less (.drop .here .refl) hw)) ?_
                      exact ⟨rfl, rfl⟩
                  · replace H := bifF H h9
                    refine sr 46 (.bool false) (run_eq (v := .bool (decide ((0 : Int) ≤ p.line))) (fun _ => by kernel_rfl) (congrArg Value.bool h9)) ?_
                    refine sa 47 ?_
                    refine sa 48 ?_
                    refine sa 49 ?_
                    refine sp 50 (.bool false) ?_
                    refine sp 51 (.bool false) ?_
                    refine sa 52 ?_
                    refine sa 53 ?_
                    refine sa 54 ?_
                    refine sp 55 (.bool false) ?_
                    refine sp 56 (.bool false) ?_
                    refine sa 57 ?_
                    refine sa 58 ?_
                    refine sa 59 ?_
                    refine sp 60 (.bool false) ?_
                    refine sp 61 (.bool false) ?_
                    refine sa 62 ?_
                    refine sa 63 ?_
                    refine sa 64 ?_
                    refine sp 65 (.bool false) ?_
                    refine sp 66 (.bool false) ?_
                    refine sa 67 ?_
                    refine sa 68 ?_
                    refine sa 69 ?_
                    refine sp 70 (.bool false) ?_
                    refine sp 71 (.bool false) ?_
                    refine sa 72 ?_
                    refine sa 73 ?_
                    refine sa 74 ?_
                    refine sa 75 ?_
                    refine sp 76 (.bool false) ?_
                    refine sp 2 (.bool false) ?_
                    refine ops_end ?_
                    refine ae [(2, .bool false)] ?_
                    refine at_then_normal ?_
                    refine at_ret (by kernel_rfl) ?_
                    obtain rfl := someE H
                    refine at_backR [.bool false] (Γ) (rs := [.tmp 2]) (by kernel_rfl) (.cons (.tmp (by kernel_rfl)) .nil) (fun w hw => (Sat.less (.drop .here .refl) hw)) ?_
                    exact ⟨rfl, rfl⟩
                · replace H := bifF H h8
                  refine sr 41 (.bool false) (run_eq (v := .bool (decide (p.id < (4096 : Int)))) (fun _ => by kernel_rfl) (congrArg Value.bool h8)) ?_
                  refine sa 42 ?_
                  refine sa 43 ?_
                  refine sa 44 ?_
                  refine sp 45 (.bool false) ?_
                  refine sp 46 (.bool false) ?_
                  refine sa 47 ?_
                  refine sa 48 ?_
                  refine sa 49 ?_
                  refine sp 50 (.bool false) ?_
                  refine sp 51 (.bool false) ?_
                  refine sa 52 ?_
                  refine sa 53 ?_
                  refine sa 54 ?_
                  refine sp 55 (.bool false) ?_
                  refine sp 56 (.bool false) ?_
                  refine sa 57 ?_
                  refine sa 58 ?_
                  refine sa 59 ?_
                  refine sp 60 (.bool false) ?_
                  refine sp 61 (.bool false) ?_
                  refine sa 62 ?_
                  refine sa 63 ?_
                  refine sa 64 ?_
                  refine sp 65 (.bool false) ?_
                  refine sp 66 (.bool false) ?_
                  refine sa 67 ?_
                  refine sa 68 ?_
                  refine sa 69 ?_
                  refine sp 70 (.bool false) ?_
                  refine sp 71 (.bool false) ?_
                  refine sa 72 ?_
                  refine sa 73 ?_
                  refine sa 74 ?_
                  refine sa 75 ?_
                  refine sp 76 (.bool false) ?_
                  refine sp 2 (.bool false) ?_
                  refine ops_end ?_
                  refine ae [(2, .bool false)] ?_
                  refine at_then_normal ?_
                  refine at_ret (by kernel_rfl) ?_
                  obtain rfl := someE H
                  refine at_backR [.bool false] (Γ) (rs := [.tmp 2]) (by kernel_rfl) (.cons (.tmp (by kernel_rfl)) .nil) (fun w hw => (Sat.less (.drop .here .refl) hw)) ?_
                  exact ⟨rfl, rfl⟩
              · replace H := bifF H h7
                refine sr 36 (.bool false) (run_eq (v := .bool (decide ((0 : Int) ≤ p.id))) (fun _ => by kernel_rfl) (congrArg Value.bool h7)) ?_
                refine sa 37 ?_
                refine sa 38 ?_
                refine sa 39 ?_
                refine sp 40 (.bool false) ?_
                refine sp 41 (.bool false) ?_
                refine sa 42 ?_
                refine sa 43 ?_
                refine sa 44 ?_
                refine sp 45 (.bool false) ?_
                refine sp 46 (.bool false) ?_
                refine sa 47 ?_
                refine sa 48 ?_
                refine sa 49 ?_
                refine sp 50 (.bool false) ?_
                refine sp 51 (.bool false) ?_
                refine sa 52 ?_
                refine sa 53 ?_
                refine sa 54 ?_
                refine sp 55 (.bool false) ?_
                refine sp 56 (.bool false) ?_
                refine sa 57 ?_
                refine sa 58 ?_
                refine sa 59 ?_
                refine sp 60 (.bool false) ?_
                refine sp 61 (.bool false) ?_
                refine sa 62 ?_
                refine sa 63 ?_
                refine sa 64 ?_
                refine sp 65 (.bool false) ?_
                refine sp 66 (.bool false) ?_
                refine sa 67 ?_
                refine sa 68 ?_
                refine sa 69 ?_
                refine sp 70 (.bool false) ?_
                refine sp 71 (.bool false) ?_
                refine sa 72 ?_
                refine sa 73 ?_
                refine sa 74 ?_
                refine sa 75 ?_
                refine sp 76 (.bool false) ?_
                refine sp 2 (.bool false) ?_
                refine ops_end ?_
                refine ae [(2, .bool false)] ?_
                refine at_then_normal ?_
                refine at_ret (by kernel_rfl) ?_
                obtain rfl := someE H
                refine at_backR [.bool false] (Γ) (rs := [.tmp 2]) (by kernel_rfl) (.cons (.tmp (by kernel_rfl)) .nil) (fun w hw => (Sat.less (.drop .here .refl) hw)) ?_
                exact ⟨rfl, rfl⟩
            · replace H := bifF H h6
              refine sr 31 (.bool false) (run_eq (v := .bool (decide (p.dst < (6 : Int)))) (fun _ => by kernel_rfl) (congrArg Value.bool h6)) ?_
              refine sa 32 ?_
              refine sa 33 ?_
              refine sa 34 ?_
              refine sp 35 (.bool false) ?_
              refine sp 36 (.bool false) ?_
              refine sa 37 ?_
              refine sa 38 ?_
              refine sa 39 ?_
              refine sp 40 (.bool false) ?_
              refine sp 41 (.bool false) ?_
              refine sa 42 ?_
              refine sa 43 ?_
              refine sa 44 ?_
              refine sp 45 (.bool false) ?_
              refine sp 46 (.bool false) ?_
              refine sa 47 ?_
              refine sa 48 ?_
              refine sa 49 ?_
              refine sp 50 (.bool false) ?_
              refine sp 51 (.bool false) ?_
              refine sa 52 ?_
              refine sa 53 ?_
              refine sa 54 ?_
              refine sp 55 (.bool false) ?_
              refine sp 56 (.bool false) ?_
              refine sa 57 ?_
              refine sa 58 ?_
              refine sa 59 ?_
              refine sp 60 (.bool false) ?_
              refine sp 61 (.bool false) ?_
              refine sa 62 ?_
              refine sa 63 ?_
              refine sa 64 ?_
              refine sp 65 (.bool false) ?_
              refine sp 66 (.bool false) ?_
              refine sa 67 ?_
              refine sa 68 ?_
              refine sa 69 ?_
              refine sp 70 (.bool false) ?_
              refine sp 71 (.bool false) ?_
              refine sa 72 ?_
              refine sa 73 ?_
              refine sa 74 ?_
              refine sa 75 ?_
              refine sp 76 (.bool false) ?_
              refine sp 2 (.bool false) ?_
              refine ops_end ?_
              refine ae [(2, .bool false)] ?_
              refine at_then_normal ?_
              refine at_ret (by kernel_rfl) ?_
              obtain rfl := someE H
              refine at_backR [.bool false] (Γ) (rs := [.tmp 2]) (by kernel_rfl) (.cons (.tmp (by kernel_rfl)) .nil) (fun w hw => (Sat.less (.drop .here .refl) hw)) ?_
              exact ⟨rfl, rfl⟩
          · replace H := bifF H h5
            refine sr 26 (.bool false) (run_eq (v := .bool (decide ((0 : Int) ≤ p.dst))) (fun _ => by kernel_rfl) (congrArg Value.bool h5)) ?_
            refine sa 27 ?_
            refine sa 28 ?_
            refine sa 29 ?_
            refine sp 30 (.bool false) ?_
            refine sp 31 (.bool false) ?_
            refine sa 32 ?_
            refine sa 33 ?_
            refine sa 34 ?_
            refine sp 35 (.bool false) ?_
            refine sp 36 (.bool false) ?_
            refine sa 37 ?_
            refine sa 38 ?_
            refine sa 39 ?_
            refine sp 40 (.bool false) ?_
            refine sp 41 (.bool false) ?_
            refine sa 42 ?_
            refine sa 43 ?_
            refine sa 44 ?_
            refine sp 45 (.bool false) ?_
            refine sp 46 (.bool false) ?_
            refine sa 47 ?_
            refine sa 48 ?_
            refine sa 49 ?_
            refine sp 50 (.bool false) ?_
            refine sp 51 (.bool false) ?_
            refine sa 52 ?_
            refine sa 53 ?_
            refine sa 54 ?_
            refine sp 55 (.bool false) ?_
            refine sp 56 (.bool false) ?_
            refine sa 57 ?_
            refine sa 58 ?_
            refine sa 59 ?_
            refine sp 60 (.bool false) ?_
            refine sp 61 (.bool false) ?_
            refine sa 62 ?_
            refine sa 63 ?_
            refine sa 64 ?_
            refine sp 65 (.bool false) ?_
            refine sp 66 (.bool false) ?_
            refine sa 67 ?_
            refine sa 68 ?_
            refine sa 69 ?_
            refine sp 70 (.bool false) ?_
            refine sp 71 (.bool false) ?_
            refine sa 72 ?_
            refine sa 73 ?_
            refine sa 74 ?_
            refine sa 75 ?_
            refine sp 76 (.bool false) ?_
            refine sp 2 (.bool false) ?_
            refine ops_end ?_
            refine ae [(2, .bool false)] ?_
            refine at_then_normal ?_
            refine at_ret (by kernel_rfl) ?_
            obtain rfl := someE H
            refine at_backR [.bool false] (Γ) (rs := [.tmp 2]) (by kernel_rfl) (.cons (.tmp (by kernel_rfl)) .nil) (fun w hw => (Sat.less (.drop .here .refl) hw)) ?_
            exact ⟨rfl, rfl⟩
        · replace H := bifF H h4
          refine sr 21 (.bool false) (run_eq (v := .bool (decide (p.src < (6 : Int)))) (fun _ => by kernel_rfl) (congrArg Value.bool h4)) ?_
          refine sa 22 ?_
          refine sa 23 ?_
          refine sa 24 ?_
          refine sp 25 (.bool false) ?_
          refine sp 26 (.bool false) ?_
          refine sa 27 ?_
          refine sa 28 ?_
          refine sa 29 ?_
          refine sp 30 (.bool false) ?_
          refine sp 31 (.bool false) ?_
          refine sa 32 ?_
          refine sa 33 ?_
          refine sa 34 ?_
          refine sp 35 (.bool false) ?_
          refine sp 36 (.bool false) ?_
          refine sa 37 ?_
          refine sa 38 ?_
          refine sa 39 ?_
          refine sp 40 (.bool false) ?_
          refine sp 41 (.bool false) ?_
          refine sa 42 ?_
          refine sa 43 ?_
          refine sa 44 ?_
          refine sp 45 (.bool false) ?_
          refine sp 46 (.bool false) ?_
          refine sa 47 ?_
          refine sa 48 ?_
          refine sa 49 ?_
          refine sp 50 (.bool false) ?_
          refine sp 51 (.bool false) ?_
          refine sa 52 ?_
          refine sa 53 ?_
          refine sa 54 ?_
          refine sp 55 (.bool false) ?_
          refine sp 56 (.bool false) ?_
          refine sa 57 ?_
          refine sa 58 ?_
          refine sa 59 ?_
          refine sp 60 (.bool false) ?_
          refine sp 61 (.bool false) ?_
          refine sa 62 ?_
          refine sa 63 ?_
          refine sa 64 ?_
          refine sp 65 (.bool false) ?_
          refine sp 66 (.bool false) ?_
          refine sa 67 ?_
          refine sa 68 ?_
          refine sa 69 ?_
          refine sp 70 (.bool false) ?_
          refine sp 71 (.bool false) ?_
          refine sa 72 ?_
          refine sa 73 ?_
          refine sa 74 ?_
          refine sa 75 ?_
          refine sp 76 (.bool false) ?_
          refine sp 2 (.bool false) ?_
          refine ops_end ?_
          refine ae [(2, .bool false)] ?_
          refine at_then_normal ?_
          refine at_ret (by kernel_rfl) ?_
          obtain rfl := someE H
          refine at_backR [.bool false] (Γ) (rs := [.tmp 2]) (by kernel_rfl) (.cons (.tmp (by kernel_rfl)) .nil) (fun w hw => (Sat.less (.drop .here .refl) hw)) ?_
          exact ⟨rfl, rfl⟩
      · replace H := bifF H h3
        refine sr 16 (.bool false) (run_eq (v := .bool (decide ((0 : Int) ≤ p.src))) (fun _ => by kernel_rfl) (congrArg Value.bool h3)) ?_
        refine sa 17 ?_
        refine sa 18 ?_
        refine sa 19 ?_
        refine sp 20 (.bool false) ?_
        refine sp 21 (.bool false) ?_
        refine sa 22 ?_
        refine sa 23 ?_
        refine sa 24 ?_
        refine sp 25 (.bool false) ?_
        refine sp 26 (.bool false) ?_
        refine sa 27 ?_
        refine sa 28 ?_
        refine sa 29 ?_
        refine sp 30 (.bool false) ?_
        refine sp 31 (.bool false) ?_
        refine sa 32 ?_
        refine sa 33 ?_
        refine sa 34 ?_
        refine sp 35 (.bool false) ?_
        refine sp 36 (.bool false) ?_
        refine sa 37 ?_
        refine sa 38 ?_
        refine sa 39 ?_
        refine sp 40 (.bool false) ?_
        refine sp 41 (.bool false) ?_
        refine sa 42 ?_
        refine sa 43 ?_
        refine sa 44 ?_
        refine sp 45 (.bool false) ?_
        refine sp 46 (.bool false) ?_
        refine sa 47 ?_
        refine sa 48 ?_
        refine sa 49 ?_
        refine sp 50 (.bool false) ?_
        refine sp 51 (.bool false) ?_
        refine sa 52 ?_
        refine sa 53 ?_
        refine sa 54 ?_
        refine sp 55 (.bool false) ?_
        refine sp 56 (.bool false) ?_
        refine sa 57 ?_
        refine sa 58 ?_
        refine sa 59 ?_
        refine sp 60 (.bool false) ?_
        refine sp 61 (.bool false) ?_
        refine sa 62 ?_
        refine sa 63 ?_
        refine sa 64 ?_
        refine sp 65 (.bool false) ?_
        refine sp 66 (.bool false) ?_
        refine sa 67 ?_
        refine sa 68 ?_
        refine sa 69 ?_
        refine sp 70 (.bool false) ?_
        refine sp 71 (.bool false) ?_
        refine sa 72 ?_
        refine sa 73 ?_
        refine sa 74 ?_
        refine sa 75 ?_
        refine sp 76 (.bool false) ?_
        refine sp 2 (.bool false) ?_
        refine ops_end ?_
        refine ae [(2, .bool false)] ?_
        refine at_then_normal ?_
        refine at_ret (by kernel_rfl) ?_
        obtain rfl := someE H
        refine at_backR [.bool false] (Γ) (rs := [.tmp 2]) (by kernel_rfl) (.cons (.tmp (by kernel_rfl)) .nil) (fun w hw => (Sat.less (.drop .here .refl) hw)) ?_
        exact ⟨rfl, rfl⟩
    · replace H := bifF H h2
      refine sr 11 (.bool false) (run_eq (v := .bool (decide (p.kind ≤ (9 : Int)))) (fun _ => by kernel_rfl) (congrArg Value.bool h2)) ?_
      refine sa 12 ?_
      refine sa 13 ?_
      refine sa 14 ?_
      refine sp 15 (.bool false) ?_
      refine sp 16 (.bool false) ?_
      refine sa 17 ?_
      refine sa 18 ?_
      refine sa 19 ?_
      refine sp 20 (.bool false) ?_
      refine sp 21 (.bool false) ?_
      refine sa 22 ?_
      refine sa 23 ?_
      refine sa 24 ?_
      refine sp 25 (.bool false) ?_
      refine sp 26 (.bool false) ?_
      refine sa 27 ?_
      refine sa 28 ?_
      refine sa 29 ?_
      refine sp 30 (.bool false) ?_
      refine sp 31 (.bool false) ?_
      refine sa 32 ?_
      refine sa 33 ?_
      refine sa 34 ?_
      refine sp 35 (.bool false) ?_
      refine sp 36 (.bool false) ?_
      refine sa 37 ?_
      refine sa 38 ?_
      refine sa 39 ?_
      refine sp 40 (.bool false) ?_
      refine sp 41 (.bool false) ?_
      refine sa 42 ?_
      refine sa 43 ?_
      refine sa 44 ?_
      refine sp 45 (.bool false) ?_
      refine sp 46 (.bool false) ?_
      refine sa 47 ?_
      refine sa 48 ?_
      refine sa 49 ?_
      refine sp 50 (.bool false) ?_
      refine sp 51 (.bool false) ?_
      refine sa 52 ?_
      refine sa 53 ?_
      refine sa 54 ?_
      refine sp 55 (.bool false) ?_
      refine sp 56 (.bool false) ?_
      refine sa 57 ?_
      refine sa 58 ?_
      refine sa 59 ?_
      refine sp 60 (.bool false) ?_
      refine sp 61 (.bool false) ?_
      refine sa 62 ?_
      refine sa 63 ?_
      refine sa 64 ?_
      refine sp 65 (.bool false) ?_
      refine sp 66 (.bool false) ?_
      refine sa 67 ?_
      refine sa 68 ?_
      refine sa 69 ?_
      refine sp 70 (.bool false) ?_
      refine sp 71 (.bool false) ?_
      refine sa 72 ?_
      refine sa 73 ?_
      refine sa 74 ?_
      refine sa 75 ?_
      refine sp 76 (.bool false) ?_
      refine sp 2 (.bool false) ?_
      refine ops_end ?_
      refine ae [(2, .bool false)] ?_
      refine at_then_normal ?_
      refine at_ret (by kernel_rfl) ?_
      obtain rfl := someE H
      refine at_backR [.bool false] (Γ) (rs := [.tmp 2]) (by kernel_rfl) (.cons (.tmp (by kernel_rfl)) .nil) (fun w hw => (Sat.less (.drop .here .refl) hw)) ?_
      exact ⟨rfl, rfl⟩
  · replace H := bifF H h1
    refine sr 6 (.bool false) (run_eq (v := .bool (decide ((1 : Int) ≤ p.kind))) (fun _ => by kernel_rfl) (congrArg Value.bool h1)) ?_
    refine sa 7 ?_
    refine sa 8 ?_
    refine sa 9 ?_
    refine sp 10 (.bool false) ?_
    refine sp 11 (.bool false) ?_
    refine sa 12 ?_
    refine sa 13 ?_
    refine sa 14 ?_
    refine sp 15 (.bool false) ?_
    refine sp 16 (.bool false) ?_
    refine sa 17 ?_
    refine sa 18 ?_
    refine sa 19 ?_
    refine sp 20 (.bool false) ?_
    refine sp 21 (.bool false) ?_
    refine sa 22 ?_
    refine sa 23 ?_
    refine sa 24 ?_
    refine sp 25 (.bool false) ?_
    refine sp 26 (.bool false) ?_
    refine sa 27 ?_
    refine sa 28 ?_
    refine sa 29 ?_
    refine sp 30 (.bool false) ?_
    refine sp 31 (.bool false) ?_
    refine sa 32 ?_
    refine sa 33 ?_
    refine sa 34 ?_
    refine sp 35 (.bool false) ?_
    refine sp 36 (.bool false) ?_
    refine sa 37 ?_
    refine sa 38 ?_
    refine sa 39 ?_
    refine sp 40 (.bool false) ?_
    refine sp 41 (.bool false) ?_
    refine sa 42 ?_
    refine sa 43 ?_
    refine sa 44 ?_
    refine sp 45 (.bool false) ?_
    refine sp 46 (.bool false) ?_
    refine sa 47 ?_
    refine sa 48 ?_
    refine sa 49 ?_
    refine sp 50 (.bool false) ?_
    refine sp 51 (.bool false) ?_
    refine sa 52 ?_
    refine sa 53 ?_
    refine sa 54 ?_
    refine sp 55 (.bool false) ?_
    refine sp 56 (.bool false) ?_
    refine sa 57 ?_
    refine sa 58 ?_
    refine sa 59 ?_
    refine sp 60 (.bool false) ?_
    refine sp 61 (.bool false) ?_
    refine sa 62 ?_
    refine sa 63 ?_
    refine sa 64 ?_
    refine sp 65 (.bool false) ?_
    refine sp 66 (.bool false) ?_
    refine sa 67 ?_
    refine sa 68 ?_
    refine sa 69 ?_
    refine sp 70 (.bool false) ?_
    refine sp 71 (.bool false) ?_
    refine sa 72 ?_
    refine sa 73 ?_
    refine sa 74 ?_
    refine sa 75 ?_
    refine sp 76 (.bool false) ?_
    refine sp 2 (.bool false) ?_
    refine ops_end ?_
    refine ae [(2, .bool false)] ?_
    refine at_then_normal ?_
    refine at_ret (by kernel_rfl) ?_
    obtain rfl := someE H
    refine at_backR [.bool false] (Γ) (rs := [.tmp 2]) (by kernel_rfl) (.cons (.tmp (by kernel_rfl)) .nil) (fun w hw => (Sat.less (.drop .here .refl) hw)) ?_
    exact ⟨rfl, rfl⟩
def ransS (k : Int) : Option (Int) :=
  (bif decide (k = (1 : Int)) then some (7 : Int) else (bif decide (k = (2 : Int)) then (bif decide (k = (2 : Int)) then some (8 : Int) else (bif decide (k = (3 : Int)) then (bif decide (k = (3 : Int)) then some (9 : Int) else some (0 : Int)) else (bif decide (k = (6 : Int)) then some (9 : Int) else some (0 : Int)))) else (bif decide (k = (4 : Int)) then (bif decide (k = (4 : Int)) then some (8 : Int) else (bif decide (k = (3 : Int)) then (bif decide (k = (3 : Int)) then some (9 : Int) else some (0 : Int)) else (bif decide (k = (6 : Int)) then some (9 : Int) else some (0 : Int)))) else (bif decide (k = (5 : Int)) then some (8 : Int) else (bif decide (k = (3 : Int)) then (bif decide (k = (3 : Int)) then some (9 : Int) else some (0 : Int)) else (bif decide (k = (6 : Int)) then some (9 : Int) else some (0 : Int)))))))
noncomputable def C64 (p : List Nat) : Code := codeAt (bodyOf Try.f64) p
set_option maxRecDepth 100000 in
set_option maxHeartbeats 8000000 in
theorem RAnsF_tr {W0 : World} {Γ : List Asn} (k : Int)  (y : Int) (H : ransS k = some y) : Tr Try.prog 64 #[.int .i64 k] W0 (Γ) (fun r Δ => r = .int .i64 y ∧ Δ = Γ) := by
  unfold ransS at H
  refine Tr.enter (fn := Try.f64) (c := C64 []) (args := [.int .i64 k]) 13 Try.func64 (by kernel_rfl) (by kernel_rfl) ?_
  refine ae [(0, .int .i64 k)] ?_
  refine aq (x := C64 [0]) (y := C64 [1]) ?_
  refine ar (id := 0) 1 ?_
  refine sp 2 (.int .i64 (0)) ?_
  refine ops_end ?_
  refine ae [(0, .int .i64 k)] ?_
  refine at_then_normal ?_
  refine aq (x := C64 [1,0]) (y := C64 [1,1]) ?_
  refine aq (x := C64 [1,0,0]) (y := C64 [1,0,1]) ?_
  refine ar (id := 1) 1 ?_
  refine sp 3 (.int .i64 k) ?_
  refine ops_end ?_
  refine ae [(3, .int .i64 k)] ?_
  refine at_then_normal ?_
  refine at_block (i := 0) (x := C64 [1,0,1,0]) (by kernel_rfl) ?_
  refine aq (x := C64 [1,0,1,0,0]) (y := C64 [1,0,1,0,1]) ?_
  refine ar (id := 2) 2 ?_
  refine sp 5 (.bool (decide (k = (1 : Int)))) ?_
  refine sp 4 (.bool (decide (k = (1 : Int)))) ?_
  refine ops_end ?_
  refine ae [(3, .int .i64 k), (4, .bool (decide (k = (1 : Int))))] ?_
  refine at_then_normal ?_
  rcases Bool.eq_false_or_eq_true (decide (k = (1 : Int))) with h1 | h1
  · replace H := bifT H h1
    refine at_true (t := decide (k = (1 : Int))) (x := C64 [1,0,1,0,1,0]) (y := C64 [1,0,1,0,1,1]) (o := .tmp 4) (by kernel_rfl) (by kernel_rfl) (by kernel_rfl) h1 ?_
    refine aq (x := C64 [1,0,1,0,1,0,0]) (y := C64 [1,0,1,0,1,0,1]) ?_
    refine ar (id := 3) 1 ?_
    refine sp 2 (.int .i64 (7)) ?_
    refine ops_end ?_
    refine ae [(2, .int .i64 (7))] ?_
    refine at_then_normal ?_
    refine at_ret (by kernel_rfl) ?_
    refine at_in_ret ?_
    refine at_then_ret ?_
    obtain rfl := someE H
    refine at_backR [.int .i64 (7)] (Γ) (rs := [.tmp 2]) (by kernel_rfl) (.cons (.tmp (by kernel_rfl)) .nil) (fun w hw => (Sat.less .refl hw)) ?_
    exact ⟨rfl, rfl⟩
  · replace H := bifF H h1
    refine at_false (t := decide (k = (1 : Int))) (x := C64 [1,0,1,0,1,0]) (y := C64 [1,0,1,0,1,1]) (o := .tmp 4) (by kernel_rfl) (by kernel_rfl) (by kernel_rfl) h1 ?_
    refine aq (x := C64 [1,0,1,0,1,1,0]) (y := C64 [1,0,1,0,1,1,1]) ?_
    refine aq (x := C64 [1,0,1,0,1,1,0,0]) (y := C64 [1,0,1,0,1,1,0,1]) ?_
    refine ar (id := 4) 2 ?_
    refine sp 7 (.bool (decide (k = (2 : Int)))) ?_
    refine sp 6 (.bool (decide (k = (2 : Int)))) ?_
    refine ops_end ?_
    refine ae [(3, .int .i64 k), (6, .bool (decide (k = (2 : Int))))] ?_
    refine at_then_normal ?_
    rcases Bool.eq_false_or_eq_true (decide (k = (2 : Int))) with h2 | h2
    · replace H := bifT H h2
      refine at_true (t := decide (k = (2 : Int))) (x := C64 [1,0,1,0,1,1,0,1,0]) (y := C64 [1,0,1,0,1,1,0,1,1]) (o := .tmp 6) (by kernel_rfl) (by kernel_rfl) (by kernel_rfl) h2 ?_
      refine at_skip (by kernel_rfl) ?_
      refine at_then_normal ?_
      rcases Bool.eq_false_or_eq_true (decide (k = (2 : Int))) with h3 | h3
      · replace H := bifT H h3
        refine at_true (t := decide (k = (2 : Int))) (x := C64 [1,0,1,0,1,1,1,0]) (y := C64 [1,0,1,0,1,1,1,1]) (o := .tmp 6) (by kernel_rfl) (by kernel_rfl) (by kernel_rfl) h3 ?_
        refine aq (x := C64 [1,0,1,0,1,1,1,0,0]) (y := C64 [1,0,1,0,1,1,1,0,1]) ?_
        refine ar (id := 7) 1 ?_
        refine sp 2 (.int .i64 (8)) ?_
        refine ops_end ?_
        refine ae [(2, .int .i64 (8))] ?_
        refine at_then_normal ?_
        refine at_ret (by kernel_rfl) ?_
        refine at_in_ret ?_
        refine at_then_ret ?_
        obtain rfl := someE H
        refine at_backR [.int .i64 (8)] (Γ) (rs := [.tmp 2]) (by kernel_rfl) (.cons (.tmp (by kernel_rfl)) .nil) (fun w hw => (Sat.less .refl hw)) ?_
        exact ⟨rfl, rfl⟩
      · replace H := bifF H h3
        refine at_false (t := decide (k = (2 : Int))) (x := C64 [1,0,1,0,1,1,1,0]) (y := C64 [1,0,1,0,1,1,1,1]) (o := .tmp 6) (by kernel_rfl) (by kernel_rfl) (by kernel_rfl) h3 ?_
        refine aq (x := C64 [1,0,1,0,1,1,1,1,0]) (y := C64 [1,0,1,0,1,1,1,1,1]) ?_
        refine aq (x := C64 [1,0,1,0,1,1,1,1,0,0]) (y := C64 [1,0,1,0,1,1,1,1,0,1]) ?_
        refine ar (id := 8) 2 ?_
        refine sp 11 (.bool (decide (k = (3 : Int)))) ?_
        refine sp 10 (.bool (decide (k = (3 : Int)))) ?_
        refine ops_end ?_
        refine ae [(3, .int .i64 k), (10, .bool (decide (k = (3 : Int))))] ?_
        refine at_then_normal ?_
        rcases Bool.eq_false_or_eq_true (decide (k = (3 : Int))) with h4 | h4
        · replace H := bifT H h4
          refine at_true (t := decide (k = (3 : Int))) (x := C64 [1,0,1,0,1,1,1,1,0,1,0]) (y := C64 [1,0,1,0,1,1,1,1,0,1,1]) (o := .tmp 10) (by kernel_rfl) (by kernel_rfl) (by kernel_rfl) h4 ?_
          refine at_skip (by kernel_rfl) ?_
          refine at_then_normal ?_
          rcases Bool.eq_false_or_eq_true (decide (k = (3 : Int))) with h5 | h5
          · replace H := bifT H h5
            refine at_true (t := decide (k = (3 : Int))) (x := C64 [1,0,1,0,1,1,1,1,1,0]) (y := C64 [1,0,1,0,1,1,1,1,1,1]) (o := .tmp 10) (by kernel_rfl) (by kernel_rfl) (by kernel_rfl) h5 ?_
            refine aq (x := C64 [1,0,1,0,1,1,1,1,1,0,0]) (y := C64 [1,0,1,0,1,1,1,1,1,0,1]) ?_
            refine ar (id := 10) 1 ?_
            refine sp 2 (.int .i64 (9)) ?_
            refine ops_end ?_
            refine ae [(2, .int .i64 (9))] ?_
            refine at_then_normal ?_
            refine at_ret (by kernel_rfl) ?_
            refine at_in_ret ?_
            refine at_then_ret ?_
            obtain rfl := someE H
            refine at_backR [.int .i64 (9)] (Γ) (rs := [.tmp 2]) (by kernel_rfl) (.cons (.tmp (by kernel_rfl)) .nil) (fun w hw => (Sat.less .refl hw)) ?_
            exact ⟨rfl, rfl⟩
          · replace H := bifF H h5
            refine at_false (t := decide (k = (3 : Int))) (x := C64 [1,0,1,0,1,1,1,1,1,0]) (y := C64 [1,0,1,0,1,1,1,1,1,1]) (o := .tmp 10) (by kernel_rfl) (by kernel_rfl) (by kernel_rfl) h5 ?_
            refine at_skip (by kernel_rfl) ?_
            refine at_in_normal ?_
            refine at_then_normal ?_
            refine aq (x := C64 [1,1,0]) (y := C64 [1,1,1]) ?_
            refine ar (id := 11) 1 ?_
            refine sp 2 (.int .i64 (0)) ?_
            refine ops_end ?_
            refine ae [(2, .int .i64 (0))] ?_
            refine at_then_normal ?_
            refine at_ret (by kernel_rfl) ?_
            obtain rfl := someE H
            refine at_backR [.int .i64 (0)] (Γ) (rs := [.tmp 2]) (by kernel_rfl) (.cons (.tmp (by kernel_rfl)) .nil) (fun w hw => (Sat.less .refl hw)) ?_
            exact ⟨rfl, rfl⟩
        · replace H := bifF H h4
          refine at_false (t := decide (k = (3 : Int))) (x := C64 [1,0,1,0,1,1,1,1,0,1,0]) (y := C64 [1,0,1,0,1,1,1,1,0,1,1]) (o := .tmp 10) (by kernel_rfl) (by kernel_rfl) (by kernel_rfl) h4 ?_
          refine ar (id := 9) 2 ?_
          refine sp 12 (.bool (decide (k = (6 : Int)))) ?_
          refine sp 10 (.bool (decide (k = (6 : Int)))) ?_
          refine ops_end ?_
          refine ae [(10, .bool (decide (k = (6 : Int))))] ?_
          refine at_then_normal ?_
          rcases Bool.eq_false_or_eq_true (decide (k = (6 : Int))) with h6 | h6
          · replace H := bifT H h6
            refine at_true (t := decide (k = (6 : Int))) (x := C64 [1,0,1,0,1,1,1,1,1,0]) (y := C64 [1,0,1,0,1,1,1,1,1,1]) (o := .tmp 10) (by kernel_rfl) (by kernel_rfl) (by kernel_rfl) h6 ?_
            refine aq (x := C64 [1,0,1,0,1,1,1,1,1,0,0]) (y := C64 [1,0,1,0,1,1,1,1,1,0,1]) ?_
            refine ar (id := 10) 1 ?_
            refine sp 2 (.int .i64 (9)) ?_
            refine ops_end ?_
            refine ae [(2, .int .i64 (9))] ?_
            refine at_then_normal ?_
            refine at_ret (by kernel_rfl) ?_
            refine at_in_ret ?_
            refine at_then_ret ?_
            obtain rfl := someE H
            refine at_backR [.int .i64 (9)] (Γ) (rs := [.tmp 2]) (by kernel_rfl) (.cons (.tmp (by kernel_rfl)) .nil) (fun w hw => (Sat.less .refl hw)) ?_
            exact ⟨rfl, rfl⟩
          · replace H := bifF H h6
            refine at_false (t := decide (k = (6 : Int))) (x := C64 [1,0,1,0,1,1,1,1,1,0]) (y := C64 [1,0,1,0,1,1,1,1,1,1]) (o := .tmp 10) (by kernel_rfl) (by kernel_rfl) (by kernel_rfl) h6 ?_
            refine at_skip (by kernel_rfl) ?_
            refine at_in_normal ?_
            refine at_then_normal ?_
            refine aq (x := C64 [1,1,0]) (y := C64 [1,1,1]) ?_
            refine ar (id := 11) 1 ?_
            refine sp 2 (.int .i64 (0)) ?_
            refine ops_end ?_
            refine ae [(2, .int .i64 (0))] ?_
            refine at_then_normal ?_
            refine at_ret (by kernel_rfl) ?_
            obtain rfl := someE H
            refine at_backR [.int .i64 (0)] (Γ) (rs := [.tmp 2]) (by kernel_rfl) (.cons (.tmp (by kernel_rfl)) .nil) (fun w hw => (Sat.less .refl hw)) ?_
            exact ⟨rfl, rfl⟩
    · replace H := bifF H h2
      refine at_false (t := decide (k = (2 : Int))) (x := C64 [1,0,1,0,1,1,0,1,0]) (y := C64 [1,0,1,0,1,1,0,1,1]) (o := .tmp 6) (by kernel_rfl) (by kernel_rfl) (by kernel_rfl) h2 ?_
      refine aq (x := C64 [1,0,1,0,1,1,0,1,1,0]) (y := C64 [1,0,1,0,1,1,0,1,1,1]) ?_
      refine ar (id := 5) 2 ?_
      refine sp 8 (.bool (decide (k = (4 : Int)))) ?_
      refine sp 6 (.bool (decide (k = (4 : Int)))) ?_
      refine ops_end ?_
      refine ae [(3, .int .i64 k), (6, .bool (decide (k = (4 : Int))))] ?_
      refine at_then_normal ?_
      rcases Bool.eq_false_or_eq_true (decide (k = (4 : Int))) with h7 | h7
      · replace H := bifT H h7
        refine at_true (t := decide (k = (4 : Int))) (x := C64 [1,0,1,0,1,1,0,1,1,1,0]) (y := C64 [1,0,1,0,1,1,0,1,1,1,1]) (o := .tmp 6) (by kernel_rfl) (by kernel_rfl) (by kernel_rfl) h7 ?_
        refine at_skip (by kernel_rfl) ?_
        refine at_then_normal ?_
        rcases Bool.eq_false_or_eq_true (decide (k = (4 : Int))) with h8 | h8
        · replace H := bifT H h8
          refine at_true (t := decide (k = (4 : Int))) (x := C64 [1,0,1,0,1,1,1,0]) (y := C64 [1,0,1,0,1,1,1,1]) (o := .tmp 6) (by kernel_rfl) (by kernel_rfl) (by kernel_rfl) h8 ?_
          refine aq (x := C64 [1,0,1,0,1,1,1,0,0]) (y := C64 [1,0,1,0,1,1,1,0,1]) ?_
          refine ar (id := 7) 1 ?_
          refine sp 2 (.int .i64 (8)) ?_
          refine ops_end ?_
          refine ae [(2, .int .i64 (8))] ?_
          refine at_then_normal ?_
          refine at_ret (by kernel_rfl) ?_
          refine at_in_ret ?_
          refine at_then_ret ?_
          obtain rfl := someE H
          refine at_backR [.int .i64 (8)] (Γ) (rs := [.tmp 2]) (by kernel_rfl) (.cons (.tmp (by kernel_rfl)) .nil) (fun w hw => (Sat.less .refl hw)) ?_
          exact ⟨rfl, rfl⟩
        · replace H := bifF H h8
          refine at_false (t := decide (k = (4 : Int))) (x := C64 [1,0,1,0,1,1,1,0]) (y := C64 [1,0,1,0,1,1,1,1]) (o := .tmp 6) (by kernel_rfl) (by kernel_rfl) (by kernel_rfl) h8 ?_
          refine aq (x := C64 [1,0,1,0,1,1,1,1,0]) (y := C64 [1,0,1,0,1,1,1,1,1]) ?_
          refine aq (x := C64 [1,0,1,0,1,1,1,1,0,0]) (y := C64 [1,0,1,0,1,1,1,1,0,1]) ?_
          refine ar (id := 8) 2 ?_
          refine sp 11 (.bool (decide (k = (3 : Int)))) ?_
          refine sp 10 (.bool (decide (k = (3 : Int)))) ?_
          refine ops_end ?_
          refine ae [(3, .int .i64 k), (10, .bool (decide (k = (3 : Int))))] ?_
          refine at_then_normal ?_
          rcases Bool.eq_false_or_eq_true (decide (k = (3 : Int))) with h9 | h9
          · replace H := bifT H h9
            refine at_true (t := decide (k = (3 : Int))) (x := C64 [1,0,1,0,1,1,1,1,0,1,0]) (y := C64 [1,0,1,0,1,1,1,1,0,1,1]) (o := .tmp 10) (by kernel_rfl) (by kernel_rfl) (by kernel_rfl) h9 ?_
            refine at_skip (by kernel_rfl) ?_
            refine at_then_normal ?_
            rcases Bool.eq_false_or_eq_true (decide (k = (3 : Int))) with h10 | h10
            · replace H := bifT H h10
              refine at_true (t := decide (k = (3 : Int))) (x := C64 [1,0,1,0,1,1,1,1,1,0]) (y := C64 [1,0,1,0,1,1,1,1,1,1]) (o := .tmp 10) (by kernel_rfl) (by kernel_rfl) (by kernel_rfl) h10 ?_
              refine aq (x := C64 [1,0,1,0,1,1,1,1,1,0,0]) (y := C64 [1,0,1,0,1,1,1,1,1,0,1]) ?_
              refine ar (id := 10) 1 ?_
              refine sp 2 (.int .i64 (9)) ?_
              refine ops_end ?_
              refine ae [(2, .int .i64 (9))] ?_
              refine at_then_normal ?_
              refine at_ret (by kernel_rfl) ?_
              refine at_in_ret ?_
              refine at_then_ret ?_
              obtain rfl := someE H
              refine at_backR [.int .i64 (9)] (Γ) (rs := [.tmp 2]) (by kernel_rfl) (.cons (.tmp (by kernel_rfl)) .nil) (fun w hw => (Sat.less .refl hw)) ?_
              exact ⟨rfl, rfl⟩
            · replace H := bifF H h10
              refine at_false (t := decide (k = (3 : Int))) (x := C64 [1,0,1,0,1,1,1,1,1,0]) (y := C64 [1,0,1,0,1,1,1,1,1,1]) (o := .tmp 10) (by kernel_rfl) (by kernel_rfl) (by kernel_rfl) h10 ?_
              refine at_skip (by kernel_rfl) ?_
              refine at_in_normal ?_
              refine at_then_normal ?_
              refine aq (x := C64 [1,1,0]) (y := C64 [1,1,1]) ?_
              refine ar (id := 11) 1 ?_
              refine sp 2 (.int .i64 (0)) ?_
              refine ops_end ?_
              refine ae [(2, .int .i64 (0))] ?_
              refine at_then_normal ?_
              refine at_ret (by kernel_rfl) ?_
              obtain rfl := someE H
              refine at_backR [.int .i64 (0)] (Γ) (rs := [.tmp 2]) (by kernel_rfl) (.cons (.tmp (by kernel_rfl)) .nil) (fun w hw => (Sat.less .refl hw)) ?_
              exact ⟨rfl, rfl⟩
          · replace H := bifF H h9
            refine at_false (t := decide (k = (3 : Int))) (x := C64 [1,0,1,0,1,1,1,1,0,1,0]) (y := C64 [1,0,1,0,1,1,1,1,0,1,1]) (o := .tmp 10) (by kernel_rfl) (by kernel_rfl) (by kernel_rfl) h9 ?_
            refine ar (id := 9) 2 ?_
            refine sp 12 (.bool (decide (k = (6 : Int)))) ?_
            refine sp 10 (.bool (decide (k = (6 : Int)))) ?_
            refine ops_end ?_
            refine ae [(10, .bool (decide (k = (6 : Int))))] ?_
            refine at_then_normal ?_
            rcases Bool.eq_false_or_eq_true (decide (k = (6 : Int))) with h11 | h11
            · replace H := bifT H h11
              refine at_true (t := decide (k = (6 : Int))) (x := C64 [1,0,1,0,1,1,1,1,1,0]) (y := C64 [1,0,1,0,1,1,1,1,1,1]) (o := .tmp 10) (by kernel_rfl) (by kernel_rfl) (by kernel_rfl) h11 ?_
              refine aq (x := C64 [1,0,1,0,1,1,1,1,1,0,0]) (y := C64 [1,0,1,0,1,1,1,1,1,0,1]) ?_
              refine ar (id := 10) 1 ?_
              refine sp 2 (.int .i64 (9)) ?_
              refine ops_end ?_
              refine ae [(2, .int .i64 (9))] ?_
              refine at_then_normal ?_
              refine at_ret (by kernel_rfl) ?_
              refine at_in_ret ?_
              refine at_then_ret ?_
              obtain rfl := someE H
              refine at_backR [.int .i64 (9)] (Γ) (rs := [.tmp 2]) (by kernel_rfl) (.cons (.tmp (by kernel_rfl)) .nil) (fun w hw => (Sat.less .refl hw)) ?_
              exact ⟨rfl, rfl⟩
            · replace H := bifF H h11
              refine at_false (t := decide (k = (6 : Int))) (x := C64 [1,0,1,0,1,1,1,1,1,0]) (y := C64 [1,0,1,0,1,1,1,1,1,1]) (o := .tmp 10) (by kernel_rfl) (by kernel_rfl) (by kernel_rfl) h11 ?_
              refine at_skip (by kernel_rfl) ?_
              refine at_in_normal ?_
              refine at_then_normal ?_
              refine aq (x := C64 [1,1,0]) (y := C64 [1,1,1]) ?_
              refine ar (id := 11) 1 ?_
              refine sp 2 (.int .i64 (0)) ?_
              refine ops_end ?_
              refine ae [(2, .int .i64 (0))] ?_
              refine at_then_normal ?_
              refine at_ret (by kernel_rfl) ?_
              obtain rfl := someE H
              refine at_backR [.int .i64 (0)] (Γ) (rs := [.tmp 2]) (by kernel_rfl) (.cons (.tmp (by kernel_rfl)) .nil) (fun w hw => (Sat.less .refl hw)) ?_
              exact ⟨rfl, rfl⟩
      · replace H := bifF H h7
        refine at_false (t := decide (k = (4 : Int))) (x := C64 [1,0,1,0,1,1,0,1,1,1,0]) (y := C64 [1,0,1,0,1,1,0,1,1,1,1]) (o := .tmp 6) (by kernel_rfl) (by kernel_rfl) (by kernel_rfl) h7 ?_
        refine ar (id := 6) 2 ?_
        refine sp 9 (.bool (decide (k = (5 : Int)))) ?_
        refine sp 6 (.bool (decide (k = (5 : Int)))) ?_
        refine ops_end ?_
        refine ae [(3, .int .i64 k), (6, .bool (decide (k = (5 : Int))))] ?_
        refine at_then_normal ?_
        rcases Bool.eq_false_or_eq_true (decide (k = (5 : Int))) with h12 | h12
        · replace H := bifT H h12
          refine at_true (t := decide (k = (5 : Int))) (x := C64 [1,0,1,0,1,1,1,0]) (y := C64 [1,0,1,0,1,1,1,1]) (o := .tmp 6) (by kernel_rfl) (by kernel_rfl) (by kernel_rfl) h12 ?_
          refine aq (x := C64 [1,0,1,0,1,1,1,0,0]) (y := C64 [1,0,1,0,1,1,1,0,1]) ?_
          refine ar (id := 7) 1 ?_
          refine sp 2 (.int .i64 (8)) ?_
          refine ops_end ?_
          refine ae [(2, .int .i64 (8))] ?_
          refine at_then_normal ?_
          refine at_ret (by kernel_rfl) ?_
          refine at_in_ret ?_
          refine at_then_ret ?_
          obtain rfl := someE H
          refine at_backR [.int .i64 (8)] (Γ) (rs := [.tmp 2]) (by kernel_rfl) (.cons (.tmp (by kernel_rfl)) .nil) (fun w hw => (Sat.less .refl hw)) ?_
          exact ⟨rfl, rfl⟩
        · replace H := bifF H h12
          refine at_false (t := decide (k = (5 : Int))) (x := C64 [1,0,1,0,1,1,1,0]) (y := C64 [1,0,1,0,1,1,1,1]) (o := .tmp 6) (by kernel_rfl) (by kernel_rfl) (by kernel_rfl) h12 ?_
          refine aq (x := C64 [1,0,1,0,1,1,1,1,0]) (y := C64 [1,0,1,0,1,1,1,1,1]) ?_
          refine aq (x := C64 [1,0,1,0,1,1,1,1,0,0]) (y := C64 [1,0,1,0,1,1,1,1,0,1]) ?_
          refine ar (id := 8) 2 ?_
          refine sp 11 (.bool (decide (k = (3 : Int)))) ?_
          refine sp 10 (.bool (decide (k = (3 : Int)))) ?_
          refine ops_end ?_
          refine ae [(3, .int .i64 k), (10, .bool (decide (k = (3 : Int))))] ?_
          refine at_then_normal ?_
          rcases Bool.eq_false_or_eq_true (decide (k = (3 : Int))) with h13 | h13
          · replace H := bifT H h13
            refine at_true (t := decide (k = (3 : Int))) (x := C64 [1,0,1,0,1,1,1,1,0,1,0]) (y := C64 [1,0,1,0,1,1,1,1,0,1,1]) (o := .tmp 10) (by kernel_rfl) (by kernel_rfl) (by kernel_rfl) h13 ?_
            refine at_skip (by kernel_rfl) ?_
            refine at_then_normal ?_
            rcases Bool.eq_false_or_eq_true (decide (k = (3 : Int))) with h14 | h14
            · replace H := bifT H h14
              refine at_true (t := decide (k = (3 : Int))) (x := C64 [1,0,1,0,1,1,1,1,1,0]) (y := C64 [1,0,1,0,1,1,1,1,1,1]) (o := .tmp 10) (by kernel_rfl) (by kernel_rfl) (by kernel_rfl) h14 ?_
              refine aq (x := C64 [1,0,1,0,1,1,1,1,1,0,0]) (y := C64 [1,0,1,0,1,1,1,1,1,0,1]) ?_
              refine ar (id := 10) 1 ?_
              refine sp 2 (.int .i64 (9)) ?_
              refine ops_end ?_
              refine ae [(2, .int .i64 (9))] ?_
              refine at_then_normal ?_
              refine at_ret (by kernel_rfl) ?_
              refine at_in_ret ?_
              refine at_then_ret ?_
              obtain rfl := someE H
              refine at_backR [.int .i64 (9)] (Γ) (rs := [.tmp 2]) (by kernel_rfl) (.cons (.tmp (by kernel_rfl)) .nil) (fun w hw => (Sat.less .refl hw)) ?_
              exact ⟨rfl, rfl⟩
            · replace H := bifF H h14
              refine at_false (t := decide (k = (3 : Int))) (x := C64 [1,0,1,0,1,1,1,1,1,0]) (y := C64 [1,0,1,0,1,1,1,1,1,1]) (o := .tmp 10) (by kernel_rfl) (by kernel_rfl) (by kernel_rfl) h14 ?_
              refine at_skip (by kernel_rfl) ?_
              refine at_in_normal ?_
              refine at_then_normal ?_
              refine aq (x := C64 [1,1,0]) (y := C64 [1,1,1]) ?_
              refine ar (id := 11) 1 ?_
              refine sp 2 (.int .i64 (0)) ?_
              refine ops_end ?_
              refine ae [(2, .int .i64 (0))] ?_
              refine at_then_normal ?_
              refine at_ret (by kernel_rfl) ?_
              obtain rfl := someE H
              refine at_backR [.int .i64 (0)] (Γ) (rs := [.tmp 2]) (by kernel_rfl) (.cons (.tmp (by kernel_rfl)) .nil) (fun w hw => (Sat.less .refl hw)) ?_
              exact ⟨rfl, rfl⟩
          · replace H := bifF H h13
            refine at_false (t := decide (k = (3 : Int))) (x := C64 [1,0,1,0,1,1,1,1,0,1,0]) (y := C64 [1,0,1,0,1,1,1,1,0,1,1]) (o := .tmp 10) (by kernel_rfl) (by kernel_rfl) (by kernel_rfl) h13 ?_
            refine ar (id := 9) 2 ?_
            refine sp 12 (.bool (decide (k = (6 : Int)))) ?_
            refine sp 10 (.bool (decide (k = (6 : Int)))) ?_
            refine ops_end ?_
            refine ae [(10, .bool (decide (k = (6 : Int))))] ?_
            refine at_then_normal ?_
            rcases Bool.eq_false_or_eq_true (decide (k = (6 : Int))) with h15 | h15
            · replace H := bifT H h15
              refine at_true (t := decide (k = (6 : Int))) (x := C64 [1,0,1,0,1,1,1,1,1,0]) (y := C64 [1,0,1,0,1,1,1,1,1,1]) (o := .tmp 10) (by kernel_rfl) (by kernel_rfl) (by kernel_rfl) h15 ?_
              refine aq (x := C64 [1,0,1,0,1,1,1,1,1,0,0]) (y := C64 [1,0,1,0,1,1,1,1,1,0,1]) ?_
              refine ar (id := 10) 1 ?_
              refine sp 2 (.int .i64 (9)) ?_
              refine ops_end ?_
              refine ae [(2, .int .i64 (9))] ?_
              refine at_then_normal ?_
              refine at_ret (by kernel_rfl) ?_
              refine at_in_ret ?_
              refine at_then_ret ?_
              obtain rfl := someE H
              refine at_backR [.int .i64 (9)] (Γ) (rs := [.tmp 2]) (by kernel_rfl) (.cons (.tmp (by kernel_rfl)) .nil) (fun w hw => (Sat.less .refl hw)) ?_
              exact ⟨rfl, rfl⟩
            · replace H := bifF H h15
              refine at_false (t := decide (k = (6 : Int))) (x := C64 [1,0,1,0,1,1,1,1,1,0]) (y := C64 [1,0,1,0,1,1,1,1,1,1]) (o := .tmp 10) (by kernel_rfl) (by kernel_rfl) (by kernel_rfl) h15 ?_
              refine at_skip (by kernel_rfl) ?_
              refine at_in_normal ?_
              refine at_then_normal ?_
              refine aq (x := C64 [1,1,0]) (y := C64 [1,1,1]) ?_
              refine ar (id := 11) 1 ?_
              refine sp 2 (.int .i64 (0)) ?_
              refine ops_end ?_
              refine ae [(2, .int .i64 (0))] ?_
              refine at_then_normal ?_
              refine at_ret (by kernel_rfl) ?_
              obtain rfl := someE H
              refine at_backR [.int .i64 (0)] (Γ) (rs := [.tmp 2]) (by kernel_rfl) (.cons (.tmp (by kernel_rfl)) .nil) (fun w hw => (Sat.less .refl hw)) ?_
              exact ⟨rfl, rfl⟩
def rserveS_j0 (cc : CacheS) (p : PktS) (e0_21 : Bool) : Option (PktS × Int × CacheS) :=
  (bif e0_21 then some ((⟨0, 0, 0, 0, 0, 0, 0, false, ([] : List Int)⟩ : PktS), (1 : Int), cc) else (ratS cc p.line).bind fun y3_3 => (bif decide (y3_3 < (0 : Int)) then some ((⟨0, 0, 0, 0, 0, 0, 0, false, ([] : List Int)⟩ : PktS), (3 : Int), cc) else (ransS p.kind).bind fun y6_2 => chk (0 ≤ y3_3 ∧ y3_3 < ((List.length cc.l : Nat) : Int)) (letP (nthT cc.l y3_3) fun x7_6 => (ecopyS x7_6).bind fun y7_7 => (bif decide (p.kind = (3 : Int)) then chk ((y7_7.data).length ≤ 1099511627776) (letP (y7_7.data) fun l13_2 => chk (0 ≤ y3_3 ∧ y3_3 < ((List.length cc.l : Nat) : Int)) (letP (List.set cc.l (y3_3).toNat (⟨y7_7.fwd, p.ptr, y7_7.line, y7_7.used, false, y7_7.data⟩ : Ent)) fun l19_7 => some ((⟨y6_2, p.dst, p.src, p.id, p.line, 0, 0, y7_7.dirty, l13_2⟩ : PktS), (0 : Int), ({ sets := cc.sets, ways := cc.ways, clock := cc.clock, l := l19_7 } : CacheS)))) else (bif decide (p.kind = (4 : Int)) then chk (0 ≤ y3_3 ∧ y3_3 < ((List.length cc.l : Nat) : Int)) (letP (List.set cc.l (y3_3).toNat (⟨p.ptr, y7_7.back, y7_7.line, y7_7.used, y7_7.dirty, y7_7.data⟩ : Ent)) fun l19_7 => some ((⟨y6_2, p.dst, p.src, p.id, p.line, 0, 0, false, ([] : List Int)⟩ : PktS), (0 : Int), ({ sets := cc.sets, ways := cc.ways, clock := cc.clock, l := l19_7 } : CacheS))) else (bif decide (p.kind = (5 : Int)) then chk (0 ≤ y3_3 ∧ y3_3 < ((List.length cc.l : Nat) : Int)) (letP (List.set cc.l (y3_3).toNat (⟨y7_7.fwd, p.ptr, y7_7.line, y7_7.used, y7_7.dirty, y7_7.data⟩ : Ent)) fun l19_7 => some ((⟨y6_2, p.dst, p.src, p.id, p.line, 0, 0, false, ([] : List Int)⟩ : PktS), (0 : Int), ({ sets := cc.sets, ways := cc.ways, clock := cc.clock, l := l19_7 } : CacheS))) else chk ((y7_7.data).length ≤ 1099511627776) (letP (y7_7.data) fun l9_2 => (rdropS cc p.line).bind fun y10_3 => some ((⟨y6_2, p.dst, p.src, p.id, p.line, y7_7.fwd, 0, y7_7.dirty, l9_2⟩ : PktS), (0 : Int), y10_3.2.2))))))))
def rserveS (cc : CacheS) (p : PktS) : Option (PktS × Int × CacheS) :=
  (rrightS p).bind fun y1_1 => (bif !y1_1 then rserveS_j0 cc p true else (bif decide (p.kind < (3 : Int)) then rserveS_j0 cc p true else rserveS_j0 cc p (decide ((6 : Int) < p.kind))))
noncomputable def C45 (p : List Nat) : Code := codeAt (bodyOf Try.f45) p
set_option maxRecDepth 100000 in
set_option maxHeartbeats 8000000 in
theorem RServeF_tr {W0 : World} {Γ : List Asn} (c : Nat) (cc : CacheS) (pa : Option Addr) (pcap : Nat) (p : PktS) (hrpa : Reads W0 Γ pa (ints p.data)) (y : PktS × Int × CacheS) (H : rserveS cc p = some y) : Tr Try.prog 45 #[.pointer (some ⟨c, 0, none⟩), .agg #[.int .i64 p.kind, .int .i64 p.src, .int .i64 p.dst, .int .i64 p.id, .int .i64 p.line, .int .i64 p.ptr, .int .i64 p.state, .bool p.flag, .slice pa (List.length p.data) pcap]] W0 ((RChA c cc) :: Γ) (fun r Δ => ∃ (a0_0 : Option Addr) (c0_0 : Nat), r = .tuple #[.agg #[.int .i64 y.1.kind, .int .i64 y.1.src, .int .i64 y.1.dst, .int .i64 y.1.id, .int .i64 y.1.line, .int .i64 y.1.ptr, .int .i64 y.1.state, .bool y.1.flag, .slice a0_0 (List.length y.1.data) c0_0], .int .i64 y.2.1] ∧ Δ = (IntsA a0_0 c0_0 y.1.data) :: (RChA c y.2.2) :: Γ) := by
  unfold rserveS at H
  refine Tr.enter (fn := Try.f45) (c := C45 []) (args := [.pointer (some ⟨c, 0, none⟩), .agg #[.int .i64 p.kind, .int .i64 p.src, .int .i64 p.dst, .int .i64 p.id, .int .i64 p.line, .int .i64 p.ptr, .int .i64 p.state, .bool p.flag, .slice pa (List.length p.data) pcap]]) 98 Try.func45 (by kernel_rfl) (by kernel_rfl) ?_
  refine ae [(0, .pointer (some ⟨c, 0, none⟩)), (1, .agg #[.int .i64 p.kind, .int .i64 p.src, .int .i64 p.dst, .int .i64 p.id, .int .i64 p.line, .int .i64 p.ptr, .int .i64 p.state, .bool p.flag, .slice pa (List.length p.data) pcap])] ?_
  refine aq (x := C45 [0]) (y := C45 [1]) ?_
  refine ar (id := 0) 3 ?_
  refine s_step 3 (by kernel_rfl) (by kernel_rfl) (st_new (T := 35) (cells := #[.int .i64 p.kind, .int .i64 p.src, .int .i64 p.dst, .int .i64 p.id, .int .i64 p.line, .int .i64 p.ptr, .int .i64 p.state, .bool p.flag, .slice pa (List.length p.data) pcap]) (fun a => .pointer (some a)) (fun _ => by kernel_rfl)) ?_
  rintro _ _ ⟨b0_0, rfl, rfl⟩
  refine s_step 4 (by kernel_rfl) (by kernel_rfl) (st_new (T := 35) (cells := #[.int .i64 (0), .int .i64 (0), .int .i64 (0), .int .i64 (0), .int .i64 (0), .int .i64 (0), .int .i64 (0), .bool false, .slice none 0 0]) (fun a => .pointer (some a)) (fun _ => by kernel_rfl)) ?_
  rintro _ _ ⟨b0_1, rfl, rfl⟩
  refine sp 5 (.int .i64 (0)) ?_
  refine ops_end ?_
  refine ae [(0, .pointer (some ⟨c, 0, none⟩)), (3, .pointer (some ⟨b0_0, 0, none⟩)), (4, .pointer (some ⟨b0_1, 0, none⟩))] ?_
  refine at_then_normal ?_
  refine aq (x := C45 [1,0]) (y := C45 [1,1]) ?_
  refine at_seq_join (x := C45 [1,0,0]) (y := C45 [1,0,1]) (fun ff ΔΔ => ∃ (e0_21 : Bool), rserveS_j0 cc p e0_21 = some y ∧ ff = [(0, .pointer (some ⟨c, 0, none⟩)), (3, .pointer (some ⟨b0_0, 0, none⟩)), (4, .pointer (some ⟨b0_1, 0, none⟩)), (21, .bool e0_21)] ∧ (Asn.own b0_1 (.cells #[.int .i64 (0), .int .i64 (0), .int .i64 (0), .int .i64 (0), .int .i64 (0), .int .i64 (0), .int .i64 (0), .bool false, .slice none 0 0] 35 (0, 0))) :: (Asn.own b0_0 (.cells #[.int .i64 p.kind, .int .i64 p.src, .int .i64 p.dst, .int .i64 p.id, .int .i64 p.line, .int .i64 p.ptr, .int .i64 p.state, .bool p.flag, .slice pa (List.length p.data) pcap] 35 (0, 0))) :: (RChA c cc) :: Γ = ΔΔ) (by kernel_rfl) ?_ ?_
  · rintro _ _ ⟨e0_21, H, rfl, rfl⟩
    rw [rserveS_j0] at H
    rcases Bool.eq_false_or_eq_true (e0_21) with h1 | h1
    · replace H := bifT H h1
      refine at_true (t := e0_21) (x := C45 [1,0,1,0]) (y := C45 [1,0,1,1]) (o := .tmp 21) (by kernel_rfl) (by kernel_rfl) (by kernel_rfl) h1 ?_
      refine aq (x := C45 [1,0,1,0,0]) (y := C45 [1,0,1,0,1]) ?_
      refine ar (id := 2) 3 ?_
      refine sp 22 (.agg #[.int .i64 (0), .int .i64 (0), .int .i64 (0), .int .i64 (0), .int .i64 (0), .int .i64 (0), .int .i64 (0), .bool false, .slice none 0 0]) ?_
      refine s_do (by kernel_rfl) (by kernel_rfl) (st_store (off := 0) (vs := [.int .i64 (0), .int .i64 (0), .int .i64 (0), .int .i64 (0), .int .i64 (0), .int .i64 (0), .int .i64 (0), .bool false, .slice none 0 0]) (c' := #[.int .i64 (0), .int .i64 (0), .int .i64 (0), .int .i64 (0), .int .i64 (0), .int .i64 (0), .int .i64 (0), .bool false, .slice none 0 0]) (fun _ => by kernel_rfl) .here (by kernel_rfl) (by kernel_rfl) (by kernel_rfl)) ?_
      rintro _ _ ⟨rfl, rfl⟩
      refine sp 5 (.int .i64 (1)) ?_
      refine ops_end ?_
      refine ae [(4, .pointer (some ⟨b0_1, 0, none⟩)), (5, .int .i64 (1))] ?_
      refine at_then_normal ?_
      refine at_ret (by kernel_rfl) ?_
      refine at_then_ret ?_
      obtain rfl := someE H
      refine at_backR [.agg #[.int .i64 (0), .int .i64 (0), .int .i64 (0), .int .i64 (0), .int .i64 (0), .int .i64 (0), .int .i64 (0), .bool false, .slice none 0 0], .int .i64 (1)] ((IntsA none 0 ([] : List Int)) :: (RChA c cc) :: Γ) (rs := [.cell 4 35, .tmp 5]) (by kernel_rfl) (.cons (.cell (by kernel_rfl) (retN (off := 0) (vs := [.int .i64 (0), .int .i64 (0), .int .i64 (0), .int .i64 (0), .int .i64 (0), .int .i64 (0), .int .i64 (0), .bool false, .slice none 0 0]) 9 (fun _ => by kernel_rfl) (holds_own .here) rfl (by exact ⟨rfl, rfl, rfl, rfl, rfl, rfl, rfl, rfl, rfl, trivial⟩))) (.cons (.tmp (by kernel_rfl)) .nil)) (fun w hw => (Sat.less (.take .here (.take (.there (.there .here)) (.drop .here (.drop .here .refl)))) (RowsA.none_mk (k := 1) (a := none) hw))) ?_
      exact ⟨none, 0, rfl, rfl⟩
    · replace H := bifF H h1
      refine at_false (t := e0_21) (x := C45 [1,0,1,0]) (y := C45 [1,0,1,1]) (o := .tmp 21) (by kernel_rfl) (by kernel_rfl) (by kernel_rfl) h1 ?_
      refine at_skip (by kernel_rfl) ?_
      refine at_then_normal ?_
      refine aq (x := C45 [1,1,0]) (y := C45 [1,1,1]) ?_
      refine ar (id := 3) 5 ?_
      refine sp 23 (.pointer (some ⟨c, 0, none⟩)) ?_
      refine sp 24 (.pointer (some ⟨b0_0, 4, none⟩)) ?_
      refine sl 25 (.int .i64 p.line) (load1 (off := 4) (fun _ => by kernel_rfl) (holds_own (.there .here)) (by kernel_rfl)) ?_
      refine RChA.tox (.there (.there .here)) ?_
      intro x3_3_c
      obtain ⟨y3_3, hy3_3, H⟩ := bindE H
      refine s_call 26 38 #[.pointer (some ⟨c, 0, none⟩), .int .i64 p.line] (by kernel_rfl) (by kernel_rfl) (fun _ => by kernel_rfl) (RAtF_tr c x3_3_c cc p.line y3_3 hy3_3) ?_
      rintro _ _ ⟨rfl, rfl⟩
      refine sp 6 (.int .i64 y3_3) ?_
      refine ops_end ?_
      refine ae [(0, .pointer (some ⟨c, 0, none⟩)), (3, .pointer (some ⟨b0_0, 0, none⟩)), (4, .pointer (some ⟨b0_1, 0, none⟩)), (6, .int .i64 y3_3)] ?_
      refine at_then_normal ?_
      refine At.conv (Γ' := (RChA c cc) :: (Asn.own b0_1 (.cells #[.int .i64 (0), .int .i64 (0), .int .i64 (0), .int .i64 (0), .int .i64 (0), .int .i64 (0), .int .i64 (0), .bool false, .slice none 0 0] 35 (0, 0))) :: (Asn.own b0_0 (.cells #[.int .i64 p.kind, .int .i64 p.src, .int .i64 p.dst, .int .i64 p.id, .int .i64 p.line, .int .i64 p.ptr, .int .i64 p.state, .bool p.flag, .slice pa (List.length p.data) pcap] 35 (0, 0))) :: Γ) (fun w hw => RChXA.shut (hw.pull .here)) ?_
      refine aq (x := C45 [1,1,1,0]) (y := C45 [1,1,1,1]) ?_
      refine aq (x := C45 [1,1,1,0,0]) (y := C45 [1,1,1,0,1]) ?_
      refine ar (id := 4) 2 ?_
      refine sp 27 (.int .i64 y3_3) ?_
      refine sp 28 (.bool (decide (y3_3 < (0 : Int)))) ?_
      refine ops_end ?_
      refine ae [(0, .pointer (some ⟨c, 0, none⟩)), (3, .pointer (some ⟨b0_0, 0, none⟩)), (4, .pointer (some ⟨b0_1, 0, none⟩)), (6, .int .i64 y3_3), (28, .bool (decide (y3_3 < (0 : Int))))] ?_
      refine at_then_normal ?_
      rcases Bool.eq_false_or_eq_true (decide (y3_3 < (0 : Int))) with h2 | h2
      · replace H := bifT H h2
        refine at_true (t := decide (y3_3 < (0 : Int))) (x := C45 [1,1,1,0,1,0]) (y := C45 [1,1,1,0,1,1]) (o := .tmp 28) (by kernel_rfl) (by kernel_rfl) (by kernel_rfl) h2 ?_
        refine aq (x := C45 [1,1,1,0,1,0,0]) (y := C45 [1,1,1,0,1,0,1]) ?_
        refine ar (id := 5) 3 ?_
        refine sp 29 (.agg #[.int .i64 (0), .int .i64 (0), .int .i64 (0), .int .i64 (0), .int .i64 (0), .int .i64 (0), .int .i64 (0), .bool false, .slice none 0 0]) ?_
        refine s_do (by kernel_rfl) (by kernel_rfl) (st_store (off := 0) (vs := [.int .i64 (0), .int .i64 (0), .int .i64 (0), .int .i64 (0), .int .i64 (0), .int .i64 (0), .int .i64 (0), .bool false, .slice none 0 0]) (c' := #[.int .i64 (0), .int .i64 (0), .int .i64 (0), .int .i64 (0), .int .i64 (0), .int .i64 (0), .int .i64 (0), .bool false, .slice none 0 0]) (fun _ => by kernel_rfl) (.there .here) (by kernel_rfl) (by kernel_rfl) (by kernel_rfl)) ?_
        rintro _ _ ⟨rfl, rfl⟩
        refine sp 5 (.int .i64 (3)) ?_
        refine ops_end ?_
        refine ae [(4, .pointer (some ⟨b0_1, 0, none⟩)), (5, .int .i64 (3))] ?_
        refine at_then_normal ?_
        refine at_ret (by kernel_rfl) ?_
        refine at_then_ret ?_
        obtain rfl := someE H
        refine at_backR [.agg #[.int .i64 (0), .int .i64 (0), .int .i64 (0), .int .i64 (0), .int .i64 (0), .int .i64 (0), .int .i64 (0), .bool false, .slice none 0 0], .int .i64 (3)] ((IntsA none 0 ([] : List Int)) :: (RChA c cc) :: Γ) (rs := [.cell 4 35, .tmp 5]) (by kernel_rfl) (.cons (.cell (by kernel_rfl) (retN (off := 0) (vs := [.int .i64 (0), .int .i64 (0), .int .i64 (0), .int .i64 (0), .int .i64 (0), .int .i64 (0), .int .i64 (0), .bool false, .slice none 0 0]) 9 (fun _ => by kernel_rfl) (holds_own .here) rfl (by exact ⟨rfl, rfl, rfl, rfl, rfl, rfl, rfl, rfl, rfl, trivial⟩))) (.cons (.tmp (by kernel_rfl)) .nil)) (fun w hw => (Sat.less (.take .here (.take (.there .here) (.drop .here (.drop .here .refl)))) (RowsA.none_mk (k := 1) (a := none) hw))) ?_
        exact ⟨none, 0, rfl, rfl⟩
      · replace H := bifF H h2
        refine at_false (t := decide (y3_3 < (0 : Int))) (x := C45 [1,1,1,0,1,0]) (y := C45 [1,1,1,0,1,1]) (o := .tmp 28) (by kernel_rfl) (by kernel_rfl) (by kernel_rfl) h2 ?_
        refine at_skip (by kernel_rfl) ?_
        refine at_then_normal ?_
        refine aq (x := C45 [1,1,1,1,0]) (y := C45 [1,1,1,1,1]) ?_
        refine at_region_draw (id := 6) (by kernel_rfl) (by kernel_rfl) ?_
        refine dp 0 30 (.pointer (some ⟨b0_0, 0, none⟩)) ?_
        refine dl 1 31 (.int .i64 p.kind) (load1 (off := 0) (fun _ => by kernel_rfl) (holds_own (.there (.there .here))) (by kernel_rfl)) ?_
        obtain ⟨y6_2, hy6_2, H⟩ := bindE H
        refine d_quiet 2 32 (.int .i64 y6_2) 64 #[.int .i64 p.kind] (by kernel_rfl) (by kernel_rfl) (by kernel_rfl) (fun _ => by kernel_rfl) (fun _ => (RAnsF_tr p.kind y6_2 hy6_2)) ?_
        refine dp 3 33 (.pointer (some ⟨b0_0, 2, none⟩)) ?_
        refine dl 4 34 (.int .i64 p.dst) (load1 (off := 2) (fun _ => by kernel_rfl) (holds_own (.there (.there .here))) (by kernel_rfl)) ?_
        refine dp 5 35 (.pointer (some ⟨b0_0, 1, none⟩)) ?_
        refine dl 6 36 (.int .i64 p.src) (load1 (off := 1) (fun _ => by kernel_rfl) (holds_own (.there (.there .here))) (by kernel_rfl)) ?_
        refine dp 7 37 (.pointer (some ⟨b0_0, 3, none⟩)) ?_
        refine dl 8 38 (.int .i64 p.id) (load1 (off := 3) (fun _ => by kernel_rfl) (holds_own (.there (.there .here))) (by kernel_rfl)) ?_
        refine dp 9 39 (.pointer (some ⟨b0_0, 4, none⟩)) ?_
        refine dl 10 40 (.int .i64 p.line) (load1 (off := 4) (fun _ => by kernel_rfl) (holds_own (.there (.there .here))) (by kernel_rfl)) ?_
        refine dp 11 41 (.agg #[.int .i64 y6_2, .int .i64 p.dst, .int .i64 p.src, .int .i64 p.id, .int .i64 p.line, .int .i64 (0), .int .i64 (0), .bool false, .slice none 0 0]) ?_
        refine d_step 12 7 [] [11, 9, 7, 5, 3, 2, 0] [10, 8, 6, 4, 1] (by kernel_rfl) (by kernel_rfl) (by kernel_rfl) (st_new (T := 35) (cells := #[.int .i64 (0), .int .i64 (0), .int .i64 (0), .int .i64 (0), .int .i64 (0), .int .i64 (0), .int .i64 (0), .bool false, .slice none 0 0]) (fun a => .pointer (some a)) (fun _ => by kernel_rfl)) ?_
        rintro _ _ ⟨b6_12, rfl, rfl⟩
        refine ⟨(stable_cons 10 40 (.int .i64 p.line) (by kernel_rfl) (by kernel_rfl) (by kernel_rfl) (load1 (off := 4) (fun _ => by kernel_rfl) (holds_own (.there (.there (.there .here)))) (by kernel_rfl)) (stable_cons 8 38 (.int .i64 p.id) (by kernel_rfl) (by kernel_rfl) (by kernel_rfl) (load1 (off := 3) (fun _ => by kernel_rfl) (holds_own (.there (.there (.there .here)))) (by kernel_rfl)) (stable_cons 6 36 (.int .i64 p.src) (by kernel_rfl) (by kernel_rfl) (by kernel_rfl) (load1 (off := 1) (fun _ => by kernel_rfl) (holds_own (.there (.there (.there .here)))) (by kernel_rfl)) (stable_cons 4 34 (.int .i64 p.dst) (by kernel_rfl) (by kernel_rfl) (by kernel_rfl) (load1 (off := 2) (fun _ => by kernel_rfl) (holds_own (.there (.there (.there .here)))) (by kernel_rfl)) (stable_cons 1 31 (.int .i64 p.kind) (by kernel_rfl) (by kernel_rfl) (by kernel_rfl) (load1 (off := 0) (fun _ => by kernel_rfl) (holds_own (.there (.there (.there .here)))) (by kernel_rfl)) stable_nil))))), ?_⟩
        refine d_do 13 [12, 11, 2, 0, 1, 3, 4, 5, 6, 7, 8, 9, 10] [] [] (by kernel_rfl) (by kernel_rfl) (by kernel_rfl) (st_store (off := 0) (vs := [.int .i64 y6_2, .int .i64 p.dst, .int .i64 p.src, .int .i64 p.id, .int .i64 p.line, .int .i64 (0), .int .i64 (0), .bool false, .slice none 0 0]) (c' := #[.int .i64 y6_2, .int .i64 p.dst, .int .i64 p.src, .int .i64 p.id, .int .i64 p.line, .int .i64 (0), .int .i64 (0), .bool false, .slice none 0 0]) (fun _ => by kernel_rfl) .here (by kernel_rfl) (by kernel_rfl) (by kernel_rfl)) ?_
        rintro _ _ ⟨rfl, rfl⟩
        refine ⟨stable_nil, ?_⟩
        refine draw_end (by kernel_rfl) ?_
        refine ae [(0, .pointer (some ⟨c, 0, none⟩)), (3, .pointer (some ⟨b0_0, 0, none⟩)), (4, .pointer (some ⟨b0_1, 0, none⟩)), (6, .int .i64 y3_3), (7, .pointer (some ⟨b6_12, 0, none⟩))] ?_
        refine at_then_normal ?_
        refine aq (x := C45 [1,1,1,1,1,0]) (y := C45 [1,1,1,1,1,1]) ?_
        refine ar (id := 7) 10 ?_
        refine sp 42 (.pointer (some ⟨c, 0, none⟩)) ?_
        refine sp 43 (.pointer (some ⟨c, 0, none⟩)) ?_
        refine sp 44 (.pointer (some ⟨c, 3, none⟩)) ?_
        refine RChA.tox (.there .here) ?_
        intro x7_3_c
        refine RChXA.open .here ?_
        refine sl 45 (.slice x7_3_c.a3 (List.length cc.l) x7_3_c.c3) (load1 (off := 3) (fun _ => by kernel_rfl) (holds_own .here) (by kernel_rfl)) ?_
        refine sp 46 (.int .i64 y3_3) ?_
        obtain ⟨hc7_5_0, H⟩ := chkE H
        refine rd_at (RecsX.rd (α := Ent) (.there .here)) (by have := hc7_5_0; omega) ?_
        intro bb1 oo1 ha1
        refine sr 47 (.pointer (some ⟨bb1, oo1 + (((y3_3).toNat) * 6 + 0), none⟩)) (index_at (t := 91) (sz := 6) (E := 60) (a := x7_3_c.a3) (m := (List.length cc.l)) (c := x7_3_c.c3) (b := bb1) (off := oo1) (i := (y3_3).toNat) (tinfo 60) (fun _ => by kernel_rfl) (by kernel_rfl) (by kernel_rfl) (by kernel_rfl) ha1 (idx_cast hc7_5_0) (idx_nat hc7_5_0) rfl) ?_
        obtain ⟨x7_6, hx7_6, H⟩ := letE H
        refine rd_get (RecsX.rd (α := Ent) (.there .here)) hc7_5_0 ?_
        intro a7_6 c7_6 hrx7_6
        rw [hx7_6] at hrx7_6 ⊢
        refine sl 48 (.agg #[.int .i64 x7_6.fwd, .int .i64 x7_6.back, .int .i64 x7_6.line, .int .i64 x7_6.used, .bool x7_6.dirty, .slice a7_6 (List.length x7_6.data) c7_6]) (loadP_at (m := 6) (k := 6) (vs := [.int .i64 x7_6.fwd, .int .i64 x7_6.back, .int .i64 x7_6.line, .int .i64 x7_6.used, .bool x7_6.dirty, .slice a7_6 (List.length x7_6.data) c7_6]) (off := oo1) (i := (y3_3).toNat) (j := 0) (fun _ => by kernel_rfl) rfl rfl (fun q v hq => rd_row (j := 0 + q) (RecsX.rd (α := Ent) (.there (.there .here))) ha1 hrx7_6 (rowP (j := 0) (m := 6) (by kernel_rfl) hq))) ?_
        obtain ⟨y7_7, hy7_7, H⟩ := bindE H
        refine s_call 49 59 #[.agg #[.int .i64 x7_6.fwd, .int .i64 x7_6.back, .int .i64 x7_6.line, .int .i64 x7_6.used, .bool x7_6.dirty, .slice a7_6 (List.length x7_6.data) c7_6]] (by kernel_rfl) (by kernel_rfl) (fun _ => by kernel_rfl) (ECopyF_tr a7_6 c7_6 x7_6 (ImmR.reads (k := 1) .here) y7_7 hy7_7) ?_
        rintro _ _ ⟨a7_7_00, c7_7_00, rfl, rfl⟩
        refine s_step 8 (by kernel_rfl) (by kernel_rfl) (st_new (T := 60) (cells := #[.int .i64 (0), .int .i64 (0), .int .i64 (0), .int .i64 (0), .bool false, .slice none 0 0]) (fun a => .pointer (some a)) (fun _ => by kernel_rfl)) ?_
        rintro _ _ ⟨b7_8, rfl, rfl⟩
        refine s_do (by kernel_rfl) (by kernel_rfl) (st_store (off := 0) (vs := [.int .i64 y7_7.fwd, .int .i64 y7_7.back, .int .i64 y7_7.line, .int .i64 y7_7.used, .bool y7_7.dirty, .slice a7_7_00 (List.length y7_7.data) c7_7_00]) (c' := #[.int .i64 y7_7.fwd, .int .i64 y7_7.back, .int .i64 y7_7.line, .int .i64 y7_7.used, .bool y7_7.dirty, .slice a7_7_00 (List.length y7_7.data) c7_7_00]) (fun _ => by kernel_rfl) .here (by kernel_rfl) (by kernel_rfl) (by kernel_rfl)) ?_
        rintro _ _ ⟨rfl, rfl⟩
        refine ops_end ?_
        refine ae [(0, .pointer (some ⟨c, 0, none⟩)), (3, .pointer (some ⟨b0_0, 0, none⟩)), (4, .pointer (some ⟨b0_1, 0, none⟩)), (6, .int .i64 y3_3), (7, .pointer (some ⟨b6_12, 0, none⟩)), (8, .pointer (some ⟨b7_8, 0, none⟩))] ?_
        refine at_then_normal ?_
        refine At.conv (Γ' := (RChXA c x7_3_c cc) :: (Asn.own b7_8 (.cells #[.int .i64 y7_7.fwd, .int .i64 y7_7.back, .int .i64 y7_7.line, .int .i64 y7_7.used, .bool y7_7.dirty, .slice a7_7_00 (List.length y7_7.data) c7_7_00] 60 (0, 0))) :: (IntsA a7_7_00 c7_7_00 y7_7.data) :: (ImmI a7_6 x7_6.data) :: (Asn.own b6_12 (.cells #[.int .i64 y6_2, .int .i64 p.dst, .int .i64 p.src, .int .i64 p.id, .int .i64 p.line, .int .i64 (0), .int .i64 (0), .bool false, .slice none 0 0] 35 (0, 0))) :: (Asn.own b0_1 (.cells #[.int .i64 (0), .int .i64 (0), .int .i64 (0), .int .i64 (0), .int .i64 (0), .int .i64 (0), .int .i64 (0), .bool false, .slice none 0 0] 35 (0, 0))) :: (Asn.own b0_0 (.cells #[.int .i64 p.kind, .int .i64 p.src, .int .i64 p.dst, .int .i64 p.id, .int .i64 p.line, .int .i64 p.ptr, .int .i64 p.state, .bool p.flag, .slice pa (List.length p.data) pcap] 35 (0, 0))) :: Γ) (fun w hw => RChXA.close (x := x7_3_c) (t := cc) (Sat.less (.take (.there (.there (.there .here))) (.take (.there (.there (.there .here))) (.take .here (.take .here (.take .here (.take .here (.take .here (.take .here .refl)))))))) hw)) ?_
        refine At.conv (Γ' := (RChA c cc) :: (Asn.own b7_8 (.cells #[.int .i64 y7_7.fwd, .int .i64 y7_7.back, .int .i64 y7_7.line, .int .i64 y7_7.used, .bool y7_7.dirty, .slice a7_7_00 (List.length y7_7.data) c7_7_00] 60 (0, 0))) :: (IntsA a7_7_00 c7_7_00 y7_7.data) :: (ImmI a7_6 x7_6.data) :: (Asn.own b6_12 (.cells #[.int .i64 y6_2, .int .i64 p.dst, .int .i64 p.src, .int .i64 p.id, .int .i64 p.line, .int .i64 (0), .int .i64 (0), .bool false, .slice none 0 0] 35 (0, 0))) :: (Asn.own b0_1 (.cells #[.int .i64 (0), .int .i64 (0), .int .i64 (0), .int .i64 (0), .int .i64 (0), .int .i64 (0), .int .i64 (0), .bool false, .slice none 0 0] 35 (0, 0))) :: (Asn.own b0_0 (.cells #[.int .i64 p.kind, .int .i64 p.src, .int .i64 p.dst, .int .i64 p.id, .int .i64 p.line, .int .i64 p.ptr, .int .i64 p.state, .bool p.flag, .slice pa (List.length p.data) pcap] 35 (0, 0))) :: Γ) (fun w hw => RChXA.shut (hw.pull .here)) ?_
        refine aq (x := C45 [1,1,1,1,1,1,0]) (y := C45 [1,1,1,1,1,1,1]) ?_
        refine aq (x := C45 [1,1,1,1,1,1,0,0]) (y := C45 [1,1,1,1,1,1,0,1]) ?_
        refine ar (id := 8) 2 ?_
        refine sp 50 (.pointer (some ⟨b0_0, 0, none⟩)) ?_
        refine sl 51 (.int .i64 p.kind) (load1 (off := 0) (fun _ => by kernel_rfl) (holds_own (.there (.there (.there (.there (.there (.there .here))))))) (by kernel_rfl)) ?_
        refine ops_end ?_
        refine ae [(0, .pointer (some ⟨c, 0, none⟩)), (3, .pointer (some ⟨b0_0, 0, none⟩)), (4, .pointer (some ⟨b0_1, 0, none⟩)), (6, .int .i64 y3_3), (7, .pointer (some ⟨b6_12, 0, none⟩)), (8, .pointer (some ⟨b7_8, 0, none⟩)), (51, .int .i64 p.kind)] ?_
        refine at_then_normal ?_
        refine at_block (i := 0) (x := C45 [1,1,1,1,1,1,0,1,0]) (by kernel_rfl) ?_
        refine aq (x := C45 [1,1,1,1,1,1,0,1,0,0]) (y := C45 [1,1,1,1,1,1,0,1,0,1]) ?_
        refine ar (id := 12) 2 ?_
        refine sp 68 (.bool (decide (p.kind = (3 : Int)))) ?_
        refine sp 67 (.bool (decide (p.kind = (3 : Int)))) ?_
        refine ops_end ?_
        refine ae [(0, .pointer (some ⟨c, 0, none⟩)), (3, .pointer (some ⟨b0_0, 0, none⟩)), (4, .pointer (some ⟨b0_1, 0, none⟩)), (6, .int .i64 y3_3), (7, .pointer (some ⟨b6_12, 0, none⟩)), (8, .pointer (some ⟨b7_8, 0, none⟩)), (51, .int .i64 p.kind), (67, .bool (decide (p.kind = (3 : Int))))] ?_
        refine at_then_normal ?_
        rcases Bool.eq_false_or_eq_true (decide (p.kind = (3 : Int))) with h3 | h3
        · replace H := bifT H h3
          refine at_true (t := decide (p.kind = (3 : Int))) (x := C45 [1,1,1,1,1,1,0,1,0,1,0]) (y := C45 [1,1,1,1,1,1,0,1,0,1,1]) (o := .tmp 67) (by kernel_rfl) (by kernel_rfl) (by kernel_rfl) h3 ?_
          refine aq (x := C45 [1,1,1,1,1,1,0,1,0,1,0,0]) (y := C45 [1,1,1,1,1,1,0,1,0,1,0,1]) ?_
          refine at_region_draw (id := 13) (by kernel_rfl) (by kernel_rfl) ?_
          refine dp 0 69 (.pointer (some ⟨b7_8, 5, none⟩)) ?_
          refine dl 1 70 (.slice a7_7_00 (List.length y7_7.data) c7_7_00) (load1 (off := 5) (fun _ => by kernel_rfl) (holds_own (.there .here)) (by kernel_rfl)) ?_
          refine dp 3 72 (.pointer (some ⟨b7_8, 4, none⟩)) ?_
          refine dl 4 73 (.bool y7_7.dirty) (load1 (off := 4) (fun _ => by kernel_rfl) (holds_own (.there .here)) (by kernel_rfl)) ?_
          obtain ⟨hc13_2_0, H⟩ := chkE H
          obtain ⟨l13_2, hl13_2, H⟩ := letE H
          refine d_step 2 71 [1, 0] [3] [4] (by kernel_rfl) (by kernel_rfl) (by kernel_rfl) (StepTo.conv (fun w hw => RowsA.none_mk (k := 1) (a := none) hw) (st_append_ints (xs := ([] : List Int)) (ys := y7_7.data) (zs := l13_2) (m1 := 0) (m2 := (List.length y7_7.data)) (m := List.length l13_2) (cap2 := c7_7_00) 22 22 3 (tinfo 3) (fun _ => by kernel_rfl) (by kernel_rfl) (by kernel_rfl) (by kernel_rfl) (by kernel_rfl) (by kernel_rfl) .here (RowsA.reads (k := 1) (.there (.there (.there .here)))) (by first | rfl | simp) (by first | rfl | simp) (by rw [← hl13_2]; first | done | simp) (by rw [← hl13_2]; first | done | simp) (by rw [← hl13_2]; exact hc13_2_0))) ?_
          rintro _ _ ⟨a13_2, c13_2, rfl, rfl⟩
          refine ⟨(stable_cons 4 73 (.bool y7_7.dirty) (by kernel_rfl) (by kernel_rfl) (by kernel_rfl) (load1 (off := 4) (fun _ => by kernel_rfl) (holds_own (.there (.there .here))) (by kernel_rfl)) stable_nil), ?_⟩
          refine dp 5 74 (.pointer (some ⟨b6_12, 8, none⟩)) ?_
          refine d_do 6 [5, 2, 0, 1] [3] [4] (by kernel_rfl) (by kernel_rfl) (by kernel_rfl) (st_store (off := 8) (vs := [.slice a13_2 (List.length l13_2) c13_2]) (c' := #[.int .i64 y6_2, .int .i64 p.dst, .int .i64 p.src, .int .i64 p.id, .int .i64 p.line, .int .i64 (0), .int .i64 (0), .bool false, .slice a13_2 (List.length l13_2) c13_2]) (fun _ => by kernel_rfl) (.there (.there (.there (.there (.there .here))))) (by kernel_rfl) (by kernel_rfl) (by kernel_rfl)) ?_
          rintro _ _ ⟨rfl, rfl⟩
          refine ⟨(stable_cons 4 73 (.bool y7_7.dirty) (by kernel_rfl) (by kernel_rfl) (by kernel_rfl) (load1 (off := 4) (fun _ => by kernel_rfl) (holds_own (.there (.there (.there .here)))) (by kernel_rfl)) stable_nil), ?_⟩
          refine dp 7 75 (.pointer (some ⟨b6_12, 7, none⟩)) ?_
          refine d_do 8 [7, 4, 6, 0, 1, 2, 3, 5] [] [] (by kernel_rfl) (by kernel_rfl) (by kernel_rfl) (st_store (off := 7) (vs := [.bool y7_7.dirty]) (c' := #[.int .i64 y6_2, .int .i64 p.dst, .int .i64 p.src, .int .i64 p.id, .int .i64 p.line, .int .i64 (0), .int .i64 (0), .bool y7_7.dirty, .slice a13_2 (List.length l13_2) c13_2]) (fun _ => by kernel_rfl) .here (by kernel_rfl) (by kernel_rfl) (by kernel_rfl)) ?_
          rintro _ _ ⟨rfl, rfl⟩
          refine ⟨stable_nil, ?_⟩
          refine draw_end (by kernel_rfl) ?_
          refine ae [(0, .pointer (some ⟨c, 0, none⟩)), (3, .pointer (some ⟨b0_0, 0, none⟩)), (4, .pointer (some ⟨b0_1, 0, none⟩)), (6, .int .i64 y3_3), (7, .pointer (some ⟨b6_12, 0, none⟩)), (8, .pointer (some ⟨b7_8, 0, none⟩))] ?_
          refine at_then_normal ?_
          refine ar (id := 14) 6 ?_
          refine sp 76 (.pointer (some ⟨b0_0, 5, none⟩)) ?_
          refine sl 77 (.int .i64 p.ptr) (load1 (off := 5) (fun _ => by kernel_rfl) (holds_own (.there (.there (.there (.there (.there (.there (.there .here)))))))) (by kernel_rfl)) ?_
          refine sp 78 (.pointer (some ⟨b7_8, 1, none⟩)) ?_
          refine s_do (by kernel_rfl) (by kernel_rfl) (st_store (off := 1) (vs := [.int .i64 p.ptr]) (c' := #[.int .i64 y7_7.fwd, .int .i64 p.ptr, .int .i64 y7_7.line, .int .i64 y7_7.used, .bool y7_7.dirty, .slice a7_7_00 (List.length y7_7.data) c7_7_00]) (fun _ => by kernel_rfl) (.there (.there (.there .here))) (by kernel_rfl) (by kernel_rfl) (by kernel_rfl)) ?_
          rintro _ _ ⟨rfl, rfl⟩
          refine sp 79 (.pointer (some ⟨b7_8, 4, none⟩)) ?_
          refine s_do (by kernel_rfl) (by kernel_rfl) (st_store (off := 4) (vs := [.bool false]) (c' := #[.int .i64 y7_7.fwd, .int .i64 p.ptr, .int .i64 y7_7.line, .int .i64 y7_7.used, .bool false, .slice a7_7_00 (List.length y7_7.data) c7_7_00]) (fun _ => by kernel_rfl) .here (by kernel_rfl) (by kernel_rfl) (by kernel_rfl)) ?_
          rintro _ _ ⟨rfl, rfl⟩
          refine ops_end ?_
          refine ae [(0, .pointer (some ⟨c, 0, none⟩)), (4, .pointer (some ⟨b0_1, 0, none⟩)), (6, .int .i64 y3_3), (7, .pointer (some ⟨b6_12, 0, none⟩)), (8, .pointer (some ⟨b7_8, 0, none⟩))] ?_
          refine at_in_normal ?_
          refine at_then_normal ?_
          refine aq (x := C45 [1,1,1,1,1,1,1,0]) (y := C45 [1,1,1,1,1,1,1,1]) ?_
          refine at_region_draw (id := 19) (by kernel_rfl) (by kernel_rfl) ?_
          refine dp 0 90 (.pointer (some ⟨c, 0, none⟩)) ?_
          refine dp 1 91 (.pointer (some ⟨c, 0, none⟩)) ?_
          refine dp 2 92 (.pointer (some ⟨c, 3, none⟩)) ?_
          refine RChA.tox_draw (.there (.there (.there .here))) ?_
          intro x19_3_c
          refine RChXA.open_draw .here ?_
          refine dl 3 93 (.slice x19_3_c.a3 (List.length cc.l) x19_3_c.c3) (load1 (off := 3) (fun _ => by kernel_rfl) (holds_own .here) (by kernel_rfl)) ?_
          refine dp 4 94 (.int .i64 y3_3) ?_
          refine dl 5 95 (.agg #[.int .i64 y7_7.fwd, .int .i64 p.ptr, .int .i64 y7_7.line, .int .i64 y7_7.used, .bool false, .slice a7_7_00 (List.length y7_7.data) c7_7_00]) (loadN (off := 0) (vs := [.int .i64 y7_7.fwd, .int .i64 p.ptr, .int .i64 y7_7.line, .int .i64 y7_7.used, .bool false, .slice a7_7_00 (List.length y7_7.data) c7_7_00]) 6 (fun _ => by kernel_rfl) (holds_own (.there (.there .here))) rfl (by exact ⟨rfl, rfl, rfl, rfl, rfl, rfl, trivial⟩)) ?_
          obtain ⟨hc19_6_0, H⟩ := chkE H
          refine rd_at_draw (RecsX.rd (α := Ent) (.there .here)) (by have := hc19_6_0; omega) ?_
          intro bb2 oo2 ha2
          refine d_pure 6 96 (.pointer (some ⟨bb2, oo2 + (((y3_3).toNat) * 6 + 0), none⟩)) (by kernel_rfl) (by kernel_rfl) (by kernel_rfl) (index_at (t := 91) (sz := 6) (E := 60) (a := x19_3_c.a3) (m := (List.length cc.l)) (c := x19_3_c.c3) (b := bb2) (off := oo2) (i := (y3_3).toNat) (tinfo 60) (fun _ => by kernel_rfl) (by kernel_rfl) (by kernel_rfl) (by kernel_rfl) ha2 (idx_cast hc19_6_0) (idx_nat hc19_6_0) rfl) ?_
          refine Draw.convS (Γ' := (ImmI a7_7_00 y7_7.data) :: (Asn.own c (.cells #[.int .i64 cc.sets, .int .i64 cc.ways, .int .i64 cc.clock, .slice x19_3_c.a3 (List.length cc.l) x19_3_c.c3] x19_3_c.T (0, 0))) :: (RecsX (α := Ent) x19_3_c.r3 x19_3_c.a3 x19_3_c.c3 cc.l) :: (Asn.own b7_8 (.cells #[.int .i64 y7_7.fwd, .int .i64 p.ptr, .int .i64 y7_7.line, .int .i64 y7_7.used, .bool false, .slice a7_7_00 (List.length y7_7.data) c7_7_00] 60 (0, 0))) :: (Asn.own b6_12 (.cells #[.int .i64 y6_2, .int .i64 p.dst, .int .i64 p.src, .int .i64 p.id, .int .i64 p.line, .int .i64 (0), .int .i64 (0), .bool y7_7.dirty, .slice a13_2 (List.length l13_2) c13_2] 35 (0, 0))) :: (IntsA a13_2 c13_2 l13_2) :: (ImmI a7_6 x7_6.data) :: (Asn.own b0_1 (.cells #[.int .i64 (0), .int .i64 (0), .int .i64 (0), .int .i64 (0), .int .i64 (0), .int .i64 (0), .int .i64 (0), .bool false, .slice none 0 0] 35 (0, 0))) :: (Asn.own b0_0 (.cells #[.int .i64 p.kind, .int .i64 p.src, .int .i64 p.dst, .int .i64 p.id, .int .i64 p.line, .int .i64 p.ptr, .int .i64 p.state, .bool p.flag, .slice pa (List.length p.data) pcap] 35 (0, 0))) :: Γ) (fun w hw => RowsA.freeze (hw.pull (.there (.there (.there (.there (.there .here))))))) (stable_cons 5 95 (.agg #[.int .i64 y7_7.fwd, .int .i64 p.ptr, .int .i64 y7_7.line, .int .i64 y7_7.used, .bool false, .slice a7_7_00 (List.length y7_7.data) c7_7_00]) (by kernel_rfl) (by kernel_rfl) (by kernel_rfl) (loadN (off := 0) (vs := [.int .i64 y7_7.fwd, .int .i64 p.ptr, .int .i64 y7_7.line, .int .i64 y7_7.used, .bool false, .slice a7_7_00 (List.length y7_7.data) c7_7_00]) 6 (fun _ => by kernel_rfl) (holds_own (.there (.there (.there .here)))) rfl (by exact ⟨rfl, rfl, rfl, rfl, rfl, rfl, trivial⟩)) (stable_cons 3 93 (.slice x19_3_c.a3 (List.length cc.l) x19_3_c.c3) (by kernel_rfl) (by kernel_rfl) (by kernel_rfl) (load1 (off := 3) (fun _ => by kernel_rfl) (holds_own (.there .here)) (by kernel_rfl)) stable_nil)) ?_
          obtain ⟨l19_7, hl19_7, H⟩ := letE H
          refine d_do 7 [6, 5, 0, 1, 2, 3, 4] [] [] (by kernel_rfl) (by kernel_rfl) (by kernel_rfl) (st_recs_set (α := Ent) (⟨y7_7.fwd, p.ptr, y7_7.line, y7_7.used, false, y7_7.data⟩ : Ent) c7_7_00 (vs := [.int .i64 y7_7.fwd, .int .i64 p.ptr, .int .i64 y7_7.line, .int .i64 y7_7.used, .bool false, .slice a7_7_00 (List.length y7_7.data) c7_7_00]) rfl (fun _ => by kernel_rfl) (.there (.there .here)) .here ha2 hc19_6_0 rfl) ?_
          rintro _ _ ⟨rowsl19_7, rfl, rfl⟩
          have hsl19_7 : List.set cc.l (y3_3).toNat (⟨y7_7.fwd, p.ptr, y7_7.line, y7_7.used, false, y7_7.data⟩ : Ent) = l19_7 := hl19_7
          rw [hsl19_7]
          have hnl19_7 : List.length cc.l = List.length l19_7 := by rw [← hsl19_7]; simp
          try rw [hnl19_7]
          refine ⟨stable_nil, ?_⟩
          refine draw_end (by kernel_rfl) ?_
          refine ae [(4, .pointer (some ⟨b0_1, 0, none⟩)), (7, .pointer (some ⟨b6_12, 0, none⟩))] ?_
          refine at_then_normal ?_
          refine At.conv (Γ' := (RChXA c (⟨x19_3_c.a3, x19_3_c.c3, rowsl19_7, x19_3_c.T⟩ : RChXP) ({ sets := cc.sets, ways := cc.ways, clock := cc.clock, l := l19_7 } : CacheS)) :: (Asn.own b7_8 (.cells #[.int .i64 y7_7.fwd, .int .i64 p.ptr, .int .i64 y7_7.line, .int .i64 y7_7.used, .bool false, .slice a7_7_00 (List.length y7_7.data) c7_7_00] 60 (0, 0))) :: (Asn.own b6_12 (.cells #[.int .i64 y6_2, .int .i64 p.dst, .int .i64 p.src, .int .i64 p.id, .int .i64 p.line, .int .i64 (0), .int .i64 (0), .bool y7_7.dirty, .slice a13_2 (List.length l13_2) c13_2] 35 (0, 0))) :: (IntsA a13_2 c13_2 l13_2) :: (ImmI a7_6 x7_6.data) :: (Asn.own b0_1 (.cells #[.int .i64 (0), .int .i64 (0), .int .i64 (0), .int .i64 (0), .int .i64 (0), .int .i64 (0), .int .i64 (0), .bool false, .slice none 0 0] 35 (0, 0))) :: (Asn.own b0_0 (.cells #[.int .i64 p.kind, .int .i64 p.src, .int .i64 p.dst, .int .i64 p.id, .int .i64 p.line, .int .i64 p.ptr, .int .i64 p.state, .bool p.flag, .slice pa (List.length p.data) pcap] 35 (0, 0))) :: Γ) (fun w hw => RChXA.close (x := (⟨x19_3_c.a3, x19_3_c.c3, rowsl19_7, x19_3_c.T⟩ : RChXP)) (t := ({ sets := cc.sets, ways := cc.ways, clock := cc.clock, l := l19_7 } : CacheS)) (Sat.less (.take (.there .here) (.take .here (.take .here (.take .here (.take .here (.take .here (.take .here (.take .here .refl)))))))) hw)) ?_
          refine At.conv (Γ' := (RChA c ({ sets := cc.sets, ways := cc.ways, clock := cc.clock, l := l19_7 } : CacheS)) :: (Asn.own b7_8 (.cells #[.int .i64 y7_7.fwd, .int .i64 p.ptr, .int .i64 y7_7.line, .int .i64 y7_7.used, .bool false, .slice a7_7_00 (List.length y7_7.data) c7_7_00] 60 (0, 0))) :: (Asn.own b6_12 (.cells #[.int .i64 y6_2, .int .i64 p.dst, .int .i64 p.src, .int .i64 p.id, .int .i64 p.line, .int .i64 (0), .int .i64 (0), .bool y7_7.dirty, .slice a13_2 (List.length l13_2) c13_2] 35 (0, 0))) :: (IntsA a13_2 c13_2 l13_2) :: (ImmI a7_6 x7_6.data) :: (Asn.own b0_1 (.cells #[.int .i64 (0), .int .i64 (0), .int .i64 (0), .int .i64 (0), .int .i64 (0), .int .i64 (0), .int .i64 (0), .bool false, .slice none 0 0] 35 (0, 0))) :: (Asn.own b0_0 (.cells #[.int .i64 p.kind, .int .i64 p.src, .int .i64 p.dst, .int .i64 p.id, .int .i64 p.line, .int .i64 p.ptr, .int .i64 p.state, .bool p.flag, .slice pa (List.length p.data) pcap] 35 (0, 0))) :: Γ) (fun w hw => RChXA.shut (hw.pull .here)) ?_
          refine aq (x := C45 [1,1,1,1,1,1,1,1,0]) (y := C45 [1,1,1,1,1,1,1,1,1]) ?_
          refine ar (id := 20) 3 ?_
          refine sl 97 (.agg #[.int .i64 y6_2, .int .i64 p.dst, .int .i64 p.src, .int .i64 p.id, .int .i64 p.line, .int .i64 (0), .int .i64 (0), .bool y7_7.dirty, .slice a13_2 (List.length l13_2) c13_2]) (loadN (off := 0) (vs := [.int .i64 y6_2, .int .i64 p.dst, .int .i64 p.src, .int .i64 p.id, .int .i64 p.line, .int .i64 (0), .int .i64 (0), .bool y7_7.dirty, .slice a13_2 (List.length l13_2) c13_2]) 9 (fun _ => by kernel_rfl) (holds_own (.there (.there .here))) rfl (by exact ⟨rfl, rfl, rfl, rfl, rfl, rfl, rfl, rfl, rfl, trivial⟩)) ?_
          refine s_do (by kernel_rfl) (by kernel_rfl) (st_store (off := 0) (vs := [.int .i64 y6_2, .int .i64 p.dst, .int .i64 p.src, .int .i64 p.id, .int .i64 p.line, .int .i64 (0), .int .i64 (0), .bool y7_7.dirty, .slice a13_2 (List.length l13_2) c13_2]) (c' := #[.int .i64 y6_2, .int .i64 p.dst, .int .i64 p.src, .int .i64 p.id, .int .i64 p.line, .int .i64 (0), .int .i64 (0), .bool y7_7.dirty, .slice a13_2 (List.length l13_2) c13_2]) (fun _ => by kernel_rfl) (.there (.there (.there (.there (.there .here))))) (by kernel_rfl) (by kernel_rfl) (by kernel_rfl)) ?_
          rintro _ _ ⟨rfl, rfl⟩
          refine sp 5 (.int .i64 (0)) ?_
          refine ops_end ?_
          refine ae [(4, .pointer (some ⟨b0_1, 0, none⟩)), (5, .int .i64 (0))] ?_
          refine at_then_normal ?_
          refine at_ret (by kernel_rfl) ?_
          obtain rfl := someE H
          refine at_backR [.agg #[.int .i64 y6_2, .int .i64 p.dst, .int .i64 p.src, .int .i64 p.id, .int .i64 p.line, .int .i64 (0), .int .i64 (0), .bool y7_7.dirty, .slice a13_2 (List.length l13_2) c13_2], .int .i64 (0)] ((IntsA a13_2 c13_2 l13_2) :: (RChA c ({ sets := cc.sets, ways := cc.ways, clock := cc.clock, l := l19_7 } : CacheS)) :: Γ) (rs := [.cell 4 35, .tmp 5]) (by kernel_rfl) (.cons (.cell (by kernel_rfl) (retN (off := 0) (vs := [.int .i64 y6_2, .int .i64 p.dst, .int .i64 p.src, .int .i64 p.id, .int .i64 p.line, .int .i64 (0), .int .i64 (0), .bool y7_7.dirty, .slice a13_2 (List.length l13_2) c13_2]) 9 (fun _ => by kernel_rfl) (holds_own .here) rfl (by exact ⟨rfl, rfl, rfl, rfl, rfl, rfl, rfl, rfl, rfl, trivial⟩))) (.cons (.tmp (by kernel_rfl)) .nil)) (fun w hw => (Sat.less (.take (.there (.there (.there (.there .here)))) (.take (.there .here) (.drop .here (.drop .here (.drop .here (.drop .here (.drop .here .refl))))))) hw)) ?_
          exact ⟨a13_2, c13_2, rfl, rfl⟩
        · replace H := bifF H h3
          refine at_false (t := decide (p.kind = (3 : Int))) (x := C45 [1,1,1,1,1,1,0,1,0,1,0]) (y := C45 [1,1,1,1,1,1,0,1,0,1,1]) (o := .tmp 67) (by kernel_rfl) (by kernel_rfl) (by kernel_rfl) h3 ?_
          refine aq (x := C45 [1,1,1,1,1,1,0,1,0,1,1,0]) (y := C45 [1,1,1,1,1,1,0,1,0,1,1,1]) ?_
          refine ar (id := 15) 2 ?_
          refine sp 81 (.bool (decide (p.kind = (4 : Int)))) ?_
          refine sp 80 (.bool (decide (p.kind = (4 : Int)))) ?_
          refine ops_end ?_
          refine ae [(0, .pointer (some ⟨c, 0, none⟩)), (3, .pointer (some ⟨b0_0, 0, none⟩)), (4, .pointer (some ⟨b0_1, 0, none⟩)), (6, .int .i64 y3_3), (7, .pointer (some ⟨b6_12, 0, none⟩)), (8, .pointer (some ⟨b7_8, 0, none⟩)), (51, .int .i64 p.kind), (80, .bool (decide (p.kind = (4 : Int))))] ?_
          refine at_then_normal ?_
          rcases Bool.eq_false_or_eq_true (decide (p.kind = (4 : Int))) with h4 | h4
          · replace H := bifT H h4
            refine at_true (t := decide (p.kind = (4 : Int))) (x := C45 [1,1,1,1,1,1,0,1,0,1,1,1,0]) (y := C45 [1,1,1,1,1,1,0,1,0,1,1,1,1]) (o := .tmp 80) (by kernel_rfl) (by kernel_rfl) (by kernel_rfl) h4 ?_
            refine ar (id := 16) 4 ?_
            refine sp 82 (.pointer (some ⟨b0_0, 5, none⟩)) ?_
            refine sl 83 (.int .i64 p.ptr) (load1 (off := 5) (fun _ => by kernel_rfl) (holds_own (.there (.there (.there (.there (.there (.there .here))))))) (by kernel_rfl)) ?_
            refine sp 84 (.pointer (some ⟨b7_8, 0, none⟩)) ?_
            refine s_do (by kernel_rfl) (by kernel_rfl) (st_store (off := 0) (vs := [.int .i64 p.ptr]) (c' := #[.int .i64 p.ptr, .int .i64 y7_7.back, .int .i64 y7_7.line, .int .i64 y7_7.used, .bool y7_7.dirty, .slice a7_7_00 (List.length y7_7.data) c7_7_00]) (fun _ => by kernel_rfl) (.there .here) (by kernel_rfl) (by kernel_rfl) (by kernel_rfl)) ?_
            rintro _ _ ⟨rfl, rfl⟩
            refine ops_end ?_
            refine ae [(0, .pointer (some ⟨c, 0, none⟩)), (4, .pointer (some ⟨b0_1, 0, none⟩)), (6, .int .i64 y3_3), (7, .pointer (some ⟨b6_12, 0, none⟩)), (8, .pointer (some ⟨b7_8, 0, none⟩))] ?_
            refine at_in_normal ?_
            refine at_then_normal ?_
            refine aq (x := C45 [1,1,1,1,1,1,1,0]) (y := C45 [1,1,1,1,1,1,1,1]) ?_
            refine at_region_draw (id := 19) (by kernel_rfl) (by kernel_rfl) ?_
            refine dp 0 90 (.pointer (some ⟨c, 0, none⟩)) ?_
            refine dp 1 91 (.pointer (some ⟨c, 0, none⟩)) ?_
            refine dp 2 92 (.pointer (some ⟨c, 3, none⟩)) ?_
            refine RChA.tox_draw (.there .here) ?_
            intro x19_3_c
            refine RChXA.open_draw .here ?_
            refine dl 3 93 (.slice x19_3_c.a3 (List.length cc.l) x19_3_c.c3) (load1 (off := 3) (fun _ => by kernel_rfl) (holds_own .here) (by kernel_rfl)) ?_
            refine dp 4 94 (.int .i64 y3_3) ?_
            refine dl 5 95 (.agg #[.int .i64 p.ptr, .int .i64 y7_7.back, .int .i64 y7_7.line, .int .i64 y7_7.used, .bool y7_7.dirty, .slice a7_7_00 (List.length y7_7.data) c7_7_00]) (loadN (off := 0) (vs := [.int .i64 p.ptr, .int .i64 y7_7.back, .int .i64 y7_7.line, .int .i64 y7_7.used, .bool y7_7.dirty, .slice a7_7_00 (List.length y7_7.data) c7_7_00]) 6 (fun _ => by kernel_rfl) (holds_own (.there (.there .here))) rfl (by exact ⟨rfl, rfl, rfl, rfl, rfl, rfl, trivial⟩)) ?_
            obtain ⟨hc19_6_0, H⟩ := chkE H
            refine rd_at_draw (RecsX.rd (α := Ent) (.there .here)) (by have := hc19_6_0; omega) ?_
            intro bb3 oo3 ha3
            refine d_pure 6 96 (.pointer (some ⟨bb3, oo3 + (((y3_3).toNat) * 6 + 0), none⟩)) (by kernel_rfl) (by kernel_rfl) (by kernel_rfl) (index_at (t := 91) (sz := 6) (E := 60) (a := x19_3_c.a3) (m := (List.length cc.l)) (c := x19_3_c.c3) (b := bb3) (off := oo3) (i := (y3_3).toNat) (tinfo 60) (fun _ => by kernel_rfl) (by kernel_rfl) (by kernel_rfl) (by kernel_rfl) ha3 (idx_cast hc19_6_0) (idx_nat hc19_6_0) rfl) ?_
            refine Draw.convS (Γ' := (ImmI a7_7_00 y7_7.data) :: (Asn.own c (.cells #[.int .i64 cc.sets, .int .i64 cc.ways, .int .i64 cc.clock, .slice x19_3_c.a3 (List.length cc.l) x19_3_c.c3] x19_3_c.T (0, 0))) :: (RecsX (α := Ent) x19_3_c.r3 x19_3_c.a3 x19_3_c.c3 cc.l) :: (Asn.own b7_8 (.cells #[.int .i64 p.ptr, .int .i64 y7_7.back, .int .i64 y7_7.line, .int .i64 y7_7.used, .bool y7_7.dirty, .slice a7_7_00 (List.length y7_7.data) c7_7_00] 60 (0, 0))) :: (ImmI a7_6 x7_6.data) :: (Asn.own b6_12 (.cells #[.int .i64 y6_2, .int .i64 p.dst, .int .i64 p.src, .int .i64 p.id, .int .i64 p.line, .int .i64 (0), .int .i64 (0), .bool false, .slice none 0 0] 35 (0, 0))) :: (Asn.own b0_1 (.cells #[.int .i64 (0), .int .i64 (0), .int .i64 (0), .int .i64 (0), .int .i64 (0), .int .i64 (0), .int .i64 (0), .bool false, .slice none 0 0] 35 (0, 0))) :: (Asn.own b0_0 (.cells #[.int .i64 p.kind, .int .i64 p.src, .int .i64 p.dst, .int .i64 p.id, .int .i64 p.line, .int .i64 p.ptr, .int .i64 p.state, .bool p.flag, .slice pa (List.length p.data) pcap] 35 (0, 0))) :: Γ) (fun w hw => RowsA.freeze (hw.pull (.there (.there (.there .here))))) (stable_cons 5 95 (.agg #[.int .i64 p.ptr, .int .i64 y7_7.back, .int .i64 y7_7.line, .int .i64 y7_7.used, .bool y7_7.dirty, .slice a7_7_00 (List.length y7_7.data) c7_7_00]) (by kernel_rfl) (by kernel_rfl) (by kernel_rfl) (loadN (off := 0) (vs := [.int .i64 p.ptr, .int .i64 y7_7.back, .int .i64 y7_7.line, .int .i64 y7_7.used, .bool y7_7.dirty, .slice a7_7_00 (List.length y7_7.data) c7_7_00]) 6 (fun _ => by kernel_rfl) (holds_own (.there (.there (.there .here)))) rfl (by exact ⟨rfl, rfl, rfl, rfl, rfl, rfl, trivial⟩)) (stable_cons 3 93 (.slice x19_3_c.a3 (List.length cc.l) x19_3_c.c3) (by kernel_rfl) (by kernel_rfl) (by kernel_rfl) (load1 (off := 3) (fun _ => by kernel_rfl) (holds_own (.there .here)) (by kernel_rfl)) stable_nil)) ?_
            obtain ⟨l19_7, hl19_7, H⟩ := letE H
            refine d_do 7 [6, 5, 0, 1, 2, 3, 4] [] [] (by kernel_rfl) (by kernel_rfl) (by kernel_rfl) (st_recs_set (α := Ent) (⟨p.ptr, y7_7.back, y7_7.line, y7_7.used, y7_7.dirty, y7_7.data⟩ : Ent) c7_7_00 (vs := [.int .i64 p.ptr, .int .i64 y7_7.back, .int .i64 y7_7.line, .int .i64 y7_7.used, .bool y7_7.dirty, .slice a7_7_00 (List.length y7_7.data) c7_7_00]) rfl (fun _ => by kernel_rfl) (.there (.there .here)) .here ha3 hc19_6_0 rfl) ?_
            rintro _ _ ⟨rowsl19_7, rfl, rfl⟩
            have hsl19_7 : List.set cc.l (y3_3).toNat (⟨p.ptr, y7_7.back, y7_7.line, y7_7.used, y7_7.dirty, y7_7.data⟩ : Ent) = l19_7 := hl19_7
            rw [hsl19_7]
            have hnl19_7 : List.length cc.l = List.length l19_7 := by rw [← hsl19_7]; simp
            try rw [hnl19_7]
            refine ⟨stable_nil, ?_⟩
            refine draw_end (by kernel_rfl) ?_
            refine ae [(4, .pointer (some ⟨b0_1, 0, none⟩)), (7, .pointer (some ⟨b6_12, 0, none⟩))] ?_
            refine at_then_normal ?_
            refine At.conv (Γ' := (RChXA c (⟨x19_3_c.a3, x19_3_c.c3, rowsl19_7, x19_3_c.T⟩ : RChXP) ({ sets := cc.sets, ways := cc.ways, clock := cc.clock, l := l19_7 } : CacheS)) :: (Asn.own b7_8 (.cells #[.int .i64 p.ptr, .int .i64 y7_7.back, .int .i64 y7_7.line, .int .i64 y7_7.used, .bool y7_7.dirty, .slice a7_7_00 (List.length y7_7.data) c7_7_00] 60 (0, 0))) :: (ImmI a7_6 x7_6.data) :: (Asn.own b6_12 (.cells #[.int .i64 y6_2, .int .i64 p.dst, .int .i64 p.src, .int .i64 p.id, .int .i64 p.line, .int .i64 (0), .int .i64 (0), .bool false, .slice none 0 0] 35 (0, 0))) :: (Asn.own b0_1 (.cells #[.int .i64 (0), .int .i64 (0), .int .i64 (0), .int .i64 (0), .int .i64 (0), .int .i64 (0), .int .i64 (0), .bool false, .slice none 0 0] 35 (0, 0))) :: (Asn.own b0_0 (.cells #[.int .i64 p.kind, .int .i64 p.src, .int .i64 p.dst, .int .i64 p.id, .int .i64 p.line, .int .i64 p.ptr, .int .i64 p.state, .bool p.flag, .slice pa (List.length p.data) pcap] 35 (0, 0))) :: Γ) (fun w hw => RChXA.close (x := (⟨x19_3_c.a3, x19_3_c.c3, rowsl19_7, x19_3_c.T⟩ : RChXP)) (t := ({ sets := cc.sets, ways := cc.ways, clock := cc.clock, l := l19_7 } : CacheS)) (Sat.less (.take (.there .here) (.take .here (.take .here (.take .here (.take .here (.take .here (.take .here .refl))))))) hw)) ?_
            refine At.conv (Γ' := (RChA c ({ sets := cc.sets, ways := cc.ways, clock := cc.clock, l := l19_7 } : CacheS)) :: (Asn.own b7_8 (.cells #[.int .i64 p.ptr, .int .i64 y7_7.back, .int .i64 y7_7.line, .int .i64 y7_7.used, .bool y7_7.dirty, .slice a7_7_00 (List.length y7_7.data) c7_7_00] 60 (0, 0))) :: (ImmI a7_6 x7_6.data) :: (Asn.own b6_12 (.cells #[.int .i64 y6_2, .int .i64 p.dst, .int .i64 p.src, .int .i64 p.id, .int .i64 p.line, .int .i64 (0), .int .i64 (0), .bool false, .slice none 0 0] 35 (0, 0))) :: (Asn.own b0_1 (.cells #[.int .i64 (0), .int .i64 (0), .int .i64 (0), .int .i64 (0), .int .i64 (0), .int .i64 (0), .int .i64 (0), .bool false, .slice none 0 0] 35 (0, 0))) :: (Asn.own b0_0 (.cells #[.int .i64 p.kind, .int .i64 p.src, .int .i64 p.dst, .int .i64 p.id, .int .i64 p.line, .int .i64 p.ptr, .int .i64 p.state, .bool p.flag, .slice pa (List.length p.data) pcap] 35 (0, 0))) :: Γ) (fun w hw => RChXA.shut (hw.pull .here)) ?_
            refine aq (x := C45 [1,1,1,1,1,1,1,1,0]) (y := C45 [1,1,1,1,1,1,1,1,1]) ?_
            refine ar (id := 20) 3 ?_
            refine sl 97 (.agg #[.int .i64 y6_2, .int .i64 p.dst, .int .i64 p.src, .int .i64 p.id, .int .i64 p.line, .int .i64 (0), .int .i64 (0), .bool false, .slice none 0 0]) (loadN (off := 0) (vs := [.int .i64 y6_2, .int .i64 p.dst, .int .i64 p.src, .int .i64 p.id, .int .i64 p.line, .int .i64 (0), .int .i64 (0), .bool false, .slice none 0 0]) 9 (fun _ => by kernel_rfl) (holds_own (.there (.there (.there .here)))) rfl (by exact ⟨rfl, rfl, rfl, rfl, rfl, rfl, rfl, rfl, rfl, trivial⟩)) ?_
            refine s_do (by kernel_rfl) (by kernel_rfl) (st_store (off := 0) (vs := [.int .i64 y6_2, .int .i64 p.dst, .int .i64 p.src, .int .i64 p.id, .int .i64 p.line, .int .i64 (0), .int .i64 (0), .bool false, .slice none 0 0]) (c' := #[.int .i64 y6_2, .int .i64 p.dst, .int .i64 p.src, .int .i64 p.id, .int .i64 p.line, .int .i64 (0), .int .i64 (0), .bool false, .slice none 0 0]) (fun _ => by kernel_rfl) (.there (.there (.there (.there .here)))) (by kernel_rfl) (by kernel_rfl) (by kernel_rfl)) ?_
            rintro _ _ ⟨rfl, rfl⟩
            refine sp 5 (.int .i64 (0)) ?_
            refine ops_end ?_
            refine ae [(4, .pointer (some ⟨b0_1, 0, none⟩)), (5, .int .i64 (0))] ?_
            refine at_then_normal ?_
            refine at_ret (by kernel_rfl) ?_
            obtain rfl := someE H
            refine at_backR [.agg #[.int .i64 y6_2, .int .i64 p.dst, .int .i64 p.src, .int .i64 p.id, .int .i64 p.line, .int .i64 (0), .int .i64 (0), .bool false, .slice none 0 0], .int .i64 (0)] ((IntsA none 0 ([] : List Int)) :: (RChA c ({ sets := cc.sets, ways := cc.ways, clock := cc.clock, l := l19_7 } : CacheS)) :: Γ) (rs := [.cell 4 35, .tmp 5]) (by kernel_rfl) (.cons (.cell (by kernel_rfl) (retN (off := 0) (vs := [.int .i64 y6_2, .int .i64 p.dst, .int .i64 p.src, .int .i64 p.id, .int .i64 p.line, .int .i64 (0), .int .i64 (0), .bool false, .slice none 0 0]) 9 (fun _ => by kernel_rfl) (holds_own .here) rfl (by exact ⟨rfl, rfl, rfl, rfl, rfl, rfl, rfl, rfl, rfl, trivial⟩))) (.cons (.tmp (by kernel_rfl)) .nil)) (fun w hw => (Sat.less (.take .here (.take (.there .here) (.drop .here (.drop .here (.drop .here (.drop .here (.drop .here .refl))))))) (RowsA.none_mk (k := 1) (a := none) hw))) ?_
            exact ⟨none, 0, rfl, rfl⟩
          · replace H := bifF H h4
            refine at_false (t := decide (p.kind = (4 : Int))) (x := C45 [1,1,1,1,1,1,0,1,0,1,1,1,0]) (y := C45 [1,1,1,1,1,1,0,1,0,1,1,1,1]) (o := .tmp 80) (by kernel_rfl) (by kernel_rfl) (by kernel_rfl) h4 ?_
            refine aq (x := C45 [1,1,1,1,1,1,0,1,0,1,1,1,1,0]) (y := C45 [1,1,1,1,1,1,0,1,0,1,1,1,1,1]) ?_
            refine ar (id := 17) 2 ?_
            refine sp 86 (.bool (decide (p.kind = (5 : Int)))) ?_
            refine sp 85 (.bool (decide (p.kind = (5 : Int)))) ?_
            refine ops_end ?_
            refine ae [(0, .pointer (some ⟨c, 0, none⟩)), (3, .pointer (some ⟨b0_0, 0, none⟩)), (4, .pointer (some ⟨b0_1, 0, none⟩)), (6, .int .i64 y3_3), (7, .pointer (some ⟨b6_12, 0, none⟩)), (8, .pointer (some ⟨b7_8, 0, none⟩)), (85, .bool (decide (p.kind = (5 : Int))))] ?_
            refine at_then_normal ?_
            rcases Bool.eq_false_or_eq_true (decide (p.kind = (5 : Int))) with h5 | h5
            · replace H := bifT H h5
              refine at_true (t := decide (p.kind = (5 : Int))) (x := C45 [1,1,1,1,1,1,0,1,0,1,1,1,1,1,0]) (y := C45 [1,1,1,1,1,1,0,1,0,1,1,1,1,1,1]) (o := .tmp 85) (by kernel_rfl) (by kernel_rfl) (by kernel_rfl) h5 ?_
              refine ar (id := 18) 4 ?_
              refine sp 87 (.pointer (some ⟨b0_0, 5, none⟩)) ?_
              refine sl 88 (.int .i64 p.ptr) (load1 (off := 5) (fun _ => by kernel_rfl) (holds_own (.there (.there (.there (.there (.there (.there .here))))))) (by kernel_rfl)) ?_
              refine sp 89 (.pointer (some ⟨b7_8, 1, none⟩)) ?_
              refine s_do (by kernel_rfl) (by kernel_rfl) (st_store (off := 1) (vs := [.int .i64 p.ptr]) (c' := #[.int .i64 y7_7.fwd, .int .i64 p.ptr, .int .i64 y7_7.line, .int .i64 y7_7.used, .bool y7_7.dirty, .slice a7_7_00 (List.length y7_7.data) c7_7_00]) (fun _ => by kernel_rfl) (.there .here) (by kernel_rfl) (by kernel_rfl) (by kernel_rfl)) ?_
              rintro _ _ ⟨rfl, rfl⟩
              refine ops_end ?_
              refine ae [(0, .pointer (some ⟨c, 0, none⟩)), (4, .pointer (some ⟨b0_1, 0, none⟩)), (6, .int .i64 y3_3), (7, .pointer (some ⟨b6_12, 0, none⟩)), (8, .pointer (some ⟨b7_8, 0, none⟩))] ?_
              refine at_in_normal ?_
              refine at_then_normal ?_
              refine aq (x := C45 [1,1,1,1,1,1,1,0]) (y := C45 [1,1,1,1,1,1,1,1]) ?_
              refine at_region_draw (id := 19) (by kernel_rfl) (by kernel_rfl) ?_
              refine dp 0 90 (.pointer (some ⟨c, 0, none⟩)) ?_
              refine dp 1 91 (.pointer (some ⟨c, 0, none⟩)) ?_
              refine dp 2 92 (.pointer (some ⟨c, 3, none⟩)) ?_
              refine RChA.tox_draw (.there .here) ?_
              intro x19_3_c
              refine RChXA.open_draw .here ?_
              refine dl 3 93 (.slice x19_3_c.a3 (List.length cc.l) x19_3_c.c3) (load1 (off := 3) (fun _ => by kernel_rfl) (holds_own .here) (by kernel_rfl)) ?_
              refine dp 4 94 (.int .i64 y3_3) ?_
              refine dl 5 95 (.agg #[.int .i64 y7_7.fwd, .int .i64 p.ptr, .int .i64 y7_7.line, .int .i64 y7_7.used, .bool y7_7.dirty, .slice a7_7_00 (List.length y7_7.data) c7_7_00]) (loadN (off := 0) (vs := [.int .i64 y7_7.fwd, .int .i64 p.ptr, .int .i64 y7_7.line, .int .i64 y7_7.used, .bool y7_7.dirty, .slice a7_7_00 (List.length y7_7.data) c7_7_00]) 6 (fun _ => by kernel_rfl) (holds_own (.there (.there .here))) rfl (by exact ⟨rfl, rfl, rfl, rfl, rfl, rfl, trivial⟩)) ?_
              obtain ⟨hc19_6_0, H⟩ := chkE H
              refine rd_at_draw (RecsX.rd (α := Ent) (.there .here)) (by have := hc19_6_0; omega) ?_
              intro bb4 oo4 ha4
              refine d_pure 6 96 (.pointer (some ⟨bb4, oo4 + (((y3_3).toNat) * 6 + 0), none⟩)) (by kernel_rfl) (by kernel_rfl) (by kernel_rfl) (index_at (t := 91) (sz := 6) (E := 60) (a := x19_3_c.a3) (m := (List.length cc.l)) (c := x19_3_c.c3) (b := bb4) (off := oo4) (i := (y3_3).toNat) (tinfo 60) (fun _ => by kernel_rfl) (by kernel_rfl) (by kernel_rfl) (by kernel_rfl) ha4 (idx_cast hc19_6_0) (idx_nat hc19_6_0) rfl) ?_
              refine Draw.convS (Γ' := (ImmI a7_7_00 y7_7.data) :: (Asn.own c (.cells #[.int .i64 cc.sets, .int .i64 cc.ways, .int .i64 cc.clock, .slice x19_3_c.a3 (List.length cc.l) x19_3_c.c3] x19_3_c.T (0, 0))) :: (RecsX (α := Ent) x19_3_c.r3 x19_3_c.a3 x19_3_c.c3 cc.l) :: (Asn.own b7_8 (.cells #[.int .i64 y7_7.fwd, .int .i64 p.ptr, .int .i64 y7_7.line, .int .i64 y7_7.used, .bool y7_7.dirty, .slice a7_7_00 (List.length y7_7.data) c7_7_00] 60 (0, 0))) :: (ImmI a7_6 x7_6.data) :: (Asn.own b6_12 (.cells #[.int .i64 y6_2, .int .i64 p.dst, .int .i64 p.src, .int .i64 p.id, .int .i64 p.line, .int .i64 (0), .int .i64 (0), .bool false, .slice none 0 0] 35 (0, 0))) :: (Asn.own b0_1 (.cells #[.int .i64 (0), .int .i64 (0), .int .i64 (0), .int .i64 (0), .int .i64 (0), .int .i64 (0), .int .i64 (0), .bool false, .slice none 0 0] 35 (0, 0))) :: (Asn.own b0_0 (.cells #[.int .i64 p.kind, .int .i64 p.src, .int .i64 p.dst, .int .i64 p.id, .int .i64 p.line, .int .i64 p.ptr, .int .i64 p.state, .bool p.flag, .slice pa (List.length p.data) pcap] 35 (0, 0))) :: Γ) (fun w hw => RowsA.freeze (hw.pull (.there (.there (.there .here))))) (stable_cons 5 95 (.agg #[.int .i64 y7_7.fwd, .int .i64 p.ptr, .int .i64 y7_7.line, .int .i64 y7_7.used, .bool y7_7.dirty, .slice a7_7_00 (List.length y7_7.data) c7_7_00]) (by kernel_rfl) (by kernel_rfl) (by kernel_rfl) (loadN (off := 0) (vs := [.int .i64 y7_7.fwd, .int .i64 p.ptr, .int .i64 y7_7.line, .int .i64 y7_7.used, .bool y7_7.dirty, .slice a7_7_00 (List.length y7_7.data) c7_7_00]) 6 (fun _ => by kernel_rfl) (holds_own (.there (.there (.there .here)))) rfl (by exact ⟨rfl, rfl, rfl, rfl, rfl, rfl, trivial⟩)) (stable_cons 3 93 (.slice x19_3_c.a3 (List.length cc.l) x19_3_c.c3) (by kernel_rfl) (by kernel_rfl) (by kernel_rfl) (load1 (off := 3) (fun _ => by kernel_rfl) (holds_own (.there .here)) (by kernel_rfl)) stable_nil)) ?_
              obtain ⟨l19_7, hl19_7, H⟩ := letE H
              refine d_do 7 [6, 5, 0, 1, 2, 3, 4] [] [] (by kernel_rfl) (by kernel_rfl) (by kernel_rfl) (st_recs_set (α := Ent) (⟨y7_7.fwd, p.ptr, y7_7.line, y7_7.used, y7_7.dirty, y7_7.data⟩ : Ent) c7_7_00 (vs := [.int .i64 y7_7.fwd, .int .i64 p.ptr, .int .i64 y7_7.line, .int .i64 y7_7.used, .bool y7_7.dirty, .slice a7_7_00 (List.length y7_7.data) c7_7_00]) rfl (fun _ => by kernel_rfl) (.there (.there .here)) .here ha4 hc19_6_0 rfl) ?_
              rintro _ _ ⟨rowsl19_7, rfl, rfl⟩
              have hsl19_7 : List.set cc.l (y3_3).toNat (⟨y7_7.fwd, p.ptr, y7_7.line, y7_7.used, y7_7.dirty, y7_7.data⟩ : Ent) = l19_7 := hl19_7
              rw [hsl19_7]
              have hnl19_7 : List.length cc.l = List.length l19_7 := by rw [← hsl19_7]; simp
              try rw [hnl19_7]
              refine ⟨stable_nil, ?_⟩
              refine draw_end (by kernel_rfl) ?_
              refine ae [(4, .pointer (some ⟨b0_1, 0, none⟩)), (7, .pointer (some ⟨b6_12, 0, none⟩))] ?_
              refine at_then_normal ?_
              refine At.conv (Γ' := (RChXA c (⟨x19_3_c.a3, x19_3_c.c3, rowsl19_7, x19_3_c.T⟩ : RChXP) ({ sets := cc.sets, ways := cc.ways, clock := cc.clock, l := l19_7 } : CacheS)) :: (Asn.own b7_8 (.cells #[.int .i64 y7_7.fwd, .int .i64 p.ptr, .int .i64 y7_7.line, .int .i64 y7_7.used, .bool y7_7.dirty, .slice a7_7_00 (List.length y7_7.data) c7_7_00] 60 (0, 0))) :: (ImmI a7_6 x7_6.data) :: (Asn.own b6_12 (.cells #[.int .i64 y6_2, .int .i64 p.dst, .int .i64 p.src, .int .i64 p.id, .int .i64 p.line, .int .i64 (0), .int .i64 (0), .bool false, .slice none 0 0] 35 (0, 0))) :: (Asn.own b0_1 (.cells #[.int .i64 (0), .int .i64 (0), .int .i64 (0), .int .i64 (0), .int .i64 (0), .int .i64 (0), .int .i64 (0), .bool false, .slice none 0 0] 35 (0, 0))) :: (Asn.own b0_0 (.cells #[.int .i64 p.kind, .int .i64 p.src, .int .i64 p.dst, .int .i64 p.id, .int .i64 p.line, .int .i64 p.ptr, .int .i64 p.state, .bool p.flag, .slice pa (List.length p.data) pcap] 35 (0, 0))) :: Γ) (fun w hw => RChXA.close (x := (⟨x19_3_c.a3, x19_3_c.c3, rowsl19_7, x19_3_c.T⟩ : RChXP)) (t := ({ sets := cc.sets, ways := cc.ways, clock := cc.clock, l := l19_7 } : CacheS)) (Sat.less (.take (.there .here) (.take .here (.take .here (.take .here (.take .here (.take .here (.take .here .refl))))))) hw)) ?_
              refine At.conv (Γ' := (RChA c ({ sets := cc.sets, ways := cc.ways, clock := cc.clock, l := l19_7 } : CacheS)) :: (Asn.own b7_8 (.cells #[.int .i64 y7_7.fwd, .int .i64 p.ptr, .int .i64 y7_7.line, .int .i64 y7_7.used, .bool y7_7.dirty, .slice a7_7_00 (List.length y7_7.data) c7_7_00] 60 (0, 0))) :: (ImmI a7_6 x7_6.data) :: (Asn.own b6_12 (.cells #[.int .i64 y6_2, .int .i64 p.dst, .int .i64 p.src, .int .i64 p.id, .int .i64 p.line, .int .i64 (0), .int .i64 (0), .bool false, .slice none 0 0] 35 (0, 0))) :: (Asn.own b0_1 (.cells #[.int .i64 (0), .int .i64 (0), .int .i64 (0), .int .i64 (0), .int .i64 (0), .int .i64 (0), .int .i64 (0), .bool false, .slice none 0 0] 35 (0, 0))) :: (Asn.own b0_0 (.cells #[.int .i64 p.kind, .int .i64 p.src, .int .i64 p.dst, .int .i64 p.id, .int .i64 p.line, .int .i64 p.ptr, .int .i64 p.state, .bool p.flag, .slice pa (List.length p.data) pcap] 35 (0, 0))) :: Γ) (fun w hw => RChXA.shut (hw.pull .here)) ?_
              refine aq (x := C45 [1,1,1,1,1,1,1,1,0]) (y := C45 [1,1,1,1,1,1,1,1,1]) ?_
              refine ar (id := 20) 3 ?_
              refine sl 97 (.agg #[.int .i64 y6_2, .int .i64 p.dst, .int .i64 p.src, .int .i64 p.id, .int .i64 p.line, .int .i64 (0), .int .i64 (0), .bool false, .slice none 0 0]) (loadN (off := 0) (vs := [.int .i64 y6_2, .int .i64 p.dst, .int .i64 p.src, .int .i64 p.id, .int .i64 p.line, .int .i64 (0), .int .i64 (0), .bool false, .slice none 0 0]) 9 (fun _ => by kernel_rfl) (holds_own (.there (.there (.there .here)))) rfl (by exact ⟨rfl, rfl, rfl, rfl, rfl, rfl, rfl, rfl, rfl, trivial⟩)) ?_
              refine s_do (by kernel_rfl) (by kernel_rfl) (st_store (off := 0) (vs := [.int .i64 y6_2, .int .i64 p.dst, .int .i64 p.src, .int .i64 p.id, .int .i64 p.line, .int .i64 (0), .int .i64 (0), .bool false, .slice none 0 0]) (c' := #[.int .i64 y6_2, .int .i64 p.dst, .int .i64 p.src, .int .i64 p.id, .int .i64 p.line, .int .i64 (0), .int .i64 (0), .bool false, .slice none 0 0]) (fun _ => by kernel_rfl) (.there (.there (.there (.there .here)))) (by kernel_rfl) (by kernel_rfl) (by kernel_rfl)) ?_
              rintro _ _ ⟨rfl, rfl⟩
              refine sp 5 (.int .i64 (0)) ?_
              refine ops_end ?_
              refine ae [(4, .pointer (some ⟨b0_1, 0, none⟩)), (5, .int .i64 (0))] ?_
              refine at_then_normal ?_
              refine at_ret (by kernel_rfl) ?_
              obtain rfl := someE H
              refine at_backR [.agg #[.int .i64 y6_2, .int .i64 p.dst, .int .i64 p.src, .int .i64 p.id, .int .i64 p.line, .int .i64 (0), .int .i64 (0), .bool false, .slice none 0 0], .int .i64 (0)] ((IntsA none 0 ([] : List Int)) :: (RChA c ({ sets := cc.sets, ways := cc.ways, clock := cc.clock, l := l19_7 } : CacheS)) :: Γ) (rs := [.cell 4 35, .tmp 5]) (by kernel_rfl) (.cons (.cell (by kernel_rfl) (retN (off := 0) (vs := [.int .i64 y6_2, .int .i64 p.dst, .int .i64 p.src, .int .i64 p.id, .int .i64 p.line, .int .i64 (0), .int .i64 (0), .bool false, .slice none 0 0]) 9 (fun _ => by kernel_rfl) (holds_own .here) rfl (by exact ⟨rfl, rfl, rfl, rfl, rfl, rfl, rfl, rfl, rfl, trivial⟩))) (.cons (.tmp (by kernel_rfl)) .nil)) (fun w hw => (Sat.less (.take .here (.take (.there .here) (.drop .here (.drop .here (.drop .here (.drop .here (.drop .here .refl))))))) (RowsA.none_mk (k := 1) (a := none) hw))) ?_
              exact ⟨none, 0, rfl, rfl⟩
            · replace H := bifF H h5
              refine at_false (t := decide (p.kind = (5 : Int))) (x := C45 [1,1,1,1,1,1,0,1,0,1,1,1,1,1,0]) (y := C45 [1,1,1,1,1,1,0,1,0,1,1,1,1,1,1]) (o := .tmp 85) (by kernel_rfl) (by kernel_rfl) (by kernel_rfl) h5 ?_
              refine aq (x := C45 [1,1,1,1,1,1,0,1,0,1,1,1,1,1,1,0]) (y := C45 [1,1,1,1,1,1,0,1,0,1,1,1,1,1,1,1]) ?_
              refine at_region_draw (id := 9) (by kernel_rfl) (by kernel_rfl) ?_
              refine dp 0 52 (.pointer (some ⟨b7_8, 5, none⟩)) ?_
              refine dl 1 53 (.slice a7_7_00 (List.length y7_7.data) c7_7_00) (load1 (off := 5) (fun _ => by kernel_rfl) (holds_own (.there .here)) (by kernel_rfl)) ?_
              refine dp 3 55 (.pointer (some ⟨b7_8, 4, none⟩)) ?_
              refine dl 4 56 (.bool y7_7.dirty) (load1 (off := 4) (fun _ => by kernel_rfl) (holds_own (.there .here)) (by kernel_rfl)) ?_
              refine dp 5 57 (.pointer (some ⟨b7_8, 0, none⟩)) ?_
              refine dl 6 58 (.int .i64 y7_7.fwd) (load1 (off := 0) (fun _ => by kernel_rfl) (holds_own (.there .here)) (by kernel_rfl)) ?_
              obtain ⟨hc9_2_0, H⟩ := chkE H
              obtain ⟨l9_2, hl9_2, H⟩ := letE H
              refine d_step 2 54 [1, 0] [5, 3] [6, 4] (by kernel_rfl) (by kernel_rfl) (by kernel_rfl) (StepTo.conv (fun w hw => RowsA.none_mk (k := 1) (a := none) hw) (st_append_ints (xs := ([] : List Int)) (ys := y7_7.data) (zs := l9_2) (m1 := 0) (m2 := (List.length y7_7.data)) (m := List.length l9_2) (cap2 := c7_7_00) 22 22 3 (tinfo 3) (fun _ => by kernel_rfl) (by kernel_rfl) (by kernel_rfl) (by kernel_rfl) (by kernel_rfl) (by kernel_rfl) .here (RowsA.reads (k := 1) (.there (.there (.there .here)))) (by first | rfl | simp) (by first | rfl | simp) (by rw [← hl9_2]; first | done | simp) (by rw [← hl9_2]; first | done | simp) (by rw [← hl9_2]; exact hc9_2_0))) ?_
              rintro _ _ ⟨a9_2, c9_2, rfl, rfl⟩
              refine ⟨(stable_cons 6 58 (.int .i64 y7_7.fwd) (by kernel_rfl) (by kernel_rfl) (by kernel_rfl) (load1 (off := 0) (fun _ => by kernel_rfl) (holds_own (.there (.there .here))) (by kernel_rfl)) (stable_cons 4 56 (.bool y7_7.dirty) (by kernel_rfl) (by kernel_rfl) (by kernel_rfl) (load1 (off := 4) (fun _ => by kernel_rfl) (holds_own (.there (.there .here))) (by kernel_rfl)) stable_nil)), ?_⟩
              refine dp 7 59 (.pointer (some ⟨b6_12, 8, none⟩)) ?_
              refine d_do 8 [7, 2, 0, 1] [5, 3] [6, 4] (by kernel_rfl) (by kernel_rfl) (by kernel_rfl) (st_store (off := 8) (vs := [.slice a9_2 (List.length l9_2) c9_2]) (c' := #[.int .i64 y6_2, .int .i64 p.dst, .int .i64 p.src, .int .i64 p.id, .int .i64 p.line, .int .i64 (0), .int .i64 (0), .bool false, .slice a9_2 (List.length l9_2) c9_2]) (fun _ => by kernel_rfl) (.there (.there (.there (.there (.there .here))))) (by kernel_rfl) (by kernel_rfl) (by kernel_rfl)) ?_
              rintro _ _ ⟨rfl, rfl⟩
              refine ⟨(stable_cons 6 58 (.int .i64 y7_7.fwd) (by kernel_rfl) (by kernel_rfl) (by kernel_rfl) (load1 (off := 0) (fun _ => by kernel_rfl) (holds_own (.there (.there (.there .here)))) (by kernel_rfl)) (stable_cons 4 56 (.bool y7_7.dirty) (by kernel_rfl) (by kernel_rfl) (by kernel_rfl) (load1 (off := 4) (fun _ => by kernel_rfl) (holds_own (.there (.there (.there .here)))) (by kernel_rfl)) stable_nil)), ?_⟩
              refine dp 9 60 (.pointer (some ⟨b6_12, 7, none⟩)) ?_
              refine d_do 10 [9, 4, 8, 0, 1, 2, 3, 7] [5] [6] (by kernel_rfl) (by kernel_rfl) (by kernel_rfl) (st_store (off := 7) (vs := [.bool y7_7.dirty]) (c' := #[.int .i64 y6_2, .int .i64 p.dst, .int .i64 p.src, .int .i64 p.id, .int .i64 p.line, .int .i64 (0), .int .i64 (0), .bool y7_7.dirty, .slice a9_2 (List.length l9_2) c9_2]) (fun _ => by kernel_rfl) .here (by kernel_rfl) (by kernel_rfl) (by kernel_rfl)) ?_
              rintro _ _ ⟨rfl, rfl⟩
              refine ⟨(stable_cons 6 58 (.int .i64 y7_7.fwd) (by kernel_rfl) (by kernel_rfl) (by kernel_rfl) (load1 (off := 0) (fun _ => by kernel_rfl) (holds_own (.there (.there (.there .here)))) (by kernel_rfl)) stable_nil), ?_⟩
              refine dp 11 61 (.pointer (some ⟨b6_12, 5, none⟩)) ?_
              refine d_do 12 [11, 6, 10, 0, 1, 2, 3, 4, 5, 7, 8, 9] [] [] (by kernel_rfl) (by kernel_rfl) (by kernel_rfl) (st_store (off := 5) (vs := [.int .i64 y7_7.fwd]) (c' := #[.int .i64 y6_2, .int .i64 p.dst, .int .i64 p.src, .int .i64 p.id, .int .i64 p.line, .int .i64 y7_7.fwd, .int .i64 (0), .bool y7_7.dirty, .slice a9_2 (List.length l9_2) c9_2]) (fun _ => by kernel_rfl) .here (by kernel_rfl) (by kernel_rfl) (by kernel_rfl)) ?_
              rintro _ _ ⟨rfl, rfl⟩
              refine ⟨stable_nil, ?_⟩
              refine draw_end (by kernel_rfl) ?_
              refine ae [(0, .pointer (some ⟨c, 0, none⟩)), (3, .pointer (some ⟨b0_0, 0, none⟩)), (4, .pointer (some ⟨b0_1, 0, none⟩)), (7, .pointer (some ⟨b6_12, 0, none⟩))] ?_
              refine at_then_normal ?_
              refine aq (x := C45 [1,1,1,1,1,1,0,1,0,1,1,1,1,1,1,1,0]) (y := C45 [1,1,1,1,1,1,0,1,0,1,1,1,1,1,1,1,1]) ?_
              refine ar (id := 10) 4 ?_
              refine sp 62 (.pointer (some ⟨c, 0, none⟩)) ?_
              refine sp 63 (.pointer (some ⟨b0_0, 4, none⟩)) ?_
              refine sl 64 (.int .i64 p.line) (load1 (off := 4) (fun _ => by kernel_rfl) (holds_own (.there (.there (.there (.there (.there (.there (.there .here)))))))) (by kernel_rfl)) ?_
              obtain ⟨y10_3, hy10_3, H⟩ := bindE H
              refine s_call 65 35 #[.pointer (some ⟨c, 0, none⟩), .int .i64 p.line] (by kernel_rfl) (by kernel_rfl) (fun _ => by kernel_rfl) (Tr.conv (Γ' := (RChA c cc) :: (Asn.own b6_12 (.cells #[.int .i64 y6_2, .int .i64 p.dst, .int .i64 p.src, .int .i64 p.id, .int .i64 p.line, .int .i64 y7_7.fwd, .int .i64 (0), .bool y7_7.dirty, .slice a9_2 (List.length l9_2) c9_2] 35 (0, 0))) :: (IntsA a9_2 c9_2 l9_2) :: (Asn.own b7_8 (.cells #[.int .i64 y7_7.fwd, .int .i64 y7_7.back, .int .i64 y7_7.line, .int .i64 y7_7.used, .bool y7_7.dirty, .slice a7_7_00 (List.length y7_7.data) c7_7_00] 60 (0, 0))) :: (IntsA a7_7_00 c7_7_00 y7_7.data) :: (ImmI a7_6 x7_6.data) :: (Asn.own b0_1 (.cells #[.int .i64 (0), .int .i64 (0), .int .i64 (0), .int .i64 (0), .int .i64 (0), .int .i64 (0), .int .i64 (0), .bool false, .slice none 0 0] 35 (0, 0))) :: (Asn.own b0_0 (.cells #[.int .i64 p.kind, .int .i64 p.src, .int .i64 p.dst, .int .i64 p.id, .int .i64 p.line, .int .i64 p.ptr, .int .i64 p.state, .bool p.flag, .slice pa (List.length p.data) pcap] 35 (0, 0))) :: Γ) (fun w hw => (Sat.less (.take (.there (.there .here)) (.take .here (.take .here (.take .here (.take .here (.take .here (.take .here (.take .here .refl)))))))) hw)) (RDropF_tr c cc p.line y10_3 hy10_3)) ?_
              rintro _ _ ⟨a10_3_00, c10_3_00, rfl, rfl⟩
              refine ops_end ?_
              refine ae [(4, .pointer (some ⟨b0_1, 0, none⟩)), (7, .pointer (some ⟨b6_12, 0, none⟩))] ?_
              refine at_then_normal ?_
              refine aq (x := C45 [1,1,1,1,1,1,0,1,0,1,1,1,1,1,1,1,1,0]) (y := C45 [1,1,1,1,1,1,0,1,0,1,1,1,1,1,1,1,1,1]) ?_
              refine ar (id := 11) 3 ?_
              refine sl 66 (.agg #[.int .i64 y6_2, .int .i64 p.dst, .int .i64 p.src, .int .i64 p.id, .int .i64 p.line, .int .i64 y7_7.fwd, .int .i64 (0), .bool y7_7.dirty, .slice a9_2 (List.length l9_2) c9_2]) (loadN (off := 0) (vs := [.int .i64 y6_2, .int .i64 p.dst, .int .i64 p.src, .int .i64 p.id, .int .i64 p.line, .int .i64 y7_7.fwd, .int .i64 (0), .bool y7_7.dirty, .slice a9_2 (List.length l9_2) c9_2]) 9 (fun _ => by kernel_rfl) (holds_own (.there (.there .here))) rfl (by exact ⟨rfl, rfl, rfl, rfl, rfl, rfl, rfl, rfl, rfl, trivial⟩)) ?_
              refine s_do (by kernel_rfl) (by kernel_rfl) (st_store (off := 0) (vs := [.int .i64 y6_2, .int .i64 p.dst, .int .i64 p.src, .int .i64 p.id, .int .i64 p.line, .int .i64 y7_7.fwd, .int .i64 (0), .bool y7_7.dirty, .slice a9_2 (List.length l9_2) c9_2]) (c' := #[.int .i64 y6_2, .int .i64 p.dst, .int .i64 p.src, .int .i64 p.id, .int .i64 p.line, .int .i64 y7_7.fwd, .int .i64 (0), .bool y7_7.dirty, .slice a9_2 (List.length l9_2) c9_2]) (fun _ => by kernel_rfl) (.there (.there (.there (.there (.there (.there (.there .here))))))) (by kernel_rfl) (by kernel_rfl) (by kernel_rfl)) ?_
              rintro _ _ ⟨rfl, rfl⟩
              refine sp 5 (.int .i64 (0)) ?_
              refine ops_end ?_
              refine ae [(4, .pointer (some ⟨b0_1, 0, none⟩)), (5, .int .i64 (0))] ?_
              refine at_then_normal ?_
              refine at_ret (by kernel_rfl) ?_
              refine at_in_ret ?_
              refine at_then_ret ?_
              obtain rfl := someE H
              refine at_backR [.agg #[.int .i64 y6_2, .int .i64 p.dst, .int .i64 p.src, .int .i64 p.id, .int .i64 p.line, .int .i64 y7_7.fwd, .int .i64 (0), .bool y7_7.dirty, .slice a9_2 (List.length l9_2) c9_2], .int .i64 (0)] ((IntsA a9_2 c9_2 l9_2) :: (RChA c y10_3.2.2) :: Γ) (rs := [.cell 4 35, .tmp 5]) (by kernel_rfl) (.cons (.cell (by kernel_rfl) (retN (off := 0) (vs := [.int .i64 y6_2, .int .i64 p.dst, .int .i64 p.src, .int .i64 p.id, .int .i64 p.line, .int .i64 y7_7.fwd, .int .i64 (0), .bool y7_7.dirty, .slice a9_2 (List.length l9_2) c9_2]) 9 (fun _ => by kernel_rfl) (holds_own .here) rfl (by exact ⟨rfl, rfl, rfl, rfl, rfl, rfl, rfl, rfl, rfl, trivial⟩))) (.cons (.tmp (by kernel_rfl)) .nil)) (fun w hw => (Sat.less (.take (.there (.there (.there (.there .here)))) (.take (.there (.there .here)) (.drop .here (.drop .here (.drop .here (.drop .here (.drop .here (.drop .here (.drop .here .refl))))))))) hw)) ?_
              exact ⟨a9_2, c9_2, rfl, rfl⟩
  · refine ar (id := 1) 13 ?_
    refine sl 9 (.agg #[.int .i64 p.kind, .int .i64 p.src, .int .i64 p.dst, .int .i64 p.id, .int .i64 p.line, .int .i64 p.ptr, .int .i64 p.state, .bool p.flag, .slice pa (List.length p.data) pcap]) (loadN (off := 0) (vs := [.int .i64 p.kind, .int .i64 p.src, .int .i64 p.dst, .int .i64 p.id, .int .i64 p.line, .int .i64 p.ptr, .int .i64 p.state, .bool p.flag, .slice pa (List.length p.data) pcap]) 9 (fun _ => by kernel_rfl) (holds_own (.there .here)) rfl (by exact ⟨rfl, rfl, rfl, rfl, rfl, rfl, rfl, rfl, rfl, trivial⟩)) ?_
    obtain ⟨y1_1, hy1_1, H⟩ := bindE H
    refine s_call 10 63 #[.agg #[.int .i64 p.kind, .int .i64 p.src, .int .i64 p.dst, .int .i64 p.id, .int .i64 p.line, .int .i64 p.ptr, .int .i64 p.state, .bool p.flag, .slice pa (List.length p.data) pcap]] (by kernel_rfl) (by kernel_rfl) (fun _ => by kernel_rfl) (RRightF_tr pa pcap p (Reads.conv (fun w hw => hw.less (.drop .here (.drop .here (.drop .here .refl)))) hrpa) y1_1 hy1_1) ?_
    rintro _ _ ⟨rfl, rfl⟩
    refine sp 11 (.bool !y1_1) ?_
    rcases Bool.eq_false_or_eq_true (!y1_1) with h6 | h6
    · replace H := bifT H h6
      refine sr 12 (.bool true) (run_eq (v := .bool (!y1_1)) (fun _ => by kernel_rfl) (congrArg Value.bool h6)) ?_
      refine sa 13 ?_
      refine sa 14 ?_
      refine sa 15 ?_
      refine sp 16 (.bool true) ?_
      refine sp 17 (.bool true) ?_
      refine sa 18 ?_
      refine sa 19 ?_
      refine sa 20 ?_
      refine sp 21 (.bool true) ?_
      refine ops_end ?_
      refine ae [(0, .pointer (some ⟨c, 0, none⟩)), (3, .pointer (some ⟨b0_0, 0, none⟩)), (4, .pointer (some ⟨b0_1, 0, none⟩)), (21, .bool true)] ?_
      refine at_round_normal ?_
      exact at_join_mk [(0, .pointer (some ⟨c, 0, none⟩)), (3, .pointer (some ⟨b0_0, 0, none⟩)), (4, .pointer (some ⟨b0_1, 0, none⟩)), (21, .bool true)] ((Asn.own b0_1 (.cells #[.int .i64 (0), .int .i64 (0), .int .i64 (0), .int .i64 (0), .int .i64 (0), .int .i64 (0), .int .i64 (0), .bool false, .slice none 0 0] 35 (0, 0))) :: (Asn.own b0_0 (.cells #[.int .i64 p.kind, .int .i64 p.src, .int .i64 p.dst, .int .i64 p.id, .int .i64 p.line, .int .i64 p.ptr, .int .i64 p.state, .bool p.flag, .slice pa (List.length p.data) pcap] 35 (0, 0))) :: (RChA c cc) :: Γ) ⟨by kernel_rfl, by kernel_rfl, by kernel_rfl, by kernel_rfl, trivial⟩ (fun w hw => (Sat.less (.take .here (.take .here (.take .here .refl))) hw)) ⟨true, H, rfl, rfl⟩
    · replace H := bifF H h6
      refine sr 12 (.bool false) (run_eq (v := .bool (!y1_1)) (fun _ => by kernel_rfl) (congrArg Value.bool h6)) ?_
      refine sp 13 (.pointer (some ⟨b0_0, 0, none⟩)) ?_
      refine sl 14 (.int .i64 p.kind) (load1 (off := 0) (fun _ => by kernel_rfl) (holds_own (.there .here)) (by kernel_rfl)) ?_
      refine sp 15 (.bool (decide (p.kind < (3 : Int)))) ?_
      refine sp 16 (.bool (decide (p.kind < (3 : Int)))) ?_
      rcases Bool.eq_false_or_eq_true (decide (p.kind < (3 : Int))) with h7 | h7
      · replace H := bifT H h7
        refine sr 17 (.bool true) (run_eq (v := .bool (decide (p.kind < (3 : Int)))) (fun _ => by kernel_rfl) (congrArg Value.bool h7)) ?_
        refine sa 18 ?_
        refine sa 19 ?_
        refine sa 20 ?_
        refine sp 21 (.bool true) ?_
        refine ops_end ?_
        refine ae [(0, .pointer (some ⟨c, 0, none⟩)), (3, .pointer (some ⟨b0_0, 0, none⟩)), (4, .pointer (some ⟨b0_1, 0, none⟩)), (21, .bool true)] ?_
        refine at_round_normal ?_
        exact at_join_mk [(0, .pointer (some ⟨c, 0, none⟩)), (3, .pointer (some ⟨b0_0, 0, none⟩)), (4, .pointer (some ⟨b0_1, 0, none⟩)), (21, .bool true)] ((Asn.own b0_1 (.cells #[.int .i64 (0), .int .i64 (0), .int .i64 (0), .int .i64 (0), .int .i64 (0), .int .i64 (0), .int .i64 (0), .bool false, .slice none 0 0] 35 (0, 0))) :: (Asn.own b0_0 (.cells #[.int .i64 p.kind, .int .i64 p.src, .int .i64 p.dst, .int .i64 p.id, .int .i64 p.line, .int .i64 p.ptr, .int .i64 p.state, .bool p.flag, .slice pa (List.length p.data) pcap] 35 (0, 0))) :: (RChA c cc) :: Γ) ⟨by kernel_rfl, by kernel_rfl, by kernel_rfl, by kernel_rfl, trivial⟩ (fun w hw => (Sat.less (.take .here (.take .here (.take .here .refl))) hw)) ⟨true, H, rfl, rfl⟩
      · replace H := bifF H h7
        refine sr 17 (.bool false) (run_eq (v := .bool (decide (p.kind < (3 : Int)))) (fun _ => by kernel_rfl) (congrArg Value.bool h7)) ?_
        refine sp 18 (.pointer (some ⟨b0_0, 0, none⟩)) ?_
        refine sl 19 (.int .i64 p.kind) (load1 (off := 0) (fun _ => by kernel_rfl) (holds_own (.there .here)) (by kernel_rfl)) ?_
        refine sp 20 (.bool (decide ((6 : Int) < p.kind))) ?_
        refine sp 21 (.bool (decide ((6 : Int) < p.kind))) ?_
        refine ops_end ?_
        refine ae [(0, .pointer (some ⟨c, 0, none⟩)), (3, .pointer (some ⟨b0_0, 0, none⟩)), (4, .pointer (some ⟨b0_1, 0, none⟩)), (21, .bool (decide ((6 : Int) < p.kind)))] ?_
        refine at_round_normal ?_
        exact at_join_mk [(0, .pointer (some ⟨c, 0, none⟩)), (3, .pointer (some ⟨b0_0, 0, none⟩)), (4, .pointer (some ⟨b0_1, 0, none⟩)), (21, .bool (decide ((6 : Int) < p.kind)))] ((Asn.own b0_1 (.cells #[.int .i64 (0), .int .i64 (0), .int .i64 (0), .int .i64 (0), .int .i64 (0), .int .i64 (0), .int .i64 (0), .bool false, .slice none 0 0] 35 (0, 0))) :: (Asn.own b0_0 (.cells #[.int .i64 p.kind, .int .i64 p.src, .int .i64 p.dst, .int .i64 p.id, .int .i64 p.line, .int .i64 p.ptr, .int .i64 p.state, .bool p.flag, .slice pa (List.length p.data) pcap] 35 (0, 0))) :: (RChA c cc) :: Γ) ⟨by kernel_rfl, by kernel_rfl, by kernel_rfl, by kernel_rfl, trivial⟩ (fun w hw => (Sat.less (.take .here (.take .here (.take .here .refl))) hw)) ⟨decide ((6 : Int) < p.kind), H, rfl, rfl⟩
def rsamepS_k1 (e1_72 : Int) : Option (Bool) :=
  some true
def rsamepS_l1 (a : PktS) (b : PktS) (k1 : Int → Option (Bool)) : Nat → Int → Option (Bool)
  | 0 => fun _ => none
  | m + 1 => fun v1_72 => (bif decide (v1_72 < (((List.length a.data) : Nat) : Int)) then chk (0 ≤ v1_72 ∧ v1_72 < ((a.data.length : Nat) : Int)) (chk (0 ≤ v1_72 ∧ v1_72 < ((b.data.length : Nat) : Int)) ((bif !(decide ((nth a.data v1_72) = (nth b.data v1_72))) then some false else chk (inR (v1_72 + (1 : Int))) ((rsamepS_l1 a b k1 m) (v1_72 + (1 : Int)))))) else k1 v1_72)
def rsamepS_j0 (a : PktS) (b : PktS) (e0_68 : Bool) : Option (Bool) :=
  (bif e0_68 then some false else rsamepS_l1 a b (rsamepS_k1 ) 64 0)
def rsamepS (a : PktS) (b : PktS) : Option (Bool) :=
  (bif !(decide (a.kind = b.kind)) then rsamepS_j0 a b true else (bif !(decide (a.src = b.src)) then rsamepS_j0 a b true else (bif !(decide (a.dst = b.dst)) then rsamepS_j0 a b true else (bif !(decide (a.id = b.id)) then rsamepS_j0 a b true else (bif !(decide (a.line = b.line)) then rsamepS_j0 a b true else (bif !(decide (a.ptr = b.ptr)) then rsamepS_j0 a b true else (bif !(decide (a.state = b.state)) then rsamepS_j0 a b true else (bif !(a.flag == b.flag) then rsamepS_j0 a b true else rsamepS_j0 a b (!(decide ((((List.length a.data) : Nat) : Int) = (((List.length b.data) : Nat) : Int))))))))))))
noncomputable def C46 (p : List Nat) : Code := codeAt (bodyOf Try.f46) p
set_option maxRecDepth 100000 in
set_option maxHeartbeats 8000000 in
theorem RSamePF_tr {W0 : World} {Γ : List Asn} (aa : Option Addr) (acap : Nat) (a : PktS) (ba : Option Addr) (bcap : Nat) (b : PktS) (hraa : Reads W0 Γ aa (ints a.data)) (hrba : Reads W0 Γ ba (ints b.data)) (y : Bool) (H : rsamepS a b = some y) : Tr Try.prog 46 #[.agg #[.int .i64 a.kind, .int .i64 a.src, .int .i64 a.dst, .int .i64 a.id, .int .i64 a.line, .int .i64 a.ptr, .int .i64 a.state, .bool a.flag, .slice aa (List.length a.data) acap], .agg #[.int .i64 b.kind, .int .i64 b.src, .int .i64 b.dst, .int .i64 b.id, .int .i64 b.line, .int .i64 b.ptr, .int .i64 b.state, .bool b.flag, .slice ba (List.length b.data) bcap]] W0 (Γ) (fun r Δ => r = .bool y ∧ Δ = Γ) := by
  unfold rsamepS at H
  refine Tr.enter (fn := Try.f46) (c := C46 []) (args := [.agg #[.int .i64 a.kind, .int .i64 a.src, .int .i64 a.dst, .int .i64 a.id, .int .i64 a.line, .int .i64 a.ptr, .int .i64 a.state, .bool a.flag, .slice aa (List.length a.data) acap], .agg #[.int .i64 b.kind, .int .i64 b.src, .int .i64 b.dst, .int .i64 b.id, .int .i64 b.line, .int .i64 b.ptr, .int .i64 b.state, .bool b.flag, .slice ba (List.length b.data) bcap]]) 87 Try.func46 (by kernel_rfl) (by kernel_rfl) ?_
  refine ae [(0, .agg #[.int .i64 a.kind, .int .i64 a.src, .int .i64 a.dst, .int .i64 a.id, .int .i64 a.line, .int .i64 a.ptr, .int .i64 a.state, .bool a.flag, .slice aa (List.length a.data) acap]), (1, .agg #[.int .i64 b.kind, .int .i64 b.src, .int .i64 b.dst, .int .i64 b.id, .int .i64 b.line, .int .i64 b.ptr, .int .i64 b.state, .bool b.flag, .slice ba (List.length b.data) bcap])] ?_
  refine aq (x := C46 [0]) (y := C46 [1]) ?_
  refine ar (id := 0) 3 ?_
  refine s_step 2 (by kernel_rfl) (by kernel_rfl) (st_new (T := 35) (cells := #[.int .i64 a.kind, .int .i64 a.src, .int .i64 a.dst, .int .i64 a.id, .int .i64 a.line, .int .i64 a.ptr, .int .i64 a.state, .bool a.flag, .slice aa (List.length a.data) acap]) (fun a => .pointer (some a)) (fun _ => by kernel_rfl)) ?_
  rintro _ _ ⟨b0_0, rfl, rfl⟩
  refine s_step 3 (by kernel_rfl) (by kernel_rfl) (st_new (T := 35) (cells := #[.int .i64 b.kind, .int .i64 b.src, .int .i64 b.dst, .int .i64 b.id, .int .i64 b.line, .int .i64 b.ptr, .int .i64 b.state, .bool b.flag, .slice ba (List.length b.data) bcap]) (fun a => .pointer (some a)) (fun _ => by kernel_rfl)) ?_
  rintro _ _ ⟨b0_1, rfl, rfl⟩
  refine sp 4 (.bool false) ?_
  refine ops_end ?_
  refine ae [(2, .pointer (some ⟨b0_0, 0, none⟩)), (3, .pointer (some ⟨b0_1, 0, none⟩))] ?_
  refine at_then_normal ?_
  refine aq (x := C46 [1,0]) (y := C46 [1,1]) ?_
  refine at_seq_join (x := C46 [1,0,0]) (y := C46 [1,0,1]) (fun ff ΔΔ => ∃ (e0_68 : Bool), rsamepS_j0 a b e0_68 = some y ∧ ff = [(2, .pointer (some ⟨b0_0, 0, none⟩)), (3, .pointer (some ⟨b0_1, 0, none⟩)), (68, .bool e0_68)] ∧ (Asn.own b0_1 (.cells #[.int .i64 b.kind, .int .i64 b.src, .int .i64 b.dst, .int .i64 b.id, .int .i64 b.line, .int .i64 b.ptr, .int .i64 b.state, .bool b.flag, .slice ba (List.length b.data) bcap] 35 (0, 0))) :: (Asn.own b0_0 (.cells #[.int .i64 a.kind, .int .i64 a.src, .int .i64 a.dst, .int .i64 a.id, .int .i64 a.line, .int .i64 a.ptr, .int .i64 a.state, .bool a.flag, .slice aa (List.length a.data) acap] 35 (0, 0))) :: Γ = ΔΔ) (by kernel_rfl) ?_ ?_
  · rintro _ _ ⟨e0_68, H, rfl, rfl⟩
    rw [rsamepS_j0] at H
    rcases Bool.eq_false_or_eq_true (e0_68) with h1 | h1
    · replace H := bifT H h1
      refine at_true (t := e0_68) (x := C46 [1,0,1,0]) (y := C46 [1,0,1,1]) (o := .tmp 68) (by kernel_rfl) (by kernel_rfl) (by kernel_rfl) h1 ?_
      refine aq (x := C46 [1,0,1,0,0]) (y := C46 [1,0,1,0,1]) ?_
      refine ar (id := 2) 1 ?_
      refine sp 4 (.bool false) ?_
      refine ops_end ?_
      refine ae [(4, .bool false)] ?_
      refine at_then_normal ?_
      refine at_ret (by kernel_rfl) ?_
      refine at_then_ret ?_
      obtain rfl := someE H
      refine at_backR [.bool false] (Γ) (rs := [.tmp 4]) (by kernel_rfl) (.cons (.tmp (by kernel_rfl)) .nil) (fun w hw => (Sat.less (.drop .here (.drop .here .refl)) hw)) ?_
      exact ⟨rfl, rfl⟩
    · replace H := bifF H h1
      refine at_false (t := e0_68) (x := C46 [1,0,1,0]) (y := C46 [1,0,1,1]) (o := .tmp 68) (by kernel_rfl) (by kernel_rfl) (by kernel_rfl) h1 ?_
      refine at_skip (by kernel_rfl) ?_
      refine at_then_normal ?_
      refine aq (x := C46 [1,1,0]) (y := C46 [1,1,1]) ?_
      refine aq (x := C46 [1,1,0,0]) (y := C46 [1,1,0,1]) ?_
      refine ar (id := 3) 4 ?_
      refine sp 69 (.pointer (some ⟨b0_0, 8, none⟩)) ?_
      refine sl 70 (.slice aa (List.length a.data) acap) (load1 (off := 8) (fun _ => by kernel_rfl) (holds_own (.there .here)) (by kernel_rfl)) ?_
      refine sp 71 (.int .i64 (((List.length a.data) : Nat) : Int)) ?_
      refine sp 72 (.int .i64 (0)) ?_
      refine ops_end ?_
      refine ae [(2, .pointer (some ⟨b0_0, 0, none⟩)), (3, .pointer (some ⟨b0_1, 0, none⟩)), (71, .int .i64 (((List.length a.data) : Nat) : Int)), (72, .int .i64 (0))] ?_
      refine at_then_normal ?_
      refine at_block (i := 0) (x := C46 [1,1,0,1,0]) (by kernel_rfl) ?_
      refine At.conv (Γ' := (Asn.own b0_1 (.cells #[.int .i64 b.kind, .int .i64 b.src, .int .i64 b.dst, .int .i64 b.id, .int .i64 b.line, .int .i64 b.ptr, .int .i64 b.state, .bool b.flag, .slice ba (List.length b.data) bcap] 35 (0, 0))) :: (Asn.own b0_0 (.cells #[.int .i64 a.kind, .int .i64 a.src, .int .i64 a.dst, .int .i64 a.id, .int .i64 a.line, .int .i64 a.ptr, .int .i64 a.state, .bool a.flag, .slice aa (List.length a.data) acap] 35 (0, 0))) :: Γ) (fun w hw => (Sat.less (.take .here (.take .here .refl)) hw)) ?_
      refine at_loopR (x := C46 [1,1,0,1,0,0]) (fun mm ff ΔΔ => ∃ (fuel : Nat) (v1_72 : Int), rsamepS_l1 a b (rsamepS_k1 ) fuel v1_72 = some y ∧ fuel = mm ∧ ff = [(2, .pointer (some ⟨b0_0, 0, none⟩)), (3, .pointer (some ⟨b0_1, 0, none⟩)), (71, .int .i64 (((List.length a.data) : Nat) : Int)), (72, .int .i64 v1_72)] ∧ (Asn.own b0_1 (.cells #[.int .i64 b.kind, .int .i64 b.src, .int .i64 b.dst, .int .i64 b.id, .int .i64 b.line, .int .i64 b.ptr, .int .i64 b.state, .bool b.flag, .slice ba (List.length b.data) bcap] 35 (0, 0))) :: (Asn.own b0_0 (.cells #[.int .i64 a.kind, .int .i64 a.src, .int .i64 a.dst, .int .i64 a.id, .int .i64 a.line, .int .i64 a.ptr, .int .i64 a.state, .bool a.flag, .slice aa (List.length a.data) acap] 35 (0, 0))) :: Γ = ΔΔ) (64) (by kernel_rfl) [(2, .pointer (some ⟨b0_0, 0, none⟩)), (3, .pointer (some ⟨b0_1, 0, none⟩)), (71, .int .i64 (((List.length a.data) : Nat) : Int)), (72, .int .i64 0)] ⟨by kernel_rfl, by kernel_rfl, by kernel_rfl, by kernel_rfl, trivial⟩ ⟨64, 0, H, rfl, rfl, rfl⟩ ?_
      rintro _ _ _ ⟨fuel1, v1_72, H, rfl, rfl, rfl⟩
      rcases fuel1 with _ | fuel1
      · exact (noneE H).elim
      rw [rsamepS_l1] at H
      refine aq (x := C46 [1,1,0,1,0,0,0]) (y := C46 [1,1,0,1,0,0,1]) ?_
      refine ar (id := 4) 1 ?_
      refine sp 73 (.bool (decide (v1_72 < (((List.length a.data) : Nat) : Int)))) ?_
      refine ops_end ?_
      refine ae [(2, .pointer (some ⟨b0_0, 0, none⟩)), (3, .pointer (some ⟨b0_1, 0, none⟩)), (71, .int .i64 (((List.length a.data) : Nat) : Int)), (72, .int .i64 v1_72), (73, .bool (decide (v1_72 < (((List.length a.data) : Nat) : Int))))] ?_
      refine at_then_normal ?_
      refine aq (x := C46 [1,1,0,1,0,0,1,0]) (y := C46 [1,1,0,1,0,0,1,1]) ?_
      rcases Bool.eq_false_or_eq_true (decide (v1_72 < (((List.length a.data) : Nat) : Int))) with h2 | h2
      · replace H := bifT H h2
        refine at_true (t := decide (v1_72 < (((List.length a.data) : Nat) : Int))) (x := C46 [1,1,0,1,0,0,1,0,0]) (y := C46 [1,1,0,1,0,0,1,0,1]) (o := .tmp 73) (by kernel_rfl) (by kernel_rfl) (by kernel_rfl) h2 ?_
        refine at_skip (by kernel_rfl) ?_
        refine at_then_normal ?_
        refine aq (x := C46 [1,1,0,1,0,0,1,1,0]) (y := C46 [1,1,0,1,0,0,1,1,1]) ?_
        refine at_block (i := 1) (x := C46 [1,1,0,1,0,0,1,1,0,0]) (by kernel_rfl) ?_
        refine aq (x := C46 [1,1,0,1,0,0,1,1,0,0,0]) (y := C46 [1,1,0,1,0,0,1,1,0,0,1]) ?_
        refine ar (id := 5) 2 ?_
        refine sp 74 (.int .i64 v1_72) ?_
        refine sp 5 (.int .i64 v1_72) ?_
        refine ops_end ?_
        refine ae [(2, .pointer (some ⟨b0_0, 0, none⟩)), (3, .pointer (some ⟨b0_1, 0, none⟩)), (5, .int .i64 v1_72), (71, .int .i64 (((List.length a.data) : Nat) : Int)), (72, .int .i64 v1_72)] ?_
        refine at_then_normal ?_
        refine aq (x := C46 [1,1,0,1,0,0,1,1,0,0,1,0]) (y := C46 [1,1,0,1,0,0,1,1,0,0,1,1]) ?_
        refine at_region_draw (id := 6) (by kernel_rfl) (by kernel_rfl) ?_
        refine dp 0 75 (.pointer (some ⟨b0_0, 8, none⟩)) ?_
        refine dl 1 76 (.slice aa (List.length a.data) acap) (load1 (off := 8) (fun _ => by kernel_rfl) (holds_own (.there .here)) (by kernel_rfl)) ?_
        refine dp 2 77 (.int .i64 v1_72) ?_
        obtain ⟨hc6_3_0, H⟩ := chkE H
        refine reads_at_draw (Reads.conv (fun w hw => hw.less (.drop .here (.drop .here .refl))) hraa) (by have := hc6_3_0; omega) ?_
        intro bb1 oo1 ha1
        refine d_pure 3 78 (.pointer (some ⟨bb1, oo1 + ((v1_72).toNat * 1 + 0), none⟩)) (by kernel_rfl) (by kernel_rfl) (by kernel_rfl) (index_at (t := 22) (sz := 1) (E := 3) (a := aa) (m := (List.length a.data)) (c := acap) (b := bb1) (off := oo1) (i := (v1_72).toNat) (tinfo 3) (fun _ => by kernel_rfl) (by kernel_rfl) (by kernel_rfl) (by kernel_rfl) ha1 (idx_cast hc6_3_0) (idx_nat hc6_3_0) rfl) ?_
        refine dl 4 79 (.int .i64 (nth a.data v1_72)) (load1_at (off := oo1 + ((v1_72).toNat * 1 + 0)) (v := .int .i64 (nth a.data v1_72)) (fun _ => by kernel_rfl) rfl (reads_cell (k := 1) (Reads.conv (fun w hw => hw.less (.drop .here (.drop .here .refl))) hraa) (ints_rows _) ha1 (nth_row hc6_3_0) (show [(.int .i64 (nth a.data v1_72) : Value)][0]? = some _ from rfl))) ?_
        refine dp 5 80 (.pointer (some ⟨b0_1, 8, none⟩)) ?_
        refine dl 6 81 (.slice ba (List.length b.data) bcap) (load1 (off := 8) (fun _ => by kernel_rfl) (holds_own .here) (by kernel_rfl)) ?_
        refine dp 7 82 (.int .i64 v1_72) ?_
        obtain ⟨hc6_8_0, H⟩ := chkE H
        refine reads_at_draw (Reads.conv (fun w hw => hw.less (.drop .here (.drop .here .refl))) hrba) (by have := hc6_8_0; omega) ?_
        intro bb2 oo2 ha2
        refine d_pure 8 83 (.pointer (some ⟨bb2, oo2 + ((v1_72).toNat * 1 + 0), none⟩)) (by kernel_rfl) (by kernel_rfl) (by kernel_rfl) (index_at (t := 22) (sz := 1) (E := 3) (a := ba) (m := (List.length b.data)) (c := bcap) (b := bb2) (off := oo2) (i := (v1_72).toNat) (tinfo 3) (fun _ => by kernel_rfl) (by kernel_rfl) (by kernel_rfl) (by kernel_rfl) ha2 (idx_cast hc6_8_0) (idx_nat hc6_8_0) rfl) ?_
        refine dl 9 84 (.int .i64 (nth b.data v1_72)) (load1_at (off := oo2 + ((v1_72).toNat * 1 + 0)) (v := .int .i64 (nth b.data v1_72)) (fun _ => by kernel_rfl) rfl (reads_cell (k := 1) (Reads.conv (fun w hw => hw.less (.drop .here (.drop .here .refl))) hrba) (ints_rows _) ha2 (nth_row hc6_8_0) (show [(.int .i64 (nth b.data v1_72) : Value)][0]? = some _ from rfl))) ?_
        refine dp 10 85 (.bool (!(decide ((nth a.data v1_72) = (nth b.data v1_72))))) ?_
        refine draw_end (by kernel_rfl) ?_
        refine ae [(2, .pointer (some ⟨b0_0, 0, none⟩)), (3, .pointer (some ⟨b0_1, 0, none⟩)), (71, .int .i64 (((List.length a.data) : Nat) : Int)), (72, .int .i64 v1_72), (85, .bool (!(decide ((nth a.data v1_72) = (nth b.data v1_72)))))] ?_
        refine at_then_normal ?_
        rcases Bool.eq_false_or_eq_true (!(decide ((nth a.data v1_72) = (nth b.data v1_72)))) with h3 | h3
        · replace H := bifT H h3
          refine at_true (t := !(decide ((nth a.data v1_72) = (nth b.data v1_72)))) (x := C46 [1,1,0,1,0,0,1,1,0,0,1,1,0]) (y := C46 [1,1,0,1,0,0,1,1,0,0,1,1,1]) (o := .tmp 85) (by kernel_rfl) (by kernel_rfl) (by kernel_rfl) h3 ?_
          refine aq (x := C46 [1,1,0,1,0,0,1,1,0,0,1,1,0,0]) (y := C46 [1,1,0,1,0,0,1,1,0,0,1,1,0,1]) ?_
          refine ar (id := 7) 1 ?_
          refine sp 4 (.bool false) ?_
          refine ops_end ?_
          refine ae [(4, .bool false)] ?_
          refine at_then_normal ?_
          refine at_ret (by kernel_rfl) ?_
          refine at_in_ret ?_
          refine at_then_ret ?_
          refine at_then_ret ?_
          refine at_in_ret ?_
          refine at_then_ret ?_
          obtain rfl := someE H
          refine at_backR [.bool false] (Γ) (rs := [.tmp 4]) (by kernel_rfl) (.cons (.tmp (by kernel_rfl)) .nil) (fun w hw => (Sat.less (.drop .here (.drop .here .refl)) hw)) ?_
          exact ⟨rfl, rfl⟩
        · replace H := bifF H h3
          refine at_false (t := !(decide ((nth a.data v1_72) = (nth b.data v1_72)))) (x := C46 [1,1,0,1,0,0,1,1,0,0,1,1,0]) (y := C46 [1,1,0,1,0,0,1,1,0,0,1,1,1]) (o := .tmp 85) (by kernel_rfl) (by kernel_rfl) (by kernel_rfl) h3 ?_
          refine at_skip (by kernel_rfl) ?_
          refine at_in_normal ?_
          refine at_then_normal ?_
          refine ar (id := 8) 2 ?_
          obtain ⟨hc8_0_0, H⟩ := chkE H
          refine sr 86 (.int .i64 (v1_72 + (1 : Int))) (run_eq (v := .int .i64 (IntKind.i64.wrap (v1_72 + (1 : Int)))) (fun _ => by kernel_rfl) (by rw [inR.wrap hc8_0_0])) ?_
          refine sp 72 (.int .i64 (v1_72 + (1 : Int))) ?_
          refine ops_end ?_
          refine ae [(2, .pointer (some ⟨b0_0, 0, none⟩)), (3, .pointer (some ⟨b0_1, 0, none⟩)), (71, .int .i64 (((List.length a.data) : Nat) : Int)), (72, .int .i64 (v1_72 + (1 : Int)))] ?_
          refine at_round_normal ?_
          exact at_roundR fuel1 [(2, .pointer (some ⟨b0_0, 0, none⟩)), (3, .pointer (some ⟨b0_1, 0, none⟩)), (71, .int .i64 (((List.length a.data) : Nat) : Int)), (72, .int .i64 (v1_72 + (1 : Int)))] ((Asn.own b0_1 (.cells #[.int .i64 b.kind, .int .i64 b.src, .int .i64 b.dst, .int .i64 b.id, .int .i64 b.line, .int .i64 b.ptr, .int .i64 b.state, .bool b.flag, .slice ba (List.length b.data) bcap] 35 (0, 0))) :: (Asn.own b0_0 (.cells #[.int .i64 a.kind, .int .i64 a.src, .int .i64 a.dst, .int .i64 a.id, .int .i64 a.line, .int .i64 a.ptr, .int .i64 a.state, .bool a.flag, .slice aa (List.length a.data) acap] 35 (0, 0))) :: Γ) (Nat.lt_succ_self _) ⟨by kernel_rfl, by kernel_rfl, by kernel_rfl, by kernel_rfl, trivial⟩ (fun w hw => (Sat.less (.take .here (.take .here .refl)) hw)) ⟨fuel1, v1_72 + (1 : Int), H, rfl, rfl, rfl⟩
      · replace H := bifF H h2
        refine at_false (t := decide (v1_72 < (((List.length a.data) : Nat) : Int))) (x := C46 [1,1,0,1,0,0,1,0,0]) (y := C46 [1,1,0,1,0,0,1,0,1]) (o := .tmp 73) (by kernel_rfl) (by kernel_rfl) (by kernel_rfl) h2 ?_
        refine at_exit (i := 0) (by kernel_rfl) ?_
        refine at_then_exit ?_
        refine at_then_exit ?_
        rw [rsamepS_k1] at H
        refine ae [(2, .pointer (some ⟨b0_0, 0, none⟩)), (3, .pointer (some ⟨b0_1, 0, none⟩)), (71, .int .i64 (((List.length a.data) : Nat) : Int)), (72, .int .i64 v1_72)] ?_
        refine At.conv (Γ' := (Asn.own b0_1 (.cells #[.int .i64 b.kind, .int .i64 b.src, .int .i64 b.dst, .int .i64 b.id, .int .i64 b.line, .int .i64 b.ptr, .int .i64 b.state, .bool b.flag, .slice ba (List.length b.data) bcap] 35 (0, 0))) :: (Asn.own b0_0 (.cells #[.int .i64 a.kind, .int .i64 a.src, .int .i64 a.dst, .int .i64 a.id, .int .i64 a.line, .int .i64 a.ptr, .int .i64 a.state, .bool a.flag, .slice aa (List.length a.data) acap] 35 (0, 0))) :: Γ) (fun w hw => (Sat.less (.take .here (.take .here .refl)) hw)) ?_
        refine at_in_here ?_
        refine at_then_normal ?_
        refine aq (x := C46 [1,1,1,0]) (y := C46 [1,1,1,1]) ?_
        refine ar (id := 9) 1 ?_
        refine sp 4 (.bool true) ?_
        refine ops_end ?_
        refine ae [(4, .bool true)] ?_
        refine at_then_normal ?_
        refine at_ret (by kernel_rfl) ?_
        obtain rfl := someE H
        refine at_backR [.bool true] (Γ) (rs := [.tmp 4]) (by kernel_rfl) (.cons (.tmp (by kernel_rfl)) .nil) (fun w hw => (Sat.less (.drop .here (.drop .here .refl)) hw)) ?_
        exact ⟨rfl, rfl⟩
  · refine ar (id := 1) 63 ?_
    refine sp 6 (.pointer (some ⟨b0_0, 0, none⟩)) ?_
    refine sl 7 (.int .i64 a.kind) (load1 (off := 0) (fun _ => by kernel_rfl) (holds_own (.there .here)) (by kernel_rfl)) ?_
    refine sp 8 (.pointer (some ⟨b0_1, 0, none⟩)) ?_
    refine sl 9 (.int .i64 b.kind) (load1 (off := 0) (fun _ => by kernel_rfl) (holds_own .here) (by kernel_rfl)) ?_
    refine sp 10 (.bool (!(decide (a.kind = b.kind)))) ?_
    rcases Bool.eq_false_or_eq_true (!(decide (a.kind = b.kind))) with h4 | h4
    · replace H := bifT H h4
      refine sr 11 (.bool true) (run_eq (v := .bool (!(decide (a.kind = b.kind)))) (fun _ => by kernel_rfl) (congrArg Value.bool h4)) ?_
      refine sa 12 ?_
      refine sa 13 ?_
      refine sa 14 ?_
      refine sa 15 ?_
      refine sa 16 ?_
      refine sp 17 (.bool true) ?_
      refine sp 18 (.bool true) ?_
      refine sa 19 ?_
      refine sa 20 ?_
      refine sa 21 ?_
      refine sa 22 ?_
      refine sa 23 ?_
      refine sp 24 (.bool true) ?_
      refine sp 25 (.bool true) ?_
      refine sa 26 ?_
      refine sa 27 ?_
      refine sa 28 ?_
      refine sa 29 ?_
      refine sa 30 ?_
      refine sp 31 (.bool true) ?_
      refine sp 32 (.bool true) ?_
      refine sa 33 ?_
      refine sa 34 ?_
      refine sa 35 ?_
      refine sa 36 ?_
      refine sa 37 ?_
      refine sp 38 (.bool true) ?_
      refine sp 39 (.bool true) ?_
      refine sa 40 ?_
      refine sa 41 ?_
      refine sa 42 ?_
      refine sa 43 ?_
      refine sa 44 ?_
      refine sp 45 (.bool true) ?_
      refine sp 46 (.bool true) ?_
      refine sa 47 ?_
      refine sa 48 ?_
      refine sa 49 ?_
      refine sa 50 ?_
      refine sa 51 ?_
      refine sp 52 (.bool true) ?_
      refine sp 53 (.bool true) ?_
      refine sa 54 ?_
      refine sa 55 ?_
      refine sa 56 ?_
      refine sa 57 ?_
      refine sa 58 ?_
      refine sp 59 (.bool true) ?_
      refine sp 60 (.bool true) ?_
      refine sa 61 ?_
      refine sa 62 ?_
      refine sa 63 ?_
      refine sa 64 ?_
      refine sa 65 ?_
      refine sa 66 ?_
      refine sa 67 ?_
      refine sp 68 (.bool true) ?_
      refine ops_end ?_
      refine ae [(2, .pointer (some ⟨b0_0, 0, none⟩)), (3, .pointer (some ⟨b0_1, 0, none⟩)), (68, .bool true)] ?_
      refine at_round_normal ?_
      exact at_join_mk [(2, .pointer (some ⟨b0_0, 0, none⟩)), (3, .pointer (some ⟨b0_1, 0, none⟩)), (68, .bool true)] ((Asn.own b0_1 (.cells #[.int .i64 b.kind, .int .i64 b.src, .int .i64 b.dst, .int .i64 b.id, .int .i64 b.line, .int .i64 b.ptr, .int .i64 b.state, .bool b.flag, .slice ba (List.length b.data) bcap] 35 (0, 0))) :: (Asn.own b0_0 (.cells #[.int .i64 a.kind, .int .i64 a.src, .int .i64 a.dst, .int .i64 a.id, .int .i64 a.line, .int .i64 a.ptr, .int .i64 a.state, .bool a.flag, .slice aa (List.length a.data) acap] 35 (0, 0))) :: Γ) ⟨by kernel_rfl, by kernel_rfl, by kernel_rfl, trivial⟩ (fun w hw => (Sat.less (.take .here (.take .here .refl)) hw)) ⟨true, H, rfl, rfl⟩
    · replace H := bifF H h4
      refine sr 11 (.bool false) (run_eq (v := .bool (!(decide (a.kind = b.kind)))) (fun _ => by kernel_rfl) (congrArg Value.bool h4)) ?_
      refine sp 12 (.pointer (some ⟨b0_0, 1, none⟩)) ?_
      refine sl 13 (.int .i64 a.src) (load1 (off := 1) (fun _ => by kernel_rfl) (holds_own (.there .here)) (by kernel_rfl)) ?_
      refine sp 14 (.pointer (some ⟨b0_1, 1, none⟩)) ?_
      refine sl 15 (.int .i64 b.src) (load1 (off := 1) (fun _ => by kernel_rfl) (holds_own .here) (by kernel_rfl)) ?_
      refine sp 16 (.bool (!(decide (a.src = b.src)))) ?_
      refine sp 17 (.bool (!(decide (a.src = b.src)))) ?_
      rcases Bool.eq_false_or_eq_true (!(decide (a.src = b.src))) with h5 | h5
      · replace H := bifT H h5
        refine sr 18 (.bool true) (run_eq (v := .bool (!(decide (a.src = b.src)))) (fun _ => by kernel_rfl) (congrArg Value.bool h5)) ?_
        refine sa 19 ?_
        refine sa 20 ?_
        refine sa 21 ?_
        refine sa 22 ?_
        refine sa 23 ?_
        refine sp 24 (.bool true) ?_
        refine sp 25 (.bool true) ?_
        refine sa 26 ?_
        refine sa 27 ?_
        refine sa 28 ?_
        refine sa 29 ?_
        refine sa 30 ?_
        refine sp 31 (.bool true) ?_
        refine sp 32 (.bool true) ?_
        refine sa 33 ?_
        refine sa 34 ?_
        refine sa 35 ?_
        refine sa 36 ?_
        refine sa 37 ?_
        refine sp 38 (.bool true) ?_
        refine sp 39 (.bool true) ?_
        refine sa 40 ?_
        refine sa 41 ?_
        refine sa 42 ?_
        refine sa 43 ?_
        refine sa 44 ?_
        refine sp 45 (.bool true) ?_
        refine sp 46 (.bool true) ?_
        refine sa 47 ?_
        refine sa 48 ?_
        refine sa 49 ?_
        refine sa 50 ?_
        refine sa 51 ?_
        refine sp 52 (.bool true) ?_
        refine sp 53 (.bool true) ?_
        refine sa 54 ?_
        refine sa 55 ?_
        refine sa 56 ?_
        refine sa 57 ?_
        refine sa 58 ?_
        refine sp 59 (.bool true) ?_
        refine sp 60 (.bool true) ?_
        refine sa 61 ?_
        refine sa 62 ?_
        refine sa 63 ?_
        refine sa 64 ?_
        refine sa 65 ?_
        refine sa 66 ?_
        refine sa 67 ?_
        refine sp 68 (.bool true) ?_
        refine ops_end ?_
        refine ae [(2, .pointer (some ⟨b0_0, 0, none⟩)), (3, .pointer (some ⟨b0_1, 0, none⟩)), (68, .bool true)] ?_
        refine at_round_normal ?_
        exact at_join_mk [(2, .pointer (some ⟨b0_0, 0, none⟩)), (3, .pointer (some ⟨b0_1, 0, none⟩)), (68, .bool true)] ((Asn.own b0_1 (.cells #[.int .i64 b.kind, .int .i64 b.src, .int .i64 b.dst, .int .i64 b.id, .int .i64 b.line, .int .i64 b.ptr, .int .i64 b.state, .bool b.flag, .slice ba (List.length b.data) bcap] 35 (0, 0))) :: (Asn.own b0_0 (.cells #[.int .i64 a.kind, .int .i64 a.src, .int .i64 a.dst, .int .i64 a.id, .int .i64 a.line, .int .i64 a.ptr, .int .i64 a.state, .bool a.flag, .slice aa (List.length a.data) acap] 35 (0, 0))) :: Γ) ⟨by kernel_rfl, by kernel_rfl, by kernel_rfl, trivial⟩ (fun w hw => (Sat.less (.take .here (.take .here .refl)) hw)) ⟨true, H, rfl, rfl⟩
      · replace H := bifF H h5
        refine sr 18 (.bool false) (run_eq (v := .bool (!(decide (a.src = b.src)))) (fun _ => by kernel_rfl) (congrArg Value.bool h5)) ?_
        refine sp 19 (.pointer (some ⟨b0_0, 2, none⟩)) ?_
        refine sl 20 (.int .i64 a.dst) (load1 (off := 2) (fun _ => by kernel_rfl) (holds_own (.there .here)) (by kernel_rfl)) ?_
        refine sp 21 (.pointer (some ⟨b0_1, 2, none⟩)) ?_
        refine sl 22 (.int .i64 b.dst) (load1 (off := 2) (fun _ => by kernel_rfl) (holds_own .here) (by kernel_rfl)) ?_
        refine sp 23 (.bool (!(decide (a.dst = b.dst)))) ?_
        refine sp 24 (.bool (!(decide (a.dst = b.dst)))) ?_
        rcases Bool.eq_false_or_eq_true (!(decide (a.dst = b.dst))) with h6 | h6
        · replace H := bifT H h6
          refine sr 25 (.bool true) (run_eq (v := .bool (!(decide (a.dst = b.dst)))) (fun _ => by kernel_rfl) (congrArg Value.bool h6)) ?_
          refine sa 26 ?_
          refine sa 27 ?_
          refine sa 28 ?_
          refine sa 29 ?_
          refine sa 30 ?_
          refine sp 31 (.bool true) ?_
          refine sp 32 (.bool true) ?_
          refine sa 33 ?_
          refine sa 34 ?_
          refine sa 35 ?_
          refine sa 36 ?_
          refine sa 37 ?_
          refine sp 38 (.bool true) ?_
          refine sp 39 (.bool true) ?_
          refine sa 40 ?_
          refine sa 41 ?_
          refine sa 42 ?_
          refine sa 43 ?_
          refine sa 44 ?_
          refine sp 45 (.bool true) ?_
          refine sp 46 (.bool true) ?_
          refine sa 47 ?_
          refine sa 48 ?_
          refine sa 49 ?_
          refine sa 50 ?_
          refine sa 51 ?_
          refine sp 52 (.bool true) ?_
          refine sp 53 (.bool true) ?_
          refine sa 54 ?_
          refine sa 55 ?_
          refine sa 56 ?_
          refine sa 57 ?_
          refine sa 58 ?_
          refine sp 59 (.bool true) ?_
          refine sp 60 (.bool true) ?_
          refine sa 61 ?_
          refine sa 62 ?_
          refine sa 63 ?_
          refine sa 64 ?_
          refine sa 65 ?_
          refine sa 66 ?_
          refine sa 67 ?_
          refine sp 68 (.bool true) ?_
          refine ops_end ?_
          refine ae [(2, .pointer (some ⟨b0_0, 0, none⟩)), (3, .pointer (some ⟨b0_1, 0, none⟩)), (68, .bool true)] ?_
          refine at_round_normal ?_
          exact at_join_mk [(2, .pointer (some ⟨b0_0, 0, none⟩)), (3, .pointer (some ⟨b0_1, 0, none⟩)), (68, .bool true)] ((Asn.own b0_1 (.cells #[.int .i64 b.kind, .int .i64 b.src, .int .i64 b.dst, .int .i64 b.id, .int .i64 b.line, .int .i64 b.ptr, .int .i64 b.state, .bool b.flag, .slice ba (List.length b.data) bcap] 35 (0, 0))) :: (Asn.own b0_0 (.cells #[.int .i64 a.kind, .int .i64 a.src, .int .i64 a.dst, .int .i64 a.id, .int .i64 a.line, .int .i64 a.ptr, .int .i64 a.state, .bool a.flag, .slice aa (List.length a.data) acap] 35 (0, 0))) :: Γ) ⟨by kernel_rfl, by kernel_rfl, by kernel_rfl, trivial⟩ (fun w hw => (Sat.less (.take .here (.take .here .refl)) hw)) ⟨true, H, rfl, rfl⟩
        · replace H := bifF H h6
          refine sr 25 (.bool false) (run_eq (v := .bool (!(decide (a.dst = b.dst)))) (fun _ => by kernel_rfl) (congrArg Value.bool h6)) ?_
          refine sp 26 (.pointer (some ⟨b0_0, 3, none⟩)) ?_
          refine sl 27 (.int .i64 a.id) (load1 (off := 3) (fun _ => by kernel_rfl) (holds_own (.there .here)) (by kernel_rfl)) ?_
          refine sp 28 (.pointer (some ⟨b0_1, 3, none⟩)) ?_
          refine sl 29 (.int .i64 b.id) (load1 (off := 3) (fun _ => by kernel_rfl) (holds_own .here) (by kernel_rfl)) ?_
          refine sp 30 (.bool (!(decide (a.id = b.id)))) ?_
          refine sp 31 (.bool (!(decide (a.id = b.id)))) ?_
          rcases Bool.eq_false_or_eq_true (!(decide (a.id = b.id))) with h7 | h7
          · replace H := bifT H h7
            refine sr 32 (.bool true) (run_eq (v := .bool (!(decide (a.id = b.id)))) (fun _ => by kernel_rfl) (congrArg Value.bool h7)) ?_
            refine sa 33 ?_
            refine sa 34 ?_
            refine sa 35 ?_
            refine sa 36 ?_
            refine sa 37 ?_
            refine sp 38 (.bool true) ?_
            refine sp 39 (.bool true) ?_
            refine sa 40 ?_
            refine sa 41 ?_
            refine sa 42 ?_
            refine sa 43 ?_
            refine sa 44 ?_
            refine sp 45 (.bool true) ?_
            refine sp 46 (.bool true) ?_
            refine sa 47 ?_
            refine sa 48 ?_
            refine sa 49 ?_
            refine sa 50 ?_
            refine sa 51 ?_
            refine sp 52 (.bool true) ?_
            refine sp 53 (.bool true) ?_
            refine sa 54 ?_
            refine sa 55 ?_
            refine sa 56 ?_
            refine sa 57 ?_
            refine sa 58 ?_
            refine sp 59 (.bool true) ?_
            refine sp 60 (.bool true) ?_
            refine sa 61 ?_
            refine sa 62 ?_
            refine sa 63 ?_
            refine sa 64 ?_
            refine sa 65 ?_
            refine sa 66 ?_
            refine sa 67 ?_
            refine sp 68 (.bool true) ?_
            refine ops_end ?_
            refine ae [(2, .pointer (some ⟨b0_0, 0, none⟩)), (3, .pointer (some ⟨b0_1, 0, none⟩)), (68, .bool true)] ?_
            refine at_round_normal ?_
            exact at_join_mk [(2, .pointer (some ⟨b0_0, 0, none⟩)), (3, .pointer (some ⟨b0_1, 0, none⟩)), (68, .bool true)] ((Asn.own b0_1 (.cells #[.int .i64 b.kind, .int .i64 b.src, .int .i64 b.dst, .int .i64 b.id, .int .i64 b.line, .int .i64 b.ptr, .int .i64 b.state, .bool b.flag, .slice ba (List.length b.data) bcap] 35 (0, 0))) :: (Asn.own b0_0 (.cells #[.int .i64 a.kind, .int .i64 a.src, .int .i64 a.dst, .int .i64 a.id, .int .i64 a.line, .int .i64 a.ptr, .int .i64 a.state, .bool a.flag, .slice aa (List.length a.data) acap] 35 (0, 0))) :: Γ) ⟨by kernel_rfl, by kernel_rfl, by kernel_rfl, trivial⟩ (fun w hw => (Sat.less (.take .here (.take .here .refl)) hw)) ⟨true, H, rfl, rfl⟩
          · replace H := bifF H h7
            refine sr 32 (.bool false) (run_eq (v := .bool (!(decide (a.id = b.id)))) (fun _ => by kernel_rfl) (congrArg Value.bool h7)) ?_
            refine sp 33 (.pointer (some ⟨b0_0, 4, none⟩)) ?_
            refine sl 34 (.int .i64 a.line) (load1 (off := 4) (fun _ => by kernel_rfl) (holds_own (.there .here)) (by kernel_rfl)) ?_
            refine sp 35 (.pointer (some ⟨b0_1, 4, none⟩)) ?_
            refine sl 36 (.int .i64 b.line) (load1 (off := 4) (fun _ => by kernel_rfl) (holds_own .here) (by kernel_rfl)) ?_
            refine sp 37 (.bool (!(decide (a.line = b.line)))) ?_
            refine sp 38 (.bool (!(decide (a.line = b.line)))) ?_
            rcases Bool.eq_false_or_eq_true (!(decide (a.line = b.line))) with h8 | h8
            · replace H := bifT H h8
              refine sr 39 (.bool true) (run_eq (v := .bool (!(decide (a.line = b.line)))) (fun _ => by kernel_rfl) (congrArg Value.bool h8)) ?_
              refine sa 40 ?_
              refine sa 41 ?_
              refine sa 42 ?_
              refine sa 43 ?_
              refine sa 44 ?_
              refine sp 45 (.bool true) ?_
              refine sp 46 (.bool true) ?_
              refine sa 47 ?_
              refine sa 48 ?_
              refine sa 49 ?_
              refine sa 50 ?_
              refine sa 51 ?_
              refine sp 52 (.bool true) ?_
              refine sp 53 (.bool true) ?_
              refine sa 54 ?_
              refine sa 55 ?_
              refine sa 56 ?_
              refine sa 57 ?_
              refine sa 58 ?_
              refine sp 59 (.bool true) ?_
              refine sp 60 (.bool true) ?_
              refine sa 61 ?_
              refine sa 62 ?_
              refine sa 63 ?_
              refine sa 64 ?_
              refine sa 65 ?_
              refine sa 66 ?_
              refine sa 67 ?_
              refine sp 68 (.bool true) ?_
              refine ops_end ?_
              refine ae [(2, .pointer (some ⟨b0_0, 0, none⟩)), (3, .pointer (some ⟨b0_1, 0, none⟩)), (68, .bool true)] ?_
              refine at_round_normal ?_
              exact at_join_mk [(2, .pointer (some ⟨b0_0, 0, none⟩)), (3, .pointer (some ⟨b0_1, 0, none⟩)), (68, .bool true)] ((Asn.own b0_1 (.cells #[.int .i64 b.kind, .int .i64 b.src, .int .i64 b.dst, .int .i64 b.id, .int .i64 b.line, .int .i64 b.ptr, .int .i64 b.state, .bool b.flag, .slice ba (List.length b.data) bcap] 35 (0, 0))) :: (Asn.own b0_0 (.cells #[.int .i64 a.kind, .int .i64 a.src, .int .i64 a.dst, .int .i64 a.id, .int .i64 a.line, .int .i64 a.ptr, .int .i64 a.state, .bool a.flag, .slice aa (List.length a.data) acap] 35 (0, 0))) :: Γ) ⟨by kernel_rfl, by kernel_rfl, by kernel_rfl, trivial⟩ (fun w hw => (Sat.less (.take .here (.take .here .refl)) hw)) ⟨true, H, rfl, rfl⟩
            · replace H := bifF H h8
              refine sr 39 (.bool false) (run_eq (v := .bool (!(decide (a.line = b.line)))) (fun _ => by kernel_rfl) (congrArg Value.bool h8)) ?_
              refine sp 40 (.pointer (some ⟨b0_0, 5, none⟩)) ?_
              refine sl 41 (.int .i64 a.ptr) (load1 (off := 5) (fun _ => by kernel_rfl) (holds_own (.there .here)) (by kernel_rfl)) ?_
              refine sp 42 (.pointer (some ⟨b0_1, 5, none⟩)) ?_
              refine sl 43 (.int .i64 b.ptr) (load1 (off := 5) (fun _ => by kernel_rfl) (holds_own .here) (by kernel_rfl)) ?_
              refine sp 44 (.bool (!(decide (a.ptr = b.ptr)))) ?_
              refine sp 45 (.bool (!(decide (a.ptr = b.ptr)))) ?_
              rcases Bool.eq_false_or_eq_true (!(decide (a.ptr = b.ptr))) with h9 | h9
              · replace H := bifT H h9
                refine sr 46 (.bool true) (run_eq (v := .bool (!(decide (a.ptr = b.ptr)))) (fun _ => by kernel_rfl) (congrArg Value.bool h9)) ?_
                refine sa 47 ?_
                refine sa 48 ?_
                refine sa 49 ?_
                refine sa 50 ?_
                refine sa 51 ?_
                refine sp 52 (.bool true) ?_
                refine sp 53 (.bool true) ?_
                refine sa 54 ?_
                refine sa 55 ?_
                refine sa 56 ?_
                refine sa 57 ?_
                refine sa 58 ?_
                refine sp 59 (.bool true) ?_
                refine sp 60 (.bool true) ?_
                refine sa 61 ?_
                refine sa 62 ?_
                refine sa 63 ?_
                refine sa 64 ?_
                refine sa 65 ?_
                refine sa 66 ?_
                refine sa 67 ?_
                refine sp 68 (.bool true) ?_
                refine ops_end ?_
                refine ae [(2, .pointer (some ⟨b0_0, 0, none⟩)), (3, .pointer (some ⟨b0_1, 0, none⟩)), (68, .bool true)] ?_
                refine at_round_normal ?_
                exact at_join_mk [(2, .pointer (some ⟨b0_0, 0, none⟩)), (3, .pointer (some ⟨b0_1, 0, none⟩)), (68, .bool true)] ((Asn.own b0_1 (.cells #[.int .i64 b.kind, .int .i64 b.src, .int .i64 b.dst, .int .i64 b.id, .int .i64 b.line, .int .i64 b.ptr, .int .i64 b.state, .bool b.flag, .slice ba (List.length b.data) bcap] 35 (0, 0))) :: (Asn.own b0_0 (.cells #[.int .i64 a.kind, .int .i64 a.src, .int .i64 a.dst, .int .i64 a.id, .int .i64 a.line, .int .i64 a.ptr, .int .i64 a.state, .bool a.flag, .slice aa (List.length a.data) acap] 35 (0, 0))) :: Γ) ⟨by kernel_rfl, by kernel_rfl, by kernel_rfl, trivial⟩ (fun w hw => (Sat.less (.take .here (.take .here .refl)) hw)) ⟨true, H, rfl, rfl⟩
              · replace H := bifF H h9
                refine sr 46 (.bool false) (run_eq (v := .bool (!(decide (a.ptr = b.ptr)))) (fun _ => by kernel_rfl) (congrArg Value.bool h9)) ?_
                refine sp 47 (.pointer (some ⟨b0_0, 6, none⟩)) ?_
                refine sl 48 (.int .i64 a.state) (load1 (off := 6) (fun _ => by kernel_rfl) (holds_own (.there .here)) (by kernel_rfl)) ?_
                refine sp 49 (.pointer (some ⟨b0_1, 6, none⟩)) ?_
                refine sl 50 (.int .i64 b.state) (load1 (off := 6) (fun _ => by kernel_rfl) (holds_own .here) (by kernel_rfl)) ?_
                refine sp 51 (.bool (!(decide (a.state = b.state)))) ?_
                refine sp 52 (.bool (!(decide (a.state = b.state)))) ?_
                rcases Bool.eq_false_or_eq_true (!(decide (a.state = b.state))) with h10 | h10
                · replace H := bifT H h10
                  refine sr 53 (.bool true) (run_eq (v := .bool (!(decide (a.state = b.state)))) (fun _ => by kernel_rfl) (congrArg Value.bool h10)) ?_
                  refine sa 54 ?_
                  refine sa 55 ?_
                  refine sa 56 ?_
                  refine sa 57 ?_
                  refine sa 58 ?_
                  refine sp 59 (.bool true) ?_
                  refine sp 60 (.bool true) ?_
                  refine sa 61 ?_
                  refine sa 62 ?_
                  refine sa 63 ?_
                  refine sa 64 ?_
                  refine sa 65 ?_
                  refine sa 66 ?_
                  refine sa 67 ?_
                  refine sp 68 (.bool true) ?_
                  refine ops_end ?_
                  refine ae [(2, .pointer (some ⟨b0_0, 0, none⟩)), (3, .pointer (some ⟨b0_1, 0, none⟩)), (68, .bool true)] ?_
                  refine at_round_normal ?_
                  exact at_join_mk [(2, .pointer (some ⟨b0_0, 0, none⟩)), (3, .pointer (some ⟨b0_1, 0, none⟩)), (68, .bool true)] ((Asn.own b0_1 (.cells #[.int .i64 b.kind, .int .i64 b.src, .int .i64 b.dst, .int .i64 b.id, .int .i64 b.line, .int .i64 b.ptr, .int .i64 b.state, .bool b.flag, .slice ba (List.length b.data) bcap] 35 (0, 0))) :: (Asn.own b0_0 (.cells #[.int .i64 a.kind, .int .i64 a.src, .int .i64 a.dst, .int .i64 a.id, .int .i64 a.line, .int .i64 a.ptr, .int .i64 a.state, .bool a.flag, .slice aa (List.length a.data) acap] 35 (0, 0))) :: Γ) ⟨by kernel_rfl, by kernel_rfl, by kernel_rfl, trivial⟩ (fun w hw => (Sat.less (.take .here (.take .here .refl)) hw)) ⟨true, H, rfl, rfl⟩
                · replace H := bifF H h10
                  refine sr 53 (.bool false) (run_eq (v := .bool (!(decide (a.state = b.state)))) (fun _ => by kernel_rfl) (congrArg Value.bool h10)) ?_
                  refine sp 54 (.pointer (some ⟨b0_0, 7, none⟩)) ?_
                  refine sl 55 (.bool a.flag) (load1 (off := 7) (fun _ => by kernel_rfl) (holds_own (.there .here)) (by kernel_rfl)) ?_
                  refine sp 56 (.pointer (some ⟨b0_1, 7, none⟩)) ?_
                  refine sl 57 (.bool b.flag) (load1 (off := 7) (fun _ => by kernel_rfl) (holds_own .here) (by kernel_rfl)) ?_
                  refine sp 58 (.bool (!(a.flag == b.flag))) ?_
                  refine sp 59 (.bool (!(a.flag == b.flag))) ?_
                  rcases Bool.eq_false_or_eq_true (!(a.flag == b.flag)) with h11 | h11
                  · replace H := bifT H h11
                    refine sr 60 (.bool true) (run_eq (v := .bool (!(a.flag == b.flag))) (fun _ => by kernel_rfl) (congrArg Value.bool h11)) ?_
                    refine sa 61 ?_
                    refine sa 62 ?_
                    refine sa 63 ?_
                    refine sa 64 ?_
                    refine sa 65 ?_
                    refine sa 66 ?_
                    refine sa 67 ?_
                    refine sp 68 (.bool true) ?_
                    refine ops_end ?_
                    refine ae [(2, .pointer (some ⟨b0_0, 0, none⟩)), (3, .pointer (some ⟨b0_1, 0, none⟩)), (68, .bool true)] ?_
                    refine at_round_normal ?_
                    exact at_join_mk [(2, .pointer (some ⟨b0_0, 0, none⟩)), (3, .pointer (some ⟨b0_1, 0, none⟩)), (68, .bool true)] ((Asn.own b0_1 (.cells #[.int .i64 b.kind, .int .i64 b.src, .int .i64 b.dst, .int .i64 b.id, .int .i64 b.line, .int .i64 b.ptr, .int .i64 b.state, .bool b.flag, .slice ba (List.length b.data) bcap] 35 (0, 0))) :: (Asn.own b0_0 (.cells #[.int .i64 a.kind, .int .i64 a.src, .int .i64 a.dst, .int .i64 a.id, .int .i64 a.line, .int .i64 a.ptr, .int .i64 a.state, .bool a.flag, .slice aa (List.length a.data) acap] 35 (0, 0))) :: Γ) ⟨by kernel_rfl, by kernel_rfl, by kernel_rfl, trivial⟩ (fun w hw => (Sat.less (.take .here (.take .here .refl)) hw)) ⟨true, H, rfl, rfl⟩
                  · replace H := bifF H h11
                    refine sr 60 (.bool false) (run_eq (v := .bool (!(a.flag == b.flag))) (fun _ => by kernel_rfl) (congrArg Value.bool h11)) ?_
                    refine sp 61 (.pointer (some ⟨b0_0, 8, none⟩)) ?_
                    refine sl 62 (.slice aa (List.length a.data) acap) (load1 (off := 8) (fun _ => by kernel_rfl) (holds_own (.there .here)) (by kernel_rfl)) ?_
                    refine sp 63 (.int .i64 (((List.length a.data) : Nat) : Int)) ?_
                    refine sp 64 (.pointer (some ⟨b0_1, 8, none⟩)) ?_
                    refine sl 65 (.slice ba (List.length b.data) bcap) (load1 (off := 8) (fun _ => by kernel_rfl) (holds_own .here) (by kernel_rfl)) ?_
                    refine sp 66 (.int .i64 (((List.length b.data) : Nat) : Int)) ?_
                    refine sp 67 (.bool (!(decide ((((List.length a.data) : Nat) : Int) = (((List.length b.data) : Nat) : Int))))) ?_
                    refine sp 68 (.bool (!(decide ((((List.length a.data) : Nat) : Int) = (((List.length b.data) : Nat) : Int))))) ?_
                    refine ops_end ?_
                    refine ae [(2, .pointer (some ⟨b0_0, 0, none⟩)), (3, .pointer (some ⟨b0_1, 0, none⟩)), (68, .bool (!(decide ((((List.length a.data) : Nat) : Int) = (((List.length b.data) : Nat) : Int)))))] ?_
                    refine at_round_normal ?_
                    exact at_join_mk [(2, .pointer (some ⟨b0_0, 0, none⟩)), (3, .pointer (some ⟨b0_1, 0, none⟩)), (68, .bool (!(decide ((((List.length a.data) : Nat) : Int) = (((List.length b.data) : Nat) : Int)))))] ((Asn.own b0_1 (.cells #[.int .i64 b.kind, .int .i64 b.src, .int .i64 b.dst, .int .i64 b.id, .int .i64 b.line, .int .i64 b.ptr, .int .i64 b.state, .bool b.flag, .slice ba (List.length b.data) bcap] 35 (0, 0))) :: (Asn.own b0_0 (.cells #[.int .i64 a.kind, .int .i64 a.src, .int .i64 a.dst, .int .i64 a.id, .int .i64 a.line, .int .i64 a.ptr, .int .i64 a.state, .bool a.flag, .slice aa (List.length a.data) acap] 35 (0, 0))) :: Γ) ⟨by kernel_rfl, by kernel_rfl, by kernel_rfl, trivial⟩ (fun w hw => (Sat.less (.take .here (.take .here .refl)) hw)) ⟨!(decide ((((List.length a.data) : Nat) : Int) = (((List.length b.data) : Nat) : Int))), H, rfl, rfl⟩
end Go.Proofs.Ytfpiolnbnfngkaa
