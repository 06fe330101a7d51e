/- Requests to a cache: each function answers what its plain function says. -/
import Derived.Test.YtlnjnkbnppnbkaaRcA
import Derived.Test.YtlnjnkbnppnbkaaKsA
namespace Go.Proofs.Ytlnjnkbnppnbkaa
open Go Go.RowKit
set_option linter.unusedVariables false
set_option linter.unusedSimpArgs false
noncomputable def C55 (p : List Nat) : Code := codeAt (bodyOf Try.f55) p
set_option maxRecDepth 100000 in
theorem SetFwd_tr {W0 : World} {Γ : List Asn} (b T : Nat) (f bk l u : Int) (d : Bool) (a : Option Addr) (n cap : Nat) (x : Int) : Tr Try.prog 55 #[.pointer (some ⟨b, 0, none⟩), .int .i64 x] W0 ((Asn.own b (.cells #[.int .i64 f, .int .i64 bk, .int .i64 l, .int .i64 u, .bool d, .slice a n cap] T (0, 0))) :: Γ) (fun r Δ => r = .tuple #[] ∧ Δ = (Asn.own b (.cells #[.int .i64 x, .int .i64 bk, .int .i64 l, .int .i64 u, .bool d, .slice a n cap] T (0, 0))) :: Γ) := by
 refine Tr.enter (fn := Try.f55) (c := C55 []) (args := [.pointer (some ⟨b, 0, none⟩), .int .i64 x]) 8 Try.func55 (by kernel_rfl) (by kernel_rfl) ?_
 refine ae [(0, .pointer (some ⟨b, 0, none⟩)), (1, .int .i64 x)] ?_
 refine ar (id := 0) 5 ?_
 refine sp 4 (.pointer (some ⟨b, 0, none⟩)) ?_
 refine sp 5 (.int .i64 x) ?_
 refine sp 6 (.pointer (some ⟨b, 0, none⟩)) ?_
 refine sp 7 (.pointer (some ⟨b, 0, none⟩)) ?_
 refine s_do (by kernel_rfl) (by kernel_rfl) (st_store (off := 0) (vs := [.int .i64 x]) (c' := #[.int .i64 x, .int .i64 bk, .int .i64 l, .int .i64 u, .bool d, .slice a n cap]) (fun _ => by kernel_rfl) .here (by kernel_rfl) (by kernel_rfl) (by kernel_rfl)) ?_
 rintro _ _ ⟨rfl, rfl⟩
 refine ops_end ?_
 refine At.env [] trivial ?_
 refine at_backE [] ((Asn.own b (.cells #[.int .i64 x, .int .i64 bk, .int .i64 l, .int .i64 u, .bool d, .slice a n cap] T (0, 0))) :: Γ) (rs := []) (by kernel_rfl) .nil (fun w hw => (Sat.less (.take .here .refl) hw)) ?_
 exact ⟨rfl, rfl⟩
noncomputable def C54 (p : List Nat) : Code := codeAt (bodyOf Try.f54) p
set_option maxRecDepth 100000 in
theorem SetBack_tr {W0 : World} {Γ : List Asn} (b T : Nat) (f bk l u : Int) (d : Bool) (a : Option Addr) (n cap : Nat) (x : Int) : Tr Try.prog 54 #[.pointer (some ⟨b, 0, none⟩), .int .i64 x] W0 ((Asn.own b (.cells #[.int .i64 f, .int .i64 bk, .int .i64 l, .int .i64 u, .bool d, .slice a n cap] T (0, 0))) :: Γ) (fun r Δ => r = .tuple #[] ∧ Δ = (Asn.own b (.cells #[.int .i64 f, .int .i64 x, .int .i64 l, .int .i64 u, .bool d, .slice a n cap] T (0, 0))) :: Γ) := by
 refine Tr.enter (fn := Try.f54) (c := C54 []) (args := [.pointer (some ⟨b, 0, none⟩), .int .i64 x]) 8 Try.func54 (by kernel_rfl) (by kernel_rfl) ?_
 refine ae [(0, .pointer (some ⟨b, 0, none⟩)), (1, .int .i64 x)] ?_
 refine ar (id := 0) 5 ?_
 refine sp 4 (.pointer (some ⟨b, 0, none⟩)) ?_
 refine sp 5 (.int .i64 x) ?_
 refine sp 6 (.pointer (some ⟨b, 0, none⟩)) ?_
 refine sp 7 (.pointer (some ⟨b, 1, none⟩)) ?_
 refine s_do (by kernel_rfl) (by kernel_rfl) (st_store (off := 1) (vs := [.int .i64 x]) (c' := #[.int .i64 f, .int .i64 x, .int .i64 l, .int .i64 u, .bool d, .slice a n cap]) (fun _ => by kernel_rfl) .here (by kernel_rfl) (by kernel_rfl) (by kernel_rfl)) ?_
 rintro _ _ ⟨rfl, rfl⟩
 refine ops_end ?_
 refine At.env [] trivial ?_
 refine at_backE [] ((Asn.own b (.cells #[.int .i64 f, .int .i64 x, .int .i64 l, .int .i64 u, .bool d, .slice a n cap] T (0, 0))) :: Γ) (rs := []) (by kernel_rfl) .nil (fun w hw => (Sat.less (.take .here .refl) hw)) ?_
 exact ⟨rfl, rfl⟩
def pbelowS (n : Int) (least : Int) (bound : Int) : Option (Bool) :=
 (bif decide (least ≤ n) then some (decide (n < bound)) else some false)
noncomputable def C63 (p : List Nat) : Code := codeAt (bodyOf Try.f63) p
set_option maxRecDepth 100000 in
set_option maxHeartbeats 8000000 in
theorem PBelowF_tr {W0 : World} {Γ : List Asn} (n : Int) (least : Int) (bound : Int)  (y : Bool) (H : pbelowS n least bound = some y) : Tr Try.prog 63 #[.int .i64 n, .int .i64 least, .int .i64 bound] W0 (Γ) (fun r Δ => r = .bool y ∧ Δ = Γ) := by
 unfold pbelowS at H
 refine Tr.enter (fn := Try.f63) (c := C63 []) (args := [.int .i64 n, .int .i64 least, .int .i64 bound]) 15 Try.func63 (by kernel_rfl) (by kernel_rfl) ?_
 refine ae [(0, .int .i64 n), (1, .int .i64 least), (2, .int .i64 bound)] ?_
 refine aq (x := C63 [0]) (y := C63 [1]) ?_
 refine ar (id := 0) 1 ?_
 refine sp 6 (.bool false) ?_
 refine ops_end ?_
 refine ae [(0, .int .i64 n), (1, .int .i64 least), (2, .int .i64 bound)] ?_
 refine at_then_normal ?_
 refine aq (x := C63 [1,0]) (y := C63 [1,1]) ?_
 refine ar (id := 1) 9 ?_
 refine sp 7 (.int .i64 n) ?_
 refine sp 8 (.int .i64 least) ?_
 refine sp 9 (.bool (decide (least ≤ n))) ?_
 rcases Bool.eq_false_or_eq_true (decide (least ≤ n)) with h1 | h1
 ·replace H := bifT H h1
  refine sr 10 (.bool true) (run_eq (v := .bool (decide (least ≤ n))) (fun _ => by kernel_rfl) (congrArg Value.bool h1)) ?_
  refine sp 11 (.int .i64 n) ?_
  refine sp 12 (.int .i64 bound) ?_
  refine sp 13 (.bool (decide (n < bound))) ?_
  refine sp 14 (.bool (decide (n < bound))) ?_
  refine sp 6 (.bool (decide (n < bound))) ?_
  refine ops_end ?_
  refine ae [(6, .bool (decide (n < bound)))] ?_
  refine at_then_normal ?_
  refine at_ret (by kernel_rfl) ?_
  obtain rfl := someE H
  refine at_backR [.bool (decide (n < bound))] (Γ) (rs := [.tmp 6]) (by kernel_rfl) (.cons (.tmp (by kernel_rfl)) .nil) (fun w hw => (Sat.less .refl hw)) ?_
  exact ⟨rfl, rfl⟩
 ·replace H := bifF H h1
  refine sr 10 (.bool false) (run_eq (v := .bool (decide (least ≤ n))) (fun _ => by kernel_rfl) (congrArg Value.bool h1)) ?_
  refine sa 11 ?_
  refine sa 12 ?_
  refine sa 13 ?_
  refine sp 14 (.bool false) ?_
  refine sp 6 (.bool false) ?_
  refine ops_end ?_
  refine ae [(6, .bool false)] ?_
  refine at_then_normal ?_
  refine at_ret (by kernel_rfl) ?_
  obtain rfl := someE H
  refine at_backR [.bool false] (Γ) (rs := [.tmp 6]) (by kernel_rfl) (.cons (.tmp (by kernel_rfl)) .nil) (fun w hw => (Sat.less .refl hw)) ?_
  exact ⟨rfl, rfl⟩
def pcheckS_j1 (e0_3 : Bool) (p : PktS) (e1_4 : Bool) : Option (Int) :=
 (bif !e0_3 then some (1 : Int) else (bif !e1_4 then some (1 : Int) else (pbelowS p.state (0 : Int) (3 : Int)).bind fun y3_9 => (bif !y3_9 then some (1 : Int) else (bif decide ((4 : Int) < (((List.length p.data) : Nat) : Int)) then some (1 : Int) else some (0 : Int)))))
def pcheckS_j0 (p : PktS) (e0_3 : Bool) : Option (Int) :=
 (pbelowS p.kind (1 : Int) (10 : Int)).bind fun y2_2 => (bif y2_2 then (pbelowS p.line (0 : Int) (8 : Int)).bind fun y2_6 => (bif y2_6 then (pbelowS p.ptr ((-1) : Int) (6 : Int)).bind fun y2_11 => pcheckS_j1 e0_3 p y2_11 else pcheckS_j1 e0_3 p false) else pcheckS_j1 e0_3 p false)
def pcheckS (p : PktS) : Option (Int) :=
 (pbelowS p.src (0 : Int) (6 : Int)).bind fun y1_2 => (bif y1_2 then (pbelowS p.dst (0 : Int) (6 : Int)).bind fun y1_6 => (bif y1_6 then (pbelowS p.id (0 : Int) (4096 : Int)).bind fun y1_11 => pcheckS_j0 p y1_11 else pcheckS_j0 p false) else pcheckS_j0 p false)
noncomputable def C52 (p : List Nat) : Code := codeAt (bodyOf Try.f52) p
set_option maxRecDepth 100000 in
set_option maxHeartbeats 8000000 in
theorem PCheckF_tr {W0 : World} {Γ : List Asn} (pa : Option Addr) (pcap : Nat) (p : PktS) (hrpa : Reads W0 Γ pa (ints p.data)) (y : Int) (H : pcheckS p = some y) : Tr Try.prog 52 #[.agg #[.int .i64 p.kind, .int .i64 p.src, .int .i64 p.dst, .int .i64 p.id, .int .i64 p.line, .int .i64 p.ptr, .int .i64 p.state, .bool p.flag, .slice pa (List.length p.data) pcap]] W0 (Γ) (fun r Δ => r = .int .i64 y ∧ Δ = Γ) := by
 unfold pcheckS at H
 refine Tr.enter (fn := Try.f52) (c := C52 []) (args := [.agg #[.int .i64 p.kind, .int .i64 p.src, .int .i64 p.dst, .int .i64 p.id, .int .i64 p.line, .int .i64 p.ptr, .int .i64 p.state, .bool p.flag, .slice pa (List.length p.data) pcap]]) 49 Try.func52 (by kernel_rfl) (by kernel_rfl) ?_
 refine ae [(0, .agg #[.int .i64 p.kind, .int .i64 p.src, .int .i64 p.dst, .int .i64 p.id, .int .i64 p.line, .int .i64 p.ptr, .int .i64 p.state, .bool p.flag, .slice pa (List.length p.data) pcap])] ?_
 refine aq (x := C52 [0]) (y := C52 [1]) ?_
 refine ar (id := 0) 2 ?_
 refine s_step 1 (by kernel_rfl) (by kernel_rfl) (st_new (T := 40) (cells := #[.int .i64 p.kind, .int .i64 p.src, .int .i64 p.dst, .int .i64 p.id, .int .i64 p.line, .int .i64 p.ptr, .int .i64 p.state, .bool p.flag, .slice pa (List.length p.data) pcap]) (fun a => .pointer (some a)) (fun _ => by kernel_rfl)) ?_
 rintro _ _ ⟨b0_0, rfl, rfl⟩
 refine sp 2 (.int .i64 (0)) ?_
 refine ops_end ?_
 refine ae [(1, .pointer (some ⟨b0_0, 0, none⟩))] ?_
 refine at_then_normal ?_
 refine at_seq_join (x := C52 [1,0]) (y := C52 [1,1]) (fun ff ΔΔ => ∃ (e0_3 : Bool), pcheckS_j0 p e0_3 = some y ∧ ff = [(1, .pointer (some ⟨b0_0, 0, none⟩)), (3, .bool e0_3)] ∧ (Asn.own b0_0 (.cells #[.int .i64 p.kind, .int .i64 p.src, .int .i64 p.dst, .int .i64 p.id, .int .i64 p.line, .int .i64 p.ptr, .int .i64 p.state, .bool p.flag, .slice pa (List.length p.data) pcap] 40 (0, 0))) :: Γ = ΔΔ) (by kernel_rfl) ?_ ?_
 ·rintro _ _ ⟨e0_3, H, rfl, rfl⟩
  rw [pcheckS_j0] at H
  refine at_seq_join (x := C52 [1,1,0]) (y := C52 [1,1,1]) (fun ff ΔΔ => ∃ (e1_4 : Bool), pcheckS_j1 e0_3 p e1_4 = some y ∧ ff = [(1, .pointer (some ⟨b0_0, 0, none⟩)), (3, .bool e0_3), (4, .bool e1_4)] ∧ (Asn.own b0_0 (.cells #[.int .i64 p.kind, .int .i64 p.src, .int .i64 p.dst, .int .i64 p.id, .int .i64 p.line, .int .i64 p.ptr, .int .i64 p.state, .bool p.flag, .slice pa (List.length p.data) pcap] 40 (0, 0))) :: Γ = ΔΔ) (by kernel_rfl) ?_ ?_
  ·rintro _ _ ⟨e1_4, H, rfl, rfl⟩
   rw [pcheckS_j1] at H
   refine aq (x := C52 [1,1,1,0]) (y := C52 [1,1,1,1]) ?_
   refine aq (x := C52 [1,1,1,0,0]) (y := C52 [1,1,1,0,1]) ?_
   refine ar (id := 3) 18 ?_
   refine sp 31 (.bool e0_3) ?_
   refine sp 32 (.bool !e0_3) ?_
   rcases Bool.eq_false_or_eq_true (!e0_3) with h1 | h1
   ·replace H := bifT H h1
    refine sr 33 (.bool true) (run_eq (v := .bool (!e0_3)) (fun _ => by kernel_rfl) (congrArg Value.bool h1)) ?_
    refine sa 34 ?_
    refine sa 35 ?_
    refine sp 36 (.bool true) ?_
    refine sp 37 (.bool true) ?_
    refine sa 38 ?_
    refine sa 39 ?_
    refine sa 40 ?_
    refine sa 41 ?_
    refine sp 42 (.bool true) ?_
    refine sp 43 (.bool true) ?_
    refine sa 44 ?_
    refine sa 45 ?_
    refine sa 46 ?_
    refine sa 47 ?_
    refine sp 48 (.bool true) ?_
    refine ops_end ?_
    refine ae [(48, .bool true)] ?_
    refine at_then_normal ?_
    refine at_true (t := true) (x := C52 [1,1,1,0,1,0]) (y := C52 [1,1,1,0,1,1]) (o := .tmp 48) (by kernel_rfl) (by kernel_rfl) (by kernel_rfl) rfl ?_
    refine aq (x := C52 [1,1,1,0,1,0,0]) (y := C52 [1,1,1,0,1,0,1]) ?_
    refine ar (id := 4) 1 ?_
    refine sp 2 (.int .i64 (1)) ?_
    refine ops_end ?_
    refine ae [(2, .int .i64 (1))] ?_
    refine at_then_normal ?_
    refine at_ret (by kernel_rfl) ?_
    refine at_then_ret ?_
    obtain rfl := someE H
    refine at_backR [.int .i64 (1)] (Γ) (rs := [.tmp 2]) (by kernel_rfl) (.cons (.tmp (by kernel_rfl)) .nil) (fun w hw => (Sat.less (.drop .here .refl) hw)) ?_
    exact ⟨rfl, rfl⟩
   ·replace H := bifF H h1
    refine sr 33 (.bool false) (run_eq (v := .bool (!e0_3)) (fun _ => by kernel_rfl) (congrArg Value.bool h1)) ?_
    refine sp 34 (.bool e1_4) ?_
    refine sp 35 (.bool !e1_4) ?_
    refine sp 36 (.bool !e1_4) ?_
    rcases Bool.eq_false_or_eq_true (!e1_4) with h2 | h2
    ·replace H := bifT H h2
     refine sr 37 (.bool true) (run_eq (v := .bool (!e1_4)) (fun _ => by kernel_rfl) (congrArg Value.bool h2)) ?_
     refine sa 38 ?_
     refine sa 39 ?_
     refine sa 40 ?_
     refine sa 41 ?_
     refine sp 42 (.bool true) ?_
     refine sp 43 (.bool true) ?_
     refine sa 44 ?_
     refine sa 45 ?_
     refine sa 46 ?_
     refine sa 47 ?_
     refine sp 48 (.bool true) ?_
     refine ops_end ?_
     refine ae [(48, .bool true)] ?_
     refine at_then_normal ?_
     refine at_true (t := true) (x := C52 [1,1,1,0,1,0]) (y := C52 [1,1,1,0,1,1]) (o := .tmp 48) (by kernel_rfl) (by kernel_rfl) (by kernel_rfl) rfl ?_
     refine aq (x := C52 [1,1,1,0,1,0,0]) (y := C52 [1,1,1,0,1,0,1]) ?_
     refine ar (id := 4) 1 ?_
     refine sp 2 (.int .i64 (1)) ?_
     refine ops_end ?_
     refine ae [(2, .int .i64 (1))] ?_
     refine at_then_normal ?_
     refine at_ret (by kernel_rfl) ?_
     refine at_then_ret ?_
     obtain rfl := someE H
     refine at_backR [.int .i64 (1)] (Γ) (rs := [.tmp 2]) (by kernel_rfl) (.cons (.tmp (by kernel_rfl)) .nil) (fun w hw => (Sat.less (.drop .here .refl) hw)) ?_
     exact ⟨rfl, rfl⟩
    ·replace H := bifF H h2
     refine sr 37 (.bool false) (run_eq (v := .bool (!e1_4)) (fun _ => by kernel_rfl) (congrArg Value.bool h2)) ?_
     refine sp 38 (.pointer (some ⟨b0_0, 6, none⟩)) ?_
     refine sl 39 (.int .i64 p.state) (load1 (off := 6) (fun _ => by kernel_rfl) (holds_own .here) (by kernel_rfl)) ?_
     obtain ⟨y3_9, hy3_9, H⟩ := bindE H
     refine s_quiet 40 (.bool y3_9) 63 #[.int .i64 p.state, .int .i64 (0), .int .i64 (3)] (by kernel_rfl) (by kernel_rfl) (fun _ => by kernel_rfl) (PBelowF_tr p.state (0 : Int) (3 : Int) y3_9 hy3_9) ?_
     refine sp 41 (.bool !y3_9) ?_
     refine sp 42 (.bool !y3_9) ?_
     rcases Bool.eq_false_or_eq_true (!y3_9) with h3 | h3
     ·replace H := bifT H h3
      refine sr 43 (.bool true) (run_eq (v := .bool (!y3_9)) (fun _ => by kernel_rfl) (congrArg Value.bool h3)) ?_
      refine sa 44 ?_
      refine sa 45 ?_
      refine sa 46 ?_
      refine sa 47 ?_
      refine sp 48 (.bool true) ?_
      refine ops_end ?_
      refine ae [(48, .bool true)] ?_
      refine at_then_normal ?_
      refine at_true (t := true) (x := C52 [1,1,1,0,1,0]) (y := C52 [1,1,1,0,1,1]) (o := .tmp 48) (by kernel_rfl) (by kernel_rfl) (by kernel_rfl) rfl ?_
      refine aq (x := C52 [1,1,1,0,1,0,0]) (y := C52 [1,1,1,0,1,0,1]) ?_
      refine ar (id := 4) 1 ?_
      refine sp 2 (.int .i64 (1)) ?_
      refine ops_end ?_
      refine ae [(2, .int .i64 (1))] ?_
      refine at_then_normal ?_
      refine at_ret (by kernel_rfl) ?_
      refine at_then_ret ?_
      obtain rfl := someE H
      refine at_backR [.int .i64 (1)] (Γ) (rs := [.tmp 2]) (by kernel_rfl) (.cons (.tmp (by kernel_rfl)) .nil) (fun w hw => (Sat.less (.drop .here .refl) hw)) ?_
      exact ⟨rfl, rfl⟩
     ·replace H := bifF H h3
      refine sr 43 (.bool false) (run_eq (v := .bool (!y3_9)) (fun _ => by kernel_rfl) (congrArg Value.bool h3)) ?_
      refine sp 44 (.pointer (some ⟨b0_0, 8, none⟩)) ?_
      refine sl 45 (.slice pa (List.length p.data) pcap) (load1 (off := 8) (fun _ => by kernel_rfl) (holds_own .here) (by kernel_rfl)) ?_
      refine sp 46 (.int .i64 (((List.length p.data) : Nat) : Int)) ?_
      refine sp 47 (.bool (decide ((4 : Int) < (((List.length p.data) : Nat) : Int)))) ?_
      refine sp 48 (.bool (decide ((4 : Int) < (((List.length p.data) : Nat) : Int)))) ?_
      refine ops_end ?_
      refine ae [(48, .bool (decide ((4 : Int) < (((List.length p.data) : Nat) : Int))))] ?_
      refine at_then_normal ?_
      rcases Bool.eq_false_or_eq_true (decide ((4 : Int) < (((List.length p.data) : Nat) : Int))) with h4 | h4
      ·replace H := bifT H h4
       refine at_true (t := decide ((4 : Int) < (((List.length p.data) : Nat) : Int))) (x := C52 [1,1,1,0,1,0]) (y := C52 [1,1,1,0,1,1]) (o := .tmp 48) (by kernel_rfl) (by kernel_rfl) (by kernel_rfl) h4 ?_
       refine aq (x := C52 [1,1,1,0,1,0,0]) (y := C52 [1,1,1,0,1,0,1]) ?_
       refine ar (id := 4) 1 ?_
       refine sp 2 (.int .i64 (1)) ?_
       refine ops_end ?_
       refine ae [(2, .int .i64 (1))] ?_
       refine at_then_normal ?_
       refine at_ret (by kernel_rfl) ?_
       refine at_then_ret ?_
       obtain rfl := someE H
       refine at_backR [.int .i64 (1)] (Γ) (rs := [.tmp 2]) (by kernel_rfl) (.cons (.tmp (by kernel_rfl)) .nil) (fun w hw => (Sat.less (.drop .here .refl) hw)) ?_
       exact ⟨rfl, rfl⟩
      ·replace H := bifF H h4
       refine at_false (t := decide ((4 : Int) < (((List.length p.data) : Nat) : Int))) (x := C52 [1,1,1,0,1,0]) (y := C52 [1,1,1,0,1,1]) (o := .tmp 48) (by kernel_rfl) (by kernel_rfl) (by kernel_rfl) h4 ?_
       refine at_skip (by kernel_rfl) ?_
       refine at_then_normal ?_
       refine aq (x := C52 [1,1,1,1,0]) (y := C52 [1,1,1,1,1]) ?_
       refine ar (id := 5) 1 ?_
       refine sp 2 (.int .i64 (0)) ?_
       refine ops_end ?_
       refine ae [(2, .int .i64 (0))] ?_
       refine at_then_normal ?_
       refine at_ret (by kernel_rfl) ?_
       obtain rfl := someE H
       refine at_backR [.int .i64 (0)] (Γ) (rs := [.tmp 2]) (by kernel_rfl) (.cons (.tmp (by kernel_rfl)) .nil) (fun w hw => (Sat.less (.drop .here .refl) hw)) ?_
       exact ⟨rfl, rfl⟩
  ·refine ar (id := 2) 14 ?_
   refine sp 18 (.pointer (some ⟨b0_0, 0, none⟩)) ?_
   refine sl 19 (.int .i64 p.kind) (load1 (off := 0) (fun _ => by kernel_rfl) (holds_own .here) (by kernel_rfl)) ?_
   obtain ⟨y2_2, hy2_2, H⟩ := bindE H
   refine s_quiet 20 (.bool y2_2) 63 #[.int .i64 p.kind, .int .i64 (1), .int .i64 (10)] (by kernel_rfl) (by kernel_rfl) (fun _ => by kernel_rfl) (PBelowF_tr p.kind (1 : Int) (10 : Int) y2_2 hy2_2) ?_
   rcases Bool.eq_false_or_eq_true (y2_2) with h5 | h5
   ·replace H := bifT H h5
    refine sr 21 (.bool true) (run_eq (v := .bool (y2_2)) (fun _ => by kernel_rfl) (congrArg Value.bool h5)) ?_
    refine sp 22 (.pointer (some ⟨b0_0, 4, none⟩)) ?_
    refine sl 23 (.int .i64 p.line) (load1 (off := 4) (fun _ => by kernel_rfl) (holds_own .here) (by kernel_rfl)) ?_
    obtain ⟨y2_6, hy2_6, H⟩ := bindE H
    refine s_quiet 24 (.bool y2_6) 63 #[.int .i64 p.line, .int .i64 (0), .int .i64 (8)] (by kernel_rfl) (by kernel_rfl) (fun _ => by kernel_rfl) (PBelowF_tr p.line (0 : Int) (8 : Int) y2_6 hy2_6) ?_
    refine sp 25 (.bool y2_6) ?_
    rcases Bool.eq_false_or_eq_true (y2_6) with h6 | h6
    ·replace H := bifT H h6
     refine sr 26 (.bool true) (run_eq (v := .bool (y2_6)) (fun _ => by kernel_rfl) (congrArg Value.bool h6)) ?_
     refine sp 27 (.pointer (some ⟨b0_0, 5, none⟩)) ?_
     refine sl 28 (.int .i64 p.ptr) (load1 (off := 5) (fun _ => by kernel_rfl) (holds_own .here) (by kernel_rfl)) ?_
     obtain ⟨y2_11, hy2_11, H⟩ := bindE H
     refine s_quiet 29 (.bool y2_11) 63 #[.int .i64 p.ptr, .int .i64 (-1), .int .i64 (6)] (by kernel_rfl) (by kernel_rfl) (fun _ => by kernel_rfl) (PBelowF_tr p.ptr ((-1) : Int) (6 : Int) y2_11 hy2_11) ?_
     refine sp 30 (.bool y2_11) ?_
     refine sp 4 (.bool y2_11) ?_
     refine ops_end ?_
     refine ae [(1, .pointer (some ⟨b0_0, 0, none⟩)), (3, .bool e0_3), (4, .bool y2_11)] ?_
     refine at_round_normal ?_
     exact at_join_mk [(1, .pointer (some ⟨b0_0, 0, none⟩)), (3, .bool e0_3), (4, .bool y2_11)] ((Asn.own b0_0 (.cells #[.int .i64 p.kind, .int .i64 p.src, .int .i64 p.dst, .int .i64 p.id, .int .i64 p.line, .int .i64 p.ptr, .int .i64 p.state, .bool p.flag, .slice pa (List.length p.data) pcap] 40 (0, 0))) :: Γ) ⟨by kernel_rfl, by kernel_rfl, by kernel_rfl, trivial⟩ (fun w hw => (Sat.less (.take .here .refl) hw)) ⟨y2_11, H, rfl, rfl⟩
    ·replace H := bifF H h6
     refine sr 26 (.bool false) (run_eq (v := .bool (y2_6)) (fun _ => by kernel_rfl) (congrArg Value.bool h6)) ?_
     refine sa 27 ?_
     refine sa 28 ?_
     refine sa 29 ?_
     refine sp 30 (.bool false) ?_
     refine sp 4 (.bool false) ?_
     refine ops_end ?_
     refine ae [(1, .pointer (some ⟨b0_0, 0, none⟩)), (3, .bool e0_3), (4, .bool false)] ?_
     refine at_round_normal ?_
     exact at_join_mk [(1, .pointer (some ⟨b0_0, 0, none⟩)), (3, .bool e0_3), (4, .bool false)] ((Asn.own b0_0 (.cells #[.int .i64 p.kind, .int .i64 p.src, .int .i64 p.dst, .int .i64 p.id, .int .i64 p.line, .int .i64 p.ptr, .int .i64 p.state, .bool p.flag, .slice pa (List.length p.data) pcap] 40 (0, 0))) :: Γ) ⟨by kernel_rfl, by kernel_rfl, by kernel_rfl, trivial⟩ (fun w hw => (Sat.less (.take .here .refl) hw)) ⟨false, H, rfl, rfl⟩
   ·replace H := bifF H h5
    refine sr 21 (.bool false) (run_eq (v := .bool (y2_2)) (fun _ => by kernel_rfl) (congrArg Value.bool h5)) ?_
    refine sa 22 ?_
    refine sa 23 ?_
    refine sa 24 ?_
    refine sp 25 (.bool false) ?_
    refine sp 26 (.bool false) ?_
    refine sa 27 ?_
    refine sa 28 ?_
    refine sa 29 ?_
    refine sp 30 (.bool false) ?_
    refine sp 4 (.bool false) ?_
    refine ops_end ?_
    refine ae [(1, .pointer (some ⟨b0_0, 0, none⟩)), (3, .bool e0_3), (4, .bool false)] ?_
    refine at_round_normal ?_
    exact at_join_mk [(1, .pointer (some ⟨b0_0, 0, none⟩)), (3, .bool e0_3), (4, .bool false)] ((Asn.own b0_0 (.cells #[.int .i64 p.kind, .int .i64 p.src, .int .i64 p.dst, .int .i64 p.id, .int .i64 p.line, .int .i64 p.ptr, .int .i64 p.state, .bool p.flag, .slice pa (List.length p.data) pcap] 40 (0, 0))) :: Γ) ⟨by kernel_rfl, by kernel_rfl, by kernel_rfl, trivial⟩ (fun w hw => (Sat.less (.take .here .refl) hw)) ⟨false, H, rfl, rfl⟩
 ·refine ar (id := 1) 14 ?_
  refine sp 5 (.pointer (some ⟨b0_0, 1, none⟩)) ?_
  refine sl 6 (.int .i64 p.src) (load1 (off := 1) (fun _ => by kernel_rfl) (holds_own .here) (by kernel_rfl)) ?_
  obtain ⟨y1_2, hy1_2, H⟩ := bindE H
  refine s_quiet 7 (.bool y1_2) 63 #[.int .i64 p.src, .int .i64 (0), .int .i64 (6)] (by kernel_rfl) (by kernel_rfl) (fun _ => by kernel_rfl) (PBelowF_tr p.src (0 : Int) (6 : Int) y1_2 hy1_2) ?_
  rcases Bool.eq_false_or_eq_true (y1_2) with h7 | h7
  ·replace H := bifT H h7
   refine sr 8 (.bool true) (run_eq (v := .bool (y1_2)) (fun _ => by kernel_rfl) (congrArg Value.bool h7)) ?_
   refine sp 9 (.pointer (some ⟨b0_0, 2, none⟩)) ?_
   refine sl 10 (.int .i64 p.dst) (load1 (off := 2) (fun _ => by kernel_rfl) (holds_own .here) (by kernel_rfl)) ?_
   obtain ⟨y1_6, hy1_6, H⟩ := bindE H
   refine s_quiet 11 (.bool y1_6) 63 #[.int .i64 p.dst, .int .i64 (0), .int .i64 (6)] (by kernel_rfl) (by kernel_rfl) (fun _ => by kernel_rfl) (PBelowF_tr p.dst (0 : Int) (6 : Int) y1_6 hy1_6) ?_
   refine sp 12 (.bool y1_6) ?_
   rcases Bool.eq_false_or_eq_true (y1_6) with h8 | h8
   ·replace H := bifT H h8
    refine sr 13 (.bool true) (run_eq (v := .bool (y1_6)) (fun _ => by kernel_rfl) (congrArg Value.bool h8)) ?_
    refine sp 14 (.pointer (some ⟨b0_0, 3, none⟩)) ?_
    refine sl 15 (.int .i64 p.id) (load1 (off := 3) (fun _ => by kernel_rfl) (holds_own .here) (by kernel_rfl)) ?_
    obtain ⟨y1_11, hy1_11, H⟩ := bindE H
    refine s_quiet 16 (.bool y1_11) 63 #[.int .i64 p.id, .int .i64 (0), .int .i64 (4096)] (by kernel_rfl) (by kernel_rfl) (fun _ => by kernel_rfl) (PBelowF_tr p.id (0 : Int) (4096 : Int) y1_11 hy1_11) ?_
    refine sp 17 (.bool y1_11) ?_
    refine sp 3 (.bool y1_11) ?_
    refine ops_end ?_
    refine ae [(1, .pointer (some ⟨b0_0, 0, none⟩)), (3, .bool y1_11)] ?_
    refine at_round_normal ?_
    exact at_join_mk [(1, .pointer (some ⟨b0_0, 0, none⟩)), (3, .bool y1_11)] ((Asn.own b0_0 (.cells #[.int .i64 p.kind, .int .i64 p.src, .int .i64 p.dst, .int .i64 p.id, .int .i64 p.line, .int .i64 p.ptr, .int .i64 p.state, .bool p.flag, .slice pa (List.length p.data) pcap] 40 (0, 0))) :: Γ) ⟨by kernel_rfl, by kernel_rfl, trivial⟩ (fun w hw => (Sat.less (.take .here .refl) hw)) ⟨y1_11, H, rfl, rfl⟩
   ·replace H := bifF H h8
    refine sr 13 (.bool false) (run_eq (v := .bool (y1_6)) (fun _ => by kernel_rfl) (congrArg Value.bool h8)) ?_
    refine sa 14 ?_
    refine sa 15 ?_
    refine sa 16 ?_
    refine sp 17 (.bool false) ?_
    refine sp 3 (.bool false) ?_
    refine ops_end ?_
    refine ae [(1, .pointer (some ⟨b0_0, 0, none⟩)), (3, .bool false)] ?_
    refine at_round_normal ?_
    exact at_join_mk [(1, .pointer (some ⟨b0_0, 0, none⟩)), (3, .bool false)] ((Asn.own b0_0 (.cells #[.int .i64 p.kind, .int .i64 p.src, .int .i64 p.dst, .int .i64 p.id, .int .i64 p.line, .int .i64 p.ptr, .int .i64 p.state, .bool p.flag, .slice pa (List.length p.data) pcap] 40 (0, 0))) :: Γ) ⟨by kernel_rfl, by kernel_rfl, trivial⟩ (fun w hw => (Sat.less (.take .here .refl) hw)) ⟨false, H, rfl, rfl⟩
  ·replace H := bifF H h7
   refine sr 8 (.bool false) (run_eq (v := .bool (y1_2)) (fun _ => by kernel_rfl) (congrArg Value.bool h7)) ?_
   refine sa 9 ?_
   refine sa 10 ?_
   refine sa 11 ?_
   refine sp 12 (.bool false) ?_
   refine sp 13 (.bool false) ?_
   refine sa 14 ?_
   refine sa 15 ?_
   refine sa 16 ?_
   refine sp 17 (.bool false) ?_
   refine sp 3 (.bool false) ?_
   refine ops_end ?_
   refine ae [(1, .pointer (some ⟨b0_0, 0, none⟩)), (3, .bool false)] ?_
   refine at_round_normal ?_
   exact at_join_mk [(1, .pointer (some ⟨b0_0, 0, none⟩)), (3, .bool false)] ((Asn.own b0_0 (.cells #[.int .i64 p.kind, .int .i64 p.src, .int .i64 p.dst, .int .i64 p.id, .int .i64 p.line, .int .i64 p.ptr, .int .i64 p.state, .bool p.flag, .slice pa (List.length p.data) pcap] 40 (0, 0))) :: Γ) ⟨by kernel_rfl, by kernel_rfl, trivial⟩ (fun w hw => (Sat.less (.take .here .refl) hw)) ⟨false, H, rfl, rfl⟩
def pansS (k : Int) : Option (Int) :=
 (bif decide (k = (1 : Int)) then some (7 : Int) else (bif decide (k = (2 : Int)) then (bif decide (k = (2 : Int)) then some (8 : Int) else (bif decide (k = (3 : Int)) then (bif decide (k = (3 : Int)) then some (9 : Int) else some (0 : Int)) else (bif decide (k = (6 : Int)) then some (9 : Int) else some (0 : Int)))) else (bif decide (k = (4 : Int)) then (bif decide (k = (4 : Int)) then some (8 : Int) else (bif decide (k = (3 : Int)) then (bif decide (k = (3 : Int)) then some (9 : Int) else some (0 : Int)) else (bif decide (k = (6 : Int)) then some (9 : Int) else some (0 : Int)))) else (bif decide (k = (5 : Int)) then some (8 : Int) else (bif decide (k = (3 : Int)) then (bif decide (k = (3 : Int)) then some (9 : Int) else some (0 : Int)) else (bif decide (k = (6 : Int)) then some (9 : Int) else some (0 : Int)))))))
noncomputable def C53 (p : List Nat) : Code := codeAt (bodyOf Try.f53) p
set_option maxRecDepth 100000 in
set_option maxHeartbeats 8000000 in
theorem PAnsF_tr {W0 : World} {Γ : List Asn} (k : Int)  (y : Int) (H : pansS k = some y) : Tr Try.prog 53 #[.int .i64 k] W0 (Γ) (fun r Δ => r = .int .i64 y ∧ Δ = Γ) := by
 unfold pansS at H
 refine Tr.enter (fn := Try.f53) (c := C53 []) (args := [.int .i64 k]) 13 Try.func53 (by kernel_rfl) (by kernel_rfl) ?_
 refine ae [(0, .int .i64 k)] ?_
 refine aq (x := C53 [0]) (y := C53 [1]) ?_
 refine ar (id := 0) 1 ?_
 refine sp 2 (.int .i64 (0)) ?_
 refine ops_end ?_
 refine ae [(0, .int .i64 k)] ?_
 refine at_then_normal ?_
 refine aq (x := C53 [1,0]) (y := C53 [1,1]) ?_
 refine aq (x := C53 [1,0,0]) (y := C53 [1,0,1]) ?_
 refine ar (id := 1) 1 ?_
 refine sp 3 (.int .i64 k) ?_
 refine ops_end ?_
 refine ae [(3, .int .i64 k)] ?_
 refine at_then_normal ?_
 refine at_block (i := 0) (x := C53 [1,0,1,0]) (by kernel_rfl) ?_
 refine aq (x := C53 [1,0,1,0,0]) (y := C53 [1,0,1,0,1]) ?_
 refine ar (id := 2) 2 ?_
 refine sp 5 (.bool (decide (k = (1 : Int)))) ?_
 refine sp 4 (.bool (decide (k = (1 : Int)))) ?_
 refine ops_end ?_
 refine ae [(3, .int .i64 k), (4, .bool (decide (k = (1 : Int))))] ?_
 refine at_then_normal ?_
 rcases Bool.eq_false_or_eq_true (decide (k = (1 : Int))) with h1 | h1
 ·replace H := bifT H h1
  refine at_true (t := decide (k = (1 : Int))) (x := C53 [1,0,1,0,1,0]) (y := C53 [1,0,1,0,1,1]) (o := .tmp 4) (by kernel_rfl) (by kernel_rfl) (by kernel_rfl) h1 ?_
  refine aq (x := C53 [1,0,1,0,1,0,0]) (y := C53 [1,0,1,0,1,0,1]) ?_
  refine ar (id := 3) 1 ?_
  refine sp 2 (.int .i64 (7)) ?_
  refine ops_end ?_
  refine ae [(2, .int .i64 (7))] ?_
  refine at_then_normal ?_
  refine at_ret (by kernel_rfl) ?_
  refine at_in_ret ?_
  refine at_then_ret ?_
  obtain rfl := someE H
  refine at_backR [.int .i64 (7)] (Γ) (rs := [.tmp 2]) (by kernel_rfl) (.cons (.tmp (by kernel_rfl)) .nil) (fun w hw => (Sat.less .refl hw)) ?_
  exact ⟨rfl, rfl⟩
 ·replace H := bifF H h1
  refine at_false (t := decide (k = (1 : Int))) (x := C53 [1,0,1,0,1,0]) (y := C53 [1,0,1,0,1,1]) (o := .tmp 4) (by kernel_rfl) (by kernel_rfl) (by kernel_rfl) h1 ?_
  refine aq (x := C53 [1,0,1,0,1,1,0]) (y := C53 [1,0,1,0,1,1,1]) ?_
  refine aq (x := C53 [1,0,1,0,1,1,0,0]) (y := C53 [1,0,1,0,1,1,0,1]) ?_
  refine ar (id := 4) 2 ?_
  refine sp 7 (.bool (decide (k = (2 : Int)))) ?_
  refine sp 6 (.bool (decide (k = (2 : Int)))) ?_
  refine ops_end ?_
  refine ae [(3, .int .i64 k), (6, .bool (decide (k = (2 : Int))))] ?_
  refine at_then_normal ?_
  rcases Bool.eq_false_or_eq_true (decide (k = (2 : Int))) with h2 | h2
  ·replace H := bifT H h2
   refine at_true (t := decide (k = (2 : Int))) (x := C53 [1,0,1,0,1,1,0,1,0]) (y := C53 [1,0,1,0,1,1,0,1,1]) (o := .tmp 6) (by kernel_rfl) (by kernel_rfl) (by kernel_rfl) h2 ?_
   refine at_skip (by kernel_rfl) ?_
   refine at_then_normal ?_
   rcases Bool.eq_false_or_eq_true (decide (k = (2 : Int))) with h3 | h3
   ·replace H := bifT H h3
    refine at_true (t := decide (k = (2 : Int))) (x := C53 [1,0,1,0,1,1,1,0]) (y := C53 [1,0,1,0,1,1,1,1]) (o := .tmp 6) (by kernel_rfl) (by kernel_rfl) (by kernel_rfl) h3 ?_
    refine aq (x := C53 [1,0,1,0,1,1,1,0,0]) (y := C53 [1,0,1,0,1,1,1,0,1]) ?_
    refine ar (id := 7) 1 ?_
    refine sp 2 (.int .i64 (8)) ?_
    refine ops_end ?_
    refine ae [(2, .int .i64 (8))] ?_
    refine at_then_normal ?_
    refine at_ret (by kernel_rfl) ?_
    refine at_in_ret ?_
    refine at_then_ret ?_
    obtain rfl := someE H
    refine at_backR [.int .i64 (8)] (Γ) (rs := [.tmp 2]) (by kernel_rfl) (.cons (.tmp (by kernel_rfl)) .nil) (fun w hw => (Sat.less .refl hw)) ?_
    exact ⟨rfl, rfl⟩
   ·replace H := bifF H h3
    refine at_false (t := decide (k = (2 : Int))) (x := C53 [1,0,1,0,1,1,1,0]) (y := C53 [1,0,1,0,1,1,1,1]) (o := .tmp 6) (by kernel_rfl) (by kernel_rfl) (by kernel_rfl) h3 ?_
    refine aq (x := C53 [1,0,1,0,1,1,1,1,0]) (y := C53 [1,0,1,0,1,1,1,1,1]) ?_
    refine aq (x := C53 [1,0,1,0,1,1,1,1,0,0]) (y := C53 [1,0,1,0,1,1,1,1,0,1]) ?_
    refine ar (id := 8) 2 ?_
    refine sp 11 (.bool (decide (k = (3 : Int)))) ?_
    refine sp 10 (.bool (decide (k = (3 : Int)))) ?_
    refine ops_end ?_
    refine ae [(3, .int .i64 k), (10, .bool (decide (k = (3 : Int))))] ?_
    refine at_then_normal ?_
    rcases Bool.eq_false_or_eq_true (decide (k = (3 : Int))) with h4 | h4
    ·replace H := bifT H h4
     refine at_true (t := decide (k = (3 : Int))) (x := C53 [1,0,1,0,1,1,1,1,0,1,0]) (y := C53 [1,0,1,0,1,1,1,1,0,1,1]) (o := .tmp 10) (by kernel_rfl) (by kernel_rfl) (by kernel_rfl) h4 ?_
     refine at_skip (by kernel_rfl) ?_
     refine at_then_normal ?_
     rcases Bool.eq_false_or_eq_true (decide (k = (3 : Int))) with h5 | h5
     ·replace H := bifT H h5
      refine at_true (t := decide (k = (3 : Int))) (x := C53 [1,0,1,0,1,1,1,1,1,0]) (y := C53 [1,0,1,0,1,1,1,1,1,1]) (o := .tmp 10) (by kernel_rfl) (by kernel_rfl) (by kernel_rfl) h5 ?_
      refine aq (x := C53 [1,0,1,0,1,1,1,1,1,0,0]) (y := C53 [1,0,1,0,1,1,1,1,1,0,1]) ?_
      refine ar (id := 10) 1 ?_
      refine sp 2 (.int .i64 (9)) ?_
      refine ops_end ?_
      refine ae [(2, .int .i64 (9))] ?_
      refine at_then_normal ?_
      refine at_ret (by kernel_rfl) ?_
      refine at_in_ret ?_
      refine at_then_ret ?_
      obtain rfl := someE H
      refine at_backR [.int .i64 (9)] (Γ) (rs := [.tmp 2]) (by kernel_rfl) (.cons (.tmp (by kernel_rfl)) .nil) (fun w hw => (Sat.less .refl hw)) ?_
      exact ⟨rfl, rfl⟩
     ·replace H := bifF H h5
      refine at_false (t := decide (k = (3 : Int))) (x := C53 [1,0,1,0,1,1,1,1,1,0]) (y := C53 [1,0,1,0,1,1,1,1,1,1]) (o := .tmp 10) (by kernel_rfl) (by kernel_rfl) (by kernel_rfl) h5 ?_
      refine at_skip (by kernel_rfl) ?_
      refine at_in_normal ?_
      refine at_then_normal ?_
      refine aq (x := C53 [1,1,0]) (y := C53 [1,1,1]) ?_
      refine ar (id := 11) 1 ?_
      refine sp 2 (.int .i64 (0)) ?_
      refine ops_end ?_
      refine ae [(2, .int .i64 (0))] ?_
      refine at_then_normal ?_
      refine at_ret (by kernel_rfl) ?_
      obtain rfl := someE H
      refine at_backR [.int .i64 (0)] (Γ) (rs := [.tmp 2]) (by kernel_rfl) (.cons (.tmp (by kernel_rfl)) .nil) (fun w hw => (Sat.less .refl hw)) ?_
      exact ⟨rfl, rfl⟩
    ·replace H := bifF H h4
     refine at_false (t := decide (k = (3 : Int))) (x := C53 [1,0,1,0,1,1,1,1,0,1,0]) (y := C53 [1,0,1,0,1,1,1,1,0,1,1]) (o := .tmp 10) (by kernel_rfl) (by kernel_rfl) (by kernel_rfl) h4 ?_
     refine ar (id := 9) 2 ?_
     refine sp 12 (.bool (decide (k = (6 : Int)))) ?_
     refine sp 10 (.bool (decide (k = (6 : Int)))) ?_
     refine ops_end ?_
     refine ae [(10, .bool (decide (k = (6 : Int))))] ?_
     refine at_then_normal ?_
     rcases Bool.eq_false_or_eq_true (decide (k = (6 : Int))) with h6 | h6
     ·replace H := bifT H h6
      refine at_true (t := decide (k = (6 : Int))) (x := C53 [1,0,1,0,1,1,1,1,1,0]) (y := C53 [1,0,1,0,1,1,1,1,1,1]) (o := .tmp 10) (by kernel_rfl) (by kernel_rfl) (by kernel_rfl) h6 ?_
      refine aq (x := C53 [1,0,1,0,1,1,1,1,1,0,0]) (y := C53 [1,0,1,0,1,1,1,1,1,0,1]) ?_
      refine ar (id := 10) 1 ?_
      refine sp 2 (.int .i64 (9)) ?_
      refine ops_end ?_
      refine ae [(2, .int .i64 (9))] ?_
      refine at_then_normal ?_
      refine at_ret (by kernel_rfl) ?_
      refine at_in_ret ?_
      refine at_then_ret ?_
      obtain rfl := someE H
      refine at_backR [.int .i64 (9)] (Γ) (rs := [.tmp 2]) (by kernel_rfl) (.cons (.tmp (by kernel_rfl)) .nil) (fun w hw => (Sat.less .refl hw)) ?_
      exact ⟨rfl, rfl⟩
     ·replace H := bifF H h6
      refine at_false (t := decide (k = (6 : Int))) (x := C53 [1,0,1,0,1,1,1,1,1,0]) (y := C53 [1,0,1,0,1,1,1,1,1,1]) (o := .tmp 10) (by kernel_rfl) (by kernel_rfl) (by kernel_rfl) h6 ?_
      refine at_skip (by kernel_rfl) ?_
      refine at_in_normal ?_
      refine at_then_normal ?_
      refine aq (x := C53 [1,1,0]) (y := C53 [1,1,1]) ?_
      refine ar (id := 11) 1 ?_
      refine sp 2 (.int .i64 (0)) ?_
      refine ops_end ?_
      refine ae [(2, .int .i64 (0))] ?_
      refine at_then_normal ?_
      refine at_ret (by kernel_rfl) ?_
      obtain rfl := someE H
      refine at_backR [.int .i64 (0)] (Γ) (rs := [.tmp 2]) (by kernel_rfl) (.cons (.tmp (by kernel_rfl)) .nil) (fun w hw => (Sat.less .refl hw)) ?_
      exact ⟨rfl, rfl⟩
  ·replace H := bifF H h2
   refine at_false (t := decide (k = (2 : Int))) (x := C53 [1,0,1,0,1,1,0,1,0]) (y := C53 [1,0,1,0,1,1,0,1,1]) (o := .tmp 6) (by kernel_rfl) (by kernel_rfl) (by kernel_rfl) h2 ?_
   refine aq (x := C53 [1,0,1,0,1,1,0,1,1,0]) (y := C53 [1,0,1,0,1,1,0,1,1,1]) ?_
   refine ar (id := 5) 2 ?_
   refine sp 8 (.bool (decide (k = (4 : Int)))) ?_
   refine sp 6 (.bool (decide (k = (4 : Int)))) ?_
   refine ops_end ?_
   refine ae [(3, .int .i64 k), (6, .bool (decide (k = (4 : Int))))] ?_
   refine at_then_normal ?_
   rcases Bool.eq_false_or_eq_true (decide (k = (4 : Int))) with h7 | h7
   ·replace H := bifT H h7
    refine at_true (t := decide (k = (4 : Int))) (x := C53 [1,0,1,0,1,1,0,1,1,1,0]) (y := C53 [1,0,1,0,1,1,0,1,1,1,1]) (o := .tmp 6) (by kernel_rfl) (by kernel_rfl) (by kernel_rfl) h7 ?_
    refine at_skip (by kernel_rfl) ?_
    refine at_then_normal ?_
    rcases Bool.eq_false_or_eq_true (decide (k = (4 : Int))) with h8 | h8
    ·replace H := bifT H h8
     refine at_true (t := decide (k = (4 : Int))) (x := C53 [1,0,1,0,1,1,1,0]) (y := C53 [1,0,1,0,1,1,1,1]) (o := .tmp 6) (by kernel_rfl) (by kernel_rfl) (by kernel_rfl) h8 ?_
     refine aq (x := C53 [1,0,1,0,1,1,1,0,0]) (y := C53 [1,0,1,0,1,1,1,0,1]) ?_
     refine ar (id := 7) 1 ?_
     refine sp 2 (.int .i64 (8)) ?_
     refine ops_end ?_
     refine ae [(2, .int .i64 (8))] ?_
     refine at_then_normal ?_
     refine at_ret (by kernel_rfl) ?_
     refine at_in_ret ?_
     refine at_then_ret ?_
     obtain rfl := someE H
     refine at_backR [.int .i64 (8)] (Γ) (rs := [.tmp 2]) (by kernel_rfl) (.cons (.tmp (by kernel_rfl)) .nil) (fun w hw => (Sat.less .refl hw)) ?_
     exact ⟨rfl, rfl⟩
    ·replace H := bifF H h8
     refine at_false (t := decide (k = (4 : Int))) (x := C53 [1,0,1,0,1,1,1,0]) (y := C53 [1,0,1,0,1,1,1,1]) (o := .tmp 6) (by kernel_rfl) (by kernel_rfl) (by kernel_rfl) h8 ?_
     refine aq (x := C53 [1,0,1,0,1,1,1,1,0]) (y := C53 [1,0,1,0,1,1,1,1,1]) ?_
     refine aq (x := C53 [1,0,1,0,1,1,1,1,0,0]) (y := C53 [1,0,1,0,1,1,1,1,0,1]) ?_
     refine ar (id := 8) 2 ?_
     refine sp 11 (.bool (decide (k = (3 : Int)))) ?_
     refine sp 10 (.bool (decide (k = (3 : Int)))) ?_
     refine ops_end ?_
     refine ae [(3, .int .i64 k), (10, .bool (decide (k = (3 : Int))))] ?_
     refine at_then_normal ?_
     rcases Bool.eq_false_or_eq_true (decide (k = (3 : Int))) with h9 | h9
     ·replace H := bifT H h9
      refine at_true (t := decide (k = (3 : Int))) (x := C53 [1,0,1,0,1,1,1,1,0,1,0]) (y := C53 [1,0,1,0,1,1,1,1,0,1,1]) (o := .tmp 10) (by kernel_rfl) (by kernel_rfl) (by kernel_rfl) h9 ?_
      refine at_skip (by kernel_rfl) ?_
      refine at_then_normal ?_
      rcases Bool.eq_false_or_eq_true (decide (k = (3 : Int))) with h10 | h10
      ·replace H := bifT H h10
       refine at_true (t := decide (k = (3 : Int))) (x := C53 [1,0,1,0,1,1,1,1,1,0]) (y := C53 [1,0,1,0,1,1,1,1,1,1]) (o := .tmp 10) (by kernel_rfl) (by kernel_rfl) (by kernel_rfl) h10 ?_
       refine aq (x := C53 [1,0,1,0,1,1,1,1,1,0,0]) (y := C53 [1,0,1,0,1,1,1,1,1,0,1]) ?_
       refine ar (id := 10) 1 ?_
       refine sp 2 (.int .i64 (9)) ?_
       refine ops_end ?_
       refine ae [(2, .int .i64 (9))] ?_
       refine at_then_normal ?_
       refine at_ret (by kernel_rfl) ?_
       refine at_in_ret ?_
       refine at_then_ret ?_
       obtain rfl := someE H
       refine at_backR [.int .i64 (9)] (Γ) (rs := [.tmp 2]) (by kernel_rfl) (.cons (.tmp (by kernel_rfl)) .nil) (fun w hw => (Sat.less .refl hw)) ?_
       exact ⟨rfl, rfl⟩
      ·replace H := bifF H h10
       refine at_false (t := decide (k = (3 : Int))) (x := C53 [1,0,1,0,1,1,1,1,1,0]) (y := C53 [1,0,1,0,1,1,1,1,1,1]) (o := .tmp 10) (by kernel_rfl) (by kernel_rfl) (by kernel_rfl) h10 ?_
       refine at_skip (by kernel_rfl) ?_
       refine at_in_normal ?_
       refine at_then_normal ?_
       refine aq (x := C53 [1,1,0]) (y := C53 [1,1,1]) ?_
       refine ar (id := 11) 1 ?_
       refine sp 2 (.int .i64 (0)) ?_
       refine ops_end ?_
       refine ae [(2, .int .i64 (0))] ?_
       refine at_then_normal ?_
       refine at_ret (by kernel_rfl) ?_
       obtain rfl := someE H
       refine at_backR [.int .i64 (0)] (Γ) (rs := [.tmp 2]) (by kernel_rfl) (.cons (.tmp (by kernel_rfl)) .nil) (fun w hw => (Sat.less .refl hw)) ?_
       exact ⟨rfl, rfl⟩
     ·replace H := bifF H h9
      refine at_false (t := decide (k = (3 : Int))) (x := C53 [1,0,1,0,1,1,1,1,0,1,0]) (y := C53 [1,0,1,0,1,1,1,1,0,1,1]) (o := .tmp 10) (by kernel_rfl) (by kernel_rfl) (by kernel_rfl) h9 ?_
      refine ar (id := 9) 2 ?_
      refine sp 12 (.bool (decide (k = (6 : Int)))) ?_
      refine sp 10 (.bool (decide (k = (6 : Int)))) ?_
      refine ops_end ?_
      refine ae [(10, .bool (decide (k = (6 : Int))))] ?_
      refine at_then_normal ?_
      rcases Bool.eq_false_or_eq_true (decide (k = (6 : Int))) with h11 | h11
      ·replace H := bifT H h11
       refine at_true (t := decide (k = (6 : Int))) (x := C53 [1,0,1,0,1,1,1,1,1,0]) (y := C53 [1,0,1,0,1,1,1,1,1,1]) (o := .tmp 10) (by kernel_rfl) (by kernel_rfl) (by kernel_rfl) h11 ?_
       refine aq (x := C53 [1,0,1,0,1,1,1,1,1,0,0]) (y := C53 [1,0,1,0,1,1,1,1,1,0,1]) ?_
       refine ar (id := 10) 1 ?_
       refine sp 2 (.int .i64 (9)) ?_
       refine ops_end ?_
       refine ae [(2, .int .i64 (9))] ?_
       refine at_then_normal ?_
       refine at_ret (by kernel_rfl) ?_
       refine at_in_ret ?_
       refine at_then_ret ?_
       obtain rfl := someE H
       refine at_backR [.int .i64 (9)] (Γ) (rs := [.tmp 2]) (by kernel_rfl) (.cons (.tmp (by kernel_rfl)) .nil) (fun w hw => (Sat.less .refl hw)) ?_
       exact ⟨rfl, rfl⟩
      ·replace H := bifF H h11
       refine at_false (t := decide (k = (6 : Int))) (x := C53 [1,0,1,0,1,1,1,1,1,0]) (y := C53 [1,0,1,0,1,1,1,1,1,1]) (o := .tmp 10) (by kernel_rfl) (by kernel_rfl) (by kernel_rfl) h11 ?_
       refine at_skip (by kernel_rfl) ?_
       refine at_in_normal ?_
       refine at_then_normal ?_
       refine aq (x := C53 [1,1,0]) (y := C53 [1,1,1]) ?_
       refine ar (id := 11) 1 ?_
       refine sp 2 (.int .i64 (0)) ?_
       refine ops_end ?_
       refine ae [(2, .int .i64 (0))] ?_
       refine at_then_normal ?_
       refine at_ret (by kernel_rfl) ?_
       obtain rfl := someE H
       refine at_backR [.int .i64 (0)] (Γ) (rs := [.tmp 2]) (by kernel_rfl) (.cons (.tmp (by kernel_rfl)) .nil) (fun w hw => (Sat.less .refl hw)) ?_
       exact ⟨rfl, rfl⟩
   ·replace H := bifF H h7
    refine at_false (t := decide (k = (4 : Int))) (x := C53 [1,0,1,0,1,1,0,1,1,1,0]) (y := C53 [1,0,1,0,1,1,0,1,1,1,1]) (o := .tmp 6) (by kernel_rfl) (by kernel_rfl) (by kernel_rfl) h7 ?_
    refine ar (id := 6) 2 ?_
    refine sp 9 (.bool (decide (k = (5 : Int)))) ?_
    refine sp 6 (.bool (decide (k = (5 : Int)))) ?_
    refine ops_end ?_
    refine ae [(3, .int .i64 k), (6, .bool (decide (k = (5 : Int))))] ?_
    refine at_then_normal ?_
    rcases Bool.eq_false_or_eq_true (decide (k = (5 : Int))) with h12 | h12
    ·replace H := bifT H h12
     refine at_true (t := decide (k = (5 : Int))) (x := C53 [1,0,1,0,1,1,1,0]) (y := C53 [1,0,1,0,1,1,1,1]) (o := .tmp 6) (by kernel_rfl) (by kernel_rfl) (by kernel_rfl) h12 ?_
     refine aq (x := C53 [1,0,1,0,1,1,1,0,0]) (y := C53 [1,0,1,0,1,1,1,0,1]) ?_
     refine ar (id := 7) 1 ?_
     refine sp 2 (.int .i64 (8)) ?_
     refine ops_end ?_
     refine ae [(2, .int .i64 (8))] ?_
     refine at_then_normal ?_
     refine at_ret (by kernel_rfl) ?_
     refine at_in_ret ?_
     refine at_then_ret ?_
     obtain rfl := someE H
     refine at_backR [.int .i64 (8)] (Γ) (rs := [.tmp 2]) (by kernel_rfl) (.cons (.tmp (by kernel_rfl)) .nil) (fun w hw => (Sat.less .refl hw)) ?_
     exact ⟨rfl, rfl⟩
    ·replace H := bifF H h12
     refine at_false (t := decide (k = (5 : Int))) (x := C53 [1,0,1,0,1,1,1,0]) (y := C53 [1,0,1,0,1,1,1,1]) (o := .tmp 6) (by kernel_rfl) (by kernel_rfl) (by kernel_rfl) h12 ?_
     refine aq (x := C53 [1,0,1,0,1,1,1,1,0]) (y := C53 [1,0,1,0,1,1,1,1,1]) ?_
     refine aq (x := C53 [1,0,1,0,1,1,1,1,0,0]) (y := C53 [1,0,1,0,1,1,1,1,0,1]) ?_
     refine ar (id := 8) 2 ?_
     refine sp 11 (.bool (decide (k = (3 : Int)))) ?_
     refine sp 10 (.bool (decide (k = (3 : Int)))) ?_
     refine ops_end ?_
     refine ae [(3, .int .i64 k), (10, .bool (decide (k = (3 : Int))))] ?_
     refine at_then_normal ?_
     rcases Bool.eq_false_or_eq_true (decide (k = (3 : Int))) with h13 | h13
     ·replace H := bifT H h13
      refine at_true (t := decide (k = (3 : Int))) (x := C53 [1,0,1,0,1,1,1,1,0,1,0]) (y := C53 [1,0,1,0,1,1,1,1,0,1,1]) (o := .tmp 10) (by kernel_rfl) (by kernel_rfl) (by kernel_rfl) h13 ?_
      refine at_skip (by kernel_rfl) ?_
      refine at_then_normal ?_
      rcases Bool.eq_false_or_eq_true (decide (k = (3 : Int))) with h14 | h14
      ·replace H := bifT H h14
       refine at_true (t := decide (k = (3 : Int))) (x := C53 [1,0,1,0,1,1,1,1,1,0]) (y := C53 [1,0,1,0,1,1,1,1,1,1]) (o := .tmp 10) (by kernel_rfl) (by kernel_rfl) (by kernel_rfl) h14 ?_
       refine aq (x := C53 [1,0,1,0,1,1,1,1,1,0,0]) (y := C53 [1,0,1,0,1,1,1,1,1,0,1]) ?_
       refine ar (id := 10) 1 ?_
       refine sp 2 (.int .i64 (9)) ?_
       refine ops_end ?_
       refine ae [(2, .int .i64 (9))] ?_
       refine at_then_normal ?_
       refine at_ret (by kernel_rfl) ?_
       refine at_in_ret ?_
       refine at_then_ret ?_
       obtain rfl := someE H
       refine at_backR [.int .i64 (9)] (Γ) (rs := [.tmp 2]) (by kernel_rfl) (.cons (.tmp (by kernel_rfl)) .nil) (fun w hw => (Sat.less .refl hw)) ?_
       exact ⟨rfl, rfl⟩
      ·replace H := bifF H h14
       refine at_false (t := decide (k = (3 : Int))) (x := C53 [1,0,1,0,1,1,1,1,1,0]) (y := C53 [1,0,1,0,1,1,1,1,1,1]) (o := .tmp 10) (by kernel_rfl) (by kernel_rfl) (by kernel_rfl) h14 ?_
       refine at_skip (by kernel_rfl) ?_
       refine at_in_normal ?_
       refine at_then_normal ?_
       refine aq (x := C53 [1,1,0]) (y := C53 [1,1,1]) ?_
       refine ar (id := 11) 1 ?_
       refine sp 2 (.int .i64 (0)) ?_
       refine ops_end ?_
       refine ae [(2, .int .i64 (0))] ?_
       refine at_then_normal ?_
       refine at_ret (by kernel_rfl) ?_
       obtain rfl := someE H
       refine at_backR [.int .i64 (0)] (Γ) (rs := [.tmp 2]) (by kernel_rfl) (.cons (.tmp (by kernel_rfl)) .nil) (fun w hw => (Sat.less .refl hw)) ?_
       exact ⟨rfl, rfl⟩
     ·replace H := bifF H h13
      refine at_false (t := decide (k = (3 : Int))) (x := C53 [1,0,1,0,1,1,1,1,0,1,0]) (y := C53 [1,0,1,0,1,1,1,1,0,1,1]) (o := .tmp 10) (by kernel_rfl) (by kernel_rfl) (by kernel_rfl) h13 ?_
      refine ar (id := 9) 2 ?_
      refine sp 12 (.bool (decide (k = (6 : Int)))) ?_
      refine sp 10 (.bool (decide (k = (6 : Int)))) ?_
      refine ops_end ?_
      refine ae [(10, .bool (decide (k = (6 : Int))))] ?_
      refine at_then_normal ?_
      rcases Bool.eq_false_or_eq_true (decide (k = (6 : Int))) with h15 | h15
      ·replace H := bifT H h15
       refine at_true (t := decide (k = (6 : Int))) (x := C53 [1,0,1,0,1,1,1,1,1,0]) (y := C53 [1,0,1,0,1,1,1,1,1,1]) (o := .tmp 10) (by kernel_rfl) (by kernel_rfl) (by kernel_rfl) h15 ?_
       refine aq (x := C53 [1,0,1,0,1,1,1,1,1,0,0]) (y := C53 [1,0,1,0,1,1,1,1,1,0,1]) ?_
       refine ar (id := 10) 1 ?_
       refine sp 2 (.int .i64 (9)) ?_
       refine ops_end ?_
       refine ae [(2, .int .i64 (9))] ?_
       refine at_then_normal ?_
       refine at_ret (by kernel_rfl) ?_
       refine at_in_ret ?_
       refine at_then_ret ?_
       obtain rfl := someE H
       refine at_backR [.int .i64 (9)] (Γ) (rs := [.tmp 2]) (by kernel_rfl) (.cons (.tmp (by kernel_rfl)) .nil) (fun w hw => (Sat.less .refl hw)) ?_
       exact ⟨rfl, rfl⟩
      ·replace H := bifF H h15
       refine at_false (t := decide (k = (6 : Int))) (x := C53 [1,0,1,0,1,1,1,1,1,0]) (y := C53 [1,0,1,0,1,1,1,1,1,1]) (o := .tmp 10) (by kernel_rfl) (by kernel_rfl) (by kernel_rfl) h15 ?_
       refine at_skip (by kernel_rfl) ?_
       refine at_in_normal ?_
       refine at_then_normal ?_
       refine aq (x := C53 [1,1,0]) (y := C53 [1,1,1]) ?_
       refine ar (id := 11) 1 ?_
       refine sp 2 (.int .i64 (0)) ?_
       refine ops_end ?_
       refine ae [(2, .int .i64 (0))] ?_
       refine at_then_normal ?_
       refine at_ret (by kernel_rfl) ?_
       obtain rfl := someE H
       refine at_backR [.int .i64 (0)] (Γ) (rs := [.tmp 2]) (by kernel_rfl) (.cons (.tmp (by kernel_rfl)) .nil) (fun w hw => (Sat.less .refl hw)) ?_
       exact ⟨rfl, rfl⟩
def shandleS_j0 (cc : CacheS) (p : PktS) (e0_21 : Bool) : Option (PktS × Int × CacheS) :=
 (bif e0_21 then some ((⟨0, 0, 0, 0, 0, 0, 0, false, ([] : List Int)⟩ : PktS), (1 : Int), cc) else (findS cc p.line).bind fun y3_3 => (bif !y3_3.2 then some ((⟨0, 0, 0, 0, 0, 0, 0, false, ([] : List Int)⟩ : PktS), (3 : Int), cc) else (pansS p.kind).bind fun y6_2 => (bif decide (p.kind = (3 : Int)) then (putS cc (⟨y3_3.1.fwd, p.ptr, y3_3.1.line, y3_3.1.used, false, y3_3.1.data⟩ : Ent)).bind fun y20_3 => some ((⟨y6_2, p.dst, p.src, p.id, p.line, 0, 0, y3_3.1.dirty, y3_3.1.data⟩ : PktS), y20_3.1, y20_3.2) else (bif decide (p.kind = (4 : Int)) then (putS cc (⟨p.ptr, y3_3.1.back, y3_3.1.line, y3_3.1.used, y3_3.1.dirty, y3_3.1.data⟩ : Ent)).bind fun y20_3 => some ((⟨y6_2, p.dst, p.src, p.id, p.line, 0, 0, false, ([] : List Int)⟩ : PktS), y20_3.1, y20_3.2) else (bif decide (p.kind = (5 : Int)) then (putS cc (⟨y3_3.1.fwd, p.ptr, y3_3.1.line, y3_3.1.used, y3_3.1.dirty, y3_3.1.data⟩ : Ent)).bind fun y20_3 => some ((⟨y6_2, p.dst, p.src, p.id, p.line, 0, 0, false, ([] : List Int)⟩ : PktS), y20_3.1, y20_3.2) else (bif decide (p.kind = (6 : Int)) then (dropS cc p.line).bind fun y18_3 => some ((⟨y6_2, p.dst, p.src, p.id, p.line, y3_3.1.fwd, 0, y3_3.1.dirty, y3_3.1.data⟩ : PktS), (0 : Int), y18_3.2.2) else (putS cc y3_3.1).bind fun y20_3 => some ((⟨y6_2, p.dst, p.src, p.id, p.line, 0, 0, false, ([] : List Int)⟩ : PktS), y20_3.1, y20_3.2)))))))
def shandleS (cc : CacheS) (p : PktS) : Option (PktS × Int × CacheS) :=
 (pcheckS p).bind fun y1_1 => (bif !(decide (y1_1 = (0 : Int))) then shandleS_j0 cc p true else (bif decide (p.kind < (3 : Int)) then shandleS_j0 cc p true else shandleS_j0 cc p (decide ((6 : Int) < p.kind))))
noncomputable def C33 (p : List Nat) : Code := codeAt (bodyOf Try.f33) p
set_option maxRecDepth 100000 in
set_option maxHeartbeats 8000000 in
theorem SHandleF_tr {W0 : World} {Γ : List Asn} (c : Nat) (cc : CacheS) (pa : Option Addr) (pcap : Nat) (p : PktS) (hrpa : Reads W0 Γ pa (ints p.data)) (y : PktS × Int × CacheS) (H : shandleS cc p = some y) : Tr Try.prog 33 #[.pointer (some ⟨c, 0, none⟩), .agg #[.int .i64 p.kind, .int .i64 p.src, .int .i64 p.dst, .int .i64 p.id, .int .i64 p.line, .int .i64 p.ptr, .int .i64 p.state, .bool p.flag, .slice pa (List.length p.data) pcap]] W0 ((CacheA c cc) :: Γ) (fun r Δ => ∃ (a0_0 : Option Addr) (c0_0 : Nat), r = .tuple #[.agg #[.int .i64 y.1.kind, .int .i64 y.1.src, .int .i64 y.1.dst, .int .i64 y.1.id, .int .i64 y.1.line, .int .i64 y.1.ptr, .int .i64 y.1.state, .bool y.1.flag, .slice a0_0 (List.length y.1.data) c0_0], .int .i64 y.2.1] ∧ Δ = (IntsA a0_0 c0_0 y.1.data) :: (CacheA c y.2.2) :: Γ) := by
 unfold shandleS at H
 refine Tr.enter (fn := Try.f33) (c := C33 []) (args := [.pointer (some ⟨c, 0, none⟩), .agg #[.int .i64 p.kind, .int .i64 p.src, .int .i64 p.dst, .int .i64 p.id, .int .i64 p.line, .int .i64 p.ptr, .int .i64 p.state, .bool p.flag, .slice pa (List.length p.data) pcap]]) 93 Try.func33 (by kernel_rfl) (by kernel_rfl) ?_
 refine ae [(0, .pointer (some ⟨c, 0, none⟩)), (1, .agg #[.int .i64 p.kind, .int .i64 p.src, .int .i64 p.dst, .int .i64 p.id, .int .i64 p.line, .int .i64 p.ptr, .int .i64 p.state, .bool p.flag, .slice pa (List.length p.data) pcap])] ?_
 refine aq (x := C33 [0]) (y := C33 [1]) ?_
 refine ar (id := 0) 3 ?_
 refine s_step 3 (by kernel_rfl) (by kernel_rfl) (st_new (T := 40) (cells := #[.int .i64 p.kind, .int .i64 p.src, .int .i64 p.dst, .int .i64 p.id, .int .i64 p.line, .int .i64 p.ptr, .int .i64 p.state, .bool p.flag, .slice pa (List.length p.data) pcap]) (fun a => .pointer (some a)) (fun _ => by kernel_rfl)) ?_
 rintro _ _ ⟨b0_0, rfl, rfl⟩
 refine s_step 4 (by kernel_rfl) (by kernel_rfl) (st_new (T := 40) (cells := #[.int .i64 (0), .int .i64 (0), .int .i64 (0), .int .i64 (0), .int .i64 (0), .int .i64 (0), .int .i64 (0), .bool false, .slice none 0 0]) (fun a => .pointer (some a)) (fun _ => by kernel_rfl)) ?_
 rintro _ _ ⟨b0_1, rfl, rfl⟩
 refine sp 5 (.int .i64 (0)) ?_
 refine ops_end ?_
 refine ae [(0, .pointer (some ⟨c, 0, none⟩)), (3, .pointer (some ⟨b0_0, 0, none⟩)), (4, .pointer (some ⟨b0_1, 0, none⟩))] ?_
 refine at_then_normal ?_
 refine aq (x := C33 [1,0]) (y := C33 [1,1]) ?_
 refine at_seq_join (x := C33 [1,0,0]) (y := C33 [1,0,1]) (fun ff ΔΔ => ∃ (e0_21 : Bool), shandleS_j0 cc p e0_21 = some y ∧ ff = [(0, .pointer (some ⟨c, 0, none⟩)), (3, .pointer (some ⟨b0_0, 0, none⟩)), (4, .pointer (some ⟨b0_1, 0, none⟩)), (21, .bool e0_21)] ∧ (Asn.own b0_1 (.cells #[.int .i64 (0), .int .i64 (0), .int .i64 (0), .int .i64 (0), .int .i64 (0), .int .i64 (0), .int .i64 (0), .bool false, .slice none 0 0] 40 (0, 0))) :: (Asn.own b0_0 (.cells #[.int .i64 p.kind, .int .i64 p.src, .int .i64 p.dst, .int .i64 p.id, .int .i64 p.line, .int .i64 p.ptr, .int .i64 p.state, .bool p.flag, .slice pa (List.length p.data) pcap] 40 (0, 0))) :: (CacheA c cc) :: Γ = ΔΔ) (by kernel_rfl) ?_ ?_
 ·rintro _ _ ⟨e0_21, H, rfl, rfl⟩
  rw [shandleS_j0] at H
  rcases Bool.eq_false_or_eq_true (e0_21) with h1 | h1
  ·replace H := bifT H h1
   refine at_true (t := e0_21) (x := C33 [1,0,1,0]) (y := C33 [1,0,1,1]) (o := .tmp 21) (by kernel_rfl) (by kernel_rfl) (by kernel_rfl) h1 ?_
   refine aq (x := C33 [1,0,1,0,0]) (y := C33 [1,0,1,0,1]) ?_
   refine ar (id := 2) 3 ?_
   refine sp 22 (.agg #[.int .i64 (0), .int .i64 (0), .int .i64 (0), .int .i64 (0), .int .i64 (0), .int .i64 (0), .int .i64 (0), .bool false, .slice none 0 0]) ?_
   refine s_do (by kernel_rfl) (by kernel_rfl) (st_store (off := 0) (vs := [.int .i64 (0), .int .i64 (0), .int .i64 (0), .int .i64 (0), .int .i64 (0), .int .i64 (0), .int .i64 (0), .bool false, .slice none 0 0]) (c' := #[.int .i64 (0), .int .i64 (0), .int .i64 (0), .int .i64 (0), .int .i64 (0), .int .i64 (0), .int .i64 (0), .bool false, .slice none 0 0]) (fun _ => by kernel_rfl) .here (by kernel_rfl) (by kernel_rfl) (by kernel_rfl)) ?_
   rintro _ _ ⟨rfl, rfl⟩
   refine sp 5 (.int .i64 (1)) ?_
   refine ops_end ?_
   refine ae [(4, .pointer (some ⟨b0_1, 0, none⟩)), (5, .int .i64 (1))] ?_
   refine at_then_normal ?_
   refine at_ret (by kernel_rfl) ?_
   refine at_then_ret ?_
   obtain rfl := someE H
   refine at_backR [.agg #[.int .i64 (0), .int .i64 (0), .int .i64 (0), .int .i64 (0), .int .i64 (0), .int .i64 (0), .int .i64 (0), .bool false, .slice none 0 0], .int .i64 (1)] ((IntsA none 0 ([] : List Int)) :: (CacheA c cc) :: Γ) (rs := [.cell 4 40, .tmp 5]) (by kernel_rfl) (.cons (.cell (by kernel_rfl) (retN (off := 0) (vs := [.int .i64 (0), .int .i64 (0), .int .i64 (0), .int .i64 (0), .int .i64 (0), .int .i64 (0), .int .i64 (0), .bool false, .slice none 0 0]) 9 (fun _ => by kernel_rfl) (holds_own .here) rfl (by exact ⟨rfl, rfl, rfl, rfl, rfl, rfl, rfl, rfl, rfl, trivial⟩))) (.cons (.tmp (by kernel_rfl)) .nil)) (fun w hw => (Sat.less (.take .here (.take (.there (.there .here)) (.drop .here (.drop .here .refl)))) (RowsA.none_mk (k := 1) (a := none) hw))) ?_
   exact ⟨none, 0, rfl, rfl⟩
  ·replace H := bifF H h1
   refine at_false (t := e0_21) (x := C33 [1,0,1,0]) (y := C33 [1,0,1,1]) (o := .tmp 21) (by kernel_rfl) (by kernel_rfl) (by kernel_rfl) h1 ?_
   refine at_skip (by kernel_rfl) ?_
   refine at_then_normal ?_
   refine aq (x := C33 [1,1,0]) (y := C33 [1,1,1]) ?_
   refine ar (id := 3) 10 ?_
   refine sp 24 (.pointer (some ⟨c, 0, none⟩)) ?_
   refine sp 25 (.pointer (some ⟨b0_0, 4, none⟩)) ?_
   refine sl 26 (.int .i64 p.line) (load1 (off := 4) (fun _ => by kernel_rfl) (holds_own (.there .here)) (by kernel_rfl)) ?_
   obtain ⟨y3_3, hy3_3, H⟩ := bindE H
   refine s_call 27 18 #[.pointer (some ⟨c, 0, none⟩), .int .i64 p.line] (by kernel_rfl) (by kernel_rfl) (fun _ => by kernel_rfl) (Tr.conv (Γ' := (CacheA c cc) :: (Asn.own b0_1 (.cells #[.int .i64 (0), .int .i64 (0), .int .i64 (0), .int .i64 (0), .int .i64 (0), .int .i64 (0), .int .i64 (0), .bool false, .slice none 0 0] 40 (0, 0))) :: (Asn.own b0_0 (.cells #[.int .i64 p.kind, .int .i64 p.src, .int .i64 p.dst, .int .i64 p.id, .int .i64 p.line, .int .i64 p.ptr, .int .i64 p.state, .bool p.flag, .slice pa (List.length p.data) pcap] 40 (0, 0))) :: Γ) (fun w hw => (Sat.less (.take (.there (.there .here)) (.take .here (.take .here .refl))) hw)) (FindF_tr c cc p.line y3_3 hy3_3)) ?_
   rintro _ _ ⟨a3_3_00, c3_3_00, rfl, rfl⟩
   refine sp 23 (.tuple #[.agg #[.int .i64 y3_3.1.fwd, .int .i64 y3_3.1.back, .int .i64 y3_3.1.line, .int .i64 y3_3.1.used, .bool y3_3.1.dirty, .slice a3_3_00 (List.length y3_3.1.data) c3_3_00], .bool y3_3.2]) ?_
   refine sp 28 (.agg #[.int .i64 y3_3.1.fwd, .int .i64 y3_3.1.back, .int .i64 y3_3.1.line, .int .i64 y3_3.1.used, .bool y3_3.1.dirty, .slice a3_3_00 (List.length y3_3.1.data) c3_3_00]) ?_
   refine sp 29 (.bool y3_3.2) ?_
   refine s_step 6 (by kernel_rfl) (by kernel_rfl) (st_new (T := 32) (cells := #[.int .i64 (0), .int .i64 (0), .int .i64 (0), .int .i64 (0), .bool false, .slice none 0 0]) (fun a => .pointer (some a)) (fun _ => by kernel_rfl)) ?_
   rintro _ _ ⟨b3_7, rfl, rfl⟩
   refine s_do (by kernel_rfl) (by kernel_rfl) (st_store (off := 0) (vs := [.int .i64 y3_3.1.fwd, .int .i64 y3_3.1.back, .int .i64 y3_3.1.line, .int .i64 y3_3.1.used, .bool y3_3.1.dirty, .slice a3_3_00 (List.length y3_3.1.data) c3_3_00]) (c' := #[.int .i64 y3_3.1.fwd, .int .i64 y3_3.1.back, .int .i64 y3_3.1.line, .int .i64 y3_3.1.used, .bool y3_3.1.dirty, .slice a3_3_00 (List.length y3_3.1.data) c3_3_00]) (fun _ => by kernel_rfl) .here (by kernel_rfl) (by kernel_rfl) (by kernel_rfl)) ?_
   rintro _ _ ⟨rfl, rfl⟩
   refine sp 7 (.bool y3_3.2) ?_
   refine ops_end ?_
   refine ae [(0, .pointer (some ⟨c, 0, none⟩)), (3, .pointer (some ⟨b0_0, 0, none⟩)), (4, .pointer (some ⟨b0_1, 0, none⟩)), (6, .pointer (some ⟨b3_7, 0, none⟩)), (7, .bool y3_3.2)] ?_
   refine at_then_normal ?_
   refine aq (x := C33 [1,1,1,0]) (y := C33 [1,1,1,1]) ?_
   refine aq (x := C33 [1,1,1,0,0]) (y := C33 [1,1,1,0,1]) ?_
   refine ar (id := 4) 2 ?_
   refine sp 30 (.bool y3_3.2) ?_
   refine sp 31 (.bool !y3_3.2) ?_
   refine ops_end ?_
   refine ae [(0, .pointer (some ⟨c, 0, none⟩)), (3, .pointer (some ⟨b0_0, 0, none⟩)), (4, .pointer (some ⟨b0_1, 0, none⟩)), (6, .pointer (some ⟨b3_7, 0, none⟩)), (31, .bool !y3_3.2)] ?_
   refine at_then_normal ?_
   rcases Bool.eq_false_or_eq_true (!y3_3.2) with h2 | h2
   ·replace H := bifT H h2
    refine at_true (t := !y3_3.2) (x := C33 [1,1,1,0,1,0]) (y := C33 [1,1,1,0,1,1]) (o := .tmp 31) (by kernel_rfl) (by kernel_rfl) (by kernel_rfl) h2 ?_
    refine aq (x := C33 [1,1,1,0,1,0,0]) (y := C33 [1,1,1,0,1,0,1]) ?_
    refine ar (id := 5) 3 ?_
    refine sp 32 (.agg #[.int .i64 (0), .int .i64 (0), .int .i64 (0), .int .i64 (0), .int .i64 (0), .int .i64 (0), .int .i64 (0), .bool false, .slice none 0 0]) ?_
    refine s_do (by kernel_rfl) (by kernel_rfl) (st_store (off := 0) (vs := [.int .i64 (0), .int .i64 (0), .int .i64 (0), .int .i64 (0), .int .i64 (0), .int .i64 (0), .int .i64 (0), .bool false, .slice none 0 0]) (c' := #[.int .i64 (0), .int .i64 (0), .int .i64 (0), .int .i64 (0), .int .i64 (0), .int .i64 (0), .int .i64 (0), .bool false, .slice none 0 0]) (fun _ => by kernel_rfl) (.there (.there (.there .here))) (by kernel_rfl) (by kernel_rfl) (by kernel_rfl)) ?_
    rintro _ _ ⟨rfl, rfl⟩
    refine sp 5 (.int .i64 (3)) ?_
    refine ops_end ?_
    refine ae [(4, .pointer (some ⟨b0_1, 0, none⟩)), (5, .int .i64 (3))] ?_
    refine at_then_normal ?_
    refine at_ret (by kernel_rfl) ?_
    refine at_then_ret ?_
    obtain rfl := someE H
    refine at_backR [.agg #[.int .i64 (0), .int .i64 (0), .int .i64 (0), .int .i64 (0), .int .i64 (0), .int .i64 (0), .int .i64 (0), .bool false, .slice none 0 0], .int .i64 (3)] ((IntsA none 0 ([] : List Int)) :: (CacheA c cc) :: Γ) (rs := [.cell 4 40, .tmp 5]) (by kernel_rfl) (.cons (.cell (by kernel_rfl) (retN (off := 0) (vs := [.int .i64 (0), .int .i64 (0), .int .i64 (0), .int .i64 (0), .int .i64 (0), .int .i64 (0), .int .i64 (0), .bool false, .slice none 0 0]) 9 (fun _ => by kernel_rfl) (holds_own .here) rfl (by exact ⟨rfl, rfl, rfl, rfl, rfl, rfl, rfl, rfl, rfl, trivial⟩))) (.cons (.tmp (by kernel_rfl)) .nil)) (fun w hw => (Sat.less (.take .here (.take (.there (.there (.there .here))) (.drop .here (.drop .here (.drop .here (.drop .here .refl)))))) (RowsA.none_mk (k := 1) (a := none) hw))) ?_
    exact ⟨none, 0, rfl, rfl⟩
   ·replace H := bifF H h2
    refine at_false (t := !y3_3.2) (x := C33 [1,1,1,0,1,0]) (y := C33 [1,1,1,0,1,1]) (o := .tmp 31) (by kernel_rfl) (by kernel_rfl) (by kernel_rfl) h2 ?_
    refine at_skip (by kernel_rfl) ?_
    refine at_then_normal ?_
    refine aq (x := C33 [1,1,1,1,0]) (y := C33 [1,1,1,1,1]) ?_
    refine at_region_draw (id := 6) (by kernel_rfl) (by kernel_rfl) ?_
    refine dp 0 33 (.pointer (some ⟨b0_0, 0, none⟩)) ?_
    refine dl 1 34 (.int .i64 p.kind) (load1 (off := 0) (fun _ => by kernel_rfl) (holds_own (.there (.there (.there (.there .here))))) (by kernel_rfl)) ?_
    obtain ⟨y6_2, hy6_2, H⟩ := bindE H
    refine d_quiet 2 35 (.int .i64 y6_2) 53 #[.int .i64 p.kind] (by kernel_rfl) (by kernel_rfl) (by kernel_rfl) (fun _ => by kernel_rfl) (fun _ => (PAnsF_tr p.kind y6_2 hy6_2)) ?_
    refine dp 3 36 (.pointer (some ⟨b0_0, 2, none⟩)) ?_
    refine dl 4 37 (.int .i64 p.dst) (load1 (off := 2) (fun _ => by kernel_rfl) (holds_own (.there (.there (.there (.there .here))))) (by kernel_rfl)) ?_
    refine dp 5 38 (.pointer (some ⟨b0_0, 1, none⟩)) ?_
    refine dl 6 39 (.int .i64 p.src) (load1 (off := 1) (fun _ => by kernel_rfl) (holds_own (.there (.there (.there (.there .here))))) (by kernel_rfl)) ?_
    refine dp 7 40 (.pointer (some ⟨b0_0, 3, none⟩)) ?_
    refine dl 8 41 (.int .i64 p.id) (load1 (off := 3) (fun _ => by kernel_rfl) (holds_own (.there (.there (.there (.there .here))))) (by kernel_rfl)) ?_
    refine dp 9 42 (.pointer (some ⟨b0_0, 4, none⟩)) ?_
    refine dl 10 43 (.int .i64 p.line) (load1 (off := 4) (fun _ => by kernel_rfl) (holds_own (.there (.there (.there (.there .here))))) (by kernel_rfl)) ?_
    refine dp 11 44 (.agg #[.int .i64 y6_2, .int .i64 p.dst, .int .i64 p.src, .int .i64 p.id, .int .i64 p.line, .int .i64 (0), .int .i64 (0), .bool false, .slice none 0 0]) ?_
    refine d_step 12 8 [] [11, 9, 7, 5, 3, 2, 0] [10, 8, 6, 4, 1] (by kernel_rfl) (by kernel_rfl) (by kernel_rfl) (st_new (T := 40) (cells := #[.int .i64 (0), .int .i64 (0), .int .i64 (0), .int .i64 (0), .int .i64 (0), .int .i64 (0), .int .i64 (0), .bool false, .slice none 0 0]) (fun a => .pointer (some a)) (fun _ => by kernel_rfl)) ?_
    rintro _ _ ⟨b6_12, rfl, rfl⟩
    refine ⟨(stable_cons 10 43 (.int .i64 p.line) (by kernel_rfl) (by kernel_rfl) (by kernel_rfl) (load1 (off := 4) (fun _ => by kernel_rfl) (holds_own (.there (.there (.there (.there (.there .here)))))) (by kernel_rfl)) (stable_cons 8 41 (.int .i64 p.id) (by kernel_rfl) (by kernel_rfl) (by kernel_rfl) (load1 (off := 3) (fun _ => by kernel_rfl) (holds_own (.there (.there (.there (.there (.there .here)))))) (by kernel_rfl)) (stable_cons 6 39 (.int .i64 p.src) (by kernel_rfl) (by kernel_rfl) (by kernel_rfl) (load1 (off := 1) (fun _ => by kernel_rfl) (holds_own (.there (.there (.there (.there (.there .here)))))) (by kernel_rfl)) (stable_cons 4 37 (.int .i64 p.dst) (by kernel_rfl) (by kernel_rfl) (by kernel_rfl) (load1 (off := 2) (fun _ => by kernel_rfl) (holds_own (.there (.there (.there (.there (.there .here)))))) (by kernel_rfl)) (stable_cons 1 34 (.int .i64 p.kind) (by kernel_rfl) (by kernel_rfl) (by kernel_rfl) (load1 (off := 0) (fun _ => by kernel_rfl) (holds_own (.there (.there (.there (.there (.there .here)))))) (by kernel_rfl)) stable_nil))))), ?_⟩
    refine d_do 13 [12, 11, 2, 0, 1, 3, 4, 5, 6, 7, 8, 9, 10] [] [] (by kernel_rfl) (by kernel_rfl) (by kernel_rfl) (st_store (off := 0) (vs := [.int .i64 y6_2, .int .i64 p.dst, .int .i64 p.src, .int .i64 p.id, .int .i64 p.line, .int .i64 (0), .int .i64 (0), .bool false, .slice none 0 0]) (c' := #[.int .i64 y6_2, .int .i64 p.dst, .int .i64 p.src, .int .i64 p.id, .int .i64 p.line, .int .i64 (0), .int .i64 (0), .bool false, .slice none 0 0]) (fun _ => by kernel_rfl) .here (by kernel_rfl) (by kernel_rfl) (by kernel_rfl)) ?_
    rintro _ _ ⟨rfl, rfl⟩
    refine ⟨stable_nil, ?_⟩
    refine draw_end (by kernel_rfl) ?_
    refine ae [(0, .pointer (some ⟨c, 0, none⟩)), (3, .pointer (some ⟨b0_0, 0, none⟩)), (4, .pointer (some ⟨b0_1, 0, none⟩)), (6, .pointer (some ⟨b3_7, 0, none⟩)), (8, .pointer (some ⟨b6_12, 0, none⟩))] ?_
    refine at_then_normal ?_
    refine aq (x := C33 [1,1,1,1,1,0]) (y := C33 [1,1,1,1,1,1]) ?_
    refine aq (x := C33 [1,1,1,1,1,0,0]) (y := C33 [1,1,1,1,1,0,1]) ?_
    refine ar (id := 7) 2 ?_
    refine sp 45 (.pointer (some ⟨b0_0, 0, none⟩)) ?_
    refine sl 46 (.int .i64 p.kind) (load1 (off := 0) (fun _ => by kernel_rfl) (holds_own (.there (.there (.there (.there (.there .here)))))) (by kernel_rfl)) ?_
    refine ops_end ?_
    refine ae [(0, .pointer (some ⟨c, 0, none⟩)), (3, .pointer (some ⟨b0_0, 0, none⟩)), (4, .pointer (some ⟨b0_1, 0, none⟩)), (6, .pointer (some ⟨b3_7, 0, none⟩)), (8, .pointer (some ⟨b6_12, 0, none⟩)), (46, .int .i64 p.kind)] ?_
    refine at_then_normal ?_
    refine at_block (i := 0) (x := C33 [1,1,1,1,1,0,1,0]) (by kernel_rfl) ?_
    refine aq (x := C33 [1,1,1,1,1,0,1,0,0]) (y := C33 [1,1,1,1,1,0,1,0,1]) ?_
    refine ar (id := 8) 2 ?_
    refine sp 48 (.bool (decide (p.kind = (3 : Int)))) ?_
    refine sp 47 (.bool (decide (p.kind = (3 : Int)))) ?_
    refine ops_end ?_
    refine ae [(0, .pointer (some ⟨c, 0, none⟩)), (3, .pointer (some ⟨b0_0, 0, none⟩)), (4, .pointer (some ⟨b0_1, 0, none⟩)), (6, .pointer (some ⟨b3_7, 0, none⟩)), (8, .pointer (some ⟨b6_12, 0, none⟩)), (46, .int .i64 p.kind), (47, .bool (decide (p.kind = (3 : Int))))] ?_
    refine at_then_normal ?_
    rcases Bool.eq_false_or_eq_true (decide (p.kind = (3 : Int))) with h3 | h3
    ·replace H := bifT H h3
     refine at_true (t := decide (p.kind = (3 : Int))) (x := C33 [1,1,1,1,1,0,1,0,1,0]) (y := C33 [1,1,1,1,1,0,1,0,1,1]) (o := .tmp 47) (by kernel_rfl) (by kernel_rfl) (by kernel_rfl) h3 ?_
     refine aq (x := C33 [1,1,1,1,1,0,1,0,1,0,0]) (y := C33 [1,1,1,1,1,0,1,0,1,0,1]) ?_
     refine at_region_draw (id := 9) (by kernel_rfl) (by kernel_rfl) ?_
     refine dp 0 49 (.pointer (some ⟨b3_7, 5, none⟩)) ?_
     refine dl 1 50 (.slice a3_3_00 (List.length y3_3.1.data) c3_3_00) (load1 (off := 5) (fun _ => by kernel_rfl) (holds_own (.there .here)) (by kernel_rfl)) ?_
     refine dp 2 51 (.pointer (some ⟨b3_7, 4, none⟩)) ?_
     refine dl 3 52 (.bool y3_3.1.dirty) (load1 (off := 4) (fun _ => by kernel_rfl) (holds_own (.there .here)) (by kernel_rfl)) ?_
     refine dp 4 53 (.pointer (some ⟨b6_12, 8, none⟩)) ?_
     refine d_do 5 [4, 1, 0] [2] [3] (by kernel_rfl) (by kernel_rfl) (by kernel_rfl) (st_store (off := 8) (vs := [.slice a3_3_00 (List.length y3_3.1.data) c3_3_00]) (c' := #[.int .i64 y6_2, .int .i64 p.dst, .int .i64 p.src, .int .i64 p.id, .int .i64 p.line, .int .i64 (0), .int .i64 (0), .bool false, .slice a3_3_00 (List.length y3_3.1.data) c3_3_00]) (fun _ => by kernel_rfl) .here (by kernel_rfl) (by kernel_rfl) (by kernel_rfl)) ?_
     rintro _ _ ⟨rfl, rfl⟩
     refine ⟨(stable_cons 3 52 (.bool y3_3.1.dirty) (by kernel_rfl) (by kernel_rfl) (by kernel_rfl) (load1 (off := 4) (fun _ => by kernel_rfl) (holds_own (.there .here)) (by kernel_rfl)) stable_nil), ?_⟩
     refine dp 6 54 (.pointer (some ⟨b6_12, 7, none⟩)) ?_
     refine d_do 7 [6, 3, 5, 0, 1, 2, 4] [] [] (by kernel_rfl) (by kernel_rfl) (by kernel_rfl) (st_store (off := 7) (vs := [.bool y3_3.1.dirty]) (c' := #[.int .i64 y6_2, .int .i64 p.dst, .int .i64 p.src, .int .i64 p.id, .int .i64 p.line, .int .i64 (0), .int .i64 (0), .bool y3_3.1.dirty, .slice a3_3_00 (List.length y3_3.1.data) c3_3_00]) (fun _ => by kernel_rfl) .here (by kernel_rfl) (by kernel_rfl) (by kernel_rfl)) ?_
     rintro _ _ ⟨rfl, rfl⟩
     refine ⟨stable_nil, ?_⟩
     refine draw_end (by kernel_rfl) ?_
     refine ae [(0, .pointer (some ⟨c, 0, none⟩)), (3, .pointer (some ⟨b0_0, 0, none⟩)), (4, .pointer (some ⟨b0_1, 0, none⟩)), (6, .pointer (some ⟨b3_7, 0, none⟩)), (8, .pointer (some ⟨b6_12, 0, none⟩))] ?_
     refine at_then_normal ?_
     refine aq (x := C33 [1,1,1,1,1,0,1,0,1,0,1,0]) (y := C33 [1,1,1,1,1,0,1,0,1,0,1,1]) ?_
     refine ar (id := 10) 2 ?_
     refine sp 55 (.pointer (some ⟨b3_7, 4, none⟩)) ?_
     refine s_do (by kernel_rfl) (by kernel_rfl) (st_store (off := 4) (vs := [.bool false]) (c' := #[.int .i64 y3_3.1.fwd, .int .i64 y3_3.1.back, .int .i64 y3_3.1.line, .int .i64 y3_3.1.used, .bool false, .slice a3_3_00 (List.length y3_3.1.data) c3_3_00]) (fun _ => by kernel_rfl) (.there .here) (by kernel_rfl) (by kernel_rfl) (by kernel_rfl)) ?_
     rintro _ _ ⟨rfl, rfl⟩
     refine ops_end ?_
     refine ae [(0, .pointer (some ⟨c, 0, none⟩)), (3, .pointer (some ⟨b0_0, 0, none⟩)), (4, .pointer (some ⟨b0_1, 0, none⟩)), (6, .pointer (some ⟨b3_7, 0, none⟩)), (8, .pointer (some ⟨b6_12, 0, none⟩))] ?_
     refine at_then_normal ?_
     refine ar (id := 11) 4 ?_
     refine sp 56 (.pointer (some ⟨b3_7, 0, none⟩)) ?_
     refine sp 57 (.pointer (some ⟨b0_0, 5, none⟩)) ?_
     refine sl 58 (.int .i64 p.ptr) (load1 (off := 5) (fun _ => by kernel_rfl) (holds_own (.there (.there (.there (.there (.there .here)))))) (by kernel_rfl)) ?_
     refine s_call 59 54 #[.pointer (some ⟨b3_7, 0, none⟩), .int .i64 p.ptr] (by kernel_rfl) (by kernel_rfl) (fun _ => by kernel_rfl) (Tr.conv (Γ' := (Asn.own b3_7 (.cells #[.int .i64 y3_3.1.fwd, .int .i64 y3_3.1.back, .int .i64 y3_3.1.line, .int .i64 y3_3.1.used, .bool false, .slice a3_3_00 (List.length y3_3.1.data) c3_3_00] 32 (0, 0))) :: (Asn.own b6_12 (.cells #[.int .i64 y6_2, .int .i64 p.dst, .int .i64 p.src, .int .i64 p.id, .int .i64 p.line, .int .i64 (0), .int .i64 (0), .bool y3_3.1.dirty, .slice a3_3_00 (List.length y3_3.1.data) c3_3_00] 40 (0, 0))) :: (IntsA a3_3_00 c3_3_00 y3_3.1.data) :: (CacheA c cc) :: (Asn.own b0_1 (.cells #[.int .i64 (0), .int .i64 (0), .int .i64 (0), .int .i64 (0), .int .i64 (0), .int .i64 (0), .int .i64 (0), .bool false, .slice none 0 0] 40 (0, 0))) :: (Asn.own b0_0 (.cells #[.int .i64 p.kind, .int .i64 p.src, .int .i64 p.dst, .int .i64 p.id, .int .i64 p.line, .int .i64 p.ptr, .int .i64 p.state, .bool p.flag, .slice pa (List.length p.data) pcap] 40 (0, 0))) :: Γ) (fun w hw => Sat.less (.take .here (.take .here (.take .here (.take .here (.take .here (.take .here .refl)))))) hw) (SetBack_tr b3_7 32 y3_3.1.fwd y3_3.1.back y3_3.1.line y3_3.1.used false a3_3_00 (List.length y3_3.1.data) c3_3_00 p.ptr)) ?_
     rintro _ _ ⟨rfl, rfl⟩
     refine ops_end ?_
     refine ae [(0, .pointer (some ⟨c, 0, none⟩)), (4, .pointer (some ⟨b0_1, 0, none⟩)), (6, .pointer (some ⟨b3_7, 0, none⟩)), (8, .pointer (some ⟨b6_12, 0, none⟩))] ?_
     refine at_in_normal ?_
     refine at_then_normal ?_
     refine aq (x := C33 [1,1,1,1,1,1,0]) (y := C33 [1,1,1,1,1,1,1]) ?_
     refine at_region_draw (id := 20) (by kernel_rfl) (by kernel_rfl) ?_
     refine dl 0 89 (.agg #[.int .i64 y6_2, .int .i64 p.dst, .int .i64 p.src, .int .i64 p.id, .int .i64 p.line, .int .i64 (0), .int .i64 (0), .bool y3_3.1.dirty, .slice a3_3_00 (List.length y3_3.1.data) c3_3_00]) (loadN (off := 0) (vs := [.int .i64 y6_2, .int .i64 p.dst, .int .i64 p.src, .int .i64 p.id, .int .i64 p.line, .int .i64 (0), .int .i64 (0), .bool y3_3.1.dirty, .slice a3_3_00 (List.length y3_3.1.data) c3_3_00]) 9 (fun _ => by kernel_rfl) (holds_own (.there .here)) rfl (by exact ⟨rfl, rfl, rfl, rfl, rfl, rfl, rfl, rfl, rfl, trivial⟩)) ?_
     refine dp 1 90 (.pointer (some ⟨c, 0, none⟩)) ?_
     refine dl 2 91 (.agg #[.int .i64 y3_3.1.fwd, .int .i64 p.ptr, .int .i64 y3_3.1.line, .int .i64 y3_3.1.used, .bool false, .slice a3_3_00 (List.length y3_3.1.data) c3_3_00]) (loadN (off := 0) (vs := [.int .i64 y3_3.1.fwd, .int .i64 p.ptr, .int .i64 y3_3.1.line, .int .i64 y3_3.1.used, .bool false, .slice a3_3_00 (List.length y3_3.1.data) c3_3_00]) 6 (fun _ => by kernel_rfl) (holds_own .here) rfl (by exact ⟨rfl, rfl, rfl, rfl, rfl, rfl, trivial⟩)) ?_
     obtain ⟨y20_3, hy20_3, H⟩ := bindE H
     refine d_call 3 92 [1, 2] [] [0] 14 #[.pointer (some ⟨c, 0, none⟩), .agg #[.int .i64 y3_3.1.fwd, .int .i64 p.ptr, .int .i64 y3_3.1.line, .int .i64 y3_3.1.used, .bool false, .slice a3_3_00 (List.length y3_3.1.data) c3_3_00]] (by kernel_rfl) (by kernel_rfl) (by kernel_rfl) (fun _ => by kernel_rfl) (Tr.conv (Γ' := (CacheA c cc) :: (Asn.own b3_7 (.cells #[.int .i64 y3_3.1.fwd, .int .i64 p.ptr, .int .i64 y3_3.1.line, .int .i64 y3_3.1.used, .bool false, .slice a3_3_00 (List.length y3_3.1.data) c3_3_00] 32 (0, 0))) :: (Asn.own b6_12 (.cells #[.int .i64 y6_2, .int .i64 p.dst, .int .i64 p.src, .int .i64 p.id, .int .i64 p.line, .int .i64 (0), .int .i64 (0), .bool y3_3.1.dirty, .slice a3_3_00 (List.length y3_3.1.data) c3_3_00] 40 (0, 0))) :: (IntsA a3_3_00 c3_3_00 y3_3.1.data) :: (Asn.own b0_1 (.cells #[.int .i64 (0), .int .i64 (0), .int .i64 (0), .int .i64 (0), .int .i64 (0), .int .i64 (0), .int .i64 (0), .bool false, .slice none 0 0] 40 (0, 0))) :: (Asn.own b0_0 (.cells #[.int .i64 p.kind, .int .i64 p.src, .int .i64 p.dst, .int .i64 p.id, .int .i64 p.line, .int .i64 p.ptr, .int .i64 p.state, .bool p.flag, .slice pa (List.length p.data) pcap] 40 (0, 0))) :: Γ) (fun w hw => (Sat.less (.take (.there (.there (.there .here))) (.take .here (.take .here (.take .here (.take .here (.take .here .refl)))))) hw)) (PutF_tr c cc a3_3_00 c3_3_00 (⟨y3_3.1.fwd, p.ptr, y3_3.1.line, y3_3.1.used, false, y3_3.1.data⟩ : Ent) (RowsA.reads (k := 1) (.there (.there .here))) y20_3 hy20_3)) ?_
     rintro _ _ ⟨rfl, rfl⟩
     refine ⟨(stable_cons 0 89 (.agg #[.int .i64 y6_2, .int .i64 p.dst, .int .i64 p.src, .int .i64 p.id, .int .i64 p.line, .int .i64 (0), .int .i64 (0), .bool y3_3.1.dirty, .slice a3_3_00 (List.length y3_3.1.data) c3_3_00]) (by kernel_rfl) (by kernel_rfl) (by kernel_rfl) (loadN (off := 0) (vs := [.int .i64 y6_2, .int .i64 p.dst, .int .i64 p.src, .int .i64 p.id, .int .i64 p.line, .int .i64 (0), .int .i64 (0), .bool y3_3.1.dirty, .slice a3_3_00 (List.length y3_3.1.data) c3_3_00]) 9 (fun _ => by kernel_rfl) (holds_own (.there (.there .here))) rfl (by exact ⟨rfl, rfl, rfl, rfl, rfl, rfl, rfl, rfl, rfl, trivial⟩)) stable_nil), ?_⟩
     refine d_do 4 [0, 3, 1, 2] [] [] (by kernel_rfl) (by kernel_rfl) (by kernel_rfl) (st_store (off := 0) (vs := [.int .i64 y6_2, .int .i64 p.dst, .int .i64 p.src, .int .i64 p.id, .int .i64 p.line, .int .i64 (0), .int .i64 (0), .bool y3_3.1.dirty, .slice a3_3_00 (List.length y3_3.1.data) c3_3_00]) (c' := #[.int .i64 y6_2, .int .i64 p.dst, .int .i64 p.src, .int .i64 p.id, .int .i64 p.line, .int .i64 (0), .int .i64 (0), .bool y3_3.1.dirty, .slice a3_3_00 (List.length y3_3.1.data) c3_3_00]) (fun _ => by kernel_rfl) (.there (.there (.there (.there .here)))) (by kernel_rfl) (by kernel_rfl) (by kernel_rfl)) ?_
     rintro _ _ ⟨rfl, rfl⟩
     refine ⟨stable_nil, ?_⟩
     refine dp 5 5 (.int .i64 y20_3.1) ?_
     refine draw_end (by kernel_rfl) ?_
     refine ae [(4, .pointer (some ⟨b0_1, 0, none⟩)), (5, .int .i64 y20_3.1)] ?_
     refine at_then_normal ?_
     refine at_ret (by kernel_rfl) ?_
     obtain rfl := someE H
     refine at_backR [.agg #[.int .i64 y6_2, .int .i64 p.dst, .int .i64 p.src, .int .i64 p.id, .int .i64 p.line, .int .i64 (0), .int .i64 (0), .bool y3_3.1.dirty, .slice a3_3_00 (List.length y3_3.1.data) c3_3_00], .int .i64 y20_3.1] ((IntsA a3_3_00 c3_3_00 y3_3.1.data) :: (CacheA c y20_3.2) :: Γ) (rs := [.cell 4 40, .tmp 5]) (by kernel_rfl) (.cons (.cell (by kernel_rfl) (retN (off := 0) (vs := [.int .i64 y6_2, .int .i64 p.dst, .int .i64 p.src, .int .i64 p.id, .int .i64 p.line, .int .i64 (0), .int .i64 (0), .bool y3_3.1.dirty, .slice a3_3_00 (List.length y3_3.1.data) c3_3_00]) 9 (fun _ => by kernel_rfl) (holds_own .here) rfl (by exact ⟨rfl, rfl, rfl, rfl, rfl, rfl, rfl, rfl, rfl, trivial⟩))) (.cons (.tmp (by kernel_rfl)) .nil)) (fun w hw => (Sat.less (.take (.there (.there (.there (.there .here)))) (.take (.there .here) (.drop .here (.drop .here (.drop .here (.drop .here .refl)))))) hw)) ?_
     exact ⟨a3_3_00, c3_3_00, rfl, rfl⟩
    ·replace H := bifF H h3
     refine at_false (t := decide (p.kind = (3 : Int))) (x := C33 [1,1,1,1,1,0,1,0,1,0]) (y := C33 [1,1,1,1,1,0,1,0,1,1]) (o := .tmp 47) (by kernel_rfl) (by kernel_rfl) (by kernel_rfl) h3 ?_
     refine aq (x := C33 [1,1,1,1,1,0,1,0,1,1,0]) (y := C33 [1,1,1,1,1,0,1,0,1,1,1]) ?_
     refine ar (id := 12) 2 ?_
     refine sp 61 (.bool (decide (p.kind = (4 : Int)))) ?_
     refine sp 60 (.bool (decide (p.kind = (4 : Int)))) ?_
     refine ops_end ?_
     refine ae [(0, .pointer (some ⟨c, 0, none⟩)), (3, .pointer (some ⟨b0_0, 0, none⟩)), (4, .pointer (some ⟨b0_1, 0, none⟩)), (6, .pointer (some ⟨b3_7, 0, none⟩)), (8, .pointer (some ⟨b6_12, 0, none⟩)), (46, .int .i64 p.kind), (60, .bool (decide (p.kind = (4 : Int))))] ?_
     refine at_then_normal ?_
     rcases Bool.eq_false_or_eq_true (decide (p.kind = (4 : Int))) with h4 | h4
     ·replace H := bifT H h4
      refine at_true (t := decide (p.kind = (4 : Int))) (x := C33 [1,1,1,1,1,0,1,0,1,1,1,0]) (y := C33 [1,1,1,1,1,0,1,0,1,1,1,1]) (o := .tmp 60) (by kernel_rfl) (by kernel_rfl) (by kernel_rfl) h4 ?_
      refine ar (id := 13) 4 ?_
      refine sp 62 (.pointer (some ⟨b3_7, 0, none⟩)) ?_
      refine sp 63 (.pointer (some ⟨b0_0, 5, none⟩)) ?_
      refine sl 64 (.int .i64 p.ptr) (load1 (off := 5) (fun _ => by kernel_rfl) (holds_own (.there (.there (.there (.there (.there .here)))))) (by kernel_rfl)) ?_
      refine s_call 65 55 #[.pointer (some ⟨b3_7, 0, none⟩), .int .i64 p.ptr] (by kernel_rfl) (by kernel_rfl) (fun _ => by kernel_rfl) (Tr.conv (Γ' := (Asn.own b3_7 (.cells #[.int .i64 y3_3.1.fwd, .int .i64 y3_3.1.back, .int .i64 y3_3.1.line, .int .i64 y3_3.1.used, .bool y3_3.1.dirty, .slice a3_3_00 (List.length y3_3.1.data) c3_3_00] 32 (0, 0))) :: (Asn.own b6_12 (.cells #[.int .i64 y6_2, .int .i64 p.dst, .int .i64 p.src, .int .i64 p.id, .int .i64 p.line, .int .i64 (0), .int .i64 (0), .bool false, .slice none 0 0] 40 (0, 0))) :: (IntsA a3_3_00 c3_3_00 y3_3.1.data) :: (CacheA c cc) :: (Asn.own b0_1 (.cells #[.int .i64 (0), .int .i64 (0), .int .i64 (0), .int .i64 (0), .int .i64 (0), .int .i64 (0), .int .i64 (0), .bool false, .slice none 0 0] 40 (0, 0))) :: (Asn.own b0_0 (.cells #[.int .i64 p.kind, .int .i64 p.src, .int .i64 p.dst, .int .i64 p.id, .int .i64 p.line, .int .i64 p.ptr, .int .i64 p.state, .bool p.flag, .slice pa (List.length p.data) pcap] 40 (0, 0))) :: Γ) (fun w hw => Sat.less (.take (.there .here) (.take .here (.take .here (.take .here (.take .here (.take .here .refl)))))) hw) (SetFwd_tr b3_7 32 y3_3.1.fwd y3_3.1.back y3_3.1.line y3_3.1.used y3_3.1.dirty a3_3_00 (List.length y3_3.1.data) c3_3_00 p.ptr)) ?_
      rintro _ _ ⟨rfl, rfl⟩
      refine ops_end ?_
      refine ae [(0, .pointer (some ⟨c, 0, none⟩)), (4, .pointer (some ⟨b0_1, 0, none⟩)), (6, .pointer (some ⟨b3_7, 0, none⟩)), (8, .pointer (some ⟨b6_12, 0, none⟩))] ?_
      refine at_in_normal ?_
      refine at_then_normal ?_
      refine aq (x := C33 [1,1,1,1,1,1,0]) (y := C33 [1,1,1,1,1,1,1]) ?_
      refine at_region_draw (id := 20) (by kernel_rfl) (by kernel_rfl) ?_
      refine dl 0 89 (.agg #[.int .i64 y6_2, .int .i64 p.dst, .int .i64 p.src, .int .i64 p.id, .int .i64 p.line, .int .i64 (0), .int .i64 (0), .bool false, .slice none 0 0]) (loadN (off := 0) (vs := [.int .i64 y6_2, .int .i64 p.dst, .int .i64 p.src, .int .i64 p.id, .int .i64 p.line, .int .i64 (0), .int .i64 (0), .bool false, .slice none 0 0]) 9 (fun _ => by kernel_rfl) (holds_own (.there .here)) rfl (by exact ⟨rfl, rfl, rfl, rfl, rfl, rfl, rfl, rfl, rfl, trivial⟩)) ?_
      refine dp 1 90 (.pointer (some ⟨c, 0, none⟩)) ?_
      refine dl 2 91 (.agg #[.int .i64 p.ptr, .int .i64 y3_3.1.back, .int .i64 y3_3.1.line, .int .i64 y3_3.1.used, .bool y3_3.1.dirty, .slice a3_3_00 (List.length y3_3.1.data) c3_3_00]) (loadN (off := 0) (vs := [.int .i64 p.ptr, .int .i64 y3_3.1.back, .int .i64 y3_3.1.line, .int .i64 y3_3.1.used, .bool y3_3.1.dirty, .slice a3_3_00 (List.length y3_3.1.data) c3_3_00]) 6 (fun _ => by kernel_rfl) (holds_own .here) rfl (by exact ⟨rfl, rfl, rfl, rfl, rfl, rfl, trivial⟩)) ?_
      obtain ⟨y20_3, hy20_3, H⟩ := bindE H
      refine d_call 3 92 [1, 2] [] [0] 14 #[.pointer (some ⟨c, 0, none⟩), .agg #[.int .i64 p.ptr, .int .i64 y3_3.1.back, .int .i64 y3_3.1.line, .int .i64 y3_3.1.used, .bool y3_3.1.dirty, .slice a3_3_00 (List.length y3_3.1.data) c3_3_00]] (by kernel_rfl) (by kernel_rfl) (by kernel_rfl) (fun _ => by kernel_rfl) (Tr.conv (Γ' := (CacheA c cc) :: (Asn.own b3_7 (.cells #[.int .i64 p.ptr, .int .i64 y3_3.1.back, .int .i64 y3_3.1.line, .int .i64 y3_3.1.used, .bool y3_3.1.dirty, .slice a3_3_00 (List.length y3_3.1.data) c3_3_00] 32 (0, 0))) :: (Asn.own b6_12 (.cells #[.int .i64 y6_2, .int .i64 p.dst, .int .i64 p.src, .int .i64 p.id, .int .i64 p.line, .int .i64 (0), .int .i64 (0), .bool false, .slice none 0 0] 40 (0, 0))) :: (IntsA a3_3_00 c3_3_00 y3_3.1.data) :: (Asn.own b0_1 (.cells #[.int .i64 (0), .int .i64 (0), .int .i64 (0), .int .i64 (0), .int .i64 (0), .int .i64 (0), .int .i64 (0), .bool false, .slice none 0 0] 40 (0, 0))) :: (Asn.own b0_0 (.cells #[.int .i64 p.kind, .int .i64 p.src, .int .i64 p.dst, .int .i64 p.id, .int .i64 p.line, .int .i64 p.ptr, .int .i64 p.state, .bool p.flag, .slice pa (List.length p.data) pcap] 40 (0, 0))) :: Γ) (fun w hw => (Sat.less (.take (.there (.there (.there .here))) (.take .here (.take .here (.take .here (.take .here (.take .here .refl)))))) hw)) (PutF_tr c cc a3_3_00 c3_3_00 (⟨p.ptr, y3_3.1.back, y3_3.1.line, y3_3.1.used, y3_3.1.dirty, y3_3.1.data⟩ : Ent) (RowsA.reads (k := 1) (.there (.there .here))) y20_3 hy20_3)) ?_
      rintro _ _ ⟨rfl, rfl⟩
      refine ⟨(stable_cons 0 89 (.agg #[.int .i64 y6_2, .int .i64 p.dst, .int .i64 p.src, .int .i64 p.id, .int .i64 p.line, .int .i64 (0), .int .i64 (0), .bool false, .slice none 0 0]) (by kernel_rfl) (by kernel_rfl) (by kernel_rfl) (loadN (off := 0) (vs := [.int .i64 y6_2, .int .i64 p.dst, .int .i64 p.src, .int .i64 p.id, .int .i64 p.line, .int .i64 (0), .int .i64 (0), .bool false, .slice none 0 0]) 9 (fun _ => by kernel_rfl) (holds_own (.there (.there .here))) rfl (by exact ⟨rfl, rfl, rfl, rfl, rfl, rfl, rfl, rfl, rfl, trivial⟩)) stable_nil), ?_⟩
      refine d_do 4 [0, 3, 1, 2] [] [] (by kernel_rfl) (by kernel_rfl) (by kernel_rfl) (st_store (off := 0) (vs := [.int .i64 y6_2, .int .i64 p.dst, .int .i64 p.src, .int .i64 p.id, .int .i64 p.line, .int .i64 (0), .int .i64 (0), .bool false, .slice none 0 0]) (c' := #[.int .i64 y6_2, .int .i64 p.dst, .int .i64 p.src, .int .i64 p.id, .int .i64 p.line, .int .i64 (0), .int .i64 (0), .bool false, .slice none 0 0]) (fun _ => by kernel_rfl) (.there (.there (.there (.there .here)))) (by kernel_rfl) (by kernel_rfl) (by kernel_rfl)) ?_
      rintro _ _ ⟨rfl, rfl⟩
      refine ⟨stable_nil, ?_⟩
      refine dp 5 5 (.int .i64 y20_3.1) ?_
      refine draw_end (by kernel_rfl) ?_
      refine ae [(4, .pointer (some ⟨b0_1, 0, none⟩)), (5, .int .i64 y20_3.1)] ?_
      refine at_then_normal ?_
      refine at_ret (by kernel_rfl) ?_
      obtain rfl := someE H
      refine at_backR [.agg #[.int .i64 y6_2, .int .i64 p.dst, .int .i64 p.src, .int .i64 p.id, .int .i64 p.line, .int .i64 (0), .int .i64 (0), .bool false, .slice none 0 0], .int .i64 y20_3.1] ((IntsA none 0 ([] : List Int)) :: (CacheA c y20_3.2) :: Γ) (rs := [.cell 4 40, .tmp 5]) (by kernel_rfl) (.cons (.cell (by kernel_rfl) (retN (off := 0) (vs := [.int .i64 y6_2, .int .i64 p.dst, .int .i64 p.src, .int .i64 p.id, .int .i64 p.line, .int .i64 (0), .int .i64 (0), .bool false, .slice none 0 0]) 9 (fun _ => by kernel_rfl) (holds_own .here) rfl (by exact ⟨rfl, rfl, rfl, rfl, rfl, rfl, rfl, rfl, rfl, trivial⟩))) (.cons (.tmp (by kernel_rfl)) .nil)) (fun w hw => (Sat.less (.take .here (.take (.there .here) (.drop .here (.drop .here (.drop .here (.drop .here (.drop .here .refl))))))) (RowsA.none_mk (k := 1) (a := none) hw))) ?_
      exact ⟨none, 0, rfl, rfl⟩
     ·replace H := bifF H h4
      refine at_false (t := decide (p.kind = (4 : Int))) (x := C33 [1,1,1,1,1,0,1,0,1,1,1,0]) (y := C33 [1,1,1,1,1,0,1,0,1,1,1,1]) (o := .tmp 60) (by kernel_rfl) (by kernel_rfl) (by kernel_rfl) h4 ?_
      refine aq (x := C33 [1,1,1,1,1,0,1,0,1,1,1,1,0]) (y := C33 [1,1,1,1,1,0,1,0,1,1,1,1,1]) ?_
      refine ar (id := 14) 2 ?_
      refine sp 67 (.bool (decide (p.kind = (5 : Int)))) ?_
      refine sp 66 (.bool (decide (p.kind = (5 : Int)))) ?_
      refine ops_end ?_
      refine ae [(0, .pointer (some ⟨c, 0, none⟩)), (3, .pointer (some ⟨b0_0, 0, none⟩)), (4, .pointer (some ⟨b0_1, 0, none⟩)), (6, .pointer (some ⟨b3_7, 0, none⟩)), (8, .pointer (some ⟨b6_12, 0, none⟩)), (46, .int .i64 p.kind), (66, .bool (decide (p.kind = (5 : Int))))] ?_
      refine at_then_normal ?_
      rcases Bool.eq_false_or_eq_true (decide (p.kind = (5 : Int))) with h5 | h5
      ·replace H := bifT H h5
       refine at_true (t := decide (p.kind = (5 : Int))) (x := C33 [1,1,1,1,1,0,1,0,1,1,1,1,1,0]) (y := C33 [1,1,1,1,1,0,1,0,1,1,1,1,1,1]) (o := .tmp 66) (by kernel_rfl) (by kernel_rfl) (by kernel_rfl) h5 ?_
       refine ar (id := 15) 4 ?_
       refine sp 68 (.pointer (some ⟨b3_7, 0, none⟩)) ?_
       refine sp 69 (.pointer (some ⟨b0_0, 5, none⟩)) ?_
       refine sl 70 (.int .i64 p.ptr) (load1 (off := 5) (fun _ => by kernel_rfl) (holds_own (.there (.there (.there (.there (.there .here)))))) (by kernel_rfl)) ?_
       refine s_call 71 54 #[.pointer (some ⟨b3_7, 0, none⟩), .int .i64 p.ptr] (by kernel_rfl) (by kernel_rfl) (fun _ => by kernel_rfl) (Tr.conv (Γ' := (Asn.own b3_7 (.cells #[.int .i64 y3_3.1.fwd, .int .i64 y3_3.1.back, .int .i64 y3_3.1.line, .int .i64 y3_3.1.used, .bool y3_3.1.dirty, .slice a3_3_00 (List.length y3_3.1.data) c3_3_00] 32 (0, 0))) :: (Asn.own b6_12 (.cells #[.int .i64 y6_2, .int .i64 p.dst, .int .i64 p.src, .int .i64 p.id, .int .i64 p.line, .int .i64 (0), .int .i64 (0), .bool false, .slice none 0 0] 40 (0, 0))) :: (IntsA a3_3_00 c3_3_00 y3_3.1.data) :: (CacheA c cc) :: (Asn.own b0_1 (.cells #[.int .i64 (0), .int .i64 (0), .int .i64 (0), .int .i64 (0), .int .i64 (0), .int .i64 (0), .int .i64 (0), .bool false, .slice none 0 0] 40 (0, 0))) :: (Asn.own b0_0 (.cells #[.int .i64 p.kind, .int .i64 p.src, .int .i64 p.dst, .int .i64 p.id, .int .i64 p.line, .int .i64 p.ptr, .int .i64 p.state, .bool p.flag, .slice pa (List.length p.data) pcap] 40 (0, 0))) :: Γ) (fun w hw => Sat.less (.take (.there .here) (.take .here (.take .here (.take .here (.take .here (.take .here .refl)))))) hw) (SetBack_tr b3_7 32 y3_3.1.fwd y3_3.1.back y3_3.1.line y3_3.1.used y3_3.1.dirty a3_3_00 (List.length y3_3.1.data) c3_3_00 p.ptr)) ?_
       rintro _ _ ⟨rfl, rfl⟩
       refine ops_end ?_
       refine ae [(0, .pointer (some ⟨c, 0, none⟩)), (4, .pointer (some ⟨b0_1, 0, none⟩)), (6, .pointer (some ⟨b3_7, 0, none⟩)), (8, .pointer (some ⟨b6_12, 0, none⟩))] ?_
       refine at_in_normal ?_
       refine at_then_normal ?_
       refine aq (x := C33 [1,1,1,1,1,1,0]) (y := C33 [1,1,1,1,1,1,1]) ?_
       refine at_region_draw (id := 20) (by kernel_rfl) (by kernel_rfl) ?_
       refine dl 0 89 (.agg #[.int .i64 y6_2, .int .i64 p.dst, .int .i64 p.src, .int .i64 p.id, .int .i64 p.line, .int .i64 (0), .int .i64 (0), .bool false, .slice none 0 0]) (loadN (off := 0) (vs := [.int .i64 y6_2, .int .i64 p.dst, .int .i64 p.src, .int .i64 p.id, .int .i64 p.line, .int .i64 (0), .int .i64 (0), .bool false, .slice none 0 0]) 9 (fun _ => by kernel_rfl) (holds_own (.there .here)) rfl (by exact ⟨rfl, rfl, rfl, rfl, rfl, rfl, rfl, rfl, rfl, trivial⟩)) ?_
       refine dp 1 90 (.pointer (some ⟨c, 0, none⟩)) ?_
       refine dl 2 91 (.agg #[.int .i64 y3_3.1.fwd, .int .i64 p.ptr, .int .i64 y3_3.1.line, .int .i64 y3_3.1.used, .bool y3_3.1.dirty, .slice a3_3_00 (List.length y3_3.1.data) c3_3_00]) (loadN (off := 0) (vs := [.int .i64 y3_3.1.fwd, .int .i64 p.ptr, .int .i64 y3_3.1.line, .int .i64 y3_3.1.used, .bool y3_3.1.dirty, .slice a3_3_00 (List.length y3_3.1.data) c3_3_00]) 6 (fun _ => by kernel_rfl) (holds_own .here) rfl (by exact ⟨rfl, rfl, rfl, rfl, rfl, rfl, trivial⟩)) ?_
       obtain ⟨y20_3, hy20_3, H⟩ := bindE H
       refine d_call 3 92 [1, 2] [] [0] 14 #[.pointer (some ⟨c, 0, none⟩), .agg #[.int .i64 y3_3.1.fwd, .int .i64 p.ptr, .int .i64 y3_3.1.line, .int .i64 y3_3.1.used, .bool y3_3.1.dirty, .slice a3_3_00 (List.length y3_3.1.data) c3_3_00]] (by kernel_rfl) (by kernel_rfl) (by kernel_rfl) (fun _ => by kernel_rfl) (Tr.conv (Γ' := (CacheA c cc) :: (Asn.own b3_7 (.cells #[.int .i64 y3_3.1.fwd, .int .i64 p.ptr, .int .i64 y3_3.1.line, .int .i64 y3_3.1.used, .bool y3_3.1.dirty, .slice a3_3_00 (List.length y3_3.1.data) c3_3_00] 32 (0, 0))) :: (Asn.own b6_12 (.cells #[.int .i64 y6_2, .int .i64 p.dst, .int .i64 p.src, .int .i64 p.id, .int .i64 p.line, .int .i64 (0), .int .i64 (0), .bool false, .slice none 0 0] 40 (0, 0))) :: (IntsA a3_3_00 c3_3_00 y3_3.1.data) :: (Asn.own b0_1 (.cells #[.int .i64 (0), .int .i64 (0), .int .i64 (0), .int .i64 (0), .int .i64 (0), .int .i64 (0), .int .i64 (0), .bool false, .slice none 0 0] 40 (0, 0))) :: (Asn.own b0_0 (.cells #[.int .i64 p.kind, .int .i64 p.src, .int .i64 p.dst, .int .i64 p.id, .int .i64 p.line, .int .i64 p.ptr, .int .i64 p.state, .bool p.flag, .slice pa (List.length p.data) pcap] 40 (0, 0))) :: Γ) (fun w hw => (Sat.less (.take (.there (.there (.there .here))) (.take .here (.take .here (.take .here (.take .here (.take .here .refl)))))) hw)) (PutF_tr c cc a3_3_00 c3_3_00 (⟨y3_3.1.fwd, p.ptr, y3_3.1.line, y3_3.1.used, y3_3.1.dirty, y3_3.1.data⟩ : Ent) (RowsA.reads (k := 1) (.there (.there .here))) y20_3 hy20_3)) ?_
       rintro _ _ ⟨rfl, rfl⟩
       refine ⟨(stable_cons 0 89 (.agg #[.int .i64 y6_2, .int .i64 p.dst, .int .i64 p.src, .int .i64 p.id, .int .i64 p.line, .int .i64 (0), .int .i64 (0), .bool false, .slice none 0 0]) (by kernel_rfl) (by kernel_rfl) (by kernel_rfl) (loadN (off := 0) (vs := [.int .i64 y6_2, .int .i64 p.dst, .int .i64 p.src, .int .i64 p.id, .int .i64 p.line, .int .i64 (0), .int .i64 (0), .bool false, .slice none 0 0]) 9 (fun _ => by kernel_rfl) (holds_own (.there (.there .here))) rfl (by exact ⟨rfl, rfl, rfl, rfl, rfl, rfl, rfl, rfl, rfl, trivial⟩)) stable_nil), ?_⟩
       refine d_do 4 [0, 3, 1, 2] [] [] (by kernel_rfl) (by kernel_rfl) (by kernel_rfl) (st_store (off := 0) (vs := [.int .i64 y6_2, .int .i64 p.dst, .int .i64 p.src, .int .i64 p.id, .int .i64 p.line, .int .i64 (0), .int .i64 (0), .bool false, .slice none 0 0]) (c' := #[.int .i64 y6_2, .int .i64 p.dst, .int .i64 p.src, .int .i64 p.id, .int .i64 p.line, .int .i64 (0), .int .i64 (0), .bool false, .slice none 0 0]) (fun _ => by kernel_rfl) (.there (.there (.there (.there .here)))) (by kernel_rfl) (by kernel_rfl) (by kernel_rfl)) ?_
       rintro _ _ ⟨rfl, rfl⟩
       refine ⟨stable_nil, ?_⟩
       refine dp 5 5 (.int .i64 y20_3.1) ?_
       refine draw_end (by kernel_rfl) ?_
       refine ae [(4, .pointer (some ⟨b0_1, 0, none⟩)), (5, .int .i64 y20_3.1)] ?_
       refine at_then_normal ?_
       refine at_ret (by kernel_rfl) ?_
       obtain rfl := someE H
       refine at_backR [.agg #[.int .i64 y6_2, .int .i64 p.dst, .int .i64 p.src, .int .i64 p.id, .int .i64 p.line, .int .i64 (0), .int .i64 (0), .bool false, .slice none 0 0], .int .i64 y20_3.1] ((IntsA none 0 ([] : List Int)) :: (CacheA c y20_3.2) :: Γ) (rs := [.cell 4 40, .tmp 5]) (by kernel_rfl) (.cons (.cell (by kernel_rfl) (retN (off := 0) (vs := [.int .i64 y6_2, .int .i64 p.dst, .int .i64 p.src, .int .i64 p.id, .int .i64 p.line, .int .i64 (0), .int .i64 (0), .bool false, .slice none 0 0]) 9 (fun _ => by kernel_rfl) (holds_own .here) rfl (by exact ⟨rfl, rfl, rfl, rfl, rfl, rfl, rfl, rfl, rfl, trivial⟩))) (.cons (.tmp (by kernel_rfl)) .nil)) (fun w hw => (Sat.less (.take .here (.take (.there .here) (.drop .here (.drop .here (.drop .here (.drop .here (.drop .here .refl))))))) (RowsA.none_mk (k := 1) (a := none) hw))) ?_
       exact ⟨none, 0, rfl, rfl⟩
      ·replace H := bifF H h5
       refine at_false (t := decide (p.kind = (5 : Int))) (x := C33 [1,1,1,1,1,0,1,0,1,1,1,1,1,0]) (y := C33 [1,1,1,1,1,0,1,0,1,1,1,1,1,1]) (o := .tmp 66) (by kernel_rfl) (by kernel_rfl) (by kernel_rfl) h5 ?_
       refine aq (x := C33 [1,1,1,1,1,0,1,0,1,1,1,1,1,1,0]) (y := C33 [1,1,1,1,1,0,1,0,1,1,1,1,1,1,1]) ?_
       refine ar (id := 16) 2 ?_
       refine sp 73 (.bool (decide (p.kind = (6 : Int)))) ?_
       refine sp 72 (.bool (decide (p.kind = (6 : Int)))) ?_
       refine ops_end ?_
       refine ae [(0, .pointer (some ⟨c, 0, none⟩)), (3, .pointer (some ⟨b0_0, 0, none⟩)), (4, .pointer (some ⟨b0_1, 0, none⟩)), (6, .pointer (some ⟨b3_7, 0, none⟩)), (8, .pointer (some ⟨b6_12, 0, none⟩)), (72, .bool (decide (p.kind = (6 : Int))))] ?_
       refine at_then_normal ?_
       rcases Bool.eq_false_or_eq_true (decide (p.kind = (6 : Int))) with h6 | h6
       ·replace H := bifT H h6
        refine at_true (t := decide (p.kind = (6 : Int))) (x := C33 [1,1,1,1,1,0,1,0,1,1,1,1,1,1,1,0]) (y := C33 [1,1,1,1,1,0,1,0,1,1,1,1,1,1,1,1]) (o := .tmp 72) (by kernel_rfl) (by kernel_rfl) (by kernel_rfl) h6 ?_
        refine aq (x := C33 [1,1,1,1,1,0,1,0,1,1,1,1,1,1,1,0,0]) (y := C33 [1,1,1,1,1,0,1,0,1,1,1,1,1,1,1,0,1]) ?_
        refine at_region_draw (id := 17) (by kernel_rfl) (by kernel_rfl) ?_
        refine dp 0 74 (.pointer (some ⟨b3_7, 5, none⟩)) ?_
        refine dl 1 75 (.slice a3_3_00 (List.length y3_3.1.data) c3_3_00) (load1 (off := 5) (fun _ => by kernel_rfl) (holds_own (.there .here)) (by kernel_rfl)) ?_
        refine dp 2 76 (.pointer (some ⟨b3_7, 4, none⟩)) ?_
        refine dl 3 77 (.bool y3_3.1.dirty) (load1 (off := 4) (fun _ => by kernel_rfl) (holds_own (.there .here)) (by kernel_rfl)) ?_
        refine dp 4 78 (.pointer (some ⟨b3_7, 0, none⟩)) ?_
        refine dp 5 79 (.pointer (some ⟨b3_7, 0, none⟩)) ?_
        refine dl 6 80 (.int .i64 y3_3.1.fwd) (load1 (off := 0) (fun _ => by kernel_rfl) (holds_own (.there .here)) (by kernel_rfl)) ?_
        refine dp 7 81 (.pointer (some ⟨b6_12, 8, none⟩)) ?_
        refine d_do 8 [7, 1, 0] [5, 4, 2] [6, 3] (by kernel_rfl) (by kernel_rfl) (by kernel_rfl) (st_store (off := 8) (vs := [.slice a3_3_00 (List.length y3_3.1.data) c3_3_00]) (c' := #[.int .i64 y6_2, .int .i64 p.dst, .int .i64 p.src, .int .i64 p.id, .int .i64 p.line, .int .i64 (0), .int .i64 (0), .bool false, .slice a3_3_00 (List.length y3_3.1.data) c3_3_00]) (fun _ => by kernel_rfl) .here (by kernel_rfl) (by kernel_rfl) (by kernel_rfl)) ?_
        rintro _ _ ⟨rfl, rfl⟩
        refine ⟨(stable_cons 6 80 (.int .i64 y3_3.1.fwd) (by kernel_rfl) (by kernel_rfl) (by kernel_rfl) (load1 (off := 0) (fun _ => by kernel_rfl) (holds_own (.there .here)) (by kernel_rfl)) (stable_cons 3 77 (.bool y3_3.1.dirty) (by kernel_rfl) (by kernel_rfl) (by kernel_rfl) (load1 (off := 4) (fun _ => by kernel_rfl) (holds_own (.there .here)) (by kernel_rfl)) stable_nil)), ?_⟩
        refine dp 9 82 (.pointer (some ⟨b6_12, 7, none⟩)) ?_
        refine d_do 10 [9, 3, 8, 0, 1, 2, 7] [5, 4] [6] (by kernel_rfl) (by kernel_rfl) (by kernel_rfl) (st_store (off := 7) (vs := [.bool y3_3.1.dirty]) (c' := #[.int .i64 y6_2, .int .i64 p.dst, .int .i64 p.src, .int .i64 p.id, .int .i64 p.line, .int .i64 (0), .int .i64 (0), .bool y3_3.1.dirty, .slice a3_3_00 (List.length y3_3.1.data) c3_3_00]) (fun _ => by kernel_rfl) .here (by kernel_rfl) (by kernel_rfl) (by kernel_rfl)) ?_
        rintro _ _ ⟨rfl, rfl⟩
        refine ⟨(stable_cons 6 80 (.int .i64 y3_3.1.fwd) (by kernel_rfl) (by kernel_rfl) (by kernel_rfl) (load1 (off := 0) (fun _ => by kernel_rfl) (holds_own (.there .here)) (by kernel_rfl)) stable_nil), ?_⟩
        refine dp 11 83 (.pointer (some ⟨b6_12, 5, none⟩)) ?_
        refine d_do 12 [11, 6, 10, 0, 1, 2, 3, 4, 5, 7, 8, 9] [] [] (by kernel_rfl) (by kernel_rfl) (by kernel_rfl) (st_store (off := 5) (vs := [.int .i64 y3_3.1.fwd]) (c' := #[.int .i64 y6_2, .int .i64 p.dst, .int .i64 p.src, .int .i64 p.id, .int .i64 p.line, .int .i64 y3_3.1.fwd, .int .i64 (0), .bool y3_3.1.dirty, .slice a3_3_00 (List.length y3_3.1.data) c3_3_00]) (fun _ => by kernel_rfl) .here (by kernel_rfl) (by kernel_rfl) (by kernel_rfl)) ?_
        rintro _ _ ⟨rfl, rfl⟩
        refine ⟨stable_nil, ?_⟩
        refine draw_end (by kernel_rfl) ?_
        refine ae [(0, .pointer (some ⟨c, 0, none⟩)), (3, .pointer (some ⟨b0_0, 0, none⟩)), (4, .pointer (some ⟨b0_1, 0, none⟩)), (8, .pointer (some ⟨b6_12, 0, none⟩))] ?_
        refine at_then_normal ?_
        refine aq (x := C33 [1,1,1,1,1,0,1,0,1,1,1,1,1,1,1,0,1,0]) (y := C33 [1,1,1,1,1,0,1,0,1,1,1,1,1,1,1,0,1,1]) ?_
        refine ar (id := 18) 4 ?_
        refine sp 84 (.pointer (some ⟨c, 0, none⟩)) ?_
        refine sp 85 (.pointer (some ⟨b0_0, 4, none⟩)) ?_
        refine sl 86 (.int .i64 p.line) (load1 (off := 4) (fun _ => by kernel_rfl) (holds_own (.there (.there (.there (.there (.there .here)))))) (by kernel_rfl)) ?_
        obtain ⟨y18_3, hy18_3, H⟩ := bindE H
        refine s_call 87 56 #[.pointer (some ⟨c, 0, none⟩), .int .i64 p.line] (by kernel_rfl) (by kernel_rfl) (fun _ => by kernel_rfl) (Tr.conv (Γ' := (CacheA c cc) :: (Asn.own b6_12 (.cells #[.int .i64 y6_2, .int .i64 p.dst, .int .i64 p.src, .int .i64 p.id, .int .i64 p.line, .int .i64 y3_3.1.fwd, .int .i64 (0), .bool y3_3.1.dirty, .slice a3_3_00 (List.length y3_3.1.data) c3_3_00] 40 (0, 0))) :: (Asn.own b3_7 (.cells #[.int .i64 y3_3.1.fwd, .int .i64 y3_3.1.back, .int .i64 y3_3.1.line, .int .i64 y3_3.1.used, .bool y3_3.1.dirty, .slice a3_3_00 (List.length y3_3.1.data) c3_3_00] 32 (0, 0))) :: (IntsA a3_3_00 c3_3_00 y3_3.1.data) :: (Asn.own b0_1 (.cells #[.int .i64 (0), .int .i64 (0), .int .i64 (0), .int .i64 (0), .int .i64 (0), .int .i64 (0), .int .i64 (0), .bool false, .slice none 0 0] 40 (0, 0))) :: (Asn.own b0_0 (.cells #[.int .i64 p.kind, .int .i64 p.src, .int .i64 p.dst, .int .i64 p.id, .int .i64 p.line, .int .i64 p.ptr, .int .i64 p.state, .bool p.flag, .slice pa (List.length p.data) pcap] 40 (0, 0))) :: Γ) (fun w hw => (Sat.less (.take (.there (.there (.there .here))) (.take .here (.take .here (.take .here (.take .here (.take .here .refl)))))) hw)) (DropF_tr c cc p.line y18_3 hy18_3)) ?_
        rintro _ _ ⟨a18_3_00, c18_3_00, rfl, rfl⟩
        refine ops_end ?_
        refine ae [(4, .pointer (some ⟨b0_1, 0, none⟩)), (8, .pointer (some ⟨b6_12, 0, none⟩))] ?_
        refine at_then_normal ?_
        refine aq (x := C33 [1,1,1,1,1,0,1,0,1,1,1,1,1,1,1,0,1,1,0]) (y := C33 [1,1,1,1,1,0,1,0,1,1,1,1,1,1,1,0,1,1,1]) ?_
        refine ar (id := 19) 3 ?_
        refine sl 88 (.agg #[.int .i64 y6_2, .int .i64 p.dst, .int .i64 p.src, .int .i64 p.id, .int .i64 p.line, .int .i64 y3_3.1.fwd, .int .i64 (0), .bool y3_3.1.dirty, .slice a3_3_00 (List.length y3_3.1.data) c3_3_00]) (loadN (off := 0) (vs := [.int .i64 y6_2, .int .i64 p.dst, .int .i64 p.src, .int .i64 p.id, .int .i64 p.line, .int .i64 y3_3.1.fwd, .int .i64 (0), .bool y3_3.1.dirty, .slice a3_3_00 (List.length y3_3.1.data) c3_3_00]) 9 (fun _ => by kernel_rfl) (holds_own (.there (.there .here))) rfl (by exact ⟨rfl, rfl, rfl, rfl, rfl, rfl, rfl, rfl, rfl, trivial⟩)) ?_
        refine s_do (by kernel_rfl) (by kernel_rfl) (st_store (off := 0) (vs := [.int .i64 y6_2, .int .i64 p.dst, .int .i64 p.src, .int .i64 p.id, .int .i64 p.line, .int .i64 y3_3.1.fwd, .int .i64 (0), .bool y3_3.1.dirty, .slice a3_3_00 (List.length y3_3.1.data) c3_3_00]) (c' := #[.int .i64 y6_2, .int .i64 p.dst, .int .i64 p.src, .int .i64 p.id, .int .i64 p.line, .int .i64 y3_3.1.fwd, .int .i64 (0), .bool y3_3.1.dirty, .slice a3_3_00 (List.length y3_3.1.data) c3_3_00]) (fun _ => by kernel_rfl) (.there (.there (.there (.there (.there .here))))) (by kernel_rfl) (by kernel_rfl) (by kernel_rfl)) ?_
        rintro _ _ ⟨rfl, rfl⟩
        refine sp 5 (.int .i64 (0)) ?_
        refine ops_end ?_
        refine ae [(4, .pointer (some ⟨b0_1, 0, none⟩)), (5, .int .i64 (0))] ?_
        refine at_then_normal ?_
        refine at_ret (by kernel_rfl) ?_
        refine at_in_ret ?_
        refine at_then_ret ?_
        obtain rfl := someE H
        refine at_backR [.agg #[.int .i64 y6_2, .int .i64 p.dst, .int .i64 p.src, .int .i64 p.id, .int .i64 p.line, .int .i64 y3_3.1.fwd, .int .i64 (0), .bool y3_3.1.dirty, .slice a3_3_00 (List.length y3_3.1.data) c3_3_00], .int .i64 (0)] ((IntsA a3_3_00 c3_3_00 y3_3.1.data) :: (CacheA c y18_3.2.2) :: Γ) (rs := [.cell 4 40, .tmp 5]) (by kernel_rfl) (.cons (.cell (by kernel_rfl) (retN (off := 0) (vs := [.int .i64 y6_2, .int .i64 p.dst, .int .i64 p.src, .int .i64 p.id, .int .i64 p.line, .int .i64 y3_3.1.fwd, .int .i64 (0), .bool y3_3.1.dirty, .slice a3_3_00 (List.length y3_3.1.data) c3_3_00]) 9 (fun _ => by kernel_rfl) (holds_own .here) rfl (by exact ⟨rfl, rfl, rfl, rfl, rfl, rfl, rfl, rfl, rfl, trivial⟩))) (.cons (.tmp (by kernel_rfl)) .nil)) (fun w hw => (Sat.less (.take (.there (.there (.there (.there (.there .here))))) (.take (.there (.there .here)) (.drop .here (.drop .here (.drop .here (.drop .here (.drop .here .refl))))))) hw)) ?_
        exact ⟨a3_3_00, c3_3_00, rfl, rfl⟩
       ·replace H := bifF H h6
        refine at_false (t := decide (p.kind = (6 : Int))) (x := C33 [1,1,1,1,1,0,1,0,1,1,1,1,1,1,1,0]) (y := C33 [1,1,1,1,1,0,1,0,1,1,1,1,1,1,1,1]) (o := .tmp 72) (by kernel_rfl) (by kernel_rfl) (by kernel_rfl) h6 ?_
        refine at_skip (by kernel_rfl) ?_
        refine at_in_normal ?_
        refine at_then_normal ?_
        refine aq (x := C33 [1,1,1,1,1,1,0]) (y := C33 [1,1,1,1,1,1,1]) ?_
        refine at_region_draw (id := 20) (by kernel_rfl) (by kernel_rfl) ?_
        refine dl 0 89 (.agg #[.int .i64 y6_2, .int .i64 p.dst, .int .i64 p.src, .int .i64 p.id, .int .i64 p.line, .int .i64 (0), .int .i64 (0), .bool false, .slice none 0 0]) (loadN (off := 0) (vs := [.int .i64 y6_2, .int .i64 p.dst, .int .i64 p.src, .int .i64 p.id, .int .i64 p.line, .int .i64 (0), .int .i64 (0), .bool false, .slice none 0 0]) 9 (fun _ => by kernel_rfl) (holds_own .here) rfl (by exact ⟨rfl, rfl, rfl, rfl, rfl, rfl, rfl, rfl, rfl, trivial⟩)) ?_
        refine dp 1 90 (.pointer (some ⟨c, 0, none⟩)) ?_
        refine dl 2 91 (.agg #[.int .i64 y3_3.1.fwd, .int .i64 y3_3.1.back, .int .i64 y3_3.1.line, .int .i64 y3_3.1.used, .bool y3_3.1.dirty, .slice a3_3_00 (List.length y3_3.1.data) c3_3_00]) (loadN (off := 0) (vs := [.int .i64 y3_3.1.fwd, .int .i64 y3_3.1.back, .int .i64 y3_3.1.line, .int .i64 y3_3.1.used, .bool y3_3.1.dirty, .slice a3_3_00 (List.length y3_3.1.data) c3_3_00]) 6 (fun _ => by kernel_rfl) (holds_own (.there .here)) rfl (by exact ⟨rfl, rfl, rfl, rfl, rfl, rfl, trivial⟩)) ?_
        obtain ⟨y20_3, hy20_3, H⟩ := bindE H
        refine d_call 3 92 [1, 2] [] [0] 14 #[.pointer (some ⟨c, 0, none⟩), .agg #[.int .i64 y3_3.1.fwd, .int .i64 y3_3.1.back, .int .i64 y3_3.1.line, .int .i64 y3_3.1.used, .bool y3_3.1.dirty, .slice a3_3_00 (List.length y3_3.1.data) c3_3_00]] (by kernel_rfl) (by kernel_rfl) (by kernel_rfl) (fun _ => by kernel_rfl) (Tr.conv (Γ' := (CacheA c cc) :: (Asn.own b6_12 (.cells #[.int .i64 y6_2, .int .i64 p.dst, .int .i64 p.src, .int .i64 p.id, .int .i64 p.line, .int .i64 (0), .int .i64 (0), .bool false, .slice none 0 0] 40 (0, 0))) :: (Asn.own b3_7 (.cells #[.int .i64 y3_3.1.fwd, .int .i64 y3_3.1.back, .int .i64 y3_3.1.line, .int .i64 y3_3.1.used, .bool y3_3.1.dirty, .slice a3_3_00 (List.length y3_3.1.data) c3_3_00] 32 (0, 0))) :: (IntsA a3_3_00 c3_3_00 y3_3.1.data) :: (Asn.own b0_1 (.cells #[.int .i64 (0), .int .i64 (0), .int .i64 (0), .int .i64 (0), .int .i64 (0), .int .i64 (0), .int .i64 (0), .bool false, .slice none 0 0] 40 (0, 0))) :: (Asn.own b0_0 (.cells #[.int .i64 p.kind, .int .i64 p.src, .int .i64 p.dst, .int .i64 p.id, .int .i64 p.line, .int .i64 p.ptr, .int .i64 p.state, .bool p.flag, .slice pa (List.length p.data) pcap] 40 (0, 0))) :: Γ) (fun w hw => (Sat.less (.take (.there (.there (.there .here))) (.take .here (.take .here (.take .here (.take .here (.take .here .refl)))))) hw)) (PutF_tr c cc a3_3_00 c3_3_00 y3_3.1 (RowsA.reads (k := 1) (.there (.there .here))) y20_3 hy20_3)) ?_
        rintro _ _ ⟨rfl, rfl⟩
        refine ⟨(stable_cons 0 89 (.agg #[.int .i64 y6_2, .int .i64 p.dst, .int .i64 p.src, .int .i64 p.id, .int .i64 p.line, .int .i64 (0), .int .i64 (0), .bool false, .slice none 0 0]) (by kernel_rfl) (by kernel_rfl) (by kernel_rfl) (loadN (off := 0) (vs := [.int .i64 y6_2, .int .i64 p.dst, .int .i64 p.src, .int .i64 p.id, .int .i64 p.line, .int .i64 (0), .int .i64 (0), .bool false, .slice none 0 0]) 9 (fun _ => by kernel_rfl) (holds_own (.there .here)) rfl (by exact ⟨rfl, rfl, rfl, rfl, rfl, rfl, rfl, rfl, rfl, trivial⟩)) stable_nil), ?_⟩
        refine d_do 4 [0, 3, 1, 2] [] [] (by kernel_rfl) (by kernel_rfl) (by kernel_rfl) (st_store (off := 0) (vs := [.int .i64 y6_2, .int .i64 p.dst, .int .i64 p.src, .int .i64 p.id, .int .i64 p.line, .int .i64 (0), .int .i64 (0), .bool false, .slice none 0 0]) (c' := #[.int .i64 y6_2, .int .i64 p.dst, .int .i64 p.src, .int .i64 p.id, .int .i64 p.line, .int .i64 (0), .int .i64 (0), .bool false, .slice none 0 0]) (fun _ => by kernel_rfl) (.there (.there (.there (.there .here)))) (by kernel_rfl) (by kernel_rfl) (by kernel_rfl)) ?_
        rintro _ _ ⟨rfl, rfl⟩
        refine ⟨stable_nil, ?_⟩
        refine dp 5 5 (.int .i64 y20_3.1) ?_
        refine draw_end (by kernel_rfl) ?_
        refine ae [(4, .pointer (some ⟨b0_1, 0, none⟩)), (5, .int .i64 y20_3.1)] ?_
        refine at_then_normal ?_
        refine at_ret (by kernel_rfl) ?_
        obtain rfl := someE H
        refine at_backR [.agg #[.int .i64 y6_2, .int .i64 p.dst, .int .i64 p.src, .int .i64 p.id, .int .i64 p.line, .int .i64 (0), .int .i64 (0), .bool false, .slice none 0 0], .int .i64 y20_3.1] ((IntsA none 0 ([] : List Int)) :: (CacheA c y20_3.2) :: Γ) (rs := [.cell 4 40, .tmp 5]) (by kernel_rfl) (.cons (.cell (by kernel_rfl) (retN (off := 0) (vs := [.int .i64 y6_2, .int .i64 p.dst, .int .i64 p.src, .int .i64 p.id, .int .i64 p.line, .int .i64 (0), .int .i64 (0), .bool false, .slice none 0 0]) 9 (fun _ => by kernel_rfl) (holds_own .here) rfl (by exact ⟨rfl, rfl, rfl, rfl, rfl, rfl, rfl, rfl, rfl, trivial⟩))) (.cons (.tmp (by kernel_rfl)) .nil)) (fun w hw => (Sat.less (.take .here (.take (.there .here) (.drop .here (.drop .here (.drop .here (.drop .here (.drop .here .refl))))))) (RowsA.none_mk (k := 1) (a := none) hw))) ?_
        exact ⟨none, 0, rfl, rfl⟩
 ·refine ar (id := 1) 13 ?_
  refine sl 9 (.agg #[.int .i64 p.kind, .int .i64 p.src, .int .i64 p.dst, .int .i64 p.id, .int .i64 p.line, .int .i64 p.ptr, .int .i64 p.state, .bool p.flag, .slice pa (List.length p.data) pcap]) (loadN (off := 0) (vs := [.int .i64 p.kind, .int .i64 p.src, .int .i64 p.dst, .int .i64 p.id, .int .i64 p.line, .int .i64 p.ptr, .int .i64 p.state, .bool p.flag, .slice pa (List.length p.data) pcap]) 9 (fun _ => by kernel_rfl) (holds_own (.there .here)) rfl (by exact ⟨rfl, rfl, rfl, rfl, rfl, rfl, rfl, rfl, rfl, trivial⟩)) ?_
  obtain ⟨y1_1, hy1_1, H⟩ := bindE H
  refine s_call 10 52 #[.agg #[.int .i64 p.kind, .int .i64 p.src, .int .i64 p.dst, .int .i64 p.id, .int .i64 p.line, .int .i64 p.ptr, .int .i64 p.state, .bool p.flag, .slice pa (List.length p.data) pcap]] (by kernel_rfl) (by kernel_rfl) (fun _ => by kernel_rfl) (PCheckF_tr pa pcap p (Reads.conv (fun w hw => hw.less (.drop .here (.drop .here (.drop .here .refl)))) hrpa) y1_1 hy1_1) ?_
  rintro _ _ ⟨rfl, rfl⟩
  refine sp 11 (.bool (!(decide (y1_1 = (0 : Int))))) ?_
  rcases Bool.eq_false_or_eq_true (!(decide (y1_1 = (0 : Int)))) with h7 | h7
  ·replace H := bifT H h7
   refine sr 12 (.bool true) (run_eq (v := .bool (!(decide (y1_1 = (0 : Int))))) (fun _ => by kernel_rfl) (congrArg Value.bool h7)) ?_
   refine sa 13 ?_
   refine sa 14 ?_
   refine sa 15 ?_
   refine sp 16 (.bool true) ?_
   refine sp 17 (.bool true) ?_
   refine sa 18 ?_
   refine sa 19 ?_
   refine sa 20 ?_
   refine sp 21 (.bool true) ?_
   refine ops_end ?_
   refine ae [(0, .pointer (some ⟨c, 0, none⟩)), (3, .pointer (some ⟨b0_0, 0, none⟩)), (4, .pointer (some ⟨b0_1, 0, none⟩)), (21, .bool true)] ?_
   refine at_round_normal ?_
   exact at_join_mk [(0, .pointer (some ⟨c, 0, none⟩)), (3, .pointer (some ⟨b0_0, 0, none⟩)), (4, .pointer (some ⟨b0_1, 0, none⟩)), (21, .bool true)] ((Asn.own b0_1 (.cells #[.int .i64 (0), .int .i64 (0), .int .i64 (0), .int .i64 (0), .int .i64 (0), .int .i64 (0), .int .i64 (0), .bool false, .slice none 0 0] 40 (0, 0))) :: (Asn.own b0_0 (.cells #[.int .i64 p.kind, .int .i64 p.src, .int .i64 p.dst, .int .i64 p.id, .int .i64 p.line, .int .i64 p.ptr, .int .i64 p.state, .bool p.flag, .slice pa (List.length p.data) pcap] 40 (0, 0))) :: (CacheA c cc) :: Γ) ⟨by kernel_rfl, by kernel_rfl, by kernel_rfl, by kernel_rfl, trivial⟩ (fun w hw => (Sat.less (.take .here (.take .here (.take .here .refl))) hw)) ⟨true, H, rfl, rfl⟩
  ·replace H := bifF H h7
   refine sr 12 (.bool false) (run_eq (v := .bool (!(decide (y1_1 = (0 : Int))))) (fun _ => by kernel_rfl) (congrArg Value.bool h7)) ?_
   refine sp 13 (.pointer (some ⟨b0_0, 0, none⟩)) ?_
   refine sl 14 (.int .i64 p.kind) (load1 (off := 0) (fun _ => by kernel_rfl) (holds_own (.there .here)) (by kernel_rfl)) ?_
   refine sp 15 (.bool (decide (p.kind < (3 : Int)))) ?_
   refine sp 16 (.bool (decide (p.kind < (3 : Int)))) ?_
   rcases Bool.eq_false_or_eq_true (decide (p.kind < (3 : Int))) with h8 | h8
   ·replace H := bifT H h8
    refine sr 17 (.bool true) (run_eq (v := .bool (decide (p.kind < (3 : Int)))) (fun _ => by kernel_rfl) (congrArg Value.bool h8)) ?_
    refine sa 18 ?_
    refine sa 19 ?_
    refine sa 20 ?_
    refine sp 21 (.bool true) ?_
    refine ops_end ?_
    refine ae [(0, .pointer (some ⟨c, 0, none⟩)), (3, .pointer (some ⟨b0_0, 0, none⟩)), (4, .pointer (some ⟨b0_1, 0, none⟩)), (21, .bool true)] ?_
    refine at_round_normal ?_
    exact at_join_mk [(0, .pointer (some ⟨c, 0, none⟩)), (3, .pointer (some ⟨b0_0, 0, none⟩)), (4, .pointer (some ⟨b0_1, 0, none⟩)), (21, .bool true)] ((Asn.own b0_1 (.cells #[.int .i64 (0), .int .i64 (0), .int .i64 (0), .int .i64 (0), .int .i64 (0), .int .i64 (0), .int .i64 (0), .bool false, .slice none 0 0] 40 (0, 0))) :: (Asn.own b0_0 (.cells #[.int .i64 p.kind, .int .i64 p.src, .int .i64 p.dst, .int .i64 p.id, .int .i64 p.line, .int .i64 p.ptr, .int .i64 p.state, .bool p.flag, .slice pa (List.length p.data) pcap] 40 (0, 0))) :: (CacheA c cc) :: Γ) ⟨by kernel_rfl, by kernel_rfl, by kernel_rfl, by kernel_rfl, trivial⟩ (fun w hw => (Sat.less (.take .here (.take .here (.take .here .refl))) hw)) ⟨true, H, rfl, rfl⟩
   ·replace H := bifF H h8
    refine sr 17 (.bool false) (run_eq (v := .bool (decide (p.kind < (3 : Int)))) (fun _ => by kernel_rfl) (congrArg Value.bool h8)) ?_
    refine sp 18 (.pointer (some ⟨b0_0, 0, none⟩)) ?_
    refine sl 19 (.int .i64 p.kind) (load1 (off := 0) (fun _ => by kernel_rfl) (holds_own (.there .here)) (by kernel_rfl)) ?_
    refine sp 20 (.bool (decide ((6 : Int) < p.kind))) ?_
    refine sp 21 (.bool (decide ((6 : Int) < p.kind))) ?_
    refine ops_end ?_
    refine ae [(0, .pointer (some ⟨c, 0, none⟩)), (3, .pointer (some ⟨b0_0, 0, none⟩)), (4, .pointer (some ⟨b0_1, 0, none⟩)), (21, .bool (decide ((6 : Int) < p.kind)))] ?_
    refine at_round_normal ?_
    exact at_join_mk [(0, .pointer (some ⟨c, 0, none⟩)), (3, .pointer (some ⟨b0_0, 0, none⟩)), (4, .pointer (some ⟨b0_1, 0, none⟩)), (21, .bool (decide ((6 : Int) < p.kind)))] ((Asn.own b0_1 (.cells #[.int .i64 (0), .int .i64 (0), .int .i64 (0), .int .i64 (0), .int .i64 (0), .int .i64 (0), .int .i64 (0), .bool false, .slice none 0 0] 40 (0, 0))) :: (Asn.own b0_0 (.cells #[.int .i64 p.kind, .int .i64 p.src, .int .i64 p.dst, .int .i64 p.id, .int .i64 p.line, .int .i64 p.ptr, .int .i64 p.state, .bool p.flag, .slice pa (List.length p.data) pcap] 40 (0, 0))) :: (CacheA c cc) :: Γ) ⟨by kernel_rfl, by kernel_rfl, by kernel_rfl, by kernel_rfl, trivial⟩ (fun w hw => (Sat.less (.take .here (.take .here (.take .here .refl))) hw)) ⟨decide ((6 : Int) < p.kind), H, rfl, rfl⟩
end Go.Proofs.Ytlnjnkbnppnbkaa
