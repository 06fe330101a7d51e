/- Whether both caches are the same. -/
import Derived.Test.YtfndeehlbcbkpaaVcA
import Derived.Test.YtfndeehlbcbkpaaKsA
namespace Go.Proofs.Ytfndeehlbcbkpaa
open Go Go.RowKit
set_option linter.unusedVariables false
set_option linter.unusedSimpArgs false
noncomputable def C35 (p : List Nat) : Code := codeAt (bodyOf Try.f35) p
set_option maxRecDepth 100000 in
theorem Ref_tr {W0 : World} {Γ : List Asn} (f b l u : Int) (d : Bool) (a : Option Addr) (n c : Nat) : Tr Try.prog 35 #[.agg #[.int .i64 f, .int .i64 b, .int .i64 l, .int .i64 u, .bool d, .slice a n c]] W0 (Γ) (fun r Δ => r = .agg #[.int .i64 f, .int .i64 b, .int .i64 l, .int .i64 u, .bool d, .slice a n c] ∧ Δ = Γ) := by
 refine Tr.enter (fn := Try.f35) (c := C35 []) (args := [.agg #[.int .i64 f, .int .i64 b, .int .i64 l, .int .i64 u, .bool d, .slice a n c]]) 18 Try.func35 (by kernel_rfl) (by kernel_rfl) ?_
 refine ae [(0, .agg #[.int .i64 f, .int .i64 b, .int .i64 l, .int .i64 u, .bool d, .slice a n c])] ?_
 refine aq (x := C35 [0]) (y := C35 [1]) ?_
 refine ar (id := 0) 2 ?_
 refine s_step 1 (by kernel_rfl) (by kernel_rfl) (st_new (T := 46) (cells := #[.int .i64 f, .int .i64 b, .int .i64 l, .int .i64 u, .bool d, .slice a n c]) (fun a => .pointer (some a)) (fun _ => by kernel_rfl)) ?_
 rintro _ _ ⟨b0_0, rfl, rfl⟩
 refine s_step 2 (by kernel_rfl) (by kernel_rfl) (st_new (T := 50) (cells := #[.int .i64 (0), .int .i64 (0), .int .i64 (0), .int .i64 (0), .bool false, .slice none 0 0]) (fun a => .pointer (some a)) (fun _ => by kernel_rfl)) ?_
 rintro _ _ ⟨b0_1, rfl, rfl⟩
 refine ops_end ?_
 refine ae [(1, .pointer (some ⟨b0_0, 0, none⟩)), (2, .pointer (some ⟨b0_1, 0, none⟩))] ?_
 refine at_then_normal ?_
 refine aq (x := C35 [1,0]) (y := C35 [1,1]) ?_
 refine ar (id := 1) 16 ?_
 refine sp 3 (.pointer (some ⟨b0_0, 0, none⟩)) ?_
 refine sp 4 (.pointer (some ⟨b0_0, 0, none⟩)) ?_
 refine sl 5 (.int .i64 f) (load1 (off := 0) (fun _ => by kernel_rfl) (holds_own (.there .here)) (by kernel_rfl)) ?_
 refine sp 6 (.pointer (some ⟨b0_0, 0, none⟩)) ?_
 refine sp 7 (.pointer (some ⟨b0_0, 1, none⟩)) ?_
 refine sl 8 (.int .i64 b) (load1 (off := 1) (fun _ => by kernel_rfl) (holds_own (.there .here)) (by kernel_rfl)) ?_
 refine sp 9 (.pointer (some ⟨b0_0, 2, none⟩)) ?_
 refine sl 10 (.int .i64 l) (load1 (off := 2) (fun _ => by kernel_rfl) (holds_own (.there .here)) (by kernel_rfl)) ?_
 refine sp 11 (.pointer (some ⟨b0_0, 3, none⟩)) ?_
 refine sl 12 (.int .i64 u) (load1 (off := 3) (fun _ => by kernel_rfl) (holds_own (.there .here)) (by kernel_rfl)) ?_
 refine sp 13 (.pointer (some ⟨b0_0, 4, none⟩)) ?_
 refine sl 14 (.bool d) (load1 (off := 4) (fun _ => by kernel_rfl) (holds_own (.there .here)) (by kernel_rfl)) ?_
 refine sp 15 (.pointer (some ⟨b0_0, 5, none⟩)) ?_
 refine sl 16 (.slice a n c) (load1 (off := 5) (fun _ => by kernel_rfl) (holds_own (.there .here)) (by kernel_rfl)) ?_
 refine sp 17 (.agg #[.int .i64 f, .int .i64 b, .int .i64 l, .int .i64 u, .bool d, .slice a n c]) ?_
 refine s_do (by kernel_rfl) (by kernel_rfl) (st_store (off := 0) (vs := [.int .i64 f, .int .i64 b, .int .i64 l, .int .i64 u, .bool d, .slice a n c]) (c' := #[.int .i64 f, .int .i64 b, .int .i64 l, .int .i64 u, .bool d, .slice a n c]) (fun _ => by kernel_rfl) .here (by kernel_rfl) (by kernel_rfl) (by kernel_rfl)) ?_
 rintro _ _ ⟨rfl, rfl⟩
 refine ops_end ?_
 refine ae [(2, .pointer (some ⟨b0_1, 0, none⟩))] ?_
 refine at_then_normal ?_
 refine at_ret (by kernel_rfl) ?_
 refine at_backR [.agg #[.int .i64 f, .int .i64 b, .int .i64 l, .int .i64 u, .bool d, .slice a n c]] (Γ) (rs := [.cell 2 50]) (by kernel_rfl) (.cons (.cell (by kernel_rfl) (retN (off := 0) (vs := [.int .i64 f, .int .i64 b, .int .i64 l, .int .i64 u, .bool d, .slice a n c]) 6 (fun _ => by kernel_rfl) (holds_own .here) rfl (by exact ⟨rfl, rfl, rfl, rfl, rfl, rfl, trivial⟩))) .nil) (fun w hw => (Sat.less (.drop .here (.drop .here .refl)) hw)) ?_
 exact ⟨rfl, rfl⟩
def sameEntS (a : Ent) (b : Ent) : Option (Bool) :=
 (bif decide (a.fwd = b.fwd) then (bif decide (a.back = b.back) then (bif decide (a.line = b.line) then (bif decide (a.used = b.used) then (bif (a.dirty == b.dirty) then (ksameS a.data b.data).bind fun y1_40 => some y1_40 else some false) else some false) else some false) else some false) else some false)
noncomputable def C41 (p : List Nat) : Code := codeAt (bodyOf Try.f41) p
set_option maxRecDepth 100000 in
set_option maxHeartbeats 8000000 in
theorem SameEntF_tr {W0 : World} {Γ : List Asn} (aa : Option Addr) (acap : Nat) (a : Ent) (ba : Option Addr) (bcap : Nat) (b : Ent) (hraa : Reads W0 Γ aa (ints a.data)) (hrba : Reads W0 Γ ba (ints b.data)) (y : Bool) (H : sameEntS a b = some y) : Tr Try.prog 41 #[.agg #[.int .i64 a.fwd, .int .i64 a.back, .int .i64 a.line, .int .i64 a.used, .bool a.dirty, .slice aa (List.length a.data) acap], .agg #[.int .i64 b.fwd, .int .i64 b.back, .int .i64 b.line, .int .i64 b.used, .bool b.dirty, .slice ba (List.length b.data) bcap]] W0 (Γ) (fun r Δ => r = .bool y ∧ Δ = Γ) := by
 unfold sameEntS at H
 refine Tr.enter (fn := Try.f41) (c := C41 []) (args := [.agg #[.int .i64 a.fwd, .int .i64 a.back, .int .i64 a.line, .int .i64 a.used, .bool a.dirty, .slice aa (List.length a.data) acap], .agg #[.int .i64 b.fwd, .int .i64 b.back, .int .i64 b.line, .int .i64 b.used, .bool b.dirty, .slice ba (List.length b.data) bcap]]) 47 Try.func41 (by kernel_rfl) (by kernel_rfl) ?_
 refine ae [(0, .agg #[.int .i64 a.fwd, .int .i64 a.back, .int .i64 a.line, .int .i64 a.used, .bool a.dirty, .slice aa (List.length a.data) acap]), (1, .agg #[.int .i64 b.fwd, .int .i64 b.back, .int .i64 b.line, .int .i64 b.used, .bool b.dirty, .slice ba (List.length b.data) bcap])] ?_
 refine aq (x := C41 [0]) (y := C41 [1]) ?_
 refine ar (id := 0) 3 ?_
 refine s_step 2 (by kernel_rfl) (by kernel_rfl) (st_new (T := 46) (cells := #[.int .i64 a.fwd, .int .i64 a.back, .int .i64 a.line, .int .i64 a.used, .bool a.dirty, .slice aa (List.length a.data) acap]) (fun a => .pointer (some a)) (fun _ => by kernel_rfl)) ?_
 rintro _ _ ⟨b0_0, rfl, rfl⟩
 refine s_step 3 (by kernel_rfl) (by kernel_rfl) (st_new (T := 50) (cells := #[.int .i64 b.fwd, .int .i64 b.back, .int .i64 b.line, .int .i64 b.used, .bool b.dirty, .slice ba (List.length b.data) bcap]) (fun a => .pointer (some a)) (fun _ => by kernel_rfl)) ?_
 rintro _ _ ⟨b0_1, rfl, rfl⟩
 refine sp 4 (.bool false) ?_
 refine ops_end ?_
 refine ae [(2, .pointer (some ⟨b0_0, 0, none⟩)), (3, .pointer (some ⟨b0_1, 0, none⟩))] ?_
 refine at_then_normal ?_
 refine aq (x := C41 [1,0]) (y := C41 [1,1]) ?_
 refine ar (id := 1) 43 ?_
 refine sp 5 (.pointer (some ⟨b0_0, 0, none⟩)) ?_
 refine sp 6 (.pointer (some ⟨b0_0, 0, none⟩)) ?_
 refine sl 7 (.int .i64 a.fwd) (load1 (off := 0) (fun _ => by kernel_rfl) (holds_own (.there .here)) (by kernel_rfl)) ?_
 refine sp 8 (.pointer (some ⟨b0_1, 0, none⟩)) ?_
 refine sl 9 (.int .i64 b.fwd) (load1 (off := 0) (fun _ => by kernel_rfl) (holds_own .here) (by kernel_rfl)) ?_
 refine sp 10 (.bool (decide (a.fwd = b.fwd))) ?_
 rcases Bool.eq_false_or_eq_true (decide (a.fwd = b.fwd)) with h1 | h1
 ·replace H := bifT H h1
  refine sr 11 (.bool true) (run_eq (v := .bool (decide (a.fwd = b.fwd))) (fun _ => by kernel_rfl) (congrArg Value.bool h1)) ?_
  refine sp 12 (.pointer (some ⟨b0_0, 0, none⟩)) ?_
  refine sp 13 (.pointer (some ⟨b0_0, 1, none⟩)) ?_
  refine sl 14 (.int .i64 a.back) (load1 (off := 1) (fun _ => by kernel_rfl) (holds_own (.there .here)) (by kernel_rfl)) ?_
  refine sp 15 (.pointer (some ⟨b0_1, 1, none⟩)) ?_
  refine sl 16 (.int .i64 b.back) (load1 (off := 1) (fun _ => by kernel_rfl) (holds_own .here) (by kernel_rfl)) ?_
  refine sp 17 (.bool (decide (a.back = b.back))) ?_
  refine sp 18 (.bool (decide (a.back = b.back))) ?_
  rcases Bool.eq_false_or_eq_true (decide (a.back = b.back)) with h2 | h2
  ·replace H := bifT H h2
   refine sr 19 (.bool true) (run_eq (v := .bool (decide (a.back = b.back))) (fun _ => by kernel_rfl) (congrArg Value.bool h2)) ?_
   refine sp 20 (.pointer (some ⟨b0_0, 2, none⟩)) ?_
   refine sl 21 (.int .i64 a.line) (load1 (off := 2) (fun _ => by kernel_rfl) (holds_own (.there .here)) (by kernel_rfl)) ?_
   refine sp 22 (.pointer (some ⟨b0_1, 2, none⟩)) ?_
   refine sl 23 (.int .i64 b.line) (load1 (off := 2) (fun _ => by kernel_rfl) (holds_own .here) (by kernel_rfl)) ?_
   refine sp 24 (.bool (decide (a.line = b.line))) ?_
   refine sp 25 (.bool (decide (a.line = b.line))) ?_
   rcases Bool.eq_false_or_eq_true (decide (a.line = b.line)) with h3 | h3
   ·replace H := bifT H h3
    refine sr 26 (.bool true) (run_eq (v := .bool (decide (a.line = b.line))) (fun _ => by kernel_rfl) (congrArg Value.bool h3)) ?_
    refine sp 27 (.pointer (some ⟨b0_0, 3, none⟩)) ?_
    refine sl 28 (.int .i64 a.used) (load1 (off := 3) (fun _ => by kernel_rfl) (holds_own (.there .here)) (by kernel_rfl)) ?_
    refine sp 29 (.pointer (some ⟨b0_1, 3, none⟩)) ?_
    refine sl 30 (.int .i64 b.used) (load1 (off := 3) (fun _ => by kernel_rfl) (holds_own .here) (by kernel_rfl)) ?_
    refine sp 31 (.bool (decide (a.used = b.used))) ?_
    refine sp 32 (.bool (decide (a.used = b.used))) ?_
    rcases Bool.eq_false_or_eq_true (decide (a.used = b.used)) with h4 | h4
    ·replace H := bifT H h4
     refine sr 33 (.bool true) (run_eq (v := .bool (decide (a.used = b.used))) (fun _ => by kernel_rfl) (congrArg Value.bool h4)) ?_
     refine sp 34 (.pointer (some ⟨b0_0, 4, none⟩)) ?_
     refine sl 35 (.bool a.dirty) (load1 (off := 4) (fun _ => by kernel_rfl) (holds_own (.there .here)) (by kernel_rfl)) ?_
     refine sp 36 (.pointer (some ⟨b0_1, 4, none⟩)) ?_
     refine sl 37 (.bool b.dirty) (load1 (off := 4) (fun _ => by kernel_rfl) (holds_own .here) (by kernel_rfl)) ?_
     refine sp 38 (.bool (a.dirty == b.dirty)) ?_
     refine sp 39 (.bool (a.dirty == b.dirty)) ?_
     rcases Bool.eq_false_or_eq_true ((a.dirty == b.dirty)) with h5 | h5
     ·replace H := bifT H h5
      refine sr 40 (.bool true) (run_eq (v := .bool ((a.dirty == b.dirty))) (fun _ => by kernel_rfl) (congrArg Value.bool h5)) ?_
      refine sp 41 (.pointer (some ⟨b0_0, 5, none⟩)) ?_
      refine sl 42 (.slice aa (List.length a.data) acap) (load1 (off := 5) (fun _ => by kernel_rfl) (holds_own (.there .here)) (by kernel_rfl)) ?_
      refine sp 43 (.pointer (some ⟨b0_1, 5, none⟩)) ?_
      refine sl 44 (.slice ba (List.length b.data) bcap) (load1 (off := 5) (fun _ => by kernel_rfl) (holds_own .here) (by kernel_rfl)) ?_
      obtain ⟨y1_40, hy1_40, H⟩ := bindE H
      refine s_call 45 26 #[.slice aa (List.length a.data) acap, .slice ba (List.length b.data) bcap] (by kernel_rfl) (by kernel_rfl) (fun _ => by kernel_rfl) (KSameF_tr aa acap a.data ba bcap b.data (Reads.conv (fun w hw => hw.less (.drop .here (.drop .here .refl))) hraa) (Reads.conv (fun w hw => hw.less (.drop .here (.drop .here .refl))) hrba) y1_40 hy1_40) ?_
      rintro _ _ ⟨rfl, rfl⟩
      refine sp 46 (.bool y1_40) ?_
      refine sp 4 (.bool y1_40) ?_
      refine ops_end ?_
      refine ae [(4, .bool y1_40)] ?_
      refine at_then_normal ?_
      refine at_ret (by kernel_rfl) ?_
      obtain rfl := someE H
      refine at_backR [.bool y1_40] (Γ) (rs := [.tmp 4]) (by kernel_rfl) (.cons (.tmp (by kernel_rfl)) .nil) (fun w hw => (Sat.less (.drop .here (.drop .here .refl)) hw)) ?_
      exact ⟨rfl, rfl⟩
     ·replace H := bifF H h5
      refine sr 40 (.bool false) (run_eq (v := .bool ((a.dirty == b.dirty))) (fun _ => by kernel_rfl) (congrArg Value.bool h5)) ?_
      refine sa 41 ?_
      refine sa 42 ?_
      refine sa 43 ?_
      refine sa 44 ?_
      refine sa 45 ?_
      refine sp 46 (.bool false) ?_
      refine sp 4 (.bool false) ?_
      refine ops_end ?_
      refine ae [(4, .bool false)] ?_
      refine at_then_normal ?_
      refine at_ret (by kernel_rfl) ?_
      obtain rfl := someE H
      refine at_backR [.bool false] (Γ) (rs := [.tmp 4]) (by kernel_rfl) (.cons (.tmp (by kernel_rfl)) .nil) (fun w hw => (Sat.less (.drop .here (.drop .here .refl)) hw)) ?_
      exact ⟨rfl, rfl⟩
    ·replace H := bifF H h4
     refine sr 33 (.bool false) (run_eq (v := .bool (decide (a.used = b.used))) (fun _ => by kernel_rfl) (congrArg Value.bool h4)) ?_
     refine sa 34 ?_
     refine sa 35 ?_
     refine sa 36 ?_
     refine sa 37 ?_
     refine sa 38 ?_
     refine sp 39 (.bool false) ?_
     refine sp 40 (.bool false) ?_
     refine sa 41 ?_
     refine sa 42 ?_
     refine sa 43 ?_
     refine sa 44 ?_
     refine sa 45 ?_
     refine sp 46 (.bool false) ?_
     refine sp 4 (.bool false) ?_
     refine ops_end ?_
     refine ae [(4, .bool false)] ?_
     refine at_then_normal ?_
     refine at_ret (by kernel_rfl) ?_
     obtain rfl := someE H
     refine at_backR [.bool false] (Γ) (rs := [.tmp 4]) (by kernel_rfl) (.cons (.tmp (by kernel_rfl)) .nil) (fun w hw => (Sat.less (.drop .here (.drop .here .refl)) hw)) ?_
     exact ⟨rfl, rfl⟩
   ·replace H := bifF H h3
    refine sr 26 (.bool false) (run_eq (v := .bool (decide (a.line = b.line))) (fun _ => by kernel_rfl) (congrArg Value.bool h3)) ?_
    refine sa 27 ?_
    refine sa 28 ?_
    refine sa 29 ?_
    refine sa 30 ?_
    refine sa 31 ?_
    refine sp 32 (.bool false) ?_
    refine sp 33 (.bool false) ?_
    refine sa 34 ?_
    refine sa 35 ?_
    refine sa 36 ?_
    refine sa 37 ?_
    refine sa 38 ?_
    refine sp 39 (.bool false) ?_
    refine sp 40 (.bool false) ?_
    refine sa 41 ?_
    refine sa 42 ?_
    refine sa 43 ?_
    refine sa 44 ?_
    refine sa 45 ?_
    refine sp 46 (.bool false) ?_
    refine sp 4 (.bool false) ?_
    refine ops_end ?_
    refine ae [(4, .bool false)] ?_
    refine at_then_normal ?_
    refine at_ret (by kernel_rfl) ?_
    obtain rfl := someE H
    refine at_backR [.bool false] (Γ) (rs := [.tmp 4]) (by kernel_rfl) (.cons (.tmp (by kernel_rfl)) .nil) (fun w hw => (Sat.less (.drop .here (.drop .here .refl)) hw)) ?_
    exact ⟨rfl, rfl⟩
  ·replace H := bifF H h2
   refine sr 19 (.bool false) (run_eq (v := .bool (decide (a.back = b.back))) (fun _ => by kernel_rfl) (congrArg Value.bool h2)) ?_
   refine sa 20 ?_
   refine sa 21 ?_
   refine sa 22 ?_
   refine sa 23 ?_
   refine sa 24 ?_
   refine sp 25 (.bool false) ?_
   refine sp 26 (.bool false) ?_
   refine sa 27 ?_
   refine sa 28 ?_
   refine sa 29 ?_
   refine sa 30 ?_
   refine sa 31 ?_
   refine sp 32 (.bool false) ?_
   refine sp 33 (.bool false) ?_
   refine sa 34 ?_
   refine sa 35 ?_
   refine sa 36 ?_
   refine sa 37 ?_
   refine sa 38 ?_
   refine sp 39 (.bool false) ?_
   refine sp 40 (.bool false) ?_
   refine sa 41 ?_
   refine sa 42 ?_
   refine sa 43 ?_
   refine sa 44 ?_
   refine sa 45 ?_
   refine sp 46 (.bool false) ?_
   refine sp 4 (.bool false) ?_
   refine ops_end ?_
   refine ae [(4, .bool false)] ?_
   refine at_then_normal ?_
   refine at_ret (by kernel_rfl) ?_
   obtain rfl := someE H
   refine at_backR [.bool false] (Γ) (rs := [.tmp 4]) (by kernel_rfl) (.cons (.tmp (by kernel_rfl)) .nil) (fun w hw => (Sat.less (.drop .here (.drop .here .refl)) hw)) ?_
   exact ⟨rfl, rfl⟩
 ·replace H := bifF H h1
  refine sr 11 (.bool false) (run_eq (v := .bool (decide (a.fwd = b.fwd))) (fun _ => by kernel_rfl) (congrArg Value.bool h1)) ?_
  refine sa 12 ?_
  refine sa 13 ?_
  refine sa 14 ?_
  refine sa 15 ?_
  refine sa 16 ?_
  refine sa 17 ?_
  refine sp 18 (.bool false) ?_
  refine sp 19 (.bool false) ?_
  refine sa 20 ?_
  refine sa 21 ?_
  refine sa 22 ?_
  refine sa 23 ?_
  refine sa 24 ?_
  refine sp 25 (.bool false) ?_
  refine sp 26 (.bool false) ?_
  refine sa 27 ?_
  refine sa 28 ?_
  refine sa 29 ?_
  refine sa 30 ?_
  refine sa 31 ?_
  refine sp 32 (.bool false) ?_
  refine sp 33 (.bool false) ?_
  refine sa 34 ?_
  refine sa 35 ?_
  refine sa 36 ?_
  refine sa 37 ?_
  refine sa 38 ?_
  refine sp 39 (.bool false) ?_
  refine sp 40 (.bool false) ?_
  refine sa 41 ?_
  refine sa 42 ?_
  refine sa 43 ?_
  refine sa 44 ?_
  refine sa 45 ?_
  refine sp 46 (.bool false) ?_
  refine sp 4 (.bool false) ?_
  refine ops_end ?_
  refine ae [(4, .bool false)] ?_
  refine at_then_normal ?_
  refine at_ret (by kernel_rfl) ?_
  obtain rfl := someE H
  refine at_backR [.bool false] (Γ) (rs := [.tmp 4]) (by kernel_rfl) (.cons (.tmp (by kernel_rfl)) .nil) (fun w hw => (Sat.less (.drop .here (.drop .here .refl)) hw)) ?_
  exact ⟨rfl, rfl⟩
def sameCS_k0 (e0_37 : Int) : Option (Bool) :=
 some true
def sameCS_l0 (qc : CacheS) (cc : CacheS) (y3_1 : (List Int)) (k0 : Int → Option (Bool)) : Nat → Int → Option (Bool)
 | 0 => fun _ => none
 | m + 1 => fun v0_37 => (bif decide (v0_37 < (((List.length qc.l) : Nat) : Int)) then chk (0 ≤ v0_37 ∧ v0_37 < ((List.length qc.l : Nat) : Int)) (letP (nthT qc.l v0_37) fun x8_2 => (findS cc x8_2.line).bind fun y9_3 => chk (0 ≤ v0_37 ∧ v0_37 < ((y3_1.length : Nat) : Int)) ((bif !(decide ((nth y3_1 v0_37) = x8_2.line)) then some false else (bif !y9_3.2 then some false else (sameEntS y9_3.1 x8_2).bind fun y10_14 => (bif !y10_14 then some false else chk (inR (v0_37 + (1 : Int))) ((sameCS_l0 qc cc y3_1 k0 m) (v0_37 + (1 : Int)))))))) else k0 v0_37)
def sameCS (cc : CacheS) (qc : CacheS) : Option (Bool) :=
 letP (lenC cc) fun y1_4 => (bif !(decide (y1_4 = (((List.length qc.l) : Nat) : Int))) then some false else (linesS cc).bind fun y3_1 => (bif !(decide ((((List.length y3_1) : Nat) : Int) = (((List.length qc.l) : Nat) : Int))) then some false else sameCS_l0 qc cc y3_1 (sameCS_k0 ) 64 0))
noncomputable def C11 (p : List Nat) : Code := codeAt (bodyOf Try.f11) p
set_option maxRecDepth 100000 in
set_option maxHeartbeats 8000000 in
theorem SameCF_tr {W0 : World} {Γ : List Asn} (c : Nat) (cc : CacheS) (q : Nat) (qx : RChXP) (qc : CacheS)  (y : Bool) (H : sameCS cc qc = some y) : Tr Try.prog 11 #[.pointer (some ⟨c, 0, none⟩), .pointer (some ⟨q, 0, none⟩)] W0 ((CacheA c cc) :: (RChXA q qx qc) :: Γ) (fun r Δ => r = .bool y ∧ Δ = (CacheA c cc) :: (RChXA q qx qc) :: Γ) := by
 unfold sameCS at H
 refine Tr.enter (fn := Try.f11) (c := C11 []) (args := [.pointer (some ⟨c, 0, none⟩), .pointer (some ⟨q, 0, none⟩)]) 67 Try.func11 (by kernel_rfl) (by kernel_rfl) ?_
 refine ae [(0, .pointer (some ⟨c, 0, none⟩)), (1, .pointer (some ⟨q, 0, none⟩))] ?_
 refine aq (x := C11 [0]) (y := C11 [1]) ?_
 refine ar (id := 0) 1 ?_
 refine sp 4 (.bool false) ?_
 refine ops_end ?_
 refine ae [(0, .pointer (some ⟨c, 0, none⟩)), (1, .pointer (some ⟨q, 0, none⟩))] ?_
 refine at_then_normal ?_
 refine aq (x := C11 [1,0]) (y := C11 [1,1]) ?_
 refine aq (x := C11 [1,0,0]) (y := C11 [1,0,1]) ?_
 refine at_region_draw (id := 1) (by kernel_rfl) (by kernel_rfl) ?_
 refine dp 0 10 (.pointer (some ⟨c, 0, none⟩)) ?_
 refine dp 1 11 (.bool false) ?_
 refine dp 2 12 (.bool false) ?_
 refine dp 3 13 (.pointer (some ⟨c, 0, none⟩)) ?_
 refine dp 5 15 (.pointer (some ⟨q, 0, none⟩)) ?_
 refine dp 6 16 (.pointer (some ⟨q, 0, none⟩)) ?_
 refine dp 7 17 (.pointer (some ⟨q, 3, none⟩)) ?_
 refine RChXA.open_draw (.there .here) ?_
 refine dl 8 18 (.slice qx.a3 (List.length qc.l) qx.c3) (load1 (off := 3) (fun _ => by kernel_rfl) (holds_own .here) (by kernel_rfl)) ?_
 refine dp 9 19 (.int .i64 (((List.length qc.l) : Nat) : Int)) ?_
 obtain ⟨y1_4, hy1_4, H⟩ := letE H
 refine d_call 4 14 [3, 2, 1, 0] [9, 7, 6, 5] [8] 39 #[.pointer (some ⟨c, 0, none⟩)] (by kernel_rfl) (by kernel_rfl) (by kernel_rfl) (fun _ => by kernel_rfl) (Tr.conv (Γ' := (CacheA c cc) :: (Asn.own q (.cells #[.int .i64 qc.sets, .int .i64 qc.ways, .int .i64 qc.clock, .slice qx.a3 (List.length qc.l) qx.c3] qx.T (0, 0))) :: (RecsX (α := Ent) qx.r3 qx.a3 qx.c3 qc.l) :: Γ) (fun w hw => (Sat.less (.take (.there (.there .here)) (.take .here (.take .here .refl))) hw)) (LenF_tr c cc y1_4 hy1_4)) ?_
 rintro _ _ ⟨rfl, rfl⟩
 refine ⟨(stable_cons 8 18 (.slice qx.a3 (List.length qc.l) qx.c3) (by kernel_rfl) (by kernel_rfl) (by kernel_rfl) (load1 (off := 3) (fun _ => by kernel_rfl) (holds_own (.there .here)) (by kernel_rfl)) stable_nil), ?_⟩
 refine dp 10 20 (.bool (!(decide (y1_4 = (((List.length qc.l) : Nat) : Int))))) ?_
 refine dp 11 21 (.bool (!(decide (y1_4 = (((List.length qc.l) : Nat) : Int))))) ?_
 refine draw_end (by kernel_rfl) ?_
 refine ae [(0, .pointer (some ⟨c, 0, none⟩)), (1, .pointer (some ⟨q, 0, none⟩)), (21, .bool (!(decide (y1_4 = (((List.length qc.l) : Nat) : Int)))))] ?_
 refine at_then_normal ?_
 rcases Bool.eq_false_or_eq_true (!(decide (y1_4 = (((List.length qc.l) : Nat) : Int)))) with h1 | h1
 ·replace H := bifT H h1
  refine at_true (t := !(decide (y1_4 = (((List.length qc.l) : Nat) : Int)))) (x := C11 [1,0,1,0]) (y := C11 [1,0,1,1]) (o := .tmp 21) (by kernel_rfl) (by kernel_rfl) (by kernel_rfl) h1 ?_
  refine At.conv (Γ' := (RChXA q qx qc) :: (CacheA c cc) :: Γ) (fun w hw => RChXA.close (x := qx) (t := qc) (Sat.less (.take (.there .here) (.take (.there .here) (.take .here .refl))) hw)) ?_
  refine aq (x := C11 [1,0,1,0,0]) (y := C11 [1,0,1,0,1]) ?_
  refine ar (id := 2) 1 ?_
  refine sp 4 (.bool false) ?_
  refine ops_end ?_
  refine ae [(4, .bool false)] ?_
  refine at_then_normal ?_
  refine at_ret (by kernel_rfl) ?_
  refine at_then_ret ?_
  obtain rfl := someE H
  refine at_backR [.bool false] ((CacheA c cc) :: (RChXA q qx qc) :: Γ) (rs := [.tmp 4]) (by kernel_rfl) (.cons (.tmp (by kernel_rfl)) .nil) (fun w hw => (Sat.less (.take (.there .here) (.take .here .refl)) hw)) ?_
  exact ⟨rfl, rfl⟩
 ·replace H := bifF H h1
  refine at_false (t := !(decide (y1_4 = (((List.length qc.l) : Nat) : Int)))) (x := C11 [1,0,1,0]) (y := C11 [1,0,1,1]) (o := .tmp 21) (by kernel_rfl) (by kernel_rfl) (by kernel_rfl) h1 ?_
  refine at_skip (by kernel_rfl) ?_
  refine at_then_normal ?_
  refine At.conv (Γ' := (RChXA q qx qc) :: (CacheA c cc) :: Γ) (fun w hw => RChXA.close (x := qx) (t := qc) (Sat.less (.take (.there .here) (.take (.there .here) (.take .here .refl))) hw)) ?_
  refine aq (x := C11 [1,1,0]) (y := C11 [1,1,1]) ?_
  refine ar (id := 3) 3 ?_
  refine sp 22 (.pointer (some ⟨c, 0, none⟩)) ?_
  refine CacheA.tox (.there .here) ?_
  intro x3_1_c
  obtain ⟨y3_1, hy3_1, H⟩ := bindE H
  refine s_call 23 40 #[.pointer (some ⟨c, 0, none⟩)] (by kernel_rfl) (by kernel_rfl) (fun _ => by kernel_rfl) (LinesF_tr c x3_1_c cc y3_1 hy3_1) ?_
  rintro _ _ ⟨a3_1_00, c3_1_00, rfl, rfl⟩
  refine sp 5 (.slice a3_1_00 (List.length y3_1) c3_1_00) ?_
  refine ops_end ?_
  refine ae [(0, .pointer (some ⟨c, 0, none⟩)), (1, .pointer (some ⟨q, 0, none⟩)), (5, .slice a3_1_00 (List.length y3_1) c3_1_00)] ?_
  refine at_then_normal ?_
  refine At.conv (Γ' := (CacheA c cc) :: (IntsA a3_1_00 c3_1_00 y3_1) :: (RChXA q qx qc) :: Γ) (fun w hw => CacheXA.shut (hw.pull (.there .here))) ?_
  refine aq (x := C11 [1,1,1,0]) (y := C11 [1,1,1,1]) ?_
  refine aq (x := C11 [1,1,1,0,0]) (y := C11 [1,1,1,0,1]) ?_
  refine ar (id := 4) 8 ?_
  refine sp 24 (.slice a3_1_00 (List.length y3_1) c3_1_00) ?_
  refine sp 25 (.int .i64 (((List.length y3_1) : Nat) : Int)) ?_
  refine sp 26 (.pointer (some ⟨q, 0, none⟩)) ?_
  refine sp 27 (.pointer (some ⟨q, 0, none⟩)) ?_
  refine sp 28 (.pointer (some ⟨q, 3, none⟩)) ?_
  refine RChXA.open (.there (.there .here)) ?_
  refine sl 29 (.slice qx.a3 (List.length qc.l) qx.c3) (load1 (off := 3) (fun _ => by kernel_rfl) (holds_own .here) (by kernel_rfl)) ?_
  refine sp 30 (.int .i64 (((List.length qc.l) : Nat) : Int)) ?_
  refine sp 31 (.bool (!(decide ((((List.length y3_1) : Nat) : Int) = (((List.length qc.l) : Nat) : Int))))) ?_
  refine ops_end ?_
  refine ae [(0, .pointer (some ⟨c, 0, none⟩)), (1, .pointer (some ⟨q, 0, none⟩)), (5, .slice a3_1_00 (List.length y3_1) c3_1_00), (31, .bool (!(decide ((((List.length y3_1) : Nat) : Int) = (((List.length qc.l) : Nat) : Int)))))] ?_
  refine at_then_normal ?_
  rcases Bool.eq_false_or_eq_true (!(decide ((((List.length y3_1) : Nat) : Int) = (((List.length qc.l) : Nat) : Int)))) with h2 | h2
  ·replace H := bifT H h2
   refine at_true (t := !(decide ((((List.length y3_1) : Nat) : Int) = (((List.length qc.l) : Nat) : Int)))) (x := C11 [1,1,1,0,1,0]) (y := C11 [1,1,1,0,1,1]) (o := .tmp 31) (by kernel_rfl) (by kernel_rfl) (by kernel_rfl) h2 ?_
   refine At.conv (Γ' := (RChXA q qx qc) :: (CacheA c cc) :: (IntsA a3_1_00 c3_1_00 y3_1) :: Γ) (fun w hw => RChXA.close (x := qx) (t := qc) (Sat.less (.take .here (.take .here (.take .here (.take .here .refl)))) hw)) ?_
   refine aq (x := C11 [1,1,1,0,1,0,0]) (y := C11 [1,1,1,0,1,0,1]) ?_
   refine ar (id := 5) 1 ?_
   refine sp 4 (.bool false) ?_
   refine ops_end ?_
   refine ae [(4, .bool false)] ?_
   refine at_then_normal ?_
   refine at_ret (by kernel_rfl) ?_
   refine at_then_ret ?_
   obtain rfl := someE H
   refine at_backR [.bool false] ((CacheA c cc) :: (RChXA q qx qc) :: Γ) (rs := [.tmp 4]) (by kernel_rfl) (.cons (.tmp (by kernel_rfl)) .nil) (fun w hw => (Sat.less (.take (.there .here) (.take .here (.drop .here .refl))) hw)) ?_
   exact ⟨rfl, rfl⟩
  ·replace H := bifF H h2
   refine at_false (t := !(decide ((((List.length y3_1) : Nat) : Int) = (((List.length qc.l) : Nat) : Int)))) (x := C11 [1,1,1,0,1,0]) (y := C11 [1,1,1,0,1,1]) (o := .tmp 31) (by kernel_rfl) (by kernel_rfl) (by kernel_rfl) h2 ?_
   refine at_skip (by kernel_rfl) ?_
   refine at_then_normal ?_
   refine At.conv (Γ' := (RChXA q qx qc) :: (CacheA c cc) :: (IntsA a3_1_00 c3_1_00 y3_1) :: Γ) (fun w hw => RChXA.close (x := qx) (t := qc) (Sat.less (.take .here (.take .here (.take .here (.take .here .refl)))) hw)) ?_
   refine aq (x := C11 [1,1,1,1,0]) (y := C11 [1,1,1,1,1]) ?_
   refine aq (x := C11 [1,1,1,1,0,0]) (y := C11 [1,1,1,1,0,1]) ?_
   refine ar (id := 6) 6 ?_
   refine sp 32 (.pointer (some ⟨q, 0, none⟩)) ?_
   refine sp 33 (.pointer (some ⟨q, 0, none⟩)) ?_
   refine sp 34 (.pointer (some ⟨q, 3, none⟩)) ?_
   refine RChXA.open .here ?_
   refine sl 35 (.slice qx.a3 (List.length qc.l) qx.c3) (load1 (off := 3) (fun _ => by kernel_rfl) (holds_own .here) (by kernel_rfl)) ?_
   refine sp 36 (.int .i64 (((List.length qc.l) : Nat) : Int)) ?_
   refine sp 37 (.int .i64 (0)) ?_
   refine ops_end ?_
   refine ae [(0, .pointer (some ⟨c, 0, none⟩)), (5, .slice a3_1_00 (List.length y3_1) c3_1_00), (35, .slice qx.a3 (List.length qc.l) qx.c3), (36, .int .i64 (((List.length qc.l) : Nat) : Int)), (37, .int .i64 (0))] ?_
   refine at_then_normal ?_
   refine at_block (i := 0) (x := C11 [1,1,1,1,0,1,0]) (by kernel_rfl) ?_
   refine At.conv (Γ' := (RChXA q qx qc) :: (CacheA c cc) :: (IntsA a3_1_00 c3_1_00 y3_1) :: Γ) (fun w hw => RChXA.close (x := qx) (t := qc) (Sat.less (.take .here (.take .here (.take .here (.take .here .refl)))) hw)) ?_
   refine At.conv (Γ' := (RChXA q qx qc) :: (CacheA c cc) :: (IntsA a3_1_00 c3_1_00 y3_1) :: Γ) (fun w hw => (Sat.less (.take .here (.take .here (.take .here .refl))) hw)) ?_
   refine at_loopR (x := C11 [1,1,1,1,0,1,0,0]) (fun mm ff ΔΔ => ∃ (fuel : Nat) (v0_37 : Int), sameCS_l0 qc cc y3_1 (sameCS_k0 ) fuel v0_37 = some y ∧ fuel = mm ∧ ff = [(0, .pointer (some ⟨c, 0, none⟩)), (5, .slice a3_1_00 (List.length y3_1) c3_1_00), (35, .slice qx.a3 (List.length qc.l) qx.c3), (36, .int .i64 (((List.length qc.l) : Nat) : Int)), (37, .int .i64 v0_37)] ∧ (RChXA q qx qc) :: (CacheA c cc) :: (IntsA a3_1_00 c3_1_00 y3_1) :: Γ = ΔΔ) (64) (by kernel_rfl) [(0, .pointer (some ⟨c, 0, none⟩)), (5, .slice a3_1_00 (List.length y3_1) c3_1_00), (35, .slice qx.a3 (List.length qc.l) qx.c3), (36, .int .i64 (((List.length qc.l) : Nat) : Int)), (37, .int .i64 0)] ⟨by kernel_rfl, by kernel_rfl, by kernel_rfl, by kernel_rfl, by kernel_rfl, trivial⟩ ⟨64, 0, H, rfl, rfl, rfl⟩ ?_
   rintro _ _ _ ⟨fuel1, v0_37, H, rfl, rfl, rfl⟩
   rcases fuel1 with _ | fuel1
   ·exact (noneE H).elim
   rw [sameCS_l0] at H
   refine aq (x := C11 [1,1,1,1,0,1,0,0,0]) (y := C11 [1,1,1,1,0,1,0,0,1]) ?_
   refine ar (id := 7) 1 ?_
   refine sp 38 (.bool (decide (v0_37 < (((List.length qc.l) : Nat) : Int)))) ?_
   refine ops_end ?_
   refine ae [(0, .pointer (some ⟨c, 0, none⟩)), (5, .slice a3_1_00 (List.length y3_1) c3_1_00), (35, .slice qx.a3 (List.length qc.l) qx.c3), (36, .int .i64 (((List.length qc.l) : Nat) : Int)), (37, .int .i64 v0_37), (38, .bool (decide (v0_37 < (((List.length qc.l) : Nat) : Int))))] ?_
   refine at_then_normal ?_
   refine aq (x := C11 [1,1,1,1,0,1,0,0,1,0]) (y := C11 [1,1,1,1,0,1,0,0,1,1]) ?_
   rcases Bool.eq_false_or_eq_true (decide (v0_37 < (((List.length qc.l) : Nat) : Int))) with h3 | h3
   ·replace H := bifT H h3
    refine at_true (t := decide (v0_37 < (((List.length qc.l) : Nat) : Int))) (x := C11 [1,1,1,1,0,1,0,0,1,0,0]) (y := C11 [1,1,1,1,0,1,0,0,1,0,1]) (o := .tmp 38) (by kernel_rfl) (by kernel_rfl) (by kernel_rfl) h3 ?_
    refine at_skip (by kernel_rfl) ?_
    refine at_then_normal ?_
    refine aq (x := C11 [1,1,1,1,0,1,0,0,1,1,0]) (y := C11 [1,1,1,1,0,1,0,0,1,1,1]) ?_
    refine at_block (i := 1) (x := C11 [1,1,1,1,0,1,0,0,1,1,0,0]) (by kernel_rfl) ?_
    refine aq (x := C11 [1,1,1,1,0,1,0,0,1,1,0,0,0]) (y := C11 [1,1,1,1,0,1,0,0,1,1,0,0,1]) ?_
    refine ar (id := 8) 6 ?_
    refine sp 39 (.int .i64 v0_37) ?_
    refine RChXA.open .here ?_
    obtain ⟨hc8_1_0, H⟩ := chkE H
    refine rd_at (RecsX.rd (α := Ent) (.there .here)) (by have := hc8_1_0; omega) ?_
    intro bb1 oo1 ha1
    refine sr 40 (.pointer (some ⟨bb1, oo1 + (((v0_37).toNat) * 6 + 0), none⟩)) (index_at (t := 77) (sz := 6) (E := 50) (a := qx.a3) (m := (List.length qc.l)) (c := qx.c3) (b := bb1) (off := oo1) (i := (v0_37).toNat) (tinfo 50) (fun _ => by kernel_rfl) (by kernel_rfl) (by kernel_rfl) (by kernel_rfl) ha1 (idx_cast hc8_1_0) (idx_nat hc8_1_0) rfl) ?_
    obtain ⟨x8_2, hx8_2, H⟩ := letE H
    refine rd_get (RecsX.rd (α := Ent) (.there .here)) hc8_1_0 ?_
    intro a8_2 c8_2 hrx8_2
    rw [hx8_2] at hrx8_2 ⊢
    refine sl 41 (.agg #[.int .i64 x8_2.fwd, .int .i64 x8_2.back, .int .i64 x8_2.line, .int .i64 x8_2.used, .bool x8_2.dirty, .slice a8_2 (List.length x8_2.data) c8_2]) (loadP_at (m := 6) (k := 6) (vs := [.int .i64 x8_2.fwd, .int .i64 x8_2.back, .int .i64 x8_2.line, .int .i64 x8_2.used, .bool x8_2.dirty, .slice a8_2 (List.length x8_2.data) c8_2]) (off := oo1) (i := (v0_37).toNat) (j := 0) (fun _ => by kernel_rfl) rfl rfl (fun q v hq => rd_row (j := 0 + q) (RecsX.rd (α := Ent) (.there (.there .here))) ha1 hrx8_2 (rowP (j := 0) (m := 6) (by kernel_rfl) hq))) ?_
    refine s_step 7 (by kernel_rfl) (by kernel_rfl) (st_new (T := 50) (cells := #[.int .i64 (0), .int .i64 (0), .int .i64 (0), .int .i64 (0), .bool false, .slice none 0 0]) (fun a => .pointer (some a)) (fun _ => by kernel_rfl)) ?_
    rintro _ _ ⟨b8_3, rfl, rfl⟩
    refine sp 6 (.int .i64 v0_37) ?_
    refine s_do (by kernel_rfl) (by kernel_rfl) (st_store (off := 0) (vs := [.int .i64 x8_2.fwd, .int .i64 x8_2.back, .int .i64 x8_2.line, .int .i64 x8_2.used, .bool x8_2.dirty, .slice a8_2 (List.length x8_2.data) c8_2]) (c' := #[.int .i64 x8_2.fwd, .int .i64 x8_2.back, .int .i64 x8_2.line, .int .i64 x8_2.used, .bool x8_2.dirty, .slice a8_2 (List.length x8_2.data) c8_2]) (fun _ => by kernel_rfl) .here (by kernel_rfl) (by kernel_rfl) (by kernel_rfl)) ?_
    rintro _ _ ⟨rfl, rfl⟩
    refine ops_end ?_
    refine ae [(0, .pointer (some ⟨c, 0, none⟩)), (5, .slice a3_1_00 (List.length y3_1) c3_1_00), (6, .int .i64 v0_37), (7, .pointer (some ⟨b8_3, 0, none⟩)), (35, .slice qx.a3 (List.length qc.l) qx.c3), (36, .int .i64 (((List.length qc.l) : Nat) : Int)), (37, .int .i64 v0_37)] ?_
    refine at_then_normal ?_
    refine At.conv (Γ' := (RChXA q qx qc) :: (Asn.own b8_3 (.cells #[.int .i64 x8_2.fwd, .int .i64 x8_2.back, .int .i64 x8_2.line, .int .i64 x8_2.used, .bool x8_2.dirty, .slice a8_2 (List.length x8_2.data) c8_2] 50 (0, 0))) :: (ImmI a8_2 x8_2.data) :: (CacheA c cc) :: (IntsA a3_1_00 c3_1_00 y3_1) :: Γ) (fun w hw => RChXA.close (x := qx) (t := qc) (Sat.less (.take (.there (.there .here)) (.take (.there (.there .here)) (.take .here (.take .here (.take .here (.take .here .refl)))))) hw)) ?_
    refine aq (x := C11 [1,1,1,1,0,1,0,0,1,1,0,0,1,0]) (y := C11 [1,1,1,1,0,1,0,0,1,1,0,0,1,1]) ?_
    refine ar (id := 9) 10 ?_
    refine sp 43 (.pointer (some ⟨c, 0, none⟩)) ?_
    refine sp 44 (.pointer (some ⟨b8_3, 2, none⟩)) ?_
    refine sl 45 (.int .i64 x8_2.line) (load1 (off := 2) (fun _ => by kernel_rfl) (holds_own (.there .here)) (by kernel_rfl)) ?_
    obtain ⟨y9_3, hy9_3, H⟩ := bindE H
    refine s_call 46 17 #[.pointer (some ⟨c, 0, none⟩), .int .i64 x8_2.line] (by kernel_rfl) (by kernel_rfl) (fun _ => by kernel_rfl) (Tr.conv (Γ' := (CacheA c cc) :: (RChXA q qx qc) :: (Asn.own b8_3 (.cells #[.int .i64 x8_2.fwd, .int .i64 x8_2.back, .int .i64 x8_2.line, .int .i64 x8_2.used, .bool x8_2.dirty, .slice a8_2 (List.length x8_2.data) c8_2] 50 (0, 0))) :: (ImmI a8_2 x8_2.data) :: (IntsA a3_1_00 c3_1_00 y3_1) :: Γ) (fun w hw => (Sat.less (.take (.there (.there (.there .here))) (.take .here (.take .here (.take .here (.take .here .refl))))) hw)) (FindF_tr c cc x8_2.line y9_3 hy9_3)) ?_
    rintro _ _ ⟨a9_3_00, c9_3_00, rfl, rfl⟩
    refine sp 42 (.tuple #[.agg #[.int .i64 y9_3.1.fwd, .int .i64 y9_3.1.back, .int .i64 y9_3.1.line, .int .i64 y9_3.1.used, .bool y9_3.1.dirty, .slice a9_3_00 (List.length y9_3.1.data) c9_3_00], .bool y9_3.2]) ?_
    refine sp 47 (.agg #[.int .i64 y9_3.1.fwd, .int .i64 y9_3.1.back, .int .i64 y9_3.1.line, .int .i64 y9_3.1.used, .bool y9_3.1.dirty, .slice a9_3_00 (List.length y9_3.1.data) c9_3_00]) ?_
    refine sp 48 (.bool y9_3.2) ?_
    refine s_step 8 (by kernel_rfl) (by kernel_rfl) (st_new (T := 46) (cells := #[.int .i64 (0), .int .i64 (0), .int .i64 (0), .int .i64 (0), .bool false, .slice none 0 0]) (fun a => .pointer (some a)) (fun _ => by kernel_rfl)) ?_
    rintro _ _ ⟨b9_7, rfl, rfl⟩
    refine s_do (by kernel_rfl) (by kernel_rfl) (st_store (off := 0) (vs := [.int .i64 y9_3.1.fwd, .int .i64 y9_3.1.back, .int .i64 y9_3.1.line, .int .i64 y9_3.1.used, .bool y9_3.1.dirty, .slice a9_3_00 (List.length y9_3.1.data) c9_3_00]) (c' := #[.int .i64 y9_3.1.fwd, .int .i64 y9_3.1.back, .int .i64 y9_3.1.line, .int .i64 y9_3.1.used, .bool y9_3.1.dirty, .slice a9_3_00 (List.length y9_3.1.data) c9_3_00]) (fun _ => by kernel_rfl) .here (by kernel_rfl) (by kernel_rfl) (by kernel_rfl)) ?_
    rintro _ _ ⟨rfl, rfl⟩
    refine sp 9 (.bool y9_3.2) ?_
    refine ops_end ?_
    refine ae [(0, .pointer (some ⟨c, 0, none⟩)), (5, .slice a3_1_00 (List.length y3_1) c3_1_00), (6, .int .i64 v0_37), (7, .pointer (some ⟨b8_3, 0, none⟩)), (8, .pointer (some ⟨b9_7, 0, none⟩)), (9, .bool y9_3.2), (35, .slice qx.a3 (List.length qc.l) qx.c3), (36, .int .i64 (((List.length qc.l) : Nat) : Int)), (37, .int .i64 v0_37)] ?_
    refine at_then_normal ?_
    refine aq (x := C11 [1,1,1,1,0,1,0,0,1,1,0,0,1,1,0]) (y := C11 [1,1,1,1,0,1,0,0,1,1,0,0,1,1,1]) ?_
    refine at_region_draw (id := 10) (by kernel_rfl) (by kernel_rfl) ?_
    refine dp 0 49 (.slice a3_1_00 (List.length y3_1) c3_1_00) ?_
    refine dp 1 50 (.int .i64 v0_37) ?_
    obtain ⟨hc10_2_0, H⟩ := chkE H
    refine rows_at_draw (.there (.there (.there (.there (.there (.there .here)))))) (by have := hc10_2_0; simp only [ints_length]; omega) ?_
    intro bb2 oo2 ha2
    refine d_pure 2 51 (.pointer (some ⟨bb2, oo2 + ((v0_37).toNat * 1 + 0), none⟩)) (by kernel_rfl) (by kernel_rfl) (by kernel_rfl) (index_at (t := 22) (sz := 1) (E := 3) (a := a3_1_00) (m := (List.length y3_1)) (c := c3_1_00) (b := bb2) (off := oo2) (i := (v0_37).toNat) (tinfo 3) (fun _ => by kernel_rfl) (by kernel_rfl) (by kernel_rfl) (by kernel_rfl) ha2 (idx_cast hc10_2_0) (idx_nat hc10_2_0) rfl) ?_
    refine dl 3 52 (.int .i64 (nth y3_1 v0_37)) (load1_at (off := oo2 + ((v0_37).toNat * 1 + 0)) (v := .int .i64 (nth y3_1 v0_37)) (fun _ => by kernel_rfl) rfl (reads_cell (k := 1) (RowsA.reads (k := 1) (.there (.there (.there (.there (.there (.there .here))))))) (ints_rows _) ha2 (nth_row hc10_2_0) (show [(.int .i64 (nth y3_1 v0_37) : Value)][0]? = some _ from rfl))) ?_
    refine dp 4 53 (.pointer (some ⟨b8_3, 2, none⟩)) ?_
    refine dl 5 54 (.int .i64 x8_2.line) (load1 (off := 2) (fun _ => by kernel_rfl) (holds_own (.there (.there (.there (.there .here))))) (by kernel_rfl)) ?_
    refine dp 6 55 (.bool (!(decide ((nth y3_1 v0_37) = x8_2.line)))) ?_
    rcases Bool.eq_false_or_eq_true (!(decide ((nth y3_1 v0_37) = x8_2.line))) with h4 | h4
    ·replace H := bifT H h4
     refine d_pure 7 56 (.bool true) (by kernel_rfl) (by kernel_rfl) (by kernel_rfl) (run_eq (v := .bool (!(decide ((nth y3_1 v0_37) = x8_2.line)))) (fun _ => by kernel_rfl) (congrArg Value.bool h4)) ?_
     refine d_off 8 57 (by kernel_rfl) (by kernel_rfl) (by kernel_rfl) ?_
     refine d_off 9 58 (by kernel_rfl) (by kernel_rfl) (by kernel_rfl) ?_
     refine dp 10 59 (.bool true) ?_
     refine dp 11 60 (.bool true) ?_
     refine d_off 12 61 (by kernel_rfl) (by kernel_rfl) (by kernel_rfl) ?_
     refine d_off 13 62 (by kernel_rfl) (by kernel_rfl) (by kernel_rfl) ?_
     refine d_off 14 63 (by kernel_rfl) (by kernel_rfl) (by kernel_rfl) ?_
     refine d_off 15 64 (by kernel_rfl) (by kernel_rfl) (by kernel_rfl) ?_
     refine dp 16 65 (.bool true) ?_
     refine draw_end (by kernel_rfl) ?_
     refine ae [(0, .pointer (some ⟨c, 0, none⟩)), (5, .slice a3_1_00 (List.length y3_1) c3_1_00), (35, .slice qx.a3 (List.length qc.l) qx.c3), (36, .int .i64 (((List.length qc.l) : Nat) : Int)), (37, .int .i64 v0_37), (65, .bool true)] ?_
     refine at_then_normal ?_
     refine at_true (t := true) (x := C11 [1,1,1,1,0,1,0,0,1,1,0,0,1,1,1,0]) (y := C11 [1,1,1,1,0,1,0,0,1,1,0,0,1,1,1,1]) (o := .tmp 65) (by kernel_rfl) (by kernel_rfl) (by kernel_rfl) rfl ?_
     refine aq (x := C11 [1,1,1,1,0,1,0,0,1,1,0,0,1,1,1,0,0]) (y := C11 [1,1,1,1,0,1,0,0,1,1,0,0,1,1,1,0,1]) ?_
     refine ar (id := 11) 1 ?_
     refine sp 4 (.bool false) ?_
     refine ops_end ?_
     refine ae [(4, .bool false)] ?_
     refine at_then_normal ?_
     refine at_ret (by kernel_rfl) ?_
     refine at_in_ret ?_
     refine at_then_ret ?_
     refine at_then_ret ?_
     refine at_in_ret ?_
     refine at_then_ret ?_
     obtain rfl := someE H
     refine at_backR [.bool false] ((CacheA c cc) :: (RChXA q qx qc) :: Γ) (rs := [.tmp 4]) (by kernel_rfl) (.cons (.tmp (by kernel_rfl)) .nil) (fun w hw => (Sat.less (.take (.there (.there .here)) (.take (.there (.there .here)) (.drop .here (.drop .here (.drop .here (.drop .here (.drop .here .refl))))))) hw)) ?_
     exact ⟨rfl, rfl⟩
    ·replace H := bifF H h4
     refine d_pure 7 56 (.bool false) (by kernel_rfl) (by kernel_rfl) (by kernel_rfl) (run_eq (v := .bool (!(decide ((nth y3_1 v0_37) = x8_2.line)))) (fun _ => by kernel_rfl) (congrArg Value.bool h4)) ?_
     refine dp 8 57 (.bool y9_3.2) ?_
     refine dp 9 58 (.bool !y9_3.2) ?_
     refine dp 10 59 (.bool !y9_3.2) ?_
     rcases Bool.eq_false_or_eq_true (!y9_3.2) with h5 | h5
     ·replace H := bifT H h5
      refine d_pure 11 60 (.bool true) (by kernel_rfl) (by kernel_rfl) (by kernel_rfl) (run_eq (v := .bool (!y9_3.2)) (fun _ => by kernel_rfl) (congrArg Value.bool h5)) ?_
      refine d_off 12 61 (by kernel_rfl) (by kernel_rfl) (by kernel_rfl) ?_
      refine d_off 13 62 (by kernel_rfl) (by kernel_rfl) (by kernel_rfl) ?_
      refine d_off 14 63 (by kernel_rfl) (by kernel_rfl) (by kernel_rfl) ?_
      refine d_off 15 64 (by kernel_rfl) (by kernel_rfl) (by kernel_rfl) ?_
      refine dp 16 65 (.bool true) ?_
      refine draw_end (by kernel_rfl) ?_
      refine ae [(0, .pointer (some ⟨c, 0, none⟩)), (5, .slice a3_1_00 (List.length y3_1) c3_1_00), (35, .slice qx.a3 (List.length qc.l) qx.c3), (36, .int .i64 (((List.length qc.l) : Nat) : Int)), (37, .int .i64 v0_37), (65, .bool true)] ?_
      refine at_then_normal ?_
      refine at_true (t := true) (x := C11 [1,1,1,1,0,1,0,0,1,1,0,0,1,1,1,0]) (y := C11 [1,1,1,1,0,1,0,0,1,1,0,0,1,1,1,1]) (o := .tmp 65) (by kernel_rfl) (by kernel_rfl) (by kernel_rfl) rfl ?_
      refine aq (x := C11 [1,1,1,1,0,1,0,0,1,1,0,0,1,1,1,0,0]) (y := C11 [1,1,1,1,0,1,0,0,1,1,0,0,1,1,1,0,1]) ?_
      refine ar (id := 11) 1 ?_
      refine sp 4 (.bool false) ?_
      refine ops_end ?_
      refine ae [(4, .bool false)] ?_
      refine at_then_normal ?_
      refine at_ret (by kernel_rfl) ?_
      refine at_in_ret ?_
      refine at_then_ret ?_
      refine at_then_ret ?_
      refine at_in_ret ?_
      refine at_then_ret ?_
      obtain rfl := someE H
      refine at_backR [.bool false] ((CacheA c cc) :: (RChXA q qx qc) :: Γ) (rs := [.tmp 4]) (by kernel_rfl) (.cons (.tmp (by kernel_rfl)) .nil) (fun w hw => (Sat.less (.take (.there (.there .here)) (.take (.there (.there .here)) (.drop .here (.drop .here (.drop .here (.drop .here (.drop .here .refl))))))) hw)) ?_
      exact ⟨rfl, rfl⟩
     ·replace H := bifF H h5
      refine d_pure 11 60 (.bool false) (by kernel_rfl) (by kernel_rfl) (by kernel_rfl) (run_eq (v := .bool (!y9_3.2)) (fun _ => by kernel_rfl) (congrArg Value.bool h5)) ?_
      refine dl 12 61 (.agg #[.int .i64 y9_3.1.fwd, .int .i64 y9_3.1.back, .int .i64 y9_3.1.line, .int .i64 y9_3.1.used, .bool y9_3.1.dirty, .slice a9_3_00 (List.length y9_3.1.data) c9_3_00]) (loadN (off := 0) (vs := [.int .i64 y9_3.1.fwd, .int .i64 y9_3.1.back, .int .i64 y9_3.1.line, .int .i64 y9_3.1.used, .bool y9_3.1.dirty, .slice a9_3_00 (List.length y9_3.1.data) c9_3_00]) 6 (fun _ => by kernel_rfl) (holds_own .here) rfl (by exact ⟨rfl, rfl, rfl, rfl, rfl, rfl, trivial⟩)) ?_
      refine dl 13 62 (.agg #[.int .i64 x8_2.fwd, .int .i64 x8_2.back, .int .i64 x8_2.line, .int .i64 x8_2.used, .bool x8_2.dirty, .slice a8_2 (List.length x8_2.data) c8_2]) (loadN (off := 0) (vs := [.int .i64 x8_2.fwd, .int .i64 x8_2.back, .int .i64 x8_2.line, .int .i64 x8_2.used, .bool x8_2.dirty, .slice a8_2 (List.length x8_2.data) c8_2]) 6 (fun _ => by kernel_rfl) (holds_own (.there (.there (.there (.there .here))))) rfl (by exact ⟨rfl, rfl, rfl, rfl, rfl, rfl, trivial⟩)) ?_
      obtain ⟨y10_14, hy10_14, H⟩ := bindE H
      refine d_call 14 63 [12, 13, 11, 10, 7, 9, 6, 8, 3, 5, 2, 4, 0, 1] [] [] 41 #[.agg #[.int .i64 y9_3.1.fwd, .int .i64 y9_3.1.back, .int .i64 y9_3.1.line, .int .i64 y9_3.1.used, .bool y9_3.1.dirty, .slice a9_3_00 (List.length y9_3.1.data) c9_3_00], .agg #[.int .i64 x8_2.fwd, .int .i64 x8_2.back, .int .i64 x8_2.line, .int .i64 x8_2.used, .bool x8_2.dirty, .slice a8_2 (List.length x8_2.data) c8_2]] (by kernel_rfl) (by kernel_rfl) (by kernel_rfl) (fun _ => by kernel_rfl) (SameEntF_tr a9_3_00 c9_3_00 y9_3.1 a8_2 c8_2 x8_2 (RowsA.reads (k := 1) (.there .here)) (ImmR.reads (k := 1) (.there (.there (.there (.there (.there .here)))))) y10_14 hy10_14) ?_
      rintro _ _ ⟨rfl, rfl⟩
      refine ⟨stable_nil, ?_⟩
      refine dp 15 64 (.bool !y10_14) ?_
      refine dp 16 65 (.bool !y10_14) ?_
      refine draw_end (by kernel_rfl) ?_
      refine ae [(0, .pointer (some ⟨c, 0, none⟩)), (5, .slice a3_1_00 (List.length y3_1) c3_1_00), (35, .slice qx.a3 (List.length qc.l) qx.c3), (36, .int .i64 (((List.length qc.l) : Nat) : Int)), (37, .int .i64 v0_37), (65, .bool !y10_14)] ?_
      refine at_then_normal ?_
      rcases Bool.eq_false_or_eq_true (!y10_14) with h6 | h6
      ·replace H := bifT H h6
       refine at_true (t := !y10_14) (x := C11 [1,1,1,1,0,1,0,0,1,1,0,0,1,1,1,0]) (y := C11 [1,1,1,1,0,1,0,0,1,1,0,0,1,1,1,1]) (o := .tmp 65) (by kernel_rfl) (by kernel_rfl) (by kernel_rfl) h6 ?_
       refine aq (x := C11 [1,1,1,1,0,1,0,0,1,1,0,0,1,1,1,0,0]) (y := C11 [1,1,1,1,0,1,0,0,1,1,0,0,1,1,1,0,1]) ?_
       refine ar (id := 11) 1 ?_
       refine sp 4 (.bool false) ?_
       refine ops_end ?_
       refine ae [(4, .bool false)] ?_
       refine at_then_normal ?_
       refine at_ret (by kernel_rfl) ?_
       refine at_in_ret ?_
       refine at_then_ret ?_
       refine at_then_ret ?_
       refine at_in_ret ?_
       refine at_then_ret ?_
       obtain rfl := someE H
       refine at_backR [.bool false] ((CacheA c cc) :: (RChXA q qx qc) :: Γ) (rs := [.tmp 4]) (by kernel_rfl) (.cons (.tmp (by kernel_rfl)) .nil) (fun w hw => (Sat.less (.take (.there (.there .here)) (.take (.there (.there .here)) (.drop .here (.drop .here (.drop .here (.drop .here (.drop .here .refl))))))) hw)) ?_
       exact ⟨rfl, rfl⟩
      ·replace H := bifF H h6
       refine at_false (t := !y10_14) (x := C11 [1,1,1,1,0,1,0,0,1,1,0,0,1,1,1,0]) (y := C11 [1,1,1,1,0,1,0,0,1,1,0,0,1,1,1,1]) (o := .tmp 65) (by kernel_rfl) (by kernel_rfl) (by kernel_rfl) h6 ?_
       refine at_skip (by kernel_rfl) ?_
       refine at_in_normal ?_
       refine at_then_normal ?_
       refine ar (id := 12) 2 ?_
       obtain ⟨hc12_0_0, H⟩ := chkE H
       refine sr 66 (.int .i64 (v0_37 + (1 : Int))) (run_eq (v := .int .i64 (IntKind.i64.wrap (v0_37 + (1 : Int)))) (fun _ => by kernel_rfl) (by rw [inR.wrap hc12_0_0])) ?_
       refine sp 37 (.int .i64 (v0_37 + (1 : Int))) ?_
       refine ops_end ?_
       refine ae [(0, .pointer (some ⟨c, 0, none⟩)), (5, .slice a3_1_00 (List.length y3_1) c3_1_00), (35, .slice qx.a3 (List.length qc.l) qx.c3), (36, .int .i64 (((List.length qc.l) : Nat) : Int)), (37, .int .i64 (v0_37 + (1 : Int)))] ?_
       refine at_round_normal ?_
       exact at_roundR fuel1 [(0, .pointer (some ⟨c, 0, none⟩)), (5, .slice a3_1_00 (List.length y3_1) c3_1_00), (35, .slice qx.a3 (List.length qc.l) qx.c3), (36, .int .i64 (((List.length qc.l) : Nat) : Int)), (37, .int .i64 (v0_37 + (1 : Int)))] ((RChXA q qx qc) :: (CacheA c cc) :: (IntsA a3_1_00 c3_1_00 y3_1) :: Γ) (Nat.lt_succ_self _) ⟨by kernel_rfl, by kernel_rfl, by kernel_rfl, by kernel_rfl, by kernel_rfl, trivial⟩ (fun w hw => (Sat.less (.take (.there (.there (.there .here))) (.take (.there (.there .here)) (.take (.there (.there (.there (.there .here)))) (.drop .here (.drop .here (.drop .here (.drop .here .refl))))))) hw)) ⟨fuel1, v0_37 + (1 : Int), H, rfl, rfl, rfl⟩
   ·replace H := bifF H h3
    refine at_false (t := decide (v0_37 < (((List.length qc.l) : Nat) : Int))) (x := C11 [1,1,1,1,0,1,0,0,1,0,0]) (y := C11 [1,1,1,1,0,1,0,0,1,0,1]) (o := .tmp 38) (by kernel_rfl) (by kernel_rfl) (by kernel_rfl) h3 ?_
    refine at_exit (i := 0) (by kernel_rfl) ?_
    refine at_then_exit ?_
    refine at_then_exit ?_
    rw [sameCS_k0] at H
    refine ae [(0, .pointer (some ⟨c, 0, none⟩)), (5, .slice a3_1_00 (List.length y3_1) c3_1_00), (35, .slice qx.a3 (List.length qc.l) qx.c3), (36, .int .i64 (((List.length qc.l) : Nat) : Int)), (37, .int .i64 v0_37)] ?_
    refine At.conv (Γ' := (RChXA q qx qc) :: (CacheA c cc) :: (IntsA a3_1_00 c3_1_00 y3_1) :: Γ) (fun w hw => (Sat.less (.take .here (.take .here (.take .here .refl))) hw)) ?_
    refine at_in_here ?_
    refine at_then_normal ?_
    refine aq (x := C11 [1,1,1,1,1,0]) (y := C11 [1,1,1,1,1,1]) ?_
    refine ar (id := 13) 1 ?_
    refine sp 4 (.bool true) ?_
    refine ops_end ?_
    refine ae [(4, .bool true)] ?_
    refine at_then_normal ?_
    refine at_ret (by kernel_rfl) ?_
    obtain rfl := someE H
    refine at_backR [.bool true] ((CacheA c cc) :: (RChXA q qx qc) :: Γ) (rs := [.tmp 4]) (by kernel_rfl) (.cons (.tmp (by kernel_rfl)) .nil) (fun w hw => (Sat.less (.take (.there .here) (.take .here (.drop .here .refl))) hw)) ?_
    exact ⟨rfl, rfl⟩
end Go.Proofs.Ytfndeehlbcbkpaa
