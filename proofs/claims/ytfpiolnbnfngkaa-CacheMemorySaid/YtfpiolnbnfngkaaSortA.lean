/- At most twelve numbers are sorted: each function answers what its plain function says. -/
import Derived.Test.YtfpiolnbnfngkaaBitsA
namespace Go.Proofs.Ytfpiolnbnfngkaa
open Go Go.RowKit
set_option linter.unusedVariables false
set_option linter.unusedSimpArgs false
def isNaNS (x : Int) : Option (Bool) :=
  some (!(decide (x = x)))
noncomputable def C86 (p : List Nat) : Code := codeAt (bodyOf Try.f86) p
set_option maxRecDepth 100000 in
set_option maxHeartbeats 8000000 in
theorem IsNaNF_tr {W0 : World} {Γ : List Asn} (x : Int)  (y : Bool) (H : isNaNS x = some y) : Tr Try.prog 86 #[.int .i64 x] W0 (Γ) (fun r Δ => r = .bool y ∧ Δ = Γ) := by
  unfold isNaNS at H
  refine Tr.enter (fn := Try.f86) (c := C86 []) (args := [.int .i64 x]) 6 Try.func86 (by kernel_rfl) (by kernel_rfl) ?_
  refine At.env [(0, .int .i64 x)] ⟨by kernel_rfl, trivial⟩ ?_
  refine at_seq (x := C86 [0]) (y := C86 [1]) (by kernel_rfl) ?_
  refine at_region (id := 0) 1 (by kernel_rfl) (by kernel_rfl) ?_
  refine s_pure 2 (.bool false) (by kernel_rfl) (by kernel_rfl) (fun _ => by kernel_rfl) ?_
  refine ops_end ?_
  refine At.env [(0, .int .i64 x), (2, .bool false)] ⟨by kernel_rfl, by kernel_rfl, trivial⟩ ?_
  refine at_then_normal ?_
  refine at_seq (x := C86 [1, 0]) (y := C86 [1, 1]) (by kernel_rfl) ?_
  refine at_region (id := 1) 4 (by kernel_rfl) (by kernel_rfl) ?_
  refine s_pure 3 (.int .i64 x) (by kernel_rfl) (by kernel_rfl) (fun _ => by kernel_rfl) ?_
  refine s_pure 4 (.int .i64 x) (by kernel_rfl) (by kernel_rfl) (fun _ => by kernel_rfl) ?_
  refine s_pure 5 (.bool (!(decide (x = x)))) (by kernel_rfl) (by kernel_rfl) (fun _ => by kernel_rfl) ?_
  refine s_pure 2 (.bool (!(decide (x = x)))) (by kernel_rfl) (by kernel_rfl) (fun _ => by kernel_rfl) ?_
  refine ops_end ?_
  refine At.env [(0, .int .i64 x), (2, .bool (!(decide (x = x))))] ⟨by kernel_rfl, by kernel_rfl, trivial⟩ ?_
  refine at_then_normal ?_
  refine at_ret (by kernel_rfl) ?_
  obtain rfl := someE H
  refine at_backR [.bool (!(decide (x = x)))] (Γ) (rs := [.tmp 2]) (by kernel_rfl) (.cons (.tmp (by kernel_rfl)) .nil) (fun w hw => (Sat.less .refl hw)) ?_
  exact ⟨rfl, rfl⟩
def lessS (p : Int) (q : Int) : Option (Bool) :=
  (isNaNS p).bind fun y1_1 => (bif y1_1 then (isNaNS q).bind fun y1_4 => (bif !y1_4 then some true else some (decide (p < q))) else some (decide (p < q)))
noncomputable def C76 (p : List Nat) : Code := codeAt (bodyOf Try.f76) p
set_option maxRecDepth 100000 in
set_option maxHeartbeats 8000000 in
theorem LessF_tr {W0 : World} {Γ : List Asn} (p : Int) (q : Int)  (y : Bool) (H : lessS p q = some y) : Tr Try.prog 76 #[.int .i64 p, .int .i64 q] W0 (Γ) (fun r Δ => r = .bool y ∧ Δ = Γ) := by
  unfold lessS at H
  refine Tr.enter (fn := Try.f76) (c := C76 []) (args := [.int .i64 p, .int .i64 q]) 17 Try.func76 (by kernel_rfl) (by kernel_rfl) ?_
  refine At.env [(0, .int .i64 p), (1, .int .i64 q)] ⟨by kernel_rfl, by kernel_rfl, trivial⟩ ?_
  refine at_seq (x := C76 [0]) (y := C76 [1]) (by kernel_rfl) ?_
  refine at_region (id := 0) 1 (by kernel_rfl) (by kernel_rfl) ?_
  refine s_pure 4 (.bool false) (by kernel_rfl) (by kernel_rfl) (fun _ => by kernel_rfl) ?_
  refine ops_end ?_
  refine At.env [(0, .int .i64 p), (1, .int .i64 q), (4, .bool false)] ⟨by kernel_rfl, by kernel_rfl, by kernel_rfl, trivial⟩ ?_
  refine at_then_normal ?_
  refine at_seq (x := C76 [1, 0]) (y := C76 [1, 1]) (by kernel_rfl) ?_
  refine at_region (id := 1) 13 (by kernel_rfl) (by kernel_rfl) ?_
  refine s_pure 5 (.int .i64 p) (by kernel_rfl) (by kernel_rfl) (fun _ => by kernel_rfl) ?_
  obtain ⟨y1_1, hy1_1, H⟩ := bindE H
  refine s_quiet 6 (.bool y1_1) 86 #[.int .i64 p] (by kernel_rfl) (by kernel_rfl) (fun _ => by kernel_rfl) (IsNaNF_tr p y1_1 hy1_1) ?_
  rcases Bool.eq_false_or_eq_true (y1_1) with h1 | h1
  · replace H := bifT H h1
    refine s_pure 7 (.bool true) (by kernel_rfl) (by kernel_rfl) (run_eq (v := .bool (y1_1)) (fun _ => by kernel_rfl) (congrArg Value.bool h1)) ?_
    refine s_pure 8 (.int .i64 q) (by kernel_rfl) (by kernel_rfl) (fun _ => by kernel_rfl) ?_
    obtain ⟨y1_4, hy1_4, H⟩ := bindE H
    refine s_quiet 9 (.bool y1_4) 86 #[.int .i64 q] (by kernel_rfl) (by kernel_rfl) (fun _ => by kernel_rfl) (IsNaNF_tr q y1_4 hy1_4) ?_
    refine s_pure 10 (.bool !y1_4) (by kernel_rfl) (by kernel_rfl) (fun _ => by kernel_rfl) ?_
    refine s_pure 11 (.bool !y1_4) (by kernel_rfl) (by kernel_rfl) (fun _ => by kernel_rfl) ?_
    rcases Bool.eq_false_or_eq_true (!y1_4) with h2 | h2
    · replace H := bifT H h2
      refine s_pure 12 (.bool true) (by kernel_rfl) (by kernel_rfl) (run_eq (v := .bool (!y1_4)) (fun _ => by kernel_rfl) (congrArg Value.bool h2)) ?_
      refine s_pass 13 (by kernel_rfl) (by kernel_rfl) ?_
      refine s_pass 14 (by kernel_rfl) (by kernel_rfl) ?_
      refine s_pass 15 (by kernel_rfl) (by kernel_rfl) ?_
      refine s_pure 16 (.bool true) (by kernel_rfl) (by kernel_rfl) (fun _ => by kernel_rfl) ?_
      refine s_pure 4 (.bool true) (by kernel_rfl) (by kernel_rfl) (fun _ => by kernel_rfl) ?_
      refine ops_end ?_
      refine At.env [(0, .int .i64 p), (1, .int .i64 q), (4, .bool true)] ⟨by kernel_rfl, by kernel_rfl, by kernel_rfl, trivial⟩ ?_
      refine at_then_normal ?_
      refine at_ret (by kernel_rfl) ?_
      obtain rfl := someE H
      refine at_backR [.bool true] (Γ) (rs := [.tmp 4]) (by kernel_rfl) (.cons (.tmp (by kernel_rfl)) .nil) (fun w hw => (Sat.less .refl hw)) ?_
      exact ⟨rfl, rfl⟩
    · replace H := bifF H h2
      refine s_pure 12 (.bool false) (by kernel_rfl) (by kernel_rfl) (run_eq (v := .bool (!y1_4)) (fun _ => by kernel_rfl) (congrArg Value.bool h2)) ?_
      refine s_pure 13 (.int .i64 p) (by kernel_rfl) (by kernel_rfl) (fun _ => by kernel_rfl) ?_
      refine s_pure 14 (.int .i64 q) (by kernel_rfl) (by kernel_rfl) (fun _ => by kernel_rfl) ?_
      refine s_pure 15 (.bool (decide (p < q))) (by kernel_rfl) (by kernel_rfl) (fun _ => by kernel_rfl) ?_
      refine s_pure 16 (.bool (decide (p < q))) (by kernel_rfl) (by kernel_rfl) (fun _ => by kernel_rfl) ?_
      refine s_pure 4 (.bool (decide (p < q))) (by kernel_rfl) (by kernel_rfl) (fun _ => by kernel_rfl) ?_
      refine ops_end ?_
      refine At.env [(0, .int .i64 p), (1, .int .i64 q), (4, .bool (decide (p < q)))] ⟨by kernel_rfl, by kernel_rfl, by kernel_rfl, trivial⟩ ?_
      refine at_then_normal ?_
      refine at_ret (by kernel_rfl) ?_
      obtain rfl := someE H
      refine at_backR [.bool (decide (p < q))] (Γ) (rs := [.tmp 4]) (by kernel_rfl) (.cons (.tmp (by kernel_rfl)) .nil) (fun w hw => (Sat.less .refl hw)) ?_
      exact ⟨rfl, rfl⟩
  · replace H := bifF H h1
    refine s_pure 7 (.bool false) (by kernel_rfl) (by kernel_rfl) (run_eq (v := .bool (y1_1)) (fun _ => by kernel_rfl) (congrArg Value.bool h1)) ?_
    refine s_pass 8 (by kernel_rfl) (by kernel_rfl) ?_
    refine s_pass 9 (by kernel_rfl) (by kernel_rfl) ?_
    refine s_pass 10 (by kernel_rfl) (by kernel_rfl) ?_
    refine s_pure 11 (.bool false) (by kernel_rfl) (by kernel_rfl) (fun _ => by kernel_rfl) ?_
    refine s_pure 12 (.bool false) (by kernel_rfl) (by kernel_rfl) (fun _ => by kernel_rfl) ?_
    refine s_pure 13 (.int .i64 p) (by kernel_rfl) (by kernel_rfl) (fun _ => by kernel_rfl) ?_
    refine s_pure 14 (.int .i64 q) (by kernel_rfl) (by kernel_rfl) (fun _ => by kernel_rfl) ?_
    refine s_pure 15 (.bool (decide (p < q))) (by kernel_rfl) (by kernel_rfl) (fun _ => by kernel_rfl) ?_
    refine s_pure 16 (.bool (decide (p < q))) (by kernel_rfl) (by kernel_rfl) (fun _ => by kernel_rfl) ?_
    refine s_pure 4 (.bool (decide (p < q))) (by kernel_rfl) (by kernel_rfl) (fun _ => by kernel_rfl) ?_
    refine ops_end ?_
    refine At.env [(0, .int .i64 p), (1, .int .i64 q), (4, .bool (decide (p < q)))] ⟨by kernel_rfl, by kernel_rfl, by kernel_rfl, trivial⟩ ?_
    refine at_then_normal ?_
    refine at_ret (by kernel_rfl) ?_
    obtain rfl := someE H
    refine at_backR [.bool (decide (p < q))] (Γ) (rs := [.tmp 4]) (by kernel_rfl) (.cons (.tmp (by kernel_rfl)) .nil) (fun w hw => (Sat.less .refl hw)) ?_
    exact ⟨rfl, rfl⟩
def isortS_j2 (v1_7 : Int) (xs : List Int) (v1_xsa : List Int) (r1 : Int → (List Int) → Option ((List Int))) (k1 : Int → (List Int) → Bool → Option ((List Int))) (e2_30 : Bool) : Option ((List Int)) :=
  (bif e2_30 then chk (inR (v1_7 - (1 : Int))) (chk (inR (v1_7 - (1 : Int))) (chk ((0 ≤ (v1_7 - (1 : Int)) ∧ (v1_7 - (1 : Int)) < (((List.length xs) : Nat) : Int)) ∧ 0 ≤ (v1_7 - (1 : Int)) ∧ (v1_7 - (1 : Int)) < ((v1_xsa.length : Nat) : Int)) (chk ((0 ≤ v1_7 ∧ v1_7 < (((List.length xs) : Nat) : Int)) ∧ 0 ≤ v1_7 ∧ v1_7 < ((v1_xsa.length : Nat) : Int)) (chk ((0 ≤ v1_7 ∧ v1_7 < (((List.length xs) : Nat) : Int)) ∧ 0 ≤ v1_7 ∧ v1_7 < ((v1_xsa.length : Nat) : Int)) (letP (setI v1_xsa v1_7 (nth v1_xsa (v1_7 - (1 : Int)))) fun w6_15 => chk ((0 ≤ (v1_7 - (1 : Int)) ∧ (v1_7 - (1 : Int)) < (((List.length xs) : Nat) : Int)) ∧ 0 ≤ (v1_7 - (1 : Int)) ∧ (v1_7 - (1 : Int)) < ((w6_15.length : Nat) : Int)) (letP (setI w6_15 (v1_7 - (1 : Int)) (nth v1_xsa v1_7)) fun w6_17 => chk (inR (v1_7 - (1 : Int))) (r1 (v1_7 - (1 : Int)) w6_17))))))) else k1 v1_7 v1_xsa e2_30)
def isortS_k1 (v0_6 : Int) (r0 : Int → (List Int) → Option ((List Int))) (e1_7 : Int) (e1_xsa : List Int) (e1_30 : Bool) : Option ((List Int)) :=
  chk (inR (v0_6 + (1 : Int))) (r0 (v0_6 + (1 : Int)) e1_xsa)
def isortS_l1 (a : Int) (xs : List Int) (k1 : Int → (List Int) → Bool → Option ((List Int))) : Nat → Int → (List Int) → Option ((List Int))
  | 0 => fun _ _ => none
  | m + 1 => fun v1_7 v1_xsa => (bif decide (a < v1_7) then chk ((0 ≤ v1_7 ∧ v1_7 < (((List.length xs) : Nat) : Int)) ∧ 0 ≤ v1_7 ∧ v1_7 < ((v1_xsa.length : Nat) : Int)) (chk (inR (v1_7 - (1 : Int))) (chk ((0 ≤ (v1_7 - (1 : Int)) ∧ (v1_7 - (1 : Int)) < (((List.length xs) : Nat) : Int)) ∧ 0 ≤ (v1_7 - (1 : Int)) ∧ (v1_7 - (1 : Int)) < ((v1_xsa.length : Nat) : Int)) ((lessS (nth v1_xsa v1_7) (nth v1_xsa (v1_7 - (1 : Int)))).bind fun y4_13 => isortS_j2 v1_7 xs v1_xsa (isortS_l1 a xs k1 m) k1 y4_13))) else isortS_j2 v1_7 xs v1_xsa (isortS_l1 a xs k1 m) k1 false)
def isortS_k0 (e0_6 : Int) (e0_xsa : List Int) : Option ((List Int)) :=
  some e0_xsa
def isortS_l0 (b : Int) (a : Int) (xs : List Int) (k0 : Int → (List Int) → Option ((List Int))) : Nat → Int → (List Int) → Option ((List Int))
  | 0 => fun _ _ => none
  | m + 1 => fun v0_6 v0_xsa => (bif decide (v0_6 < b) then isortS_l1 a xs (isortS_k1 v0_6 (isortS_l0 b a xs k0 m)) 64 v0_6 v0_xsa else k0 v0_6 v0_xsa)
def isortS (xs : List Int) (a : Int) (b : Int) : Option ((List Int)) :=
  isortS_l0 b a xs (isortS_k0 ) 64 (wr (a + (1 : Int))) xs
noncomputable def C70 (p : List Nat) : Code := codeAt (bodyOf Try.f70) p
set_option maxRecDepth 100000 in
set_option maxHeartbeats 8000000 in
theorem ISortF_tr {W0 : World} {Γ : List Asn} (xsa : Option Addr) (xscap : Nat) (xs : List Int) (a : Int) (b : Int)  (y : (List Int)) (H : isortS xs a b = some y) : Tr Try.prog 70 #[.slice xsa (List.length xs) xscap, .int .i64 a, .int .i64 b] W0 ((IntsA xsa xscap xs) :: Γ) (fun r Δ => r = .tuple #[] ∧ Δ = (IntsA xsa xscap y) :: Γ) := by
  unfold isortS at H
  refine Tr.enter (fn := Try.f70) (c := C70 []) (args := [.slice xsa (List.length xs) xscap, .int .i64 a, .int .i64 b]) 49 Try.func70 (by kernel_rfl) (by kernel_rfl) ?_
  refine At.env [(0, .slice xsa (List.length xs) xscap), (1, .int .i64 a), (2, .int .i64 b)] ⟨by kernel_rfl, by kernel_rfl, by kernel_rfl, trivial⟩ ?_
  refine at_seq (x := C70 [0]) (y := C70 [1]) (by kernel_rfl) ?_
  refine at_region (id := 0) 3 (by kernel_rfl) (by kernel_rfl) ?_
  refine s_pure 8 (.int .i64 a) (by kernel_rfl) (by kernel_rfl) (fun _ => by kernel_rfl) ?_
  refine s_pure 9 (.int .i64 (wr (a + (1 : Int)))) (by kernel_rfl) (by kernel_rfl) (fun _ => by kernel_rfl) ?_
  refine s_pure 6 (.int .i64 (wr (a + (1 : Int)))) (by kernel_rfl) (by kernel_rfl) (fun _ => by kernel_rfl) ?_
  refine ops_end ?_
  refine At.env [(0, .slice xsa (List.length xs) xscap), (1, .int .i64 a), (2, .int .i64 b), (6, .int .i64 (wr (a + (1 : Int))))] ⟨by kernel_rfl, by kernel_rfl, by kernel_rfl, by kernel_rfl, trivial⟩ ?_
  refine at_then_normal ?_
  refine at_block (i := 0) (x := C70 [1, 0]) (by kernel_rfl) ?_
  refine At.conv (Γ' := (IntsA xsa xscap xs) :: Γ) (fun w hw => (Sat.less (.take .here .refl) hw)) ?_
  refine at_loopR (x := C70 [1, 0, 0]) (fun mm ff ΔΔ => ∃ (fuel : Nat) (v0_6 : Int) (v0_xsa : List Int), isortS_l0 b a xs (isortS_k0 ) fuel v0_6 v0_xsa = some y ∧ fuel = mm ∧ ff = [(0, .slice xsa (List.length xs) xscap), (1, .int .i64 a), (2, .int .i64 b), (6, .int .i64 v0_6)] ∧ (IntsA xsa xscap v0_xsa) :: Γ = ΔΔ) (64) (by kernel_rfl) [(0, .slice xsa (List.length xs) xscap), (1, .int .i64 a), (2, .int .i64 b), (6, .int .i64 (wr (a + (1 : Int))))] ⟨by kernel_rfl, by kernel_rfl, by kernel_rfl, by kernel_rfl, trivial⟩ ⟨64, wr (a + (1 : Int)), xs, H, rfl, rfl, rfl⟩ ?_
  rintro _ _ _ ⟨fuel1, v0_6, v0_xsa, H, rfl, rfl, rfl⟩
  rcases fuel1 with _ | fuel1
  · exact (noneE H).elim
  rw [isortS_l0] at H
  refine at_seq (x := C70 [1, 0, 0, 0]) (y := C70 [1, 0, 0, 1]) (by kernel_rfl) ?_
  refine at_seq (x := C70 [1, 0, 0, 0, 0]) (y := C70 [1, 0, 0, 0, 1]) (by kernel_rfl) ?_
  refine at_region (id := 1) 3 (by kernel_rfl) (by kernel_rfl) ?_
  refine s_pure 10 (.int .i64 v0_6) (by kernel_rfl) (by kernel_rfl) (fun _ => by kernel_rfl) ?_
  refine s_pure 11 (.int .i64 b) (by kernel_rfl) (by kernel_rfl) (fun _ => by kernel_rfl) ?_
  refine s_pure 12 (.bool (decide (v0_6 < b))) (by kernel_rfl) (by kernel_rfl) (fun _ => by kernel_rfl) ?_
  refine ops_end ?_
  refine At.env [(0, .slice xsa (List.length xs) xscap), (1, .int .i64 a), (2, .int .i64 b), (6, .int .i64 v0_6), (12, .bool (decide (v0_6 < b)))] ⟨by kernel_rfl, by kernel_rfl, by kernel_rfl, by kernel_rfl, by kernel_rfl, trivial⟩ ?_
  refine at_then_normal ?_
  rcases Bool.eq_false_or_eq_true (decide (v0_6 < b)) with h1 | h1
  · replace H := bifT H h1
    refine at_true (t := decide (v0_6 < b)) (x := C70 [1, 0, 0, 0, 1, 0]) (y := C70 [1, 0, 0, 0, 1, 1]) (o := .tmp 12) (by kernel_rfl) (by kernel_rfl) (by kernel_rfl) h1 ?_
    refine at_skip (by kernel_rfl) ?_
    refine at_then_normal ?_
    refine at_seq (x := C70 [1, 0, 0, 1, 0]) (y := C70 [1, 0, 0, 1, 1]) (by kernel_rfl) ?_
    refine at_block (i := 1) (x := C70 [1, 0, 0, 1, 0, 0]) (by kernel_rfl) ?_
    refine at_seq (x := C70 [1, 0, 0, 1, 0, 0, 0]) (y := C70 [1, 0, 0, 1, 0, 0, 1]) (by kernel_rfl) ?_
    refine at_region (id := 3) 2 (by kernel_rfl) (by kernel_rfl) ?_
    refine s_pure 15 (.int .i64 v0_6) (by kernel_rfl) (by kernel_rfl) (fun _ => by kernel_rfl) ?_
    refine s_pure 7 (.int .i64 v0_6) (by kernel_rfl) (by kernel_rfl) (fun _ => by kernel_rfl) ?_
    refine ops_end ?_
    refine At.env [(0, .slice xsa (List.length xs) xscap), (1, .int .i64 a), (2, .int .i64 b), (6, .int .i64 v0_6), (7, .int .i64 v0_6), (12, .bool (decide (v0_6 < b)))] ⟨by kernel_rfl, by kernel_rfl, by kernel_rfl, by kernel_rfl, by kernel_rfl, by kernel_rfl, trivial⟩ ?_
    refine at_then_normal ?_
    refine at_block (i := 2) (x := C70 [1, 0, 0, 1, 0, 0, 1, 0]) (by kernel_rfl) ?_
    refine At.conv (Γ' := (IntsA xsa xscap v0_xsa) :: Γ) (fun w hw => (Sat.less (.take .here .refl) hw)) ?_
    refine at_loopR (x := C70 [1, 0, 0, 1, 0, 0, 1, 0, 0]) (fun mm ff ΔΔ => ∃ (fuel : Nat) (v1_7 : Int) (v1_xsa : List Int), isortS_l1 a xs (isortS_k1 v0_6 (isortS_l0 b a xs (isortS_k0 ) fuel1)) fuel v1_7 v1_xsa = some y ∧ fuel = mm ∧ ff = [(0, .slice xsa (List.length xs) xscap), (1, .int .i64 a), (2, .int .i64 b), (6, .int .i64 v0_6), (7, .int .i64 v1_7), (12, .bool (decide (v0_6 < b)))] ∧ (IntsA xsa xscap v1_xsa) :: Γ = ΔΔ) (64) (by kernel_rfl) [(0, .slice xsa (List.length xs) xscap), (1, .int .i64 a), (2, .int .i64 b), (6, .int .i64 v0_6), (7, .int .i64 v0_6), (12, .bool (decide (v0_6 < b)))] ⟨by kernel_rfl, by kernel_rfl, by kernel_rfl, by kernel_rfl, by kernel_rfl, by kernel_rfl, trivial⟩ ⟨64, v0_6, v0_xsa, H, rfl, rfl, rfl⟩ ?_
    rintro _ _ _ ⟨fuel2, v1_7, v1_xsa, H, rfl, rfl, rfl⟩
    rcases fuel2 with _ | fuel2
    · exact (noneE H).elim
    rw [isortS_l1] at H
    refine at_seq (x := C70 [1, 0, 0, 1, 0, 0, 1, 0, 0, 0]) (y := C70 [1, 0, 0, 1, 0, 0, 1, 0, 0, 1]) (by kernel_rfl) ?_
    refine at_seq_join (x := C70 [1, 0, 0, 1, 0, 0, 1, 0, 0, 0, 0]) (y := C70 [1, 0, 0, 1, 0, 0, 1, 0, 0, 0, 1]) (fun ff ΔΔ => ∃ (e2_30 : Bool), isortS_j2 v1_7 xs v1_xsa (isortS_l1 a xs (isortS_k1 v0_6 (isortS_l0 b a xs (isortS_k0 ) fuel1)) fuel2) (isortS_k1 v0_6 (isortS_l0 b a xs (isortS_k0 ) fuel1)) e2_30 = some y ∧ ff = [(0, .slice xsa (List.length xs) xscap), (1, .int .i64 a), (2, .int .i64 b), (6, .int .i64 v0_6), (7, .int .i64 v1_7), (12, .bool (decide (v0_6 < b))), (30, .bool e2_30)] ∧ (IntsA xsa xscap v1_xsa) :: Γ = ΔΔ) (by kernel_rfl) ?_ ?_
    · rintro _ _ ⟨e2_30, H, rfl, rfl⟩
      rw [isortS_j2] at H
      rcases Bool.eq_false_or_eq_true (e2_30) with h2 | h2
      · replace H := bifT H h2
        refine at_true (t := e2_30) (x := C70 [1, 0, 0, 1, 0, 0, 1, 0, 0, 0, 1, 0]) (y := C70 [1, 0, 0, 1, 0, 0, 1, 0, 0, 0, 1, 1]) (o := .tmp 30) (by kernel_rfl) (by kernel_rfl) (by kernel_rfl) h2 ?_
        refine at_skip (by kernel_rfl) ?_
        refine at_then_normal ?_
        refine at_seq (x := C70 [1, 0, 0, 1, 0, 0, 1, 0, 0, 1, 0]) (y := C70 [1, 0, 0, 1, 0, 0, 1, 0, 0, 1, 1]) (by kernel_rfl) ?_
        refine at_block (i := 3) (x := C70 [1, 0, 0, 1, 0, 0, 1, 0, 0, 1, 0, 0]) (by kernel_rfl) ?_
        refine at_region_draw (id := 6) (by kernel_rfl) (by kernel_rfl) ?_
        refine d_pure 0 33 (.slice xsa (List.length xs) xscap) (by kernel_rfl) (by kernel_rfl) (by kernel_rfl) (fun _ => by kernel_rfl) ?_
        refine d_pure 1 34 (.int .i64 v1_7) (by kernel_rfl) (by kernel_rfl) (by kernel_rfl) (fun _ => by kernel_rfl) ?_
        refine d_pure 2 35 (.slice xsa (List.length xs) xscap) (by kernel_rfl) (by kernel_rfl) (by kernel_rfl) (fun _ => by kernel_rfl) ?_
        refine d_pure 3 36 (.int .i64 v1_7) (by kernel_rfl) (by kernel_rfl) (by kernel_rfl) (fun _ => by kernel_rfl) ?_
        obtain ⟨hc6_4_0, H⟩ := chkE H
        refine d_pure 4 37 (.int .i64 (v1_7 - (1 : Int))) (by kernel_rfl) (by kernel_rfl) (by kernel_rfl) (run_eq (v := .int .i64 (IntKind.i64.wrap (v1_7 - (1 : Int)))) (fun _ => by kernel_rfl) (by rw [inR.wrap hc6_4_0])) ?_
        refine d_pure 5 38 (.slice xsa (List.length xs) xscap) (by kernel_rfl) (by kernel_rfl) (by kernel_rfl) (fun _ => by kernel_rfl) ?_
        refine d_pure 6 39 (.int .i64 v1_7) (by kernel_rfl) (by kernel_rfl) (by kernel_rfl) (fun _ => by kernel_rfl) ?_
        obtain ⟨hc6_7_0, H⟩ := chkE H
        refine d_pure 7 40 (.int .i64 (v1_7 - (1 : Int))) (by kernel_rfl) (by kernel_rfl) (by kernel_rfl) (run_eq (v := .int .i64 (IntKind.i64.wrap (v1_7 - (1 : Int)))) (fun _ => by kernel_rfl) (by rw [inR.wrap hc6_7_0])) ?_
        obtain ⟨hc6_8_0, H⟩ := chkE H
        refine rows_at_draw .here (by have := hc6_8_0.2; simp only [ints_length]; omega) ?_
        intro bb1 oo1 ha1
        refine d_pure 8 41 (.pointer (some ⟨bb1, oo1 + (((v1_7 - (1 : Int))).toNat * 1 + 0), none⟩)) (by kernel_rfl) (by kernel_rfl) (by kernel_rfl) (index_at (t := 22) (sz := 1) (E := 3) (a := xsa) (m := (List.length xs)) (c := xscap) (b := bb1) (off := oo1) (i := ((v1_7 - (1 : Int))).toNat) (tinfo 3) (fun _ => by kernel_rfl) (by kernel_rfl) (by kernel_rfl) (by kernel_rfl) ha1 (idx_cast hc6_8_0.1) (idx_nat hc6_8_0.1) rfl) ?_
        refine d_load 9 42 (.int .i64 (nth v1_xsa (v1_7 - (1 : Int)))) (by kernel_rfl) (by kernel_rfl) (by kernel_rfl) (load1_at (off := oo1 + (((v1_7 - (1 : Int))).toNat * 1 + 0)) (v := .int .i64 (nth v1_xsa (v1_7 - (1 : Int)))) (fun _ => by kernel_rfl) rfl (reads_cell (k := 1) (RowsA.reads (k := 1) .here) (ints_rows _) ha1 (nth_row hc6_8_0.2) (show [(.int .i64 (nth v1_xsa (v1_7 - (1 : Int))) : Value)][0]? = some _ from rfl))) ?_
        refine d_pure 10 43 (.slice xsa (List.length xs) xscap) (by kernel_rfl) (by kernel_rfl) (by kernel_rfl) (fun _ => by kernel_rfl) ?_
        refine d_pure 11 44 (.int .i64 v1_7) (by kernel_rfl) (by kernel_rfl) (by kernel_rfl) (fun _ => by kernel_rfl) ?_
        obtain ⟨hc6_12_0, H⟩ := chkE H
        refine d_pure 12 45 (.pointer (some ⟨bb1, oo1 + ((v1_7).toNat * 1 + 0), none⟩)) (by kernel_rfl) (by kernel_rfl) (by kernel_rfl) (index_at (t := 22) (sz := 1) (E := 3) (a := xsa) (m := (List.length xs)) (c := xscap) (b := bb1) (off := oo1) (i := (v1_7).toNat) (tinfo 3) (fun _ => by kernel_rfl) (by kernel_rfl) (by kernel_rfl) (by kernel_rfl) ha1 (idx_cast hc6_12_0.1) (idx_nat hc6_12_0.1) rfl) ?_
        refine d_load 13 46 (.int .i64 (nth v1_xsa v1_7)) (by kernel_rfl) (by kernel_rfl) (by kernel_rfl) (load1_at (off := oo1 + ((v1_7).toNat * 1 + 0)) (v := .int .i64 (nth v1_xsa v1_7)) (fun _ => by kernel_rfl) rfl (reads_cell (k := 1) (RowsA.reads (k := 1) .here) (ints_rows _) ha1 (nth_row hc6_12_0.2) (show [(.int .i64 (nth v1_xsa v1_7) : Value)][0]? = some _ from rfl))) ?_
        obtain ⟨hc6_14_0, H⟩ := chkE H
        refine d_pure 14 47 (.pointer (some ⟨bb1, oo1 + ((v1_7).toNat * 1 + 0), none⟩)) (by kernel_rfl) (by kernel_rfl) (by kernel_rfl) (index_at (t := 22) (sz := 1) (E := 3) (a := xsa) (m := (List.length xs)) (c := xscap) (b := bb1) (off := oo1) (i := (v1_7).toNat) (tinfo 3) (fun _ => by kernel_rfl) (by kernel_rfl) (by kernel_rfl) (by kernel_rfl) ha1 (idx_cast hc6_14_0.1) (idx_nat hc6_14_0.1) rfl) ?_
        obtain ⟨w6_15, hw6_15, H⟩ := letE H
        refine d_do 15 [14, 9, 0, 1, 5, 6, 7, 8, 13, 12, 10, 11] [4, 3, 2] [] (by kernel_rfl) (by kernel_rfl) (by kernel_rfl) (st_to_int (st_row (k := 1) (off := oo1) (i := (v1_7).toNat) (j := 0) (row := [.int .i64 (nth v1_xsa v1_7)]) (row' := [.int .i64 (nth v1_xsa (v1_7 - (1 : Int)))]) (vs := [.int .i64 (nth v1_xsa (v1_7 - (1 : Int)))]) (fun _ => by kernel_rfl) .here ha1 (nth_row hc6_14_0.2) rfl (by kernel_rfl) (by kernel_rfl) rfl)) ?_
        rintro _ _ ⟨rfl, rfl⟩
        have hsw6_15 : w6_15 = List.set v1_xsa (v1_7).toNat (nth v1_xsa (v1_7 - (1 : Int))) := hw6_15.symm
        rw [← hsw6_15]
        refine ⟨stable_nil, ?_⟩
        obtain ⟨hc6_16_0, H⟩ := chkE H
        refine d_pure 16 48 (.pointer (some ⟨bb1, oo1 + (((v1_7 - (1 : Int))).toNat * 1 + 0), none⟩)) (by kernel_rfl) (by kernel_rfl) (by kernel_rfl) (index_at (t := 22) (sz := 1) (E := 3) (a := xsa) (m := (List.length xs)) (c := xscap) (b := bb1) (off := oo1) (i := ((v1_7 - (1 : Int))).toNat) (tinfo 3) (fun _ => by kernel_rfl) (by kernel_rfl) (by kernel_rfl) (by kernel_rfl) ha1 (idx_cast hc6_16_0.1) (idx_nat hc6_16_0.1) rfl) ?_
        obtain ⟨w6_17, hw6_17, H⟩ := letE H
        refine d_do 17 [16, 13, 15, 0, 1, 2, 3, 4, 5, 6, 7, 8, 9, 10, 11, 12, 14] [] [] (by kernel_rfl) (by kernel_rfl) (by kernel_rfl) (st_to_int (st_row (k := 1) (off := oo1) (i := ((v1_7 - (1 : Int))).toNat) (j := 0) (row := [.int .i64 (nth w6_15 (v1_7 - (1 : Int)))]) (row' := [.int .i64 (nth v1_xsa v1_7)]) (vs := [.int .i64 (nth v1_xsa v1_7)]) (fun _ => by kernel_rfl) .here ha1 (nth_row hc6_16_0.2) rfl (by kernel_rfl) (by kernel_rfl) rfl)) ?_
        rintro _ _ ⟨rfl, rfl⟩
        have hsw6_17 : w6_17 = List.set w6_15 ((v1_7 - (1 : Int))).toNat (nth v1_xsa v1_7) := hw6_17.symm
        rw [← hsw6_17]
        refine ⟨stable_nil, ?_⟩
        refine draw_end (by kernel_rfl) ?_
        refine At.env [(0, .slice xsa (List.length xs) xscap), (1, .int .i64 a), (2, .int .i64 b), (6, .int .i64 v0_6), (7, .int .i64 v1_7), (12, .bool (decide (v0_6 < b))), (30, .bool e2_30)] ⟨by kernel_rfl, by kernel_rfl, by kernel_rfl, by kernel_rfl, by kernel_rfl, by kernel_rfl, by kernel_rfl, trivial⟩ ?_
        refine at_in_normal ?_
        refine at_then_normal ?_
        refine at_region (id := 5) 3 (by kernel_rfl) (by kernel_rfl) ?_
        refine s_pure 31 (.int .i64 v1_7) (by kernel_rfl) (by kernel_rfl) (fun _ => by kernel_rfl) ?_
        obtain ⟨hc5_1_0, H⟩ := chkE H
        refine s_pure 32 (.int .i64 (v1_7 - (1 : Int))) (by kernel_rfl) (by kernel_rfl) (run_eq (v := .int .i64 (IntKind.i64.wrap (v1_7 - (1 : Int)))) (fun _ => by kernel_rfl) (by rw [inR.wrap hc5_1_0])) ?_
        refine s_pure 7 (.int .i64 (v1_7 - (1 : Int))) (by kernel_rfl) (by kernel_rfl) (fun _ => by kernel_rfl) ?_
        refine ops_end ?_
        refine At.env [(0, .slice xsa (List.length xs) xscap), (1, .int .i64 a), (2, .int .i64 b), (6, .int .i64 v0_6), (7, .int .i64 (v1_7 - (1 : Int))), (12, .bool (decide (v0_6 < b))), (30, .bool e2_30)] ⟨by kernel_rfl, by kernel_rfl, by kernel_rfl, by kernel_rfl, by kernel_rfl, by kernel_rfl, by kernel_rfl, trivial⟩ ?_
        refine at_round_normal ?_
        exact at_roundR fuel2 [(0, .slice xsa (List.length xs) xscap), (1, .int .i64 a), (2, .int .i64 b), (6, .int .i64 v0_6), (7, .int .i64 (v1_7 - (1 : Int))), (12, .bool (decide (v0_6 < b)))] ((IntsA xsa xscap w6_17) :: Γ) (Nat.lt_succ_self _) ⟨by kernel_rfl, by kernel_rfl, by kernel_rfl, by kernel_rfl, by kernel_rfl, by kernel_rfl, trivial⟩ (fun w hw => (Sat.less (.take .here .refl) hw)) ⟨fuel2, v1_7 - (1 : Int), w6_17, H, rfl, rfl, rfl⟩
      · replace H := bifF H h2
        refine at_false (t := e2_30) (x := C70 [1, 0, 0, 1, 0, 0, 1, 0, 0, 0, 1, 0]) (y := C70 [1, 0, 0, 1, 0, 0, 1, 0, 0, 0, 1, 1]) (o := .tmp 30) (by kernel_rfl) (by kernel_rfl) (by kernel_rfl) h2 ?_
        refine at_exit (i := 2) (by kernel_rfl) ?_
        refine at_then_exit ?_
        refine at_then_exit ?_
        rw [isortS_k1] at H
        refine At.env [(0, .slice xsa (List.length xs) xscap), (1, .int .i64 a), (2, .int .i64 b), (6, .int .i64 v0_6), (7, .int .i64 v1_7), (12, .bool (decide (v0_6 < b))), (30, .bool e2_30)] ⟨by kernel_rfl, by kernel_rfl, by kernel_rfl, by kernel_rfl, by kernel_rfl, by kernel_rfl, by kernel_rfl, trivial⟩ ?_
        refine At.conv (Γ' := (IntsA xsa xscap v1_xsa) :: Γ) (fun w hw => (Sat.less (.take .here .refl) hw)) ?_
        refine at_in_here ?_
        refine at_in_normal ?_
        refine at_then_normal ?_
        refine at_region (id := 2) 3 (by kernel_rfl) (by kernel_rfl) ?_
        refine s_pure 13 (.int .i64 v0_6) (by kernel_rfl) (by kernel_rfl) (fun _ => by kernel_rfl) ?_
        obtain ⟨hc2_1_0, H⟩ := chkE H
        refine s_pure 14 (.int .i64 (v0_6 + (1 : Int))) (by kernel_rfl) (by kernel_rfl) (run_eq (v := .int .i64 (IntKind.i64.wrap (v0_6 + (1 : Int)))) (fun _ => by kernel_rfl) (by rw [inR.wrap hc2_1_0])) ?_
        refine s_pure 6 (.int .i64 (v0_6 + (1 : Int))) (by kernel_rfl) (by kernel_rfl) (fun _ => by kernel_rfl) ?_
        refine ops_end ?_
        refine At.env [(0, .slice xsa (List.length xs) xscap), (1, .int .i64 a), (2, .int .i64 b), (6, .int .i64 (v0_6 + (1 : Int))), (7, .int .i64 v1_7), (12, .bool (decide (v0_6 < b))), (30, .bool e2_30)] ⟨by kernel_rfl, by kernel_rfl, by kernel_rfl, by kernel_rfl, by kernel_rfl, by kernel_rfl, by kernel_rfl, trivial⟩ ?_
        refine at_round_normal ?_
        exact at_roundR fuel1 [(0, .slice xsa (List.length xs) xscap), (1, .int .i64 a), (2, .int .i64 b), (6, .int .i64 (v0_6 + (1 : Int)))] ((IntsA xsa xscap v1_xsa) :: Γ) (Nat.lt_succ_self _) ⟨by kernel_rfl, by kernel_rfl, by kernel_rfl, by kernel_rfl, trivial⟩ (fun w hw => (Sat.less (.take .here .refl) hw)) ⟨fuel1, v0_6 + (1 : Int), v1_xsa, H, rfl, rfl, rfl⟩
    · refine at_region_draw (id := 4) (by kernel_rfl) (by kernel_rfl) ?_
      refine d_pure 0 16 (.int .i64 v1_7) (by kernel_rfl) (by kernel_rfl) (by kernel_rfl) (fun _ => by kernel_rfl) ?_
      refine d_pure 1 17 (.int .i64 a) (by kernel_rfl) (by kernel_rfl) (by kernel_rfl) (fun _ => by kernel_rfl) ?_
      refine d_pure 2 18 (.bool (decide (a < v1_7))) (by kernel_rfl) (by kernel_rfl) (by kernel_rfl) (fun _ => by kernel_rfl) ?_
      rcases Bool.eq_false_or_eq_true (decide (a < v1_7)) with h3 | h3
      · replace H := bifT H h3
        refine d_pure 3 19 (.bool true) (by kernel_rfl) (by kernel_rfl) (by kernel_rfl) (run_eq (v := .bool (decide (a < v1_7))) (fun _ => by kernel_rfl) (congrArg Value.bool h3)) ?_
        refine d_pure 4 20 (.slice xsa (List.length xs) xscap) (by kernel_rfl) (by kernel_rfl) (by kernel_rfl) (fun _ => by kernel_rfl) ?_
        refine d_pure 5 21 (.int .i64 v1_7) (by kernel_rfl) (by kernel_rfl) (by kernel_rfl) (fun _ => by kernel_rfl) ?_
        obtain ⟨hc4_6_0, H⟩ := chkE H
        refine rows_at_draw .here (by have := hc4_6_0.2; simp only [ints_length]; omega) ?_
        intro bb2 oo2 ha2
        refine d_pure 6 22 (.pointer (some ⟨bb2, oo2 + ((v1_7).toNat * 1 + 0), none⟩)) (by kernel_rfl) (by kernel_rfl) (by kernel_rfl) (index_at (t := 22) (sz := 1) (E := 3) (a := xsa) (m := (List.length xs)) (c := xscap) (b := bb2) (off := oo2) (i := (v1_7).toNat) (tinfo 3) (fun _ => by kernel_rfl) (by kernel_rfl) (by kernel_rfl) (by kernel_rfl) ha2 (idx_cast hc4_6_0.1) (idx_nat hc4_6_0.1) rfl) ?_
        refine d_load 7 23 (.int .i64 (nth v1_xsa v1_7)) (by kernel_rfl) (by kernel_rfl) (by kernel_rfl) (load1_at (off := oo2 + ((v1_7).toNat * 1 + 0)) (v := .int .i64 (nth v1_xsa v1_7)) (fun _ => by kernel_rfl) rfl (reads_cell (k := 1) (RowsA.reads (k := 1) .here) (ints_rows _) ha2 (nth_row hc4_6_0.2) (show [(.int .i64 (nth v1_xsa v1_7) : Value)][0]? = some _ from rfl))) ?_
        refine d_pure 8 24 (.slice xsa (List.length xs) xscap) (by kernel_rfl) (by kernel_rfl) (by kernel_rfl) (fun _ => by kernel_rfl) ?_
        refine d_pure 9 25 (.int .i64 v1_7) (by kernel_rfl) (by kernel_rfl) (by kernel_rfl) (fun _ => by kernel_rfl) ?_
        obtain ⟨hc4_10_0, H⟩ := chkE H
        refine d_pure 10 26 (.int .i64 (v1_7 - (1 : Int))) (by kernel_rfl) (by kernel_rfl) (by kernel_rfl) (run_eq (v := .int .i64 (IntKind.i64.wrap (v1_7 - (1 : Int)))) (fun _ => by kernel_rfl) (by rw [inR.wrap hc4_10_0])) ?_
        obtain ⟨hc4_11_0, H⟩ := chkE H
        refine d_pure 11 27 (.pointer (some ⟨bb2, oo2 + (((v1_7 - (1 : Int))).toNat * 1 + 0), none⟩)) (by kernel_rfl) (by kernel_rfl) (by kernel_rfl) (index_at (t := 22) (sz := 1) (E := 3) (a := xsa) (m := (List.length xs)) (c := xscap) (b := bb2) (off := oo2) (i := ((v1_7 - (1 : Int))).toNat) (tinfo 3) (fun _ => by kernel_rfl) (by kernel_rfl) (by kernel_rfl) (by kernel_rfl) ha2 (idx_cast hc4_11_0.1) (idx_nat hc4_11_0.1) rfl) ?_
        refine d_load 12 28 (.int .i64 (nth v1_xsa (v1_7 - (1 : Int)))) (by kernel_rfl) (by kernel_rfl) (by kernel_rfl) (load1_at (off := oo2 + (((v1_7 - (1 : Int))).toNat * 1 + 0)) (v := .int .i64 (nth v1_xsa (v1_7 - (1 : Int)))) (fun _ => by kernel_rfl) rfl (reads_cell (k := 1) (RowsA.reads (k := 1) .here) (ints_rows _) ha2 (nth_row hc4_11_0.2) (show [(.int .i64 (nth v1_xsa (v1_7 - (1 : Int))) : Value)][0]? = some _ from rfl))) ?_
        obtain ⟨y4_13, hy4_13, H⟩ := bindE H
        refine d_quiet 13 29 (.bool y4_13) 76 #[.int .i64 (nth v1_xsa v1_7), .int .i64 (nth v1_xsa (v1_7 - (1 : Int)))] (by kernel_rfl) (by kernel_rfl) (by kernel_rfl) (fun _ => by kernel_rfl) (fun _ => (LessF_tr (nth v1_xsa v1_7) (nth v1_xsa (v1_7 - (1 : Int))) y4_13 hy4_13)) ?_
        refine d_pure 14 30 (.bool y4_13) (by kernel_rfl) (by kernel_rfl) (by kernel_rfl) (fun _ => by kernel_rfl) ?_
        refine draw_end (by kernel_rfl) ?_
        refine At.env [(0, .slice xsa (List.length xs) xscap), (1, .int .i64 a), (2, .int .i64 b), (6, .int .i64 v0_6), (7, .int .i64 v1_7), (12, .bool (decide (v0_6 < b))), (30, .bool y4_13)] ⟨by kernel_rfl, by kernel_rfl, by kernel_rfl, by kernel_rfl, by kernel_rfl, by kernel_rfl, by kernel_rfl, trivial⟩ ?_
        refine at_round_normal ?_
        exact at_join_mk [(0, .slice xsa (List.length xs) xscap), (1, .int .i64 a), (2, .int .i64 b), (6, .int .i64 v0_6), (7, .int .i64 v1_7), (12, .bool (decide (v0_6 < b))), (30, .bool y4_13)] ((IntsA xsa xscap v1_xsa) :: Γ) ⟨by kernel_rfl, by kernel_rfl, by kernel_rfl, by kernel_rfl, by kernel_rfl, by kernel_rfl, by kernel_rfl, trivial⟩ (fun w hw => (Sat.less (.take .here .refl) hw)) ⟨y4_13, H, rfl, rfl⟩
      · replace H := bifF H h3
        refine d_pure 3 19 (.bool false) (by kernel_rfl) (by kernel_rfl) (by kernel_rfl) (run_eq (v := .bool (decide (a < v1_7))) (fun _ => by kernel_rfl) (congrArg Value.bool h3)) ?_
        refine d_off 4 20 (by kernel_rfl) (by kernel_rfl) (by kernel_rfl) ?_
        refine d_off 5 21 (by kernel_rfl) (by kernel_rfl) (by kernel_rfl) ?_
        refine d_off 6 22 (by kernel_rfl) (by kernel_rfl) (by kernel_rfl) ?_
        refine d_off 7 23 (by kernel_rfl) (by kernel_rfl) (by kernel_rfl) ?_
        refine d_off 8 24 (by kernel_rfl) (by kernel_rfl) (by kernel_rfl) ?_
        refine d_off 9 25 (by kernel_rfl) (by kernel_rfl) (by kernel_rfl) ?_
        refine d_off 10 26 (by kernel_rfl) (by kernel_rfl) (by kernel_rfl) ?_
        refine d_off 11 27 (by kernel_rfl) (by kernel_rfl) (by kernel_rfl) ?_
        refine d_off 12 28 (by kernel_rfl) (by kernel_rfl) (by kernel_rfl) ?_
        refine d_off 13 29 (by kernel_rfl) (by kernel_rfl) (by kernel_rfl) ?_
        refine d_pure 14 30 (.bool false) (by kernel_rfl) (by kernel_rfl) (by kernel_rfl) (fun _ => by kernel_rfl) ?_
        refine draw_end (by kernel_rfl) ?_
        refine At.env [(0, .slice xsa (List.length xs) xscap), (1, .int .i64 a), (2, .int .i64 b), (6, .int .i64 v0_6), (7, .int .i64 v1_7), (12, .bool (decide (v0_6 < b))), (30, .bool false)] ⟨by kernel_rfl, by kernel_rfl, by kernel_rfl, by kernel_rfl, by kernel_rfl, by kernel_rfl, by kernel_rfl, trivial⟩ ?_
        refine at_round_normal ?_
        exact at_join_mk [(0, .slice xsa (List.length xs) xscap), (1, .int .i64 a), (2, .int .i64 b), (6, .int .i64 v0_6), (7, .int .i64 v1_7), (12, .bool (decide (v0_6 < b))), (30, .bool false)] ((IntsA xsa xscap v1_xsa) :: Γ) ⟨by kernel_rfl, by kernel_rfl, by kernel_rfl, by kernel_rfl, by kernel_rfl, by kernel_rfl, by kernel_rfl, trivial⟩ (fun w hw => (Sat.less (.take .here .refl) hw)) ⟨false, H, rfl, rfl⟩
  · replace H := bifF H h1
    refine at_false (t := decide (v0_6 < b)) (x := C70 [1, 0, 0, 0, 1, 0]) (y := C70 [1, 0, 0, 0, 1, 1]) (o := .tmp 12) (by kernel_rfl) (by kernel_rfl) (by kernel_rfl) h1 ?_
    refine at_exit (i := 0) (by kernel_rfl) ?_
    refine at_then_exit ?_
    refine at_then_exit ?_
    rw [isortS_k0] at H
    refine At.env [(0, .slice xsa (List.length xs) xscap), (1, .int .i64 a), (2, .int .i64 b), (6, .int .i64 v0_6)] ⟨by kernel_rfl, by kernel_rfl, by kernel_rfl, by kernel_rfl, trivial⟩ ?_
    refine At.conv (Γ' := (IntsA xsa xscap v0_xsa) :: Γ) (fun w hw => (Sat.less (.take .here .refl) hw)) ?_
    refine at_in_here ?_
    obtain rfl := someE H
    refine at_backE [] ((IntsA xsa xscap v0_xsa) :: Γ) (rs := []) (by kernel_rfl) .nil (fun w hw => (Sat.less (.take .here .refl) hw)) ?_
    exact ⟨rfl, rfl⟩
def pdqS_k0 : Option ((List Int)) :=
  none
def pdqS_l0 (b : Int) (a : Int) (xs : List Int) (k0 : Option ((List Int))) : Nat → Option ((List Int))
  | 0 => none
  | m + 1 => chk ((decide ((wr (b - a)) ≤ (12 : Int))) = true) ((isortS xs a b).bind fun y4_3 => some y4_3)
def pdqS (xs : List Int) (a : Int) (b : Int) (limit : Int) : Option ((List Int)) :=
  pdqS_l0 b a xs (pdqS_k0 ) 64 
noncomputable def C68 (p : List Nat) : Code := codeAt (bodyOf Try.f68) p
set_option maxRecDepth 100000 in
set_option maxHeartbeats 8000000 in
theorem PdqF_tr {W0 : World} {Γ : List Asn} (xsa : Option Addr) (xscap : Nat) (xs : List Int) (a : Int) (b : Int) (limit : Int)  (y : (List Int)) (H : pdqS xs a b limit = some y) : Tr Try.prog 68 #[.slice xsa (List.length xs) xscap, .int .i64 a, .int .i64 b, .int .i64 limit] W0 ((IntsA xsa xscap xs) :: Γ) (fun r Δ => r = .tuple #[] ∧ Δ = (IntsA xsa xscap y) :: Γ) := by
  unfold pdqS at H
  refine Tr.enter (fn := Try.f68) (c := C68 []) (args := [.slice xsa (List.length xs) xscap, .int .i64 a, .int .i64 b, .int .i64 limit]) 134 Try.func68 (by kernel_rfl) (by kernel_rfl) ?_
  refine At.env [(0, .slice xsa (List.length xs) xscap), (1, .int .i64 a), (2, .int .i64 b), (3, .int .i64 limit)] ⟨by kernel_rfl, by kernel_rfl, by kernel_rfl, by kernel_rfl, trivial⟩ ?_
  refine at_seq (x := C68 [0]) (y := C68 [1]) (by kernel_rfl) ?_
  refine at_region (id := 0) 1 (by kernel_rfl) (by kernel_rfl) ?_
  refine s_pure 8 (.bool true) (by kernel_rfl) (by kernel_rfl) (fun _ => by kernel_rfl) ?_
  refine ops_end ?_
  refine At.env [(0, .slice xsa (List.length xs) xscap), (1, .int .i64 a), (2, .int .i64 b), (3, .int .i64 limit), (8, .bool true)] ⟨by kernel_rfl, by kernel_rfl, by kernel_rfl, by kernel_rfl, by kernel_rfl, trivial⟩ ?_
  refine at_then_normal ?_
  refine at_seq (x := C68 [1, 0]) (y := C68 [1, 1]) (by kernel_rfl) ?_
  refine at_region (id := 1) 1 (by kernel_rfl) (by kernel_rfl) ?_
  refine s_pure 9 (.bool true) (by kernel_rfl) (by kernel_rfl) (fun _ => by kernel_rfl) ?_
  refine ops_end ?_
  refine At.env [(0, .slice xsa (List.length xs) xscap), (1, .int .i64 a), (2, .int .i64 b), (3, .int .i64 limit), (8, .bool true), (9, .bool true)] ⟨by kernel_rfl, by kernel_rfl, by kernel_rfl, by kernel_rfl, by kernel_rfl, by kernel_rfl, trivial⟩ ?_
  refine at_then_normal ?_
  refine at_block (i := 0) (x := C68 [1, 1, 0]) (by kernel_rfl) ?_
  refine At.conv (Γ' := (IntsA xsa xscap xs) :: Γ) (fun w hw => (Sat.less (.take .here .refl) hw)) ?_
  refine at_loopR (x := C68 [1, 1, 0, 0]) (fun mm ff ΔΔ => ∃ (fuel : Nat), pdqS_l0 b a xs (pdqS_k0 ) fuel  = some y ∧ fuel = mm ∧ ff = [(0, .slice xsa (List.length xs) xscap), (1, .int .i64 a), (2, .int .i64 b), (3, .int .i64 limit), (8, .bool true), (9, .bool true)] ∧ (IntsA xsa xscap xs) :: Γ = ΔΔ) (64) (by kernel_rfl) [(0, .slice xsa (List.length xs) xscap), (1, .int .i64 a), (2, .int .i64 b), (3, .int .i64 limit), (8, .bool true), (9, .bool true)] ⟨by kernel_rfl, by kernel_rfl, by kernel_rfl, by kernel_rfl, by kernel_rfl, by kernel_rfl, trivial⟩ ⟨64, H, rfl, rfl, rfl⟩ ?_
  rintro _ _ _ ⟨fuel1, H, rfl, rfl, rfl⟩
  rcases fuel1 with _ | fuel1
  · exact (noneE H).elim
  rw [pdqS_l0] at H
  refine at_block (i := 1) (x := C68 [1, 1, 0, 0, 0]) (by kernel_rfl) ?_
  refine at_seq (x := C68 [1, 1, 0, 0, 0, 0]) (y := C68 [1, 1, 0, 0, 0, 1]) (by kernel_rfl) ?_
  refine at_region (id := 2) 4 (by kernel_rfl) (by kernel_rfl) ?_
  refine s_pure 19 (.int .i64 b) (by kernel_rfl) (by kernel_rfl) (fun _ => by kernel_rfl) ?_
  refine s_pure 20 (.int .i64 a) (by kernel_rfl) (by kernel_rfl) (fun _ => by kernel_rfl) ?_
  refine s_pure 21 (.int .i64 (wr (b - a))) (by kernel_rfl) (by kernel_rfl) (fun _ => by kernel_rfl) ?_
  refine s_pure 10 (.int .i64 (wr (b - a))) (by kernel_rfl) (by kernel_rfl) (fun _ => by kernel_rfl) ?_
  refine ops_end ?_
  refine At.env [(0, .slice xsa (List.length xs) xscap), (1, .int .i64 a), (2, .int .i64 b), (3, .int .i64 limit), (8, .bool true), (9, .bool true), (10, .int .i64 (wr (b - a)))] ⟨by kernel_rfl, by kernel_rfl, by kernel_rfl, by kernel_rfl, by kernel_rfl, by kernel_rfl, by kernel_rfl, trivial⟩ ?_
  refine at_then_normal ?_
  refine at_seq (x := C68 [1, 1, 0, 0, 0, 1, 0]) (y := C68 [1, 1, 0, 0, 0, 1, 1]) (by kernel_rfl) ?_
  refine at_seq (x := C68 [1, 1, 0, 0, 0, 1, 0, 0]) (y := C68 [1, 1, 0, 0, 0, 1, 0, 1]) (by kernel_rfl) ?_
  refine at_region (id := 3) 2 (by kernel_rfl) (by kernel_rfl) ?_
  refine s_pure 22 (.int .i64 (wr (b - a))) (by kernel_rfl) (by kernel_rfl) (fun _ => by kernel_rfl) ?_
  refine s_pure 23 (.bool (decide ((wr (b - a)) ≤ (12 : Int)))) (by kernel_rfl) (by kernel_rfl) (fun _ => by kernel_rfl) ?_
  refine ops_end ?_
  refine At.env [(0, .slice xsa (List.length xs) xscap), (1, .int .i64 a), (2, .int .i64 b), (3, .int .i64 limit), (8, .bool true), (9, .bool true), (10, .int .i64 (wr (b - a))), (23, .bool (decide ((wr (b - a)) ≤ (12 : Int))))] ⟨by kernel_rfl, by kernel_rfl, by kernel_rfl, by kernel_rfl, by kernel_rfl, by kernel_rfl, by kernel_rfl, by kernel_rfl, trivial⟩ ?_
  refine at_then_normal ?_
  obtain ⟨hc1, H⟩ := chkE H
  refine at_true (t := decide ((wr (b - a)) ≤ (12 : Int))) (x := C68 [1, 1, 0, 0, 0, 1, 0, 1, 0]) (y := C68 [1, 1, 0, 0, 0, 1, 0, 1, 1]) (o := .tmp 23) (by kernel_rfl) (by kernel_rfl) (by kernel_rfl) hc1 ?_
  refine at_seq (x := C68 [1, 1, 0, 0, 0, 1, 0, 1, 0, 0]) (y := C68 [1, 1, 0, 0, 0, 1, 0, 1, 0, 1]) (by kernel_rfl) ?_
  refine at_region (id := 4) 4 (by kernel_rfl) (by kernel_rfl) ?_
  refine s_pure 24 (.slice xsa (List.length xs) xscap) (by kernel_rfl) (by kernel_rfl) (fun _ => by kernel_rfl) ?_
  refine s_pure 25 (.int .i64 a) (by kernel_rfl) (by kernel_rfl) (fun _ => by kernel_rfl) ?_
  refine s_pure 26 (.int .i64 b) (by kernel_rfl) (by kernel_rfl) (fun _ => by kernel_rfl) ?_
  obtain ⟨y4_3, hy4_3, H⟩ := bindE H
  refine s_call 27 70 #[.slice xsa (List.length xs) xscap, .int .i64 a, .int .i64 b] (by kernel_rfl) (by kernel_rfl) (fun _ => by kernel_rfl) (ISortF_tr xsa xscap xs a b y4_3 hy4_3) ?_
  rintro _ _ ⟨rfl, rfl⟩
  refine ops_end ?_
  refine At.env [(0, .slice xsa (List.length xs) xscap), (1, .int .i64 a), (2, .int .i64 b), (3, .int .i64 limit), (8, .bool true), (9, .bool true), (10, .int .i64 (wr (b - a))), (23, .bool (decide ((wr (b - a)) ≤ (12 : Int))))] ⟨by kernel_rfl, by kernel_rfl, by kernel_rfl, by kernel_rfl, by kernel_rfl, by kernel_rfl, by kernel_rfl, by kernel_rfl, trivial⟩ ?_
  refine at_then_normal ?_
  refine at_ret (by kernel_rfl) ?_
  refine at_then_ret ?_
  refine at_in_ret ?_
  refine at_then_ret ?_
  refine at_in_ret ?_
  obtain rfl := someE H
  refine at_backR [] ((IntsA xsa xscap y4_3) :: Γ) (rs := []) (by kernel_rfl) .nil (fun w hw => (Sat.less (.take .here .refl) hw)) ?_
  exact ⟨rfl, rfl⟩
def sortS (xs : List Int) : Option ((List Int)) :=
  chk (0 ≤ (((List.length xs) : Nat) : Int) ∧ (((List.length xs) : Nat) : Int) ≤ 9223372036854775807) ((bitsLenS (((List.length xs) : Nat) : Int)).bind fun y1_4 => (pdqS xs (0 : Int) (((List.length xs) : Nat) : Int) y1_4).bind fun y1_5 => some y1_5)
noncomputable def C58 (p : List Nat) : Code := codeAt (bodyOf Try.f58) p
set_option maxRecDepth 100000 in
set_option maxHeartbeats 8000000 in
theorem SortF_tr {W0 : World} {Γ : List Asn} (xsa : Option Addr) (xscap : Nat) (xs : List Int)  (y : (List Int)) (H : sortS xs = some y) : Tr Try.prog 58 #[.slice xsa (List.length xs) xscap] W0 ((IntsA xsa xscap xs) :: Γ) (fun r Δ => r = .tuple #[] ∧ Δ = (IntsA xsa xscap y) :: Γ) := by
  unfold sortS at H
  refine Tr.enter (fn := Try.f58) (c := C58 []) (args := [.slice xsa (List.length xs) xscap]) 11 Try.func58 (by kernel_rfl) (by kernel_rfl) ?_
  refine At.env [(0, .slice xsa (List.length xs) xscap)] ⟨by kernel_rfl, trivial⟩ ?_
  refine at_seq (x := C58 [0]) (y := C58 [1]) (by kernel_rfl) ?_
  refine at_region (id := 0) 3 (by kernel_rfl) (by kernel_rfl) ?_
  refine s_pure 3 (.slice xsa (List.length xs) xscap) (by kernel_rfl) (by kernel_rfl) (fun _ => by kernel_rfl) ?_
  refine s_pure 4 (.int .i64 (((List.length xs) : Nat) : Int)) (by kernel_rfl) (by kernel_rfl) (fun _ => by kernel_rfl) ?_
  refine s_pure 2 (.int .i64 (((List.length xs) : Nat) : Int)) (by kernel_rfl) (by kernel_rfl) (fun _ => by kernel_rfl) ?_
  refine ops_end ?_
  refine At.env [(0, .slice xsa (List.length xs) xscap), (2, .int .i64 (((List.length xs) : Nat) : Int))] ⟨by kernel_rfl, by kernel_rfl, trivial⟩ ?_
  refine at_then_normal ?_
  refine at_region (id := 1) 6 (by kernel_rfl) (by kernel_rfl) ?_
  refine s_pure 5 (.slice xsa (List.length xs) xscap) (by kernel_rfl) (by kernel_rfl) (fun _ => by kernel_rfl) ?_
  refine s_pure 6 (.int .i64 (((List.length xs) : Nat) : Int)) (by kernel_rfl) (by kernel_rfl) (fun _ => by kernel_rfl) ?_
  refine s_pure 7 (.int .i64 (((List.length xs) : Nat) : Int)) (by kernel_rfl) (by kernel_rfl) (fun _ => by kernel_rfl) ?_
  obtain ⟨hc1_3_0, H⟩ := chkE H
  refine s_pure 8 (.int .u64 (((List.length xs) : Nat) : Int)) (by kernel_rfl) (by kernel_rfl) (run_eq (v := .int .u64 (IntKind.u64.wrap (((List.length xs) : Nat) : Int))) (fun _ => by kernel_rfl) (by rw [wrap_u64 hc1_3_0])) ?_
  obtain ⟨y1_4, hy1_4, H⟩ := bindE H
  refine s_quiet 9 (.int .i64 y1_4) 69 #[.int .u64 (((List.length xs) : Nat) : Int)] (by kernel_rfl) (by kernel_rfl) (fun _ => by kernel_rfl) (BitsLenF_tr (((List.length xs) : Nat) : Int) y1_4 hy1_4) ?_
  obtain ⟨y1_5, hy1_5, H⟩ := bindE H
  refine s_call 10 68 #[.slice xsa (List.length xs) xscap, .int .i64 (0), .int .i64 (((List.length xs) : Nat) : Int), .int .i64 y1_4] (by kernel_rfl) (by kernel_rfl) (fun _ => by kernel_rfl) (PdqF_tr xsa xscap xs (0 : Int) (((List.length xs) : Nat) : Int) y1_4 y1_5 hy1_5) ?_
  rintro _ _ ⟨rfl, rfl⟩
  refine ops_end ?_
  refine At.env [(0, .slice xsa (List.length xs) xscap), (2, .int .i64 (((List.length xs) : Nat) : Int))] ⟨by kernel_rfl, by kernel_rfl, trivial⟩ ?_
  obtain rfl := someE H
  refine at_backE [] ((IntsA xsa xscap y1_5) :: Γ) (rs := []) (by kernel_rfl) .nil (fun w hw => (Sat.less (.take .here .refl) hw)) ?_
  exact ⟨rfl, rfl⟩
end Go.Proofs.Ytfpiolnbnfngkaa
