/- Numbers brought into a range; copies and beginnings of lists of numbers, at every list. -/
import Derived.Test.YtcigheahollkcaaSlSeat
namespace Go.Proofs.Ytcigheahollkcaa
open Go Go.RowKit
set_option linter.unusedVariables false
set_option linter.unusedSimpArgs false
theorem tmod_cases (v n : Int) (hn : 1 ≤ n) : (0 ≤ v.tmod n → v % n = v.tmod n) ∧ (v.tmod n < 0 → v % n = v.tmod n + n) ∧ -n < v.tmod n ∧ v.tmod n < n := by
 have h3 : 0 ≤ v % n := Int.emod_nonneg v (by omega)
 have h4 : v % n < n := Int.emod_lt_of_pos v (by omega)
 have h5 : v.tmod n < n := Int.tmod_lt_of_pos v (by omega)
 have h6 : -n < v.tmod n := Int.lt_tmod_of_pos v (by omega)
 have h7 := @Int.tmod_eq_emod v n
 split at h7 <;> refine ⟨fun h => ?_, fun h => ?_, h6, h5⟩ <;> omega
theorem run_rem {P : Program} {e : Env} {o : Oper} {a b : Int} (hx : ∀ w, (execOp (ev e) o).run P w = (Op.intDiv .rem .i64 a b >>= fun v => pure (Next.value v)).run P w) (hb : 1 ≤ b) : ∀ w, (execOp (ev e) o).run P w = .ok (.value (.int .i64 (a.tmod b))) w := by
 intro w
 rw [hx]
 refine run_seq (x := .int .i64 (a.tmod b)) (w' := w) ?_ rfl
 simp [Op.intDiv, show b ≠ 0 from by omega]
noncomputable def C9 (p : List Nat) : Code := codeAt (bodyOf Try.f9) p
set_option maxRecDepth 100000 in
theorem Within_tr {W0 : World} {Γ : List Asn} (v n : Int) (hn : 1 ≤ n) (hn2 : n ≤ 4611686018427387904) : Tr Try.prog 9 #[.int .i64 v, .int .i64 n] W0 (Γ) (fun r Δ => r = .int .i64 (v % n) ∧ Δ = Γ) := by
 have hq := tmod_cases v n hn
 refine Tr.enter (fn := Try.f9) (c := C9 []) (args := [.int .i64 v, .int .i64 n]) 17 Try.func9 kf kf ?_
 refine ae [(0, .int .i64 v), (1, .int .i64 n)] ?_
 refine aq (x := C9 [0]) (y := C9 [1]) ?_
 refine ar (id := 0) 1 ?_
 refine sp 4 (.int .i64 (0)) ?_
 refine ops_end ?_
 refine ae [(0, .int .i64 v), (1, .int .i64 n), (4, .int .i64 (0))] ?_
 refine at_then_normal ?_
 refine aq (x := C9 [1, 0]) (y := C9 [1, 1]) ?_
 refine aq (x := C9 [1, 0, 0]) (y := C9 [1, 0, 1]) ?_
 refine ar (id := 1) 2 ?_
 refine sp 6 (.int .i64 n) ?_
 refine sr 7 (.bool false) (run_eq (v := .bool (decide (n < (1 : Int)))) (fun _ => kf) (congrArg Value.bool (by rw [decide_eq_false (by omega)]))) ?_
 refine ops_end ?_
 refine ae [(0, .int .i64 v), (1, .int .i64 n), (4, .int .i64 (0)), (7, .bool false)] ?_
 refine at_then_normal ?_
 refine at_false (t := false) (x := C9 [1, 0, 1, 0]) (y := C9 [1, 0, 1, 1]) (o := .tmp 7) kf kf kf rfl ?_
 refine at_skip kf ?_
 refine at_then_normal ?_
 refine aq (x := C9 [1, 1, 0]) (y := C9 [1, 1, 1]) ?_
 refine ar (id := 3) 4 ?_
 refine sp 8 (.int .i64 v) ?_
 refine sp 9 (.int .i64 n) ?_
 refine sr 10 (.int .i64 (v.tmod n)) (run_rem (a := v) (b := n) (fun _ => kf) hn) ?_
 refine sp 5 (.int .i64 (v.tmod n)) ?_
 refine ops_end ?_
 refine ae [(0, .int .i64 v), (1, .int .i64 n), (4, .int .i64 (0)), (5, .int .i64 (v.tmod n)), (7, .bool false)] ?_
 refine at_then_normal ?_
 refine aq (x := C9 [1, 1, 1, 0]) (y := C9 [1, 1, 1, 1]) ?_
 refine aq (x := C9 [1, 1, 1, 0, 0]) (y := C9 [1, 1, 1, 0, 1]) ?_
 refine ar (id := 4) 2 ?_
 refine sp 11 (.int .i64 (v.tmod n)) ?_
 rcases Decidable.em ((v.tmod n) < (0 : Int)) with h1 | h1
 ·refine sr 12 (.bool true) (run_eq (v := .bool (decide ((v.tmod n) < (0 : Int)))) (fun _ => kf) (congrArg Value.bool (by rw [decide_eq_true h1]))) ?_
  refine ops_end ?_
  refine ae [(0, .int .i64 v), (1, .int .i64 n), (4, .int .i64 (0)), (5, .int .i64 (v.tmod n)), (7, .bool false), (12, .bool true)] ?_
  refine at_then_normal ?_
  refine at_true (t := true) (x := C9 [1, 1, 1, 0, 1, 0]) (y := C9 [1, 1, 1, 0, 1, 1]) (o := .tmp 12) kf kf kf rfl ?_
  refine ar (id := 5) 4 ?_
  refine sp 13 (.int .i64 (v.tmod n)) ?_
  refine sp 14 (.int .i64 n) ?_
  refine sr 15 (.int .i64 ((v.tmod n) + n)) (run_eq (v := .int .i64 (IntKind.i64.wrap ((v.tmod n) + n))) (fun _ => kf) (by rw [wrap_in (by omega) (by omega)])) ?_
  refine sp 5 (.int .i64 ((v.tmod n) + n)) ?_
  refine ops_end ?_
  refine ae [(0, .int .i64 v), (1, .int .i64 n), (4, .int .i64 (0)), (5, .int .i64 ((v.tmod n) + n)), (7, .bool false), (12, .bool true)] ?_
  refine at_then_normal ?_
  refine aq (x := C9 [1, 1, 1, 1, 0]) (y := C9 [1, 1, 1, 1, 1]) ?_
  refine ar (id := 6) 2 ?_
  refine sp 16 (.int .i64 ((v.tmod n) + n)) ?_
  refine sp 4 (.int .i64 ((v.tmod n) + n)) ?_
  refine ops_end ?_
  refine ae [(0, .int .i64 v), (1, .int .i64 n), (4, .int .i64 ((v.tmod n) + n)), (5, .int .i64 ((v.tmod n) + n)), (7, .bool false), (12, .bool true)] ?_
  refine at_then_normal ?_
  refine at_ret kf ?_
  refine at_backR [.int .i64 ((v.tmod n) + n)] (Γ) (rs := [.tmp 4]) kf (.cons (.tmp kf) .nil) (fun w hw => hw.less .refl) ?_
  exact ⟨congrArg (Value.int .i64) (by omega), rfl⟩
 ·refine sr 12 (.bool false) (run_eq (v := .bool (decide ((v.tmod n) < (0 : Int)))) (fun _ => kf) (congrArg Value.bool (by rw [decide_eq_false h1]))) ?_
  refine ops_end ?_
  refine ae [(0, .int .i64 v), (1, .int .i64 n), (4, .int .i64 (0)), (5, .int .i64 (v.tmod n)), (7, .bool false), (12, .bool false)] ?_
  refine at_then_normal ?_
  refine at_false (t := false) (x := C9 [1, 1, 1, 0, 1, 0]) (y := C9 [1, 1, 1, 0, 1, 1]) (o := .tmp 12) kf kf kf rfl ?_
  refine at_skip kf ?_
  refine at_then_normal ?_
  refine aq (x := C9 [1, 1, 1, 1, 0]) (y := C9 [1, 1, 1, 1, 1]) ?_
  refine ar (id := 6) 2 ?_
  refine sp 16 (.int .i64 (v.tmod n)) ?_
  refine sp 4 (.int .i64 (v.tmod n)) ?_
  refine ops_end ?_
  refine ae [(0, .int .i64 v), (1, .int .i64 n), (4, .int .i64 (v.tmod n)), (5, .int .i64 (v.tmod n)), (7, .bool false), (12, .bool false)] ?_
  refine at_then_normal ?_
  refine at_ret kf ?_
  refine at_backR [.int .i64 (v.tmod n)] (Γ) (rs := [.tmp 4]) kf (.cons (.tmp kf) .nil) (fun w hw => hw.less .refl) ?_
  exact ⟨congrArg (Value.int .i64) (by omega), rfl⟩
noncomputable def C55 (p : List Nat) : Code := codeAt (bodyOf Try.f55) p
set_option maxRecDepth 100000 in
theorem Clone_nil {W0 : World} {Γ : List Asn} (cap : Nat) : Tr Try.prog 55 #[.slice none 0 cap] W0 (Γ) (fun r Δ => ∃ a' cap', r = .slice a' 0 cap' ∧ Δ = IntsA a' cap' [] :: Γ) := by
 refine Tr.enter (fn := Try.f55) (c := C55 []) (args := [.slice none 0 cap]) 8 Try.func55 kf kf ?_
 refine ae [(0, .slice none 0 cap)] ?_
 refine aq (x := C55 [0]) (y := C55 [1]) ?_
 refine ar (id := 0) 1 ?_
 refine sp 2 (.slice none 0 0) ?_
 refine ops_end ?_
 refine ae [(0, .slice none 0 cap), (2, .slice none 0 0)] ?_
 refine at_then_normal ?_
 refine aq (x := C55 [1, 0]) (y := C55 [1, 1]) ?_
 refine aq (x := C55 [1, 0, 0]) (y := C55 [1, 0, 1]) ?_
 refine ar (id := 1) 2 ?_
 refine sp 3 (.slice none 0 cap) ?_
 refine sp 4 (.bool true) ?_
 refine ops_end ?_
 refine ae [(0, .slice none 0 cap), (2, .slice none 0 0), (4, .bool true)] ?_
 refine at_then_normal ?_
 refine at_true (t := true) (x := C55 [1, 0, 1, 0]) (y := C55 [1, 0, 1, 1]) (o := .tmp 4) kf kf kf rfl ?_
 refine aq (x := C55 [1, 0, 1, 0, 0]) (y := C55 [1, 0, 1, 0, 1]) ?_
 refine ar (id := 2) 1 ?_
 refine sp 2 (.slice none 0 0) ?_
 refine ops_end ?_
 refine ae [(0, .slice none 0 cap), (2, .slice none 0 0), (4, .bool true)] ?_
 refine at_then_normal ?_
 refine at_ret kf ?_
 refine at_then_ret ?_
 refine at_backR [.slice none 0 0] (IntsA none 0 ([] : List Int) :: Γ) (rs := [.tmp 2]) kf (.cons (.tmp kf) .nil) (fun w hw => RowsA.none_mk hw) ?_
 exact ⟨none, 0, rfl, rfl⟩
set_option maxRecDepth 100000 in
theorem Clone_some {W0 : World} {Γ : List Asn} (p : Addr) (cap : Nat) (xs : List Int) (hr : Reads W0 Γ (some p) (ints xs)) (hlen : xs.length ≤ 1099511627776) : Tr Try.prog 55 #[.slice (some p) xs.length cap] W0 (Γ) (fun r Δ => ∃ a' cap', r = .slice a' xs.length cap' ∧ Δ = IntsA a' cap' xs :: Γ) := by
 refine Tr.enter (fn := Try.f55) (c := C55 []) (args := [.slice (some p) xs.length cap]) 8 Try.func55 kf kf ?_
 refine ae [(0, .slice (some p) xs.length cap)] ?_
 refine aq (x := C55 [0]) (y := C55 [1]) ?_
 refine ar (id := 0) 1 ?_
 refine sp 2 (.slice none 0 0) ?_
 refine ops_end ?_
 refine ae [(0, .slice (some p) xs.length cap), (2, .slice none 0 0)] ?_
 refine at_then_normal ?_
 refine aq (x := C55 [1, 0]) (y := C55 [1, 1]) ?_
 refine aq (x := C55 [1, 0, 0]) (y := C55 [1, 0, 1]) ?_
 refine ar (id := 1) 2 ?_
 refine sp 3 (.slice (some p) xs.length cap) ?_
 refine sp 4 (.bool false) ?_
 refine ops_end ?_
 refine ae [(0, .slice (some p) xs.length cap), (2, .slice none 0 0), (4, .bool false)] ?_
 refine at_then_normal ?_
 refine at_false (t := false) (x := C55 [1, 0, 1, 0]) (y := C55 [1, 0, 1, 1]) (o := .tmp 4) kf kf kf rfl ?_
 refine at_skip kf ?_
 refine at_then_normal ?_
 refine aq (x := C55 [1, 1, 0]) (y := C55 [1, 1, 1]) ?_
 refine ar (id := 3) 4 ?_
 refine s_step 5 kf kf (st_new (T := 3) (cells := #[]) (fun a => .slice (some a) 0 0) (fun _ => kf)) ?_
 rintro _ _ ⟨b1, rfl, rfl⟩
 refine sp 6 (.slice (some p) xs.length cap) ?_
 refine At.conv (fun w hw => RowsA.none_mk (k := 1) (a := some ⟨b1, 0, none⟩) hw) ?_
 refine s_step 7 kf kf (st_append_ints (xs := ([] : List Int)) (ys := xs) (zs := xs) (m1 := 0) (m2 := xs.length) (m := xs.length) (cap2 := cap) 22 22 3 (tinfo 3) (fun _ => kf) kf kf kf kf kf .here (Reads.conv (fun w hw => hw.less (.drop .here (.drop .here .refl))) hr) (rfl) (by first | rfl | simp | (simp; omega) | omega) (by omega) (rfl) (by first | omega | (simp only [List.length_append, List.length_cons, List.length_nil, List.length_take]; omega))) ?_
 rintro _ _ ⟨a1, c1, rfl, rfl⟩
 refine sp 2 (.slice a1 xs.length c1) ?_
 refine ops_end ?_
 refine ae [(0, .slice (some p) xs.length cap), (2, .slice a1 xs.length c1), (4, .bool false)] ?_
 refine at_then_normal ?_
 refine at_ret kf ?_
 refine at_backR [.slice a1 xs.length c1] ((IntsA a1 c1 xs) :: Γ) (rs := [.tmp 2]) kf (.cons (.tmp kf) .nil) (fun w hw => hw.less (.take .here (.drop .here .refl))) ?_
 exact ⟨_, _, rfl, rfl⟩
theorem Clone_tr {W0 : World} {Γ : List Asn} (a : Option Addr) (m cap : Nat) (xs : List Int) (hm : m = xs.length) (hr : Reads W0 Γ a (ints xs)) (hlen : xs.length ≤ 1099511627776) :
  Tr Try.prog 55 #[.slice a m cap] W0 Γ (fun r Δ => ∃ a' cap', r = .slice a' m cap' ∧ Δ = IntsA a' cap' xs :: Γ) := by
 subst hm
 cases a with
 | none =>
  intro w hw
  obtain rfl := hr.none_nil hw
  exact Clone_nil cap w hw
 | some p => exact Clone_some p cap xs hr hlen
noncomputable def C38 (p : List Nat) : Code := codeAt (bodyOf Try.f38) p
set_option maxRecDepth 100000 in
theorem Copy_tr0 {W0 : World} {Γ : List Asn} (a : Option Addr) (cap : Nat) (xs : List Int) (hr : Reads W0 Γ a (ints xs)) (hlen : xs.length ≤ 1099511627776) : Tr Try.prog 38 #[.slice a xs.length cap] W0 (Γ) (fun r Δ => ∃ a' cap', r = .slice a' xs.length cap' ∧ Δ = IntsA a' cap' xs :: Γ) := by
 refine Tr.enter (fn := Try.f38) (c := C38 []) (args := [.slice a xs.length cap]) 5 Try.func38 kf kf ?_
 refine ae [(0, .slice a xs.length cap)] ?_
 refine aq (x := C38 [0]) (y := C38 [1]) ?_
 refine ar (id := 0) 1 ?_
 refine sp 2 (.slice none 0 0) ?_
 refine ops_end ?_
 refine ae [(0, .slice a xs.length cap), (2, .slice none 0 0)] ?_
 refine at_then_normal ?_
 refine aq (x := C38 [1, 0]) (y := C38 [1, 1]) ?_
 refine ar (id := 1) 3 ?_
 refine sp 3 (.slice a xs.length cap) ?_
 refine At.conv (fun w hw => RowsA.none_mk (k := 1) (a := none) hw) ?_
 refine s_step 4 kf kf (st_append_ints (xs := ([] : List Int)) (ys := xs) (zs := xs) (m1 := 0) (m2 := xs.length) (m := xs.length) (cap2 := cap) 22 22 3 (tinfo 3) (fun _ => kf) kf kf kf kf kf .here (Reads.conv (fun w hw => hw.less (.drop .here .refl)) hr) (rfl) (by first | rfl | simp | (simp; omega) | omega) (by omega) (rfl) (by first | omega | (simp only [List.length_append, List.length_cons, List.length_nil, List.length_take]; omega))) ?_
 rintro _ _ ⟨a1, c1, rfl, rfl⟩
 refine sp 2 (.slice a1 xs.length c1) ?_
 refine ops_end ?_
 refine ae [(0, .slice a xs.length cap), (2, .slice a1 xs.length c1)] ?_
 refine at_then_normal ?_
 refine at_ret kf ?_
 refine at_backR [.slice a1 xs.length c1] ((IntsA a1 c1 xs) :: Γ) (rs := [.tmp 2]) kf (.cons (.tmp kf) .nil) (fun w hw => hw.less (.take .here .refl)) ?_
 exact ⟨_, _, rfl, rfl⟩
theorem Copy_tr {W0 : World} {Γ : List Asn} (a : Option Addr) (m cap : Nat) (xs : List Int) (hm : m = xs.length) (hr : Reads W0 Γ a (ints xs)) (hlen : xs.length ≤ 1099511627776) :
  Tr Try.prog 38 #[.slice a m cap] W0 Γ (fun r Δ => ∃ a' cap', r = .slice a' m cap' ∧ Δ = IntsA a' cap' xs :: Γ) := by
 subst hm; exact Copy_tr0 a cap xs hr hlen
noncomputable def C21 (p : List Nat) : Code := codeAt (bodyOf Try.f21) p
set_option maxRecDepth 100000 in
theorem Cut_tr0 {W0 : World} {Γ : List Asn} (a : Option Addr) (cap n : Nat) (xs : List Int) (hr : Reads W0 Γ a (ints xs)) (hcap : xs.length ≤ cap) (hn : n ≤ 1099511627776) : Tr Try.prog 21 #[.slice a xs.length cap, .int .i64 ((n : Nat) : Int)] W0 (Γ) (fun r Δ => ∃ a' m cap', r = .slice a' m cap' ∧ m = (xs.take n).length ∧ Δ = IntsA a' cap' (xs.take n) :: Γ) := by
 refine Tr.enter (fn := Try.f21) (c := C21 []) (args := [.slice a xs.length cap, .int .i64 ((n : Nat) : Int)]) 12 Try.func21 kf kf ?_
 refine ae [(0, .slice a xs.length cap), (1, .int .i64 ((n : Nat) : Int))] ?_
 refine aq (x := C21 [0]) (y := C21 [1]) ?_
 refine ar (id := 0) 1 ?_
 refine sp 4 (.slice none 0 0) ?_
 refine ops_end ?_
 refine ae [(0, .slice a xs.length cap), (1, .int .i64 ((n : Nat) : Int)), (4, .slice none 0 0)] ?_
 refine at_then_normal ?_
 refine aq (x := C21 [1, 0]) (y := C21 [1, 1]) ?_
 refine ar (id := 1) 8 ?_
 refine sp 5 (.slice a xs.length cap) ?_
 refine sp 6 (.slice a xs.length cap) ?_
 refine sp 7 (.int .i64 ((xs.length : Nat) : Int)) ?_
 refine sp 8 (.int .i64 ((n : Nat) : Int)) ?_
 rcases Decidable.em (((n : Nat) : Int) < ((xs.length : Nat) : Int)) with h1 | h1
 ·refine sr 9 (.int .i64 ((n : Nat) : Int)) (run_eq (v := .int .i64 (if ((n : Nat) : Int) < ((xs.length : Nat) : Int) then ((n : Nat) : Int) else ((xs.length : Nat) : Int))) (fun _ => kf) (by rw [if_pos h1])) ?_
  obtain ⟨a1, ha1⟩ : ∃ y : Option Addr, y = (if cap = 0 then a else Option.map (fun x => Addr.add x (0 * 1)) a) := ⟨_, rfl⟩
  have hr1 : Reads W0 (Γ) a1 (ints (xs.take n)) := by rw [ha1]; exact Reads.pref (hi := n) (Reads.conv (fun w hw => hw.less .refl) hr) (by first | rfl | simp) (by omega)
  refine sr 10 (.slice a1 n cap) (run_eq (slice_at (t := 22) (lo := 0) (hi := n) (mx := cap) (sz := 1) (E := 3) (a := a) (m := xs.length) (c := cap) none (some (.int .i64 ((n : Nat) : Int))) none (tinfo 3) (fun _ => kf) kf kf kf (Or.inl ⟨rfl, rfl⟩) (Or.inr ⟨_, rfl, by omega⟩) (Or.inl ⟨rfl, rfl⟩) (by omega) (by omega) (by omega)) (by simp only [ha1, Nat.sub_zero])) ?_
  refine s_call 11 38 #[.slice a1 n cap] kf kf (fun _ => kf) (Copy_tr a1 n cap (xs.take n) (by simp only [List.length_take]; omega) (Reads.conv (fun w hw => hw.less .refl) hr1) (by simp only [List.length_take]; omega)) ?_
  rintro _ _ ⟨a2, c1, rfl, rfl⟩
  refine sp 4 (.slice a2 n c1) ?_
  refine ops_end ?_
  refine ae [(0, .slice a xs.length cap), (1, .int .i64 ((n : Nat) : Int)), (4, .slice a2 n c1)] ?_
  refine at_then_normal ?_
  refine at_ret kf ?_
  refine at_backR [.slice a2 n c1] ((IntsA a2 c1 (xs.take n)) :: Γ) (rs := [.tmp 4]) kf (.cons (.tmp kf) .nil) (fun w hw => hw.less (.take .here .refl)) ?_
  exact ⟨_, _, _, rfl, by simp only [List.length_take]; omega, by first | rfl | (simp only [List.take_length]; rw [List.take_of_length_le (by omega)])⟩
 ·refine sr 9 (.int .i64 ((xs.length : Nat) : Int)) (run_eq (v := .int .i64 (if ((n : Nat) : Int) < ((xs.length : Nat) : Int) then ((n : Nat) : Int) else ((xs.length : Nat) : Int))) (fun _ => kf) (by rw [if_neg h1])) ?_
  obtain ⟨a3, ha3⟩ : ∃ y : Option Addr, y = (if cap = 0 then a else Option.map (fun x => Addr.add x (0 * 1)) a) := ⟨_, rfl⟩
  have hr2 : Reads W0 (Γ) a3 (ints (xs.take xs.length)) := by rw [ha3]; exact Reads.pref (hi := xs.length) (Reads.conv (fun w hw => hw.less .refl) hr) (by first | rfl | simp) (by omega)
  refine sr 10 (.slice a3 xs.length cap) (run_eq (slice_at (t := 22) (lo := 0) (hi := xs.length) (mx := cap) (sz := 1) (E := 3) (a := a) (m := xs.length) (c := cap) none (some (.int .i64 ((xs.length : Nat) : Int))) none (tinfo 3) (fun _ => kf) kf kf kf (Or.inl ⟨rfl, rfl⟩) (Or.inr ⟨_, rfl, by omega⟩) (Or.inl ⟨rfl, rfl⟩) (by omega) (by omega) (by omega)) (by simp only [ha3, Nat.sub_zero])) ?_
  refine s_call 11 38 #[.slice a3 xs.length cap] kf kf (fun _ => kf) (Copy_tr a3 xs.length cap (xs.take xs.length) (by simp only [List.length_take]; omega) (Reads.conv (fun w hw => hw.less .refl) hr2) (by simp only [List.length_take]; omega)) ?_
  rintro _ _ ⟨a4, c2, rfl, rfl⟩
  refine sp 4 (.slice a4 xs.length c2) ?_
  refine ops_end ?_
  refine ae [(0, .slice a xs.length cap), (1, .int .i64 ((n : Nat) : Int)), (4, .slice a4 xs.length c2)] ?_
  refine at_then_normal ?_
  refine at_ret kf ?_
  refine at_backR [.slice a4 xs.length c2] ((IntsA a4 c2 (xs.take xs.length)) :: Γ) (rs := [.tmp 4]) kf (.cons (.tmp kf) .nil) (fun w hw => hw.less (.take .here .refl)) ?_
  exact ⟨_, _, _, rfl, by simp only [List.length_take]; omega, by first | rfl | (simp only [List.take_length]; rw [List.take_of_length_le (by omega)])⟩
theorem Cut_tr {W0 : World} {Γ : List Asn} (a : Option Addr) (m cap n : Nat) (xs : List Int) (hm : m = xs.length) (hr : Reads W0 Γ a (ints xs)) (hcap : m ≤ cap) (hn : n ≤ 1099511627776) :
  Tr Try.prog 21 #[.slice a m cap, .int .i64 ((n : Nat) : Int)] W0 Γ (fun r Δ => ∃ a' m' cap', r = .slice a' m' cap' ∧ m' = (xs.take n).length ∧ Δ = IntsA a' cap' (xs.take n) :: Γ) := by
 subst hm; exact Cut_tr0 a cap n xs hr hcap hn
end Go.Proofs.Ytcigheahollkcaa
