/- The law AttachNext: its walk, joined to the statement. -/
import Derived.Test.YtfndeehlbcbkpaaRows
import Derived.WalkKit
import Derived.ProofKit
import Derived.OpenShut
import Derived.ShutString
import Derived.ChangeOld
import Derived.Below
import Derived.Test.YtfndeehlbcbkpaaPureAttachNext
import Derived.Test.YtfndeehlbcbkpaaSlIn
namespace Go.Proofs.Ytfndeehlbcbkpaa.attachNext
open Go.ChangeShapes Go.WideShapes Go.ChangeAt Go.RowKit
open Go.ChangeMaps (open_string shut_string)
set_option linter.unusedVariables false
theorem own : ownKnob Try.prog.godebug = none := by kernel_rfl
theorem laidOut : laidOutB Try.prog = true := by kernel_rfl
set_option maxRecDepth 100000 in
theorem lifted (os : Os) (started : os.Started) (H : Type) (enc : TypeId × Value → H) :
    ReturnsInHanded {} Try.checked os 5 .any (Rows.attachNextSpec.pre6 enc Try.prog Try.f5 Rows.attachNextRow.domain false) (Rows.attachNextSpec.post enc Try.prog Try.f5 false true false false) := by
  refine returnsInHanded_of_change (C := Try.checked) own started (by kernel_rfl) Try.func5
    (ChangeSpec.witness6 (enc := enc) (C := Try.checked) false ⟨#[], #[.agg #[.int .i64 0, .int .i64 0, .int .i64 0, .int .i64 0, .int .i64 0, .int .i64 0, .int .i64 0, .int .i64 0, .slice none 0 0], .slice none 0 0, .slice none 0 0, .slice none 0 0, .agg #[.int .i64 0, .int .i64 0, .int .i64 0, .int .i64 0, .int .i64 0, .int .i64 0, .int .i64 0, .bool false, .slice none 0 0], .int .i64 0, .int .i64 0, .bool false], []⟩ 16 (by kernel_rfl) (by kernel_rfl) (by kernel_rfl) (by kernel_rfl)) ?_
  intro W base args ds gs before hval0 hW hcnd _
  have hval : ∀ (j : Nat) t v, Try.f5.params[j]? = some t → args[j]? = some v → Value.okWide Try.prog W .any base t v := hval0
  have hW' := hW
  obtain ⟨p, q, hA0, hV, rfl, hfz, hnd⟩ := hW
  have hA : DataW.TrodAll enc Try.prog W 0 (fun _ => true) true Try.f5.params.toList args.toList ds p := hA0
  rw [Try.params5] at hA hval
  obtain ⟨v0, vs0, d0, ds0, p0, q0, hargs, rfl, rfl, h0, r0⟩ := trodAll_cons hA
  obtain ⟨v1, vs1, d1, ds1, p1, q1, rfl, rfl, rfl, h1, r1⟩ := trodAll_cons r0
  obtain ⟨v2, vs2, d2, ds2, p2, q2, rfl, rfl, rfl, h2, r2⟩ := trodAll_cons r1
  obtain ⟨v3, vs3, d3, ds3, p3, q3, rfl, rfl, rfl, h3, r3⟩ := trodAll_cons r2
  obtain ⟨v4, vs4, d4, ds4, p4, q4, rfl, rfl, rfl, h4, r4⟩ := trodAll_cons r3
  obtain ⟨v5, vs5, d5, ds5, p5, q5, rfl, rfl, rfl, h5, r5⟩ := trodAll_cons r4
  obtain ⟨v6, vs6, d6, ds6, p6, q6, rfl, rfl, rfl, h6, r6⟩ := trodAll_cons r5
  obtain ⟨v7, vs7, d7, ds7, p7, q7, rfl, rfl, rfl, h7, r7⟩ := trodAll_cons r6
  obtain ⟨rfl, rfl, rfl⟩ := trodAll_nil r7
  obtain rfl : args = #[v0, v1, v2, v3, v4, v5, v6, v7] := by cases args; simp_all
  obtain ⟨rfl, rfl⟩ := trodVars_none hV
  obtain ⟨cs0, rfl, hs0⟩ := okWide_struct Try.underlying56 (hval 0 56 v0 rfl rfl)
  have k0 := h0
  have lt0 : ∀ x ∈ p0, x.block < W.heap.size := by obtain ⟨m, hm⟩ := k0; exact DataW.trod_lt m _ _ _ hm
  obtain ⟨fuel0, hf0⟩ := h0
  obtain ⟨xs0, n0, _, _, hl0, hx0, hd0⟩ := DataW.trod_struct Try.underlying56 hf0
  have F0 := fields_ok hx0 hd0
  obtain ⟨a0_0, c0_0, w0_0⟩ := in_int F0 0 _ rfl Try.underlying3 (by kernel_rfl)
  obtain ⟨a0_1, c0_1, w0_1⟩ := in_int F0 1 _ rfl Try.underlying3 (by kernel_rfl)
  obtain ⟨a0_2, c0_2, w0_2⟩ := in_int F0 2 _ rfl Try.underlying3 (by kernel_rfl)
  obtain ⟨a0_3, c0_3, w0_3⟩ := in_int F0 3 _ rfl Try.underlying3 (by kernel_rfl)
  obtain ⟨a0_4, c0_4, w0_4⟩ := in_int F0 4 _ rfl Try.underlying3 (by kernel_rfl)
  obtain ⟨a0_5, c0_5, w0_5⟩ := in_int F0 5 _ rfl Try.underlying3 (by kernel_rfl)
  obtain ⟨a0_6, c0_6, w0_6⟩ := in_int F0 6 _ rfl Try.underlying3 (by kernel_rfl)
  obtain ⟨a0_7, c0_7, w0_7⟩ := in_int F0 7 _ rfl Try.underlying3 (by kernel_rfl)
  obtain ⟨a0_8, len0_8, cap0_8, z0_8, c0_8, w0_8⟩ := in_ints F0 8 _ rfl Try.underlying22 Try.underlying3 (by kernel_rfl) (by kernel_rfl)
  obtain rfl := match_all (ys := [.int .i64 a0_0, .int .i64 a0_1, .int .i64 a0_2, .int .i64 a0_3, .int .i64 a0_4, .int .i64 a0_5, .int .i64 a0_6, .int .i64 a0_7, .slice a0_8 len0_8 cap0_8]) ⟨c0_0, c0_1, c0_2, c0_3, c0_4, c0_5, c0_6, c0_7, c0_8, trivial⟩ (hs0.trans (by kernel_rfl))
  obtain ⟨a1, len1, cap1, rfl⟩ := okWide_slice Try.underlying22 (hval 1 22 v1 rfl rfl)
  have k1 := h1
  have lt1 : ∀ x ∈ p1, x.block < W.heap.size := by obtain ⟨m, hm⟩ := k1; exact DataW.trod_lt m _ _ _ hm
  obtain ⟨z1, w1⟩ : ∃ zs, IntsIn W a1 len1 cap1 zs := by
    obtain ⟨fuel, hf⟩ := h1
    rcases open_ints Try.underlying22 Try.underlying3 (by kernel_rfl) hf with ⟨hcs, _⟩ | ⟨x, l, c, zs, hcs, _, hl, hm, hz, _, hcell, hwz⟩
    · simp [Value.cells] at hcs
      obtain ⟨rfl, rfl, rfl⟩ := hcs
      exact ⟨[], IntsIn.none⟩
    · simp [Value.cells] at hcs
      obtain ⟨rfl, rfl, rfl⟩ := hcs
      exact ⟨_, IntsIn.some hl hm (by simpa using hz) hcell hwz⟩
  obtain ⟨a2, len2, cap2, rfl⟩ := okWide_slice Try.underlying22 (hval 2 22 v2 rfl rfl)
  have k2 := h2
  have lt2 : ∀ x ∈ p2, x.block < W.heap.size := by obtain ⟨m, hm⟩ := k2; exact DataW.trod_lt m _ _ _ hm
  obtain ⟨z2, w2⟩ : ∃ zs, IntsIn W a2 len2 cap2 zs := by
    obtain ⟨fuel, hf⟩ := h2
    rcases open_ints Try.underlying22 Try.underlying3 (by kernel_rfl) hf with ⟨hcs, _⟩ | ⟨x, l, c, zs, hcs, _, hl, hm, hz, _, hcell, hwz⟩
    · simp [Value.cells] at hcs
      obtain ⟨rfl, rfl, rfl⟩ := hcs
      exact ⟨[], IntsIn.none⟩
    · simp [Value.cells] at hcs
      obtain ⟨rfl, rfl, rfl⟩ := hcs
      exact ⟨_, IntsIn.some hl hm (by simpa using hz) hcell hwz⟩
  obtain ⟨a3, len3, cap3, rfl⟩ := okWide_slice Try.underlying22 (hval 3 22 v3 rfl rfl)
  have k3 := h3
  have lt3 : ∀ x ∈ p3, x.block < W.heap.size := by obtain ⟨m, hm⟩ := k3; exact DataW.trod_lt m _ _ _ hm
  obtain ⟨z3, w3⟩ : ∃ zs, IntsIn W a3 len3 cap3 zs := by
    obtain ⟨fuel, hf⟩ := h3
    rcases open_ints Try.underlying22 Try.underlying3 (by kernel_rfl) hf with ⟨hcs, _⟩ | ⟨x, l, c, zs, hcs, _, hl, hm, hz, _, hcell, hwz⟩
    · simp [Value.cells] at hcs
      obtain ⟨rfl, rfl, rfl⟩ := hcs
      exact ⟨[], IntsIn.none⟩
    · simp [Value.cells] at hcs
      obtain ⟨rfl, rfl, rfl⟩ := hcs
      exact ⟨_, IntsIn.some hl hm (by simpa using hz) hcell hwz⟩
  obtain ⟨cs4, rfl, hs4⟩ := okWide_struct Try.underlying33 (hval 4 33 v4 rfl rfl)
  have k4 := h4
  have lt4 : ∀ x ∈ p4, x.block < W.heap.size := by obtain ⟨m, hm⟩ := k4; exact DataW.trod_lt m _ _ _ hm
  obtain ⟨fuel4, hf4⟩ := h4
  obtain ⟨xs4, n4, _, _, hl4, hx4, hd4⟩ := DataW.trod_struct Try.underlying33 hf4
  have F4 := fields_ok hx4 hd4
  obtain ⟨a4_0, c4_0, w4_0⟩ := in_int F4 0 _ rfl Try.underlying3 (by kernel_rfl)
  obtain ⟨a4_1, c4_1, w4_1⟩ := in_int F4 1 _ rfl Try.underlying3 (by kernel_rfl)
  obtain ⟨a4_2, c4_2, w4_2⟩ := in_int F4 2 _ rfl Try.underlying3 (by kernel_rfl)
  obtain ⟨a4_3, c4_3, w4_3⟩ := in_int F4 3 _ rfl Try.underlying3 (by kernel_rfl)
  obtain ⟨a4_4, c4_4, w4_4⟩ := in_int F4 4 _ rfl Try.underlying3 (by kernel_rfl)
  obtain ⟨a4_5, c4_5, w4_5⟩ := in_int F4 5 _ rfl Try.underlying3 (by kernel_rfl)
  obtain ⟨a4_6, c4_6, w4_6⟩ := in_int F4 6 _ rfl Try.underlying3 (by kernel_rfl)
  obtain ⟨a4_7, c4_7⟩ := in_bool F4 7 _ rfl Try.underlying4 (by kernel_rfl)
  obtain ⟨a4_8, len4_8, cap4_8, z4_8, c4_8, w4_8⟩ := in_ints F4 8 _ rfl Try.underlying22 Try.underlying3 (by kernel_rfl) (by kernel_rfl)
  obtain rfl := match_all (ys := [.int .i64 a4_0, .int .i64 a4_1, .int .i64 a4_2, .int .i64 a4_3, .int .i64 a4_4, .int .i64 a4_5, .int .i64 a4_6, .bool a4_7, .slice a4_8 len4_8 cap4_8]) ⟨c4_0, c4_1, c4_2, c4_3, c4_4, c4_5, c4_6, c4_7, c4_8, trivial⟩ (hs4.trans (by kernel_rfl))
  obtain ⟨a5, rfl, rfl, rfl, w5⟩ := open_int Try.underlying3 (hval 5 3 v5 rfl rfl) h5
  obtain ⟨a6, rfl, rfl, rfl, w6⟩ := open_int Try.underlying3 (hval 6 3 v6 rfl rfl) h6
  obtain ⟨a7, rfl, rfl, rfl⟩ := open_bool Try.underlying4 (hval 7 4 v7 rfl rfl) h7
  clear hA0 hval0
  have q0_8 := w0_8.1
  subst q0_8
  have q1 := w1.1
  subst q1
  have q2 := w2.1
  subst q2
  have q3 := w3.1
  subst q3
  have q4_8 := w4_8.1
  subst q4_8
  refine (walk_of ((AttachNextF_tr a0_8 cap0_8 (⟨a0_0, a0_1, a0_2, a0_3, a0_4, a0_5, a0_6, a0_7, z0_8⟩ : RawS) a1 cap1 z1 a2 cap2 z2 a3 cap3 z3 a4_8 cap4_8 (⟨a4_0, a4_1, a4_2, a4_3, a4_4, a4_5, a4_6, a4_7, z4_8⟩ : PktS) a5 a6 a7 (w0_8.2.2.2.1 _) w0_8.2.1 (w1.2.2.2.1 _) (w2.2.2.2.1 _) (w3.2.2.2.1 _) w3.2.1 (w4_8.2.2.2.1 _) w4_8.2.1 true (attachNext_pure (⟨a0_0, a0_1, a0_2, a0_3, a0_4, a0_5, a0_6, a0_7, z0_8⟩ : RawS) z1 z2 z3 (⟨a4_0, a4_1, a4_2, a4_3, a4_4, a4_5, a4_6, a4_7, z4_8⟩ : PktS) a5 a6 a7)).mono (fun _ _ h => h.1))).mono fun e W' ⟨he, bel⟩ => ?_
  subst he
  exact ⟨_, rfl, _, _, _, [], _, [], hW', trodAll_mk1 (shut_bool Try.underlying4 _), (trodAll_cons_mk (Below.trod laidOut (by kernel_rfl) (of_decide_eq_true (by kernel_rfl)) k0 bel lt0) (trodAll_cons_mk (Below.trod laidOut (by kernel_rfl) (of_decide_eq_true (by kernel_rfl)) k1 bel lt1) (trodAll_cons_mk (Below.trod laidOut (by kernel_rfl) (of_decide_eq_true (by kernel_rfl)) k2 bel lt2) (trodAll_cons_mk (Below.trod laidOut (by kernel_rfl) (of_decide_eq_true (by kernel_rfl)) k3 bel lt3) (trodAll_cons_mk (Below.trod laidOut (by kernel_rfl) (of_decide_eq_true (by kernel_rfl)) k4 bel lt4) (trodAll_cons_mk (shut_int Try.underlying3 w5) (trodAll_cons_mk (shut_int Try.underlying3 w6) (trodAll_cons_mk (shut_bool Try.underlying4 _) trodAll_mk0)))))))), rfl, bel.frame _, fun h => by cases h⟩
theorem over : Rows.attachNextRow.holds Try.pinned (OpenSpec.ofChange Rows.attachNextSpec) :=
  OpenClaim.holds_of_wide 5 Try.f5 rfl rfl rfl rfl rfl rfl rfl ⟨rfl, rfl, rfl, rfl, rfl⟩ rfl rfl rfl rfl rfl (by kernel_rfl) Try.func5 (by kernel_rfl)
    (of_decide_eq_true (by kernel_rfl)) (by unfold Func.isWrapper; first | (rw [if_pos (by decide +kernel)]; kernel_rfl) | (rw [if_neg (by decide +kernel)]; exact ⟨rfl, rfl⟩))
    (fun os started H enc _ => lifted os started H enc)
/-- The statement. -/
theorem proved : Rows.AttachNextSaid := over
end Go.Proofs.Ytfndeehlbcbkpaa.attachNext
