/- The law DealAsks: its walk, joined to the statement. -/
import Derived.Test.YtpcffplbedbpkaaRows
import Derived.WalkKit
import Derived.ProofKit
import Derived.OpenShut
import Derived.ShutString
import Derived.ChangeOld
import Derived.Below
import Derived.Test.YtpcffplbedbpkaaSlIn
import Derived.Test.YtpcffplbedbpkaaLawDealAsks
namespace Go.Proofs.Ytpcffplbedbpkaa.dealAsks
open Go.ChangeShapes Go.WideShapes Go.ChangeAt Go.RowKit
open Go.ChangeMaps (open_string shut_string)
set_option linter.unusedVariables false
theorem own : ownKnob Try.prog.godebug = none := by kernel_rfl
theorem laidOut : laidOutB Try.prog = true := by kernel_rfl
set_option maxRecDepth 100000 in
theorem lifted (os : Os) (started : os.Started) (H : Type) (enc : TypeId × Value → H) :
    ReturnsInHanded {} Try.checked os 5 .any (Rows.dealAsksSpec.pre6 enc Try.prog Try.f5 Rows.dealAsksRow.domain false) (Rows.dealAsksSpec.post enc Try.prog Try.f5 false true false false) := by
  refine returnsInHanded_of_change (C := Try.checked) own started (by kernel_rfl) Try.func5
    (ChangeSpec.witness6 (enc := enc) (C := Try.checked) false ⟨#[], #[.agg #[.int .i64 0, .int .i64 0, .int .i64 0, .int .i64 0, .int .i64 0, .int .i64 0, .int .i64 0, .int .i64 0, .slice none 0 0], .agg #[.int .i64 0, .int .i64 0, .int .i64 0, .int .i64 0, .int .i64 0, .int .i64 0, .int .i64 0, .bool false, .slice none 0 0], .int .i64 0, .int .i64 0, .int .i64 0, .bool false], []⟩ 16 (by kernel_rfl) (by kernel_rfl) (by kernel_rfl) (by kernel_rfl)) ?_
  intro W base args ds gs before hval0 hW hcnd _
  have hval : ∀ (j : Nat) t v, Try.f5.params[j]? = some t → args[j]? = some v → Value.okWide Try.prog W .any base t v := hval0
  have hW' := hW
  obtain ⟨p, q, hA0, hV, rfl, hfz, hnd⟩ := hW
  have hA : DataW.TrodAll enc Try.prog W 0 (fun _ => true) true Try.f5.params.toList args.toList ds p := hA0
  rw [Try.params5] at hA hval
  obtain ⟨v0, vs0, d0, ds0, p0, q0, hargs, rfl, rfl, h0, r0⟩ := trodAll_cons hA
  obtain ⟨v1, vs1, d1, ds1, p1, q1, rfl, rfl, rfl, h1, r1⟩ := trodAll_cons r0
  obtain ⟨v2, vs2, d2, ds2, p2, q2, rfl, rfl, rfl, h2, r2⟩ := trodAll_cons r1
  obtain ⟨v3, vs3, d3, ds3, p3, q3, rfl, rfl, rfl, h3, r3⟩ := trodAll_cons r2
  obtain ⟨v4, vs4, d4, ds4, p4, q4, rfl, rfl, rfl, h4, r4⟩ := trodAll_cons r3
  obtain ⟨v5, vs5, d5, ds5, p5, q5, rfl, rfl, rfl, h5, r5⟩ := trodAll_cons r4
  obtain ⟨rfl, rfl, rfl⟩ := trodAll_nil r5
  obtain rfl : args = #[v0, v1, v2, v3, v4, v5] := by cases args; simp_all
  obtain ⟨rfl, rfl⟩ := trodVars_none hV
  obtain ⟨cs0, rfl, hs0⟩ := okWide_struct Try.underlying44 (hval 0 44 v0 rfl rfl)
  have k0 := h0
  have lt0 : ∀ x ∈ p0, x.block < W.heap.size := by obtain ⟨m, hm⟩ := k0; exact DataW.trod_lt m _ _ _ hm
  obtain ⟨fuel0, hf0⟩ := h0
  obtain ⟨xs0, n0, _, _, hl0, hx0, hd0⟩ := DataW.trod_struct Try.underlying44 hf0
  have F0 := fields_ok hx0 hd0
  obtain ⟨a0_0, c0_0, w0_0⟩ := in_int F0 0 _ rfl Try.underlying3 (by kernel_rfl)
  obtain ⟨a0_1, c0_1, w0_1⟩ := in_int F0 1 _ rfl Try.underlying3 (by kernel_rfl)
  obtain ⟨a0_2, c0_2, w0_2⟩ := in_int F0 2 _ rfl Try.underlying3 (by kernel_rfl)
  obtain ⟨a0_3, c0_3, w0_3⟩ := in_int F0 3 _ rfl Try.underlying3 (by kernel_rfl)
  obtain ⟨a0_4, c0_4, w0_4⟩ := in_int F0 4 _ rfl Try.underlying3 (by kernel_rfl)
  obtain ⟨a0_5, c0_5, w0_5⟩ := in_int F0 5 _ rfl Try.underlying3 (by kernel_rfl)
  obtain ⟨a0_6, c0_6, w0_6⟩ := in_int F0 6 _ rfl Try.underlying3 (by kernel_rfl)
  obtain ⟨a0_7, c0_7, w0_7⟩ := in_int F0 7 _ rfl Try.underlying3 (by kernel_rfl)
  obtain ⟨a0_8, len0_8, cap0_8, z0_8, c0_8, w0_8⟩ := in_ints F0 8 _ rfl Try.underlying22 Try.underlying3 (by kernel_rfl) (by kernel_rfl)
  obtain rfl := match_all (ys := [.int .i64 a0_0, .int .i64 a0_1, .int .i64 a0_2, .int .i64 a0_3, .int .i64 a0_4, .int .i64 a0_5, .int .i64 a0_6, .int .i64 a0_7, .slice a0_8 len0_8 cap0_8]) ⟨c0_0, c0_1, c0_2, c0_3, c0_4, c0_5, c0_6, c0_7, c0_8, trivial⟩ (hs0.trans (by kernel_rfl))
  obtain ⟨cs1, rfl, hs1⟩ := okWide_struct Try.underlying38 (hval 1 38 v1 rfl rfl)
  have k1 := h1
  have lt1 : ∀ x ∈ p1, x.block < W.heap.size := by obtain ⟨m, hm⟩ := k1; exact DataW.trod_lt m _ _ _ hm
  obtain ⟨fuel1, hf1⟩ := h1
  obtain ⟨xs1, n1, _, _, hl1, hx1, hd1⟩ := DataW.trod_struct Try.underlying38 hf1
  have F1 := fields_ok hx1 hd1
  obtain ⟨a1_0, c1_0, w1_0⟩ := in_int F1 0 _ rfl Try.underlying3 (by kernel_rfl)
  obtain ⟨a1_1, c1_1, w1_1⟩ := in_int F1 1 _ rfl Try.underlying3 (by kernel_rfl)
  obtain ⟨a1_2, c1_2, w1_2⟩ := in_int F1 2 _ rfl Try.underlying3 (by kernel_rfl)
  obtain ⟨a1_3, c1_3, w1_3⟩ := in_int F1 3 _ rfl Try.underlying3 (by kernel_rfl)
  obtain ⟨a1_4, c1_4, w1_4⟩ := in_int F1 4 _ rfl Try.underlying3 (by kernel_rfl)
  obtain ⟨a1_5, c1_5, w1_5⟩ := in_int F1 5 _ rfl Try.underlying3 (by kernel_rfl)
  obtain ⟨a1_6, c1_6, w1_6⟩ := in_int F1 6 _ rfl Try.underlying3 (by kernel_rfl)
  obtain ⟨a1_7, c1_7⟩ := in_bool F1 7 _ rfl Try.underlying4 (by kernel_rfl)
  obtain ⟨a1_8, len1_8, cap1_8, z1_8, c1_8, w1_8⟩ := in_ints F1 8 _ rfl Try.underlying22 Try.underlying3 (by kernel_rfl) (by kernel_rfl)
  obtain rfl := match_all (ys := [.int .i64 a1_0, .int .i64 a1_1, .int .i64 a1_2, .int .i64 a1_3, .int .i64 a1_4, .int .i64 a1_5, .int .i64 a1_6, .bool a1_7, .slice a1_8 len1_8 cap1_8]) ⟨c1_0, c1_1, c1_2, c1_3, c1_4, c1_5, c1_6, c1_7, c1_8, trivial⟩ (hs1.trans (by kernel_rfl))
  obtain ⟨a2, rfl, rfl, rfl, w2⟩ := open_int Try.underlying3 (hval 2 3 v2 rfl rfl) h2
  obtain ⟨a3, rfl, rfl, rfl, w3⟩ := open_int Try.underlying3 (hval 3 3 v3 rfl rfl) h3
  obtain ⟨a4, rfl, rfl, rfl, w4⟩ := open_int Try.underlying3 (hval 4 3 v4 rfl rfl) h4
  obtain ⟨a5, rfl, rfl, rfl⟩ := open_bool Try.underlying4 (hval 5 4 v5 rfl rfl) h5
  clear hA0 hval0
  refine (walk_of (DealAsks_tr a0_0 a0_1 a0_2 a0_3 a0_4 a0_5 a0_6 a0_7 a0_8 len0_8 cap0_8 z0_8 a1_0 a1_1 a1_2 a1_3 a1_4 a1_5 a1_6 a1_7 a1_8 len1_8 cap1_8 a2 a3 a4 a5 (by have := w0_8; exact this.1) (w0_8.2.2.2.1 _) (by have := w0_8; exact this.2.1) z1_8 (by have := w1_8; exact this.1) (w1_8.2.2.2.1 _) (by have := w1_8; exact this.2.1))).mono fun e W' ⟨he, bel⟩ => ?_
  subst he
  exact ⟨_, rfl, _, _, _, [], _, [], hW', trodAll_mk1 (shut_bool Try.underlying4 _), (trodAll_cons_mk (Below.trod laidOut (by kernel_rfl) (of_decide_eq_true (by kernel_rfl)) k0 bel lt0) (trodAll_cons_mk (Below.trod laidOut (by kernel_rfl) (of_decide_eq_true (by kernel_rfl)) k1 bel lt1) (trodAll_cons_mk (shut_int Try.underlying3 w2) (trodAll_cons_mk (shut_int Try.underlying3 w3) (trodAll_cons_mk (shut_int Try.underlying3 w4) (trodAll_cons_mk (shut_bool Try.underlying4 _) trodAll_mk0)))))), rfl, bel.frame _, fun h => by cases h⟩
theorem over : Rows.dealAsksRow.holds Try.pinned (OpenSpec.ofChange Rows.dealAsksSpec) :=
  OpenClaim.holds_of_wide 5 Try.f5 rfl rfl rfl rfl rfl rfl rfl ⟨rfl, rfl, rfl, rfl, rfl⟩ rfl rfl rfl rfl rfl (by kernel_rfl) Try.func5 (by kernel_rfl)
    (of_decide_eq_true (by kernel_rfl)) (by unfold Func.isWrapper; first | (rw [if_pos (by decide +kernel)]; kernel_rfl) | (rw [if_neg (by decide +kernel)]; exact ⟨rfl, rfl⟩))
    (fun os started H enc _ => lifted os started H enc)
/-- The statement. -/
theorem proved : Rows.DealAsksSaid := over
end Go.Proofs.Ytpcffplbedbpkaa.dealAsks
