/- The law HomeLines: its walk, joined to the statement. -/
import Derived.Test.YtcigheahollkcaaRows
import Derived.WalkKit
import Derived.ProofKit
import Derived.OpenShut
import Derived.ShutString
import Derived.ChangeOld
import Derived.Below
import Derived.Test.YtcigheahollkcaaPureHomeLines
import Derived.Test.YtcigheahollkcaaSlIn
namespace Go.Proofs.Ytcigheahollkcaa.homeLines
open Go.ChangeShapes Go.WideShapes Go.ChangeAt Go.RowKit
open Go.ChangeMaps (open_string shut_string)
set_option linter.unusedVariables false
theorem own : ownKnob Try.prog.godebug = none := by kernel_rfl
theorem laidOut : laidOutB Try.prog = true := by kernel_rfl
set_option maxRecDepth 100000 in
theorem lifted (os : Os) (started : os.Started) (H : Type) (enc : TypeId × Value → H) :
    ReturnsInHanded {} Try.checked os 6 .any (Rows.homeLinesSpec.pre6 enc Try.prog Try.f6 Rows.homeLinesRow.domain false) (Rows.homeLinesSpec.post enc Try.prog Try.f6 false true false false) := by
  refine returnsInHanded_of_change (C := Try.checked) own started (by kernel_rfl) Try.func6
    (ChangeSpec.witness6 (enc := enc) (C := Try.checked) false ⟨#[], #[.agg #[.int .i64 0, .int .i64 0, .int .i64 0, .int .i64 0, .int .i64 0, .int .i64 0, .int .i64 0, .slice none 0 0, .slice none 0 0, .slice none 0 0, .slice none 0 0, .slice none 0 0], .slice none 0 0, .int .i64 0], []⟩ 16 (by kernel_rfl) (by kernel_rfl) (by kernel_rfl) (by kernel_rfl)) ?_
  intro W base args ds gs before hval0 hW hcnd _
  have hval : ∀ (j : Nat) t v, Try.f6.params[j]? = some t → args[j]? = some v → Value.okWide Try.prog W .any base t v := hval0
  have hW' := hW
  obtain ⟨p, q, hA0, hV, rfl, hfz, hnd⟩ := hW
  have hA : DataW.TrodAll enc Try.prog W 0 (fun _ => true) true Try.f6.params.toList args.toList ds p := hA0
  rw [Try.params6] at hA hval
  obtain ⟨v0, vs0, d0, ds0, p0, q0, hargs, rfl, rfl, h0, r0⟩ := trodAll_cons hA
  obtain ⟨v1, vs1, d1, ds1, p1, q1, rfl, rfl, rfl, h1, r1⟩ := trodAll_cons r0
  obtain ⟨v2, vs2, d2, ds2, p2, q2, rfl, rfl, rfl, h2, r2⟩ := trodAll_cons r1
  obtain ⟨rfl, rfl, rfl⟩ := trodAll_nil r2
  obtain rfl : args = #[v0, v1, v2] := by cases args; simp_all
  obtain ⟨rfl, rfl⟩ := trodVars_none hV
  obtain ⟨cs0, rfl, hs0⟩ := okWide_struct Try.underlying24 (hval 0 24 v0 rfl rfl)
  have k0 := h0
  have lt0 : ∀ x ∈ p0, x.block < W.heap.size := by obtain ⟨m, hm⟩ := k0; exact DataW.trod_lt m _ _ _ hm
  obtain ⟨fuel0, hf0⟩ := h0
  obtain ⟨xs0, n0, _, _, hl0, hx0, hd0⟩ := DataW.trod_struct Try.underlying24 hf0
  have F0 := fields_ok hx0 hd0
  obtain ⟨a0_0, c0_0, w0_0⟩ := in_int F0 0 _ rfl Try.underlying3 (by kernel_rfl)
  obtain ⟨a0_1, c0_1, w0_1⟩ := in_int F0 1 _ rfl Try.underlying3 (by kernel_rfl)
  obtain ⟨a0_2, c0_2, w0_2⟩ := in_int F0 2 _ rfl Try.underlying3 (by kernel_rfl)
  obtain ⟨a0_3, c0_3, w0_3⟩ := in_int F0 3 _ rfl Try.underlying3 (by kernel_rfl)
  obtain ⟨a0_4, c0_4, w0_4⟩ := in_int F0 4 _ rfl Try.underlying3 (by kernel_rfl)
  obtain ⟨a0_5, c0_5, w0_5⟩ := in_int F0 5 _ rfl Try.underlying3 (by kernel_rfl)
  obtain ⟨a0_6, c0_6, w0_6⟩ := in_int F0 6 _ rfl Try.underlying3 (by kernel_rfl)
  obtain ⟨a0_7, len0_7, cap0_7, z0_7, c0_7, w0_7⟩ := in_ints F0 7 _ rfl Try.underlying22 Try.underlying3 (by kernel_rfl) (by kernel_rfl)
  obtain ⟨a0_8, len0_8, cap0_8, z0_8, c0_8, w0_8⟩ := in_ints F0 8 _ rfl Try.underlying22 Try.underlying3 (by kernel_rfl) (by kernel_rfl)
  obtain ⟨a0_9, len0_9, cap0_9, z0_9, c0_9, w0_9⟩ := in_ints F0 9 _ rfl Try.underlying22 Try.underlying3 (by kernel_rfl) (by kernel_rfl)
  obtain ⟨a0_10, len0_10, cap0_10, z0_10, c0_10, w0_10⟩ := in_ints F0 10 _ rfl Try.underlying22 Try.underlying3 (by kernel_rfl) (by kernel_rfl)
  obtain ⟨a0_11, len0_11, cap0_11, z0_11, c0_11, w0_11⟩ := in_ints F0 11 _ rfl Try.underlying22 Try.underlying3 (by kernel_rfl) (by kernel_rfl)
  obtain rfl := match_all (ys := [.int .i64 a0_0, .int .i64 a0_1, .int .i64 a0_2, .int .i64 a0_3, .int .i64 a0_4, .int .i64 a0_5, .int .i64 a0_6, .slice a0_7 len0_7 cap0_7, .slice a0_8 len0_8 cap0_8, .slice a0_9 len0_9 cap0_9, .slice a0_10 len0_10 cap0_10, .slice a0_11 len0_11 cap0_11]) ⟨c0_0, c0_1, c0_2, c0_3, c0_4, c0_5, c0_6, c0_7, c0_8, c0_9, c0_10, c0_11, trivial⟩ (hs0.trans (by kernel_rfl))
  obtain ⟨a1, len1, cap1, rfl⟩ := okWide_slice Try.underlying22 (hval 1 22 v1 rfl rfl)
  have k1 := h1
  have lt1 : ∀ x ∈ p1, x.block < W.heap.size := by obtain ⟨m, hm⟩ := k1; exact DataW.trod_lt m _ _ _ hm
  obtain ⟨z1, w1⟩ : ∃ zs, IntsIn W a1 len1 cap1 zs := by
    obtain ⟨fuel, hf⟩ := h1
    rcases open_ints Try.underlying22 Try.underlying3 (by kernel_rfl) hf with ⟨hcs, _⟩ | ⟨x, l, c, zs, hcs, _, hl, hm, hz, _, hcell, hwz⟩
    · simp [Value.cells] at hcs
      obtain ⟨rfl, rfl, rfl⟩ := hcs
      exact ⟨[], IntsIn.none⟩
    · simp [Value.cells] at hcs
      obtain ⟨rfl, rfl, rfl⟩ := hcs
      exact ⟨_, IntsIn.some hl hm (by simpa using hz) hcell hwz⟩
  obtain ⟨a2, rfl, rfl, rfl, w2⟩ := open_int Try.underlying3 (hval 2 3 v2 rfl rfl) h2
  clear hA0 hval0
  have q0_7 := w0_7.1
  subst q0_7
  have q0_8 := w0_8.1
  subst q0_8
  have q0_9 := w0_9.1
  subst q0_9
  have q0_10 := w0_10.1
  subst q0_10
  have q0_11 := w0_11.1
  subst q0_11
  have q1 := w1.1
  subst q1
  refine (walk_of ((HomeLinesF_tr a0_7 cap0_7 a0_8 cap0_8 a0_9 cap0_9 a0_10 cap0_10 a0_11 cap0_11 (⟨a0_0, a0_1, a0_2, a0_3, a0_4, a0_5, a0_6, z0_7, z0_8, z0_9, z0_10, z0_11⟩ : SetupS) a1 cap1 z1 a2 (w0_7.2.2.2.1 _) w0_7.2.1 (w0_8.2.2.2.1 _) w0_8.2.1 (w0_9.2.2.2.1 _) w0_9.2.1 (w0_10.2.2.2.1 _) w0_10.2.1 (w0_11.2.2.2.1 _) w0_11.2.1 (w1.2.2.2.1 _) true (homeLines_pure (⟨a0_0, a0_1, a0_2, a0_3, a0_4, a0_5, a0_6, z0_7, z0_8, z0_9, z0_10, z0_11⟩ : SetupS) z1 a2)).mono (fun _ _ h => h.1))).mono fun e W' ⟨he, bel⟩ => ?_
  subst he
  exact ⟨_, rfl, _, _, _, [], _, [], hW', trodAll_mk1 (shut_bool Try.underlying4 _), (trodAll_cons_mk (Below.trod laidOut (by kernel_rfl) (of_decide_eq_true (by kernel_rfl)) k0 bel lt0) (trodAll_cons_mk (Below.trod laidOut (by kernel_rfl) (of_decide_eq_true (by kernel_rfl)) k1 bel lt1) (trodAll_cons_mk (shut_int Try.underlying3 w2) trodAll_mk0))), rfl, bel.frame _, fun h => by cases h⟩
theorem over : Rows.homeLinesRow.holds Try.pinned (OpenSpec.ofChange Rows.homeLinesSpec) :=
  OpenClaim.holds_of_wide 6 Try.f6 rfl rfl rfl rfl rfl rfl rfl ⟨rfl, rfl, rfl, rfl, rfl⟩ rfl rfl rfl rfl rfl (by kernel_rfl) Try.func6 (by kernel_rfl)
    (of_decide_eq_true (by kernel_rfl)) (by unfold Func.isWrapper; first | (rw [if_pos (by decide +kernel)]; kernel_rfl) | (rw [if_neg (by decide +kernel)]; exact ⟨rfl, rfl⟩))
    (fun os started H enc _ => lifted os started H enc)
/-- The statement. -/
theorem proved : Rows.HomeLinesSaid := over
end Go.Proofs.Ytcigheahollkcaa.homeLines
