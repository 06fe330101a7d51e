/- The law TopBegins: its walk, joined to the statement. -/
import Derived.Test.YtcidmgkfaioceaaGreatRows
import Derived.WalkKit
import Derived.ProofKit
import Derived.OpenShut
import Derived.ShutString
import Derived.ChangeOld
import Derived.Below
import Derived.Test.YtcidmgkfaioceaaGreatMBegins10
namespace Go.Proofs.YtcidmgkfaioceaaGreat.topBegins
open Go.ChangeShapes Go.WideShapes Go.ChangeAt Go.RowKit
open Go.ChangeMaps (open_string shut_string)
set_option linter.unusedVariables false
theorem own : ownKnob Tryz.prog.godebug = none := by kernel_rfl
theorem laidOut : laidOutB Tryz.prog = true := by kernel_rfl
set_option maxRecDepth 100000 in
theorem lifted (os : Os) (started : os.Started) (H : Type) (enc : TypeId × Value → H) :
    ReturnsInHanded {} Tryz.checked os 7 .any (Rows.topBeginsSpec.pre6 enc Tryz.prog Tryz.f7 Rows.topBeginsRow.domain false) (Rows.topBeginsSpec.post enc Tryz.prog Tryz.f7 false true false false) := by
  refine returnsInHanded_of_change (C := Tryz.checked) own started (by kernel_rfl) Tryz.func7
    (ChangeSpec.witness6 (enc := enc) (C := Tryz.checked) false ⟨#[], #[.agg #[.int .i64 0, .int .i64 0, .int .i64 0, .int .i64 0, .int .i64 0, .int .i64 0, .int .i64 0, .slice none 0 0, .slice none 0 0, .slice none 0 0, .slice none 0 0, .slice none 0 0], .slice none 0 0, .int .i64 0], []⟩ 16 (by kernel_rfl) (by kernel_rfl) (by kernel_rfl) (by kernel_rfl)) ?_
  intro W base args ds gs before hval0 hW hcnd _
  have hval : ∀ (j : Nat) t v, Tryz.f7.params[j]? = some t → args[j]? = some v → Value.okWide Tryz.prog W .any base t v := hval0
  have hW' := hW
  obtain ⟨p, q, hA0, hV, rfl, hfz, hnd⟩ := hW
  have hA : DataW.TrodAll enc Tryz.prog W 0 (fun _ => true) true Tryz.f7.params.toList args.toList ds p := hA0
  rw [Tryz.params7] at hA hval
  obtain ⟨v0, vs0, d0, ds0, p0, q0, hargs, rfl, rfl, h0, r0⟩ := trodAll_cons hA
  obtain ⟨v1, vs1, d1, ds1, p1, q1, rfl, rfl, rfl, h1, r1⟩ := trodAll_cons r0
  obtain ⟨v2, vs2, d2, ds2, p2, q2, rfl, rfl, rfl, h2, r2⟩ := trodAll_cons r1
  obtain ⟨rfl, rfl, rfl⟩ := trodAll_nil r2
  obtain rfl : args = #[v0, v1, v2] := by cases args; simp_all
  obtain ⟨rfl, rfl⟩ := trodVars_none hV
  obtain ⟨cs0, rfl, hs0⟩ := okWide_struct Tryz.underlying75 (hval 0 75 v0 rfl rfl)
  have k0 := h0
  have lt0 : ∀ x ∈ p0, x.block < W.heap.size := by obtain ⟨m, hm⟩ := k0; exact DataW.trod_lt m _ _ _ hm
  obtain ⟨fuel0, hf0⟩ := h0
  obtain ⟨xs0, n0, _, _, hl0, hx0, hd0⟩ := DataW.trod_struct Tryz.underlying75 hf0
  have F0 := fields_ok hx0 hd0
  obtain ⟨a0_0, c0_0, w0_0⟩ := in_int F0 0 _ rfl Tryz.underlying3 (by kernel_rfl)
  obtain ⟨a0_1, c0_1, w0_1⟩ := in_int F0 1 _ rfl Tryz.underlying3 (by kernel_rfl)
  obtain ⟨a0_2, c0_2, w0_2⟩ := in_int F0 2 _ rfl Tryz.underlying3 (by kernel_rfl)
  obtain ⟨a0_3, c0_3, w0_3⟩ := in_int F0 3 _ rfl Tryz.underlying3 (by kernel_rfl)
  obtain ⟨a0_4, c0_4, w0_4⟩ := in_int F0 4 _ rfl Tryz.underlying3 (by kernel_rfl)
  obtain ⟨a0_5, c0_5, w0_5⟩ := in_int F0 5 _ rfl Tryz.underlying3 (by kernel_rfl)
  obtain ⟨a0_6, c0_6, w0_6⟩ := in_int F0 6 _ rfl Tryz.underlying3 (by kernel_rfl)
  obtain ⟨a0_7, len0_7, cap0_7, z0_7, c0_7, w0_7⟩ := in_ints F0 7 _ rfl Tryz.underlying22 Tryz.underlying3 (by kernel_rfl) (by kernel_rfl)
  obtain ⟨a0_8, len0_8, cap0_8, z0_8, c0_8, w0_8⟩ := in_ints F0 8 _ rfl Tryz.underlying22 Tryz.underlying3 (by kernel_rfl) (by kernel_rfl)
  obtain ⟨a0_9, len0_9, cap0_9, z0_9, c0_9, w0_9⟩ := in_ints F0 9 _ rfl Tryz.underlying22 Tryz.underlying3 (by kernel_rfl) (by kernel_rfl)
  obtain ⟨a0_10, len0_10, cap0_10, z0_10, c0_10, w0_10⟩ := in_ints F0 10 _ rfl Tryz.underlying22 Tryz.underlying3 (by kernel_rfl) (by kernel_rfl)
  obtain ⟨a0_11, len0_11, cap0_11, z0_11, c0_11, w0_11⟩ := in_ints F0 11 _ rfl Tryz.underlying22 Tryz.underlying3 (by kernel_rfl) (by kernel_rfl)
  obtain rfl := match_all (ys := [.int .i64 a0_0, .int .i64 a0_1, .int .i64 a0_2, .int .i64 a0_3, .int .i64 a0_4, .int .i64 a0_5, .int .i64 a0_6, .slice a0_7 len0_7 cap0_7, .slice a0_8 len0_8 cap0_8, .slice a0_9 len0_9 cap0_9, .slice a0_10 len0_10 cap0_10, .slice a0_11 len0_11 cap0_11]) ⟨c0_0, c0_1, c0_2, c0_3, c0_4, c0_5, c0_6, c0_7, c0_8, c0_9, c0_10, c0_11, trivial⟩ (hs0.trans (by kernel_rfl))
  obtain ⟨a1, len1, cap1, rfl⟩ := okWide_slice Tryz.underlying76 (hval 1 76 v1 rfl rfl)
  have k1 := h1
  have lt1 : ∀ x ∈ p1, x.block < W.heap.size := by obtain ⟨m, hm⟩ := k1; exact DataW.trod_lt m _ _ _ hm
  obtain ⟨z1, w1⟩ : ∃ zs : List ChoiceS, ChIn W a1 len1 cap1 zs := by
    obtain ⟨fuel, hf⟩ := h1
    obtain ⟨a, len, cap, rows, hcs, hr, hq⟩ := rows_in Tryz.underlying76 (fun cs => ∃ x : ChoiceS, ChOk x ∧ cs = Rw.cells x ()) (by
      intro fuel cs y hl h
      obtain ⟨xs, n, _, _, hl2, hx, hd⟩ := DataW.trod_struct Tryz.underlying142 h
      have F := fields_ok (cs := cs.toArray) hx hd
      obtain ⟨b0, c0, e0⟩ := in_int F 0 _ rfl Tryz.underlying3 (by kernel_rfl)
      obtain ⟨b1, c1, e1⟩ := in_int F 1 _ rfl Tryz.underlying3 (by kernel_rfl)
      obtain ⟨b2, c2, e2⟩ := in_int F 2 _ rfl Tryz.underlying3 (by kernel_rfl)
      obtain ⟨b3, c3, e3⟩ := in_u16 F 3 _ rfl Tryz.underlying61 (by kernel_rfl)
      have e := match_all (cs := cs.toArray) (ys := [.int .i64 b0, .int .i64 b1, .int .i64 b2, .int .u16 b3]) ⟨c0, c1, c2, c3, trivial⟩ (by simpa using hl.trans (by kernel_rfl))
      exact ⟨⟨b0, b1, b2, b3⟩, ⟨e0, e1, e2, e3⟩, congrArg Array.toList e⟩) hf
    simp [Value.cells] at hcs
    obtain ⟨rfl, rfl, rfl⟩ := hcs
    have e2 : Tryz.prog.cellsOf 142 = Rw.k ChoiceS := by kernel_rfl
    rw [e2] at hr
    exact ChIn.mk hr hq
  obtain ⟨a2, rfl, rfl, rfl, w2⟩ := open_int Tryz.underlying3 (hval 2 3 v2 rfl rfl) h2
  clear hA0 hval0
  have q0_7 := w0_7.1
  have q0_8 := w0_8.1
  have q0_9 := w0_9.1
  have q0_10 := w0_10.1
  have q0_11 := w0_11.1
  subst q0_7
  subst q0_8
  subst q0_9
  subst q0_10
  subst q0_11
  have q1 := w1.len
  subst q1
  refine (walk_of (Sat.came (List.forall_mem_cons.2 ⟨(IntsIn.imm w0_7), (List.forall_mem_cons.2 ⟨(IntsIn.imm w0_8), (List.forall_mem_cons.2 ⟨(IntsIn.imm w0_9), (List.forall_mem_cons.2 ⟨(IntsIn.imm w0_10), (List.forall_mem_cons.2 ⟨(IntsIn.imm w0_11), (List.forall_mem_cons.2 ⟨(ChIn.imm w1), (List.forall_mem_nil _)⟩)⟩)⟩)⟩)⟩)⟩)) (topBeginsF (s := (⟨a0_0, a0_1, a0_2, a0_3, a0_4, a0_5, a0_6, z0_7, z0_8, z0_9, z0_10, z0_11⟩ : SetupS)) a0_7 cap0_7 a0_8 cap0_8 a0_9 cap0_9 a0_10 cap0_10 a0_11 cap0_11 a1 cap1 (rI a0_7 cap0_7 z0_7) (rI a0_8 cap0_8 z0_8) (rI a0_9 cap0_9 z0_9) (rI a0_10 cap0_10 z0_10) (rI a0_11 cap0_11 z0_11) (rI a1 cap1 z1) (topBegins_pure (s := (⟨a0_0, a0_1, a0_2, a0_3, a0_4, a0_5, a0_6, z0_7, z0_8, z0_9, z0_10, z0_11⟩ : SetupS)) ⟨w0_0, w0_1, w0_2, w0_3, w0_4, w0_5, w0_6, w0_7.2.2.2.2, w0_8.2.2.2.2, w0_9.2.2.2.2, w0_10.2.2.2.2, w0_11.2.2.2.2⟩ w1.2 (bounds_i64 w2)))).mono fun e W' ⟨he, bel⟩ => ?_
  subst he
  exact ⟨_, rfl, _, _, _, [], _, [], hW', trodAll_mk1 (shut_bool Tryz.underlying4 _), (trodAll_cons_mk (Below.trod laidOut (by kernel_rfl) (of_decide_eq_true (by kernel_rfl)) k0 bel lt0) (trodAll_cons_mk (Below.trod laidOut (by kernel_rfl) (of_decide_eq_true (by kernel_rfl)) k1 bel lt1) (trodAll_cons_mk (shut_int Tryz.underlying3 w2) trodAll_mk0))), rfl, bel.frame _, fun h => by cases h⟩
theorem over : Rows.topBeginsRow.holds Tryz.pinned (OpenSpec.ofChange Rows.topBeginsSpec) :=
  OpenClaim.holds_of_wide 7 Tryz.f7 rfl rfl rfl rfl rfl rfl rfl ⟨rfl, rfl, rfl, rfl, rfl⟩ rfl rfl rfl rfl rfl (by kernel_rfl) Tryz.func7 (by kernel_rfl)
    (of_decide_eq_true (by kernel_rfl)) (by unfold Func.isWrapper; first | (rw [if_pos (by decide +kernel)]; kernel_rfl) | (rw [if_neg (by decide +kernel)]; exact ⟨rfl, rfl⟩))
    (fun os started H enc _ => lifted os started H enc)
/-- The statement. -/
theorem proved : Rows.TopBeginsSaid := over
end Go.Proofs.YtcidmgkfaioceaaGreat.topBegins
