/- The law HomePlays: its walk, joined to the statement. -/
import Derived.Test.YtcigheahollkcaaRows
import Derived.WalkKit
import Derived.ProofKit
import Derived.OpenShut
import Derived.ShutString
import Derived.ChangeOld
import Derived.Below
import Derived.Test.YtcigheahollkcaaPureHomePlays
import Derived.Test.YtcigheahollkcaaSlIn
import Derived.Test.YtcigheahollkcaaSlInR
import Derived.Test.YtcigheahollkcaaSlInRec
namespace Go.Proofs.Ytcigheahollkcaa.homePlays
open Go.ChangeShapes Go.WideShapes Go.ChangeAt Go.RowKit
open Go.ChangeMaps (open_string shut_string)
set_option linter.unusedVariables false
theorem own : ownKnob Try.prog.godebug = none := by kernel_rfl
theorem laidOut : laidOutB Try.prog = true := by kernel_rfl
set_option maxRecDepth 100000 in
theorem lifted (os : Os) (started : os.Started) (H : Type) (enc : TypeId × Value → H) :
    ReturnsInHanded {} Try.checked os 4 .any (Rows.homePlaysSpec.pre6 enc Try.prog Try.f4 Rows.homePlaysRow.domain false) (Rows.homePlaysSpec.post enc Try.prog Try.f4 false true false false) := by
  refine returnsInHanded_of_change (C := Try.checked) own started (by kernel_rfl) Try.func4
    (ChangeSpec.witness6 (enc := enc) (C := Try.checked) false ⟨#[], #[.agg #[.int .i64 0, .int .i64 0, .int .i64 0, .int .i64 0, .int .i64 0, .int .i64 0, .int .i64 0, .slice none 0 0, .slice none 0 0, .slice none 0 0, .slice none 0 0, .slice none 0 0], .int .i64 0, .slice none 0 0], []⟩ 16 (by kernel_rfl) (by kernel_rfl) (by kernel_rfl) (by kernel_rfl)) ?_
  intro W base args ds gs before hval0 hW hcnd _
  have hval : ∀ (j : Nat) t v, Try.f4.params[j]? = some t → args[j]? = some v → Value.okWide Try.prog W .any base t v := hval0
  have hW' := hW
  obtain ⟨p, q, hA0, hV, rfl, hfz, hnd⟩ := hW
  have hA : DataW.TrodAll enc Try.prog W 0 (fun _ => true) true Try.f4.params.toList args.toList ds p := hA0
  rw [Try.params4] at hA hval
  obtain ⟨v0, vs0, d0, ds0, p0, q0, hargs, rfl, rfl, h0, r0⟩ := trodAll_cons hA
  obtain ⟨v1, vs1, d1, ds1, p1, q1, rfl, rfl, rfl, h1, r1⟩ := trodAll_cons r0
  obtain ⟨v2, vs2, d2, ds2, p2, q2, rfl, rfl, rfl, h2, r2⟩ := trodAll_cons r1
  obtain ⟨rfl, rfl, rfl⟩ := trodAll_nil r2
  obtain rfl : args = #[v0, v1, v2] := by cases args; simp_all
  obtain ⟨rfl, rfl⟩ := trodVars_none hV
  obtain ⟨cs0, rfl, hs0⟩ := okWide_struct Try.underlying24 (hval 0 24 v0 rfl rfl)
  have k0 := h0
  have lt0 : ∀ x ∈ p0, x.block < W.heap.size := by obtain ⟨m, hm⟩ := k0; exact DataW.trod_lt m _ _ _ hm
  obtain ⟨fuel0, hf0⟩ := h0
  obtain ⟨xs0, n0, _, _, hl0, hx0, hd0⟩ := DataW.trod_struct Try.underlying24 hf0
  have F0 := fields_ok hx0 hd0
  obtain ⟨a0_0, c0_0, w0_0⟩ := in_int F0 0 _ rfl Try.underlying3 (by kernel_rfl)
  obtain ⟨a0_1, c0_1, w0_1⟩ := in_int F0 1 _ rfl Try.underlying3 (by kernel_rfl)
  obtain ⟨a0_2, c0_2, w0_2⟩ := in_int F0 2 _ rfl Try.underlying3 (by kernel_rfl)
  obtain ⟨a0_3, c0_3, w0_3⟩ := in_int F0 3 _ rfl Try.underlying3 (by kernel_rfl)
  obtain ⟨a0_4, c0_4, w0_4⟩ := in_int F0 4 _ rfl Try.underlying3 (by kernel_rfl)
  obtain ⟨a0_5, c0_5, w0_5⟩ := in_int F0 5 _ rfl Try.underlying3 (by kernel_rfl)
  obtain ⟨a0_6, c0_6, w0_6⟩ := in_int F0 6 _ rfl Try.underlying3 (by kernel_rfl)
  obtain ⟨a0_7, len0_7, cap0_7, z0_7, c0_7, w0_7⟩ := in_ints F0 7 _ rfl Try.underlying22 Try.underlying3 (by kernel_rfl) (by kernel_rfl)
  obtain ⟨a0_8, len0_8, cap0_8, z0_8, c0_8, w0_8⟩ := in_ints F0 8 _ rfl Try.underlying22 Try.underlying3 (by kernel_rfl) (by kernel_rfl)
  obtain ⟨a0_9, len0_9, cap0_9, z0_9, c0_9, w0_9⟩ := in_ints F0 9 _ rfl Try.underlying22 Try.underlying3 (by kernel_rfl) (by kernel_rfl)
  obtain ⟨a0_10, len0_10, cap0_10, z0_10, c0_10, w0_10⟩ := in_ints F0 10 _ rfl Try.underlying22 Try.underlying3 (by kernel_rfl) (by kernel_rfl)
  obtain ⟨a0_11, len0_11, cap0_11, z0_11, c0_11, w0_11⟩ := in_ints F0 11 _ rfl Try.underlying22 Try.underlying3 (by kernel_rfl) (by kernel_rfl)
  obtain rfl := match_all (ys := [.int .i64 a0_0, .int .i64 a0_1, .int .i64 a0_2, .int .i64 a0_3, .int .i64 a0_4, .int .i64 a0_5, .int .i64 a0_6, .slice a0_7 len0_7 cap0_7, .slice a0_8 len0_8 cap0_8, .slice a0_9 len0_9 cap0_9, .slice a0_10 len0_10 cap0_10, .slice a0_11 len0_11 cap0_11]) ⟨c0_0, c0_1, c0_2, c0_3, c0_4, c0_5, c0_6, c0_7, c0_8, c0_9, c0_10, c0_11, trivial⟩ (hs0.trans (by kernel_rfl))
  obtain ⟨a1, rfl, rfl, rfl, w1⟩ := open_int Try.underlying3 (hval 1 3 v1 rfl rfl) h1
  obtain ⟨a2, len2, cap2, rfl⟩ := okWide_slice Try.underlying45 (hval 2 45 v2 rfl rfl)
  have k2 := h2
  have lt2 : ∀ x ∈ p2, x.block < W.heap.size := by obtain ⟨m, hm⟩ := k2; exact DataW.trod_lt m _ _ _ hm
  obtain ⟨rw2, z2, w2⟩ : ∃ (rows : List (List Value)) (zs : List ActH), RecsIn W a2 len2 cap2 rows zs := by
    obtain ⟨fuel, hf⟩ := h2
    obtain ⟨a, len, cap, rows, hcs, hr, hq⟩ := rows_in Try.underlying45 (fun cs => ∃ x : ActH, ∃ a' c', cs = Rec.row x a' c' ∧ IntsIn W a' (Rec.data x).length c' (Rec.data x)) (by
      intro fuel cs y hl h
      obtain ⟨xs, n, _, _, hl2, hx, hd⟩ := DataW.trod_struct Try.underlying49 h
      have F := fields_ok (cs := cs.toArray) hx hd
      obtain ⟨bf_0, cf_0, _⟩ := in_int F 0 _ rfl Try.underlying3 (by kernel_rfl)
      obtain ⟨nf_1, Ff_1⟩ := in_struct F 1 _ rfl Try.underlying32
      obtain ⟨bf_1_0, cf_1_0, _⟩ := in_int Ff_1 0 _ rfl Try.underlying3 (by kernel_rfl)
      obtain ⟨bf_1_1, cf_1_1, _⟩ := in_int Ff_1 1 _ rfl Try.underlying3 (by kernel_rfl)
      obtain ⟨bf_1_2, cf_1_2, _⟩ := in_int Ff_1 2 _ rfl Try.underlying3 (by kernel_rfl)
      obtain ⟨bf_1_3, cf_1_3, _⟩ := in_int Ff_1 3 _ rfl Try.underlying3 (by kernel_rfl)
      obtain ⟨bf_1_4, cf_1_4, _⟩ := in_int Ff_1 4 _ rfl Try.underlying3 (by kernel_rfl)
      obtain ⟨bf_1_5, cf_1_5, _⟩ := in_int Ff_1 5 _ rfl Try.underlying3 (by kernel_rfl)
      obtain ⟨bf_1_6, cf_1_6, _⟩ := in_int Ff_1 6 _ rfl Try.underlying3 (by kernel_rfl)
      obtain ⟨bf_1_7, cf_1_7⟩ := in_bool Ff_1 7 _ rfl Try.underlying4 (by kernel_rfl)
      obtain ⟨af_1_8, lenf_1_8, capf_1_8, bf_1_8, cf_1_8, wf_1_8⟩ := in_ints Ff_1 8 _ rfl Try.underlying22 Try.underlying3 (by kernel_rfl) (by kernel_rfl)
      have qf_1_8 := wf_1_8.1
      subst qf_1_8
      have scf_1_0 := sub_at cf_1_0
      have scf_1_1 := sub_at cf_1_1
      have scf_1_2 := sub_at cf_1_2
      have scf_1_3 := sub_at cf_1_3
      have scf_1_4 := sub_at cf_1_4
      have scf_1_5 := sub_at cf_1_5
      have scf_1_6 := sub_at cf_1_6
      have scf_1_7 := sub_at cf_1_7
      have scf_1_8 := sub_at cf_1_8
      obtain ⟨bf_2, cf_2, _⟩ := in_int F 2 _ rfl Try.underlying3 (by kernel_rfl)
      have e1 := match_all (cs := cs.toArray) (ys := [.int .i64 bf_0, .int .i64 bf_1_0, .int .i64 bf_1_1, .int .i64 bf_1_2, .int .i64 bf_1_3, .int .i64 bf_1_4, .int .i64 bf_1_5, .int .i64 bf_1_6, .bool bf_1_7, .slice af_1_8 bf_1_8.length capf_1_8, .int .i64 bf_2]) ⟨cf_0, scf_1_0, scf_1_1, scf_1_2, scf_1_3, scf_1_4, scf_1_5, scf_1_6, scf_1_7, scf_1_8, cf_2, trivial⟩ (by simpa using hl.trans (by kernel_rfl))
      exact ⟨⟨bf_0, bf_1_0, bf_1_1, bf_1_2, bf_1_3, bf_1_4, bf_1_5, bf_1_6, bf_1_7, bf_1_8, bf_2⟩, af_1_8, capf_1_8, congrArg Array.toList e1, wf_1_8⟩) hf
    simp [Value.cells] at hcs
    obtain ⟨rfl, rfl, rfl⟩ := hcs
    have e2 : Try.prog.cellsOf 49 = 11 := by kernel_rfl
    rw [e2] at hr
    obtain ⟨zs, hz⟩ := RecsIn.mk (α := ActH) hr hq
    exact ⟨rows, zs, hz⟩
  clear hA0 hval0
  have q0_7 := w0_7.1
  subst q0_7
  have q0_8 := w0_8.1
  subst q0_8
  have q0_9 := w0_9.1
  subst q0_9
  have q0_10 := w0_10.1
  subst q0_10
  have q0_11 := w0_11.1
  subst q0_11
  have q2 := w2.1
  subst q2
  refine (walk_of (Tr.conv (Γ' := [ImmRX (α := ActH) rw2 a2 z2]) (fun w hw => (RecsIn.sat w2 hw)) ((HomePlaysF_tr a0_7 cap0_7 a0_8 cap0_8 a0_9 cap0_9 a0_10 cap0_10 a0_11 cap0_11 (⟨a0_0, a0_1, a0_2, a0_3, a0_4, a0_5, a0_6, z0_7, z0_8, z0_9, z0_10, z0_11⟩ : SetupS) a1 a2 cap2 rw2 z2 (w0_7.2.2.2.1 _) w0_7.2.1 (w0_8.2.2.2.1 _) w0_8.2.1 (w0_9.2.2.2.1 _) w0_9.2.1 (w0_10.2.2.2.1 _) w0_10.2.1 (w0_11.2.2.2.1 _) w0_11.2.1 (ImmRX.rd .here) w2.cap true (homePlays_pure (⟨a0_0, a0_1, a0_2, a0_3, a0_4, a0_5, a0_6, z0_7, z0_8, z0_9, z0_10, z0_11⟩ : SetupS) a1 z2)).mono (fun _ _ h => h.1)))).mono fun e W' ⟨he, bel⟩ => ?_
  subst he
  exact ⟨_, rfl, _, _, _, [], _, [], hW', trodAll_mk1 (shut_bool Try.underlying4 _), (trodAll_cons_mk (Below.trod laidOut (by kernel_rfl) (of_decide_eq_true (by kernel_rfl)) k0 bel lt0) (trodAll_cons_mk (shut_int Try.underlying3 w1) (trodAll_cons_mk (Below.trod laidOut (by kernel_rfl) (of_decide_eq_true (by kernel_rfl)) k2 bel lt2) trodAll_mk0))), rfl, bel.frame _, fun h => by cases h⟩
theorem over : Rows.homePlaysRow.holds Try.pinned (OpenSpec.ofChange Rows.homePlaysSpec) :=
  OpenClaim.holds_of_wide 4 Try.f4 rfl rfl rfl rfl rfl rfl rfl ⟨rfl, rfl, rfl, rfl, rfl⟩ rfl rfl rfl rfl rfl (by kernel_rfl) Try.func4 (by kernel_rfl)
    (of_decide_eq_true (by kernel_rfl)) (by unfold Func.isWrapper; first | (rw [if_pos (by decide +kernel)]; kernel_rfl) | (rw [if_neg (by decide +kernel)]; exact ⟨rfl, rfl⟩))
    (fun os started H enc _ => lifted os started H enc)
/-- The statement. -/
theorem proved : Rows.HomePlaysSaid := over
end Go.Proofs.Ytcigheahollkcaa.homePlays
