/- The law TurnsPlay: its walk, joined to the statement. -/
import Derived.Test.YtpcffplbedbpkaaRows
import Derived.WalkKit
import Derived.ProofKit
import Derived.OpenShut
import Derived.ShutString
import Derived.ChangeOld
import Derived.Below
import Derived.Test.YtpcffplbedbpkaaPureTurnsPlay
import Derived.Test.YtpcffplbedbpkaaSlIn
import Derived.Test.YtpcffplbedbpkaaSlInR
namespace Go.Proofs.Ytpcffplbedbpkaa.turnsPlay
open Go.ChangeShapes Go.WideShapes Go.ChangeAt Go.RowKit
open Go.ChangeMaps (open_string shut_string)
set_option linter.unusedVariables false
theorem own : ownKnob Try.prog.godebug = none := by kernel_rfl
theorem laidOut : laidOutB Try.prog = true := by kernel_rfl
set_option maxRecDepth 100000 in
theorem lifted (os : Os) (started : os.Started) (H : Type) (enc : TypeId × Value → H) :
    ReturnsInHanded {} Try.checked os 9 .any (Rows.turnsPlaySpec.pre6 enc Try.prog Try.f9 Rows.turnsPlayRow.domain false) (Rows.turnsPlaySpec.post enc Try.prog Try.f9 false true false false) := by
  refine returnsInHanded_of_change (C := Try.checked) own started (by kernel_rfl) Try.func9
    (ChangeSpec.witness6 (enc := enc) (C := Try.checked) false ⟨#[], #[.slice none 0 0], []⟩ 16 (by kernel_rfl) (by kernel_rfl) (by kernel_rfl) (by kernel_rfl)) ?_
  intro W base args ds gs before hval0 hW hcnd _
  have hval : ∀ (j : Nat) t v, Try.f9.params[j]? = some t → args[j]? = some v → Value.okWide Try.prog W .any base t v := hval0
  have hW' := hW
  obtain ⟨p, q, hA0, hV, rfl, hfz, hnd⟩ := hW
  have hA : DataW.TrodAll enc Try.prog W 0 (fun _ => true) true Try.f9.params.toList args.toList ds p := hA0
  rw [Try.params9] at hA hval
  obtain ⟨v0, vs0, d0, ds0, p0, q0, hargs, rfl, rfl, h0, r0⟩ := trodAll_cons hA
  obtain ⟨rfl, rfl, rfl⟩ := trodAll_nil r0
  obtain rfl : args = #[v0] := by cases args; simp_all
  obtain ⟨rfl, rfl⟩ := trodVars_none hV
  obtain ⟨a0, len0, cap0, rfl⟩ := okWide_slice Try.underlying62 (hval 0 62 v0 rfl rfl)
  have k0 := h0
  have lt0 : ∀ x ∈ p0, x.block < W.heap.size := by obtain ⟨m, hm⟩ := k0; exact DataW.trod_lt m _ _ _ hm
  obtain ⟨z0, w0, g0⟩ : ∃ zs : List (List Int), RowsIn W 4 a0 len0 cap0 (rowsV zs) ∧ ∀ x ∈ zs, x.length = 4 := by
    obtain ⟨fuel, hf⟩ := h0
    obtain ⟨a, len, cap, rows, hcs, hr, hq⟩ := rows_in Try.underlying62 (fun cs => ∃ x : List Int, x.length = 4 ∧ cs = rowV x) (by
      intro fuel cs y hl h
      obtain ⟨xs, n, _, _, hl2, hx, hd⟩ := DataW.trod_struct Try.underlying69 h
      have F := fields_ok (cs := cs.toArray) hx hd
      obtain ⟨b0, c0, _⟩ := in_int F 0 _ rfl Try.underlying3 (by kernel_rfl)
      obtain ⟨b1, c1, _⟩ := in_int F 1 _ rfl Try.underlying3 (by kernel_rfl)
      obtain ⟨b2, c2, _⟩ := in_int F 2 _ rfl Try.underlying3 (by kernel_rfl)
      obtain ⟨b3, c3, _⟩ := in_int F 3 _ rfl Try.underlying3 (by kernel_rfl)
      have e1 := match_all (cs := cs.toArray) (ys := [.int .i64 b0, .int .i64 b1, .int .i64 b2, .int .i64 b3]) ⟨c0, c1, c2, c3, trivial⟩ (by simpa using hl.trans (by kernel_rfl))
      exact ⟨[b0, b1, b2, b3], rfl, congrArg Array.toList e1⟩) hf
    simp [Value.cells] at hcs
    obtain ⟨rfl, rfl, rfl⟩ := hcs
    obtain ⟨l, rfl, hl⟩ := list_of (f := rowV) hq
    exact ⟨l, hr, hl⟩
  clear hA0 hval0
  have q0 := w0.1
  rw [rowsV_len] at q0
  subst q0
  refine (walk_of ((TurnsPlayF_tr a0 cap0 z0 (w0.2.2.2.1 []) g0 true (turnsPlay_pure z0 g0)).mono (fun _ _ h => h.1))).mono fun e W' ⟨he, bel⟩ => ?_
  subst he
  exact ⟨_, rfl, _, _, _, [], _, [], hW', trodAll_mk1 (shut_bool Try.underlying4 _), (trodAll_cons_mk (Below.trod laidOut (by kernel_rfl) (of_decide_eq_true (by kernel_rfl)) k0 bel lt0) trodAll_mk0), rfl, bel.frame _, fun h => by cases h⟩
theorem over : Rows.turnsPlayRow.holds Try.pinned (OpenSpec.ofChange Rows.turnsPlaySpec) :=
  OpenClaim.holds_of_wide 9 Try.f9 rfl rfl rfl rfl rfl rfl rfl ⟨rfl, rfl, rfl, rfl, rfl⟩ rfl rfl rfl rfl rfl (by kernel_rfl) Try.func9 (by kernel_rfl)
    (of_decide_eq_true (by kernel_rfl)) (by unfold Func.isWrapper; first | (rw [if_pos (by decide +kernel)]; kernel_rfl) | (rw [if_neg (by decide +kernel)]; exact ⟨rfl, rfl⟩))
    (fun os started H enc _ => lifted os started H enc)
/-- The statement. -/
theorem proved : Rows.TurnsPlaySaid := over
end Go.Proofs.Ytpcffplbedbpkaa.turnsPlay
