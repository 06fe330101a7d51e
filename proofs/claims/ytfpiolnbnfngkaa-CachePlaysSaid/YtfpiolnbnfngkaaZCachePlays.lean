/- The law CachePlays: its walk, joined to the statement. -/
import Derived.Test.YtfpiolnbnfngkaaRows
import Derived.WalkKit
import Derived.ProofKit
import Derived.OpenShut
import Derived.ShutString
import Derived.ChangeOld
import Derived.Below
import Derived.Test.YtfpiolnbnfngkaaPureCachePlays
import Derived.Test.YtfpiolnbnfngkaaSlIn
import Derived.Test.YtfpiolnbnfngkaaSlInR
import Derived.Test.YtfpiolnbnfngkaaSlInRec
namespace Go.Proofs.Ytfpiolnbnfngkaa.cachePlays
open Go.ChangeShapes Go.WideShapes Go.ChangeAt Go.RowKit
open Go.ChangeMaps (open_string shut_string)
set_option linter.unusedVariables false
theorem own : ownKnob Try.prog.godebug = none := by kernel_rfl
theorem laidOut : laidOutB Try.prog = true := by kernel_rfl
set_option maxRecDepth 100000 in
theorem lifted (os : Os) (started : os.Started) (H : Type) (enc : TypeId × Value → H) :
    ReturnsInHanded {} Try.checked os 8 .any (Rows.cachePlaysSpec.pre6 enc Try.prog Try.f8 Rows.cachePlaysRow.domain false) (Rows.cachePlaysSpec.post enc Try.prog Try.f8 false true false false) := by
  refine returnsInHanded_of_change (C := Try.checked) own started (by kernel_rfl) Try.func8
    (ChangeSpec.witness6 (enc := enc) (C := Try.checked) false ⟨#[], #[.int .i64 0, .int .i64 0, .slice none 0 0], []⟩ 16 (by kernel_rfl) (by kernel_rfl) (by kernel_rfl) (by kernel_rfl)) ?_
  intro W base args ds gs before hval0 hW hcnd _
  have hval : ∀ (j : Nat) t v, Try.f8.params[j]? = some t → args[j]? = some v → Value.okWide Try.prog W .any base t v := hval0
  have hW' := hW
  obtain ⟨p, q, hA0, hV, rfl, hfz, hnd⟩ := hW
  have hA : DataW.TrodAll enc Try.prog W 0 (fun _ => true) true Try.f8.params.toList args.toList ds p := hA0
  rw [Try.params8] at hA hval
  obtain ⟨v0, vs0, d0, ds0, p0, q0, hargs, rfl, rfl, h0, r0⟩ := trodAll_cons hA
  obtain ⟨v1, vs1, d1, ds1, p1, q1, rfl, rfl, rfl, h1, r1⟩ := trodAll_cons r0
  obtain ⟨v2, vs2, d2, ds2, p2, q2, rfl, rfl, rfl, h2, r2⟩ := trodAll_cons r1
  obtain ⟨rfl, rfl, rfl⟩ := trodAll_nil r2
  obtain rfl : args = #[v0, v1, v2] := by cases args; simp_all
  obtain ⟨rfl, rfl⟩ := trodVars_none hV
  obtain ⟨a0, rfl, rfl, rfl, w0⟩ := open_int Try.underlying3 (hval 0 3 v0 rfl rfl) h0
  obtain ⟨a1, rfl, rfl, rfl, w1⟩ := open_int Try.underlying3 (hval 1 3 v1 rfl rfl) h1
  obtain ⟨a2, len2, cap2, rfl⟩ := okWide_slice Try.underlying53 (hval 2 53 v2 rfl rfl)
  have k2 := h2
  have lt2 : ∀ x ∈ p2, x.block < W.heap.size := by obtain ⟨m, hm⟩ := k2; exact DataW.trod_lt m _ _ _ hm
  obtain ⟨rw2, z2, w2⟩ : ∃ (rows : List (List Value)) (zs : List ActC), RecsIn W a2 len2 cap2 rows zs := by
    obtain ⟨fuel, hf⟩ := h2
    obtain ⟨a, len, cap, rows, hcs, hr, hq⟩ := rows_in Try.underlying53 (fun cs => ∃ x : ActC, ∃ a' c', cs = Rec.row x a' c' ∧ IntsIn W a' (Rec.data x).length c' (Rec.data x)) (by
      intro fuel cs y hl h
      obtain ⟨xs, n, _, _, hl2, hx, hd⟩ := DataW.trod_struct Try.underlying57 h
      have F := fields_ok (cs := cs.toArray) hx hd
      obtain ⟨bf_0, cf_0, _⟩ := in_int F 0 _ rfl Try.underlying3 (by kernel_rfl)
      obtain ⟨bf_1, cf_1, _⟩ := in_int F 1 _ rfl Try.underlying3 (by kernel_rfl)
      obtain ⟨bf_2, cf_2, _⟩ := in_int F 2 _ rfl Try.underlying3 (by kernel_rfl)
      obtain ⟨bf_3, cf_3, _⟩ := in_int F 3 _ rfl Try.underlying3 (by kernel_rfl)
      obtain ⟨bf_4, cf_4⟩ := in_bool F 4 _ rfl Try.underlying4 (by kernel_rfl)
      obtain ⟨af_5, lenf_5, capf_5, bf_5, cf_5, wf_5⟩ := in_ints F 5 _ rfl Try.underlying22 Try.underlying3 (by kernel_rfl) (by kernel_rfl)
      have qf_5 := wf_5.1
      subst qf_5
      have e1 := match_all (cs := cs.toArray) (ys := [.int .i64 bf_0, .int .i64 bf_1, .int .i64 bf_2, .int .i64 bf_3, .bool bf_4, .slice af_5 bf_5.length capf_5]) ⟨cf_0, cf_1, cf_2, cf_3, cf_4, cf_5, trivial⟩ (by simpa using hl.trans (by kernel_rfl))
      exact ⟨⟨bf_0, bf_1, bf_2, bf_3, bf_4, bf_5⟩, af_5, capf_5, congrArg Array.toList e1, wf_5⟩) hf
    simp [Value.cells] at hcs
    obtain ⟨rfl, rfl, rfl⟩ := hcs
    have e2 : Try.prog.cellsOf 57 = 6 := by kernel_rfl
    rw [e2] at hr
    obtain ⟨zs, hz⟩ := RecsIn.mk (α := ActC) hr hq
    exact ⟨rows, zs, hz⟩
  clear hA0 hval0
  have q2 := w2.1
  subst q2
  refine (walk_of (Tr.conv (Γ' := [ImmRX (α := ActC) rw2 a2 z2]) (fun w hw => (RecsIn.sat w2 hw)) ((CachePlaysF_tr a0 a1 a2 cap2 rw2 z2 (ImmRX.rd .here) w2.cap true (cachePlays_pure a0 a1 z2)).mono (fun _ _ h => h.1)))).mono fun e W' ⟨he, bel⟩ => ?_
  subst he
  exact ⟨_, rfl, _, _, _, [], _, [], hW', trodAll_mk1 (shut_bool Try.underlying4 _), (trodAll_cons_mk (shut_int Try.underlying3 w0) (trodAll_cons_mk (shut_int Try.underlying3 w1) (trodAll_cons_mk (Below.trod laidOut (by kernel_rfl) (of_decide_eq_true (by kernel_rfl)) k2 bel lt2) trodAll_mk0))), rfl, bel.frame _, fun h => by cases h⟩
theorem over : Rows.cachePlaysRow.holds Try.pinned (OpenSpec.ofChange Rows.cachePlaysSpec) :=
  OpenClaim.holds_of_wide 8 Try.f8 rfl rfl rfl rfl rfl rfl rfl ⟨rfl, rfl, rfl, rfl, rfl⟩ rfl rfl rfl rfl rfl (by kernel_rfl) Try.func8 (by kernel_rfl)
    (of_decide_eq_true (by kernel_rfl)) (by unfold Func.isWrapper; first | (rw [if_pos (by decide +kernel)]; kernel_rfl) | (rw [if_neg (by decide +kernel)]; exact ⟨rfl, rfl⟩))
    (fun os started H enc _ => lifted os started H enc)
/-- The statement. -/
theorem proved : Rows.CachePlaysSaid := over
end Go.Proofs.Ytfpiolnbnfngkaa.cachePlays
