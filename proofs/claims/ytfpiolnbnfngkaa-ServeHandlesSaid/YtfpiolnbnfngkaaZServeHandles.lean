/- The law ServeHandles: its walk, joined to the statement. -/
import Derived.Test.YtfpiolnbnfngkaaRows
import Derived.WalkKit
import Derived.ProofKit
import Derived.OpenShut
import Derived.ShutString
import Derived.ChangeOld
import Derived.Below
import Derived.Test.YtfpiolnbnfngkaaPureServeHandles
import Derived.Test.YtfpiolnbnfngkaaSlIn
import Derived.Test.YtfpiolnbnfngkaaSlInR
import Derived.Test.YtfpiolnbnfngkaaSlInRec
namespace Go.Proofs.Ytfpiolnbnfngkaa.serveHandles
open Go.ChangeShapes Go.WideShapes Go.ChangeAt Go.RowKit
open Go.ChangeMaps (open_string shut_string)
set_option linter.unusedVariables false
theorem own : ownKnob Try.prog.godebug = none := by kernel_rfl
theorem laidOut : laidOutB Try.prog = true := by kernel_rfl
set_option maxRecDepth 100000 in
theorem lifted (os : Os) (started : os.Started) (H : Type) (enc : TypeId × Value → H) :
    ReturnsInHanded {} Try.checked os 12 .any (Rows.serveHandlesSpec.pre6 enc Try.prog Try.f12 Rows.serveHandlesRow.domain false) (Rows.serveHandlesSpec.post enc Try.prog Try.f12 false true false false) := by
  refine returnsInHanded_of_change (C := Try.checked) own started (by kernel_rfl) Try.func12
    (ChangeSpec.witness6 (enc := enc) (C := Try.checked) false ⟨#[], #[.slice none 0 0, .slice none 0 0, .slice none 0 0, .slice none 0 0, .slice none 0 0], []⟩ 16 (by kernel_rfl) (by kernel_rfl) (by kernel_rfl) (by kernel_rfl)) ?_
  intro W base args ds gs before hval0 hW hcnd _
  have hval : ∀ (j : Nat) t v, Try.f12.params[j]? = some t → args[j]? = some v → Value.okWide Try.prog W .any base t v := hval0
  have hW' := hW
  obtain ⟨p, q, hA0, hV, rfl, hfz, hnd⟩ := hW
  have hA : DataW.TrodAll enc Try.prog W 0 (fun _ => true) true Try.f12.params.toList args.toList ds p := hA0
  rw [Try.params12] at hA hval
  obtain ⟨v0, vs0, d0, ds0, p0, q0, hargs, rfl, rfl, h0, r0⟩ := trodAll_cons hA
  obtain ⟨v1, vs1, d1, ds1, p1, q1, rfl, rfl, rfl, h1, r1⟩ := trodAll_cons r0
  obtain ⟨v2, vs2, d2, ds2, p2, q2, rfl, rfl, rfl, h2, r2⟩ := trodAll_cons r1
  obtain ⟨v3, vs3, d3, ds3, p3, q3, rfl, rfl, rfl, h3, r3⟩ := trodAll_cons r2
  obtain ⟨v4, vs4, d4, ds4, p4, q4, rfl, rfl, rfl, h4, r4⟩ := trodAll_cons r3
  obtain ⟨rfl, rfl, rfl⟩ := trodAll_nil r4
  obtain rfl : args = #[v0, v1, v2, v3, v4] := by cases args; simp_all
  obtain ⟨rfl, rfl⟩ := trodVars_none hV
  obtain ⟨a0, len0, cap0, rfl⟩ := okWide_slice Try.underlying22 (hval 0 22 v0 rfl rfl)
  have k0 := h0
  have lt0 : ∀ x ∈ p0, x.block < W.heap.size := by obtain ⟨m, hm⟩ := k0; exact DataW.trod_lt m _ _ _ hm
  obtain ⟨z0, w0⟩ : ∃ zs, IntsIn W a0 len0 cap0 zs := by
    obtain ⟨fuel, hf⟩ := h0
    rcases open_ints Try.underlying22 Try.underlying3 (by kernel_rfl) hf with ⟨hcs, _⟩ | ⟨x, l, c, zs, hcs, _, hl, hm, hz, _, hcell, hwz⟩
    · simp [Value.cells] at hcs
      obtain ⟨rfl, rfl, rfl⟩ := hcs
      exact ⟨[], IntsIn.none⟩
    · simp [Value.cells] at hcs
      obtain ⟨rfl, rfl, rfl⟩ := hcs
      exact ⟨_, IntsIn.some hl hm (by simpa using hz) hcell hwz⟩
  obtain ⟨a1, len1, cap1, rfl⟩ := okWide_slice Try.underlying22 (hval 1 22 v1 rfl rfl)
  have k1 := h1
  have lt1 : ∀ x ∈ p1, x.block < W.heap.size := by obtain ⟨m, hm⟩ := k1; exact DataW.trod_lt m _ _ _ hm
  obtain ⟨z1, w1⟩ : ∃ zs, IntsIn W a1 len1 cap1 zs := by
    obtain ⟨fuel, hf⟩ := h1
    rcases open_ints Try.underlying22 Try.underlying3 (by kernel_rfl) hf with ⟨hcs, _⟩ | ⟨x, l, c, zs, hcs, _, hl, hm, hz, _, hcell, hwz⟩
    · simp [Value.cells] at hcs
      obtain ⟨rfl, rfl, rfl⟩ := hcs
      exact ⟨[], IntsIn.none⟩
    · simp [Value.cells] at hcs
      obtain ⟨rfl, rfl, rfl⟩ := hcs
      exact ⟨_, IntsIn.some hl hm (by simpa using hz) hcell hwz⟩
  obtain ⟨a2, len2, cap2, rfl⟩ := okWide_slice Try.underlying22 (hval 2 22 v2 rfl rfl)
  have k2 := h2
  have lt2 : ∀ x ∈ p2, x.block < W.heap.size := by obtain ⟨m, hm⟩ := k2; exact DataW.trod_lt m _ _ _ hm
  obtain ⟨z2, w2⟩ : ∃ zs, IntsIn W a2 len2 cap2 zs := by
    obtain ⟨fuel, hf⟩ := h2
    rcases open_ints Try.underlying22 Try.underlying3 (by kernel_rfl) hf with ⟨hcs, _⟩ | ⟨x, l, c, zs, hcs, _, hl, hm, hz, _, hcell, hwz⟩
    · simp [Value.cells] at hcs
      obtain ⟨rfl, rfl, rfl⟩ := hcs
      exact ⟨[], IntsIn.none⟩
    · simp [Value.cells] at hcs
      obtain ⟨rfl, rfl, rfl⟩ := hcs
      exact ⟨_, IntsIn.some hl hm (by simpa using hz) hcell hwz⟩
  obtain ⟨a3, len3, cap3, rfl⟩ := okWide_slice Try.underlying74 (hval 3 74 v3 rfl rfl)
  have k3 := h3
  have lt3 : ∀ x ∈ p3, x.block < W.heap.size := by obtain ⟨m, hm⟩ := k3; exact DataW.trod_lt m _ _ _ hm
  obtain ⟨rw3, z3, w3⟩ : ∃ (rows : List (List Value)) (zs : List PktS), RecsIn W a3 len3 cap3 rows zs := by
    obtain ⟨fuel, hf⟩ := h3
    obtain ⟨a, len, cap, rows, hcs, hr, hq⟩ := rows_in Try.underlying74 (fun cs => ∃ x : PktS, ∃ a' c', cs = Rec.row x a' c' ∧ IntsIn W a' (Rec.data x).length c' (Rec.data x)) (by
      intro fuel cs y hl h
      obtain ⟨xs, n, _, _, hl2, hx, hd⟩ := DataW.trod_struct Try.underlying35 h
      have F := fields_ok (cs := cs.toArray) hx hd
      obtain ⟨bf_0, cf_0, _⟩ := in_int F 0 _ rfl Try.underlying3 (by kernel_rfl)
      obtain ⟨bf_1, cf_1, _⟩ := in_int F 1 _ rfl Try.underlying3 (by kernel_rfl)
      obtain ⟨bf_2, cf_2, _⟩ := in_int F 2 _ rfl Try.underlying3 (by kernel_rfl)
      obtain ⟨bf_3, cf_3, _⟩ := in_int F 3 _ rfl Try.underlying3 (by kernel_rfl)
      obtain ⟨bf_4, cf_4, _⟩ := in_int F 4 _ rfl Try.underlying3 (by kernel_rfl)
      obtain ⟨bf_5, cf_5, _⟩ := in_int F 5 _ rfl Try.underlying3 (by kernel_rfl)
      obtain ⟨bf_6, cf_6, _⟩ := in_int F 6 _ rfl Try.underlying3 (by kernel_rfl)
      obtain ⟨bf_7, cf_7⟩ := in_bool F 7 _ rfl Try.underlying4 (by kernel_rfl)
      obtain ⟨af_8, lenf_8, capf_8, bf_8, cf_8, wf_8⟩ := in_ints F 8 _ rfl Try.underlying22 Try.underlying3 (by kernel_rfl) (by kernel_rfl)
      have qf_8 := wf_8.1
      subst qf_8
      have e1 := match_all (cs := cs.toArray) (ys := [.int .i64 bf_0, .int .i64 bf_1, .int .i64 bf_2, .int .i64 bf_3, .int .i64 bf_4, .int .i64 bf_5, .int .i64 bf_6, .bool bf_7, .slice af_8 bf_8.length capf_8]) ⟨cf_0, cf_1, cf_2, cf_3, cf_4, cf_5, cf_6, cf_7, cf_8, trivial⟩ (by simpa using hl.trans (by kernel_rfl))
      exact ⟨⟨bf_0, bf_1, bf_2, bf_3, bf_4, bf_5, bf_6, bf_7, bf_8⟩, af_8, capf_8, congrArg Array.toList e1, wf_8⟩) hf
    simp [Value.cells] at hcs
    obtain ⟨rfl, rfl, rfl⟩ := hcs
    have e2 : Try.prog.cellsOf 35 = 9 := by kernel_rfl
    rw [e2] at hr
    obtain ⟨zs, hz⟩ := RecsIn.mk (α := PktS) hr hq
    exact ⟨rows, zs, hz⟩
  obtain ⟨a4, len4, cap4, rfl⟩ := okWide_slice Try.underlying22 (hval 4 22 v4 rfl rfl)
  have k4 := h4
  have lt4 : ∀ x ∈ p4, x.block < W.heap.size := by obtain ⟨m, hm⟩ := k4; exact DataW.trod_lt m _ _ _ hm
  obtain ⟨z4, w4⟩ : ∃ zs, IntsIn W a4 len4 cap4 zs := by
    obtain ⟨fuel, hf⟩ := h4
    rcases open_ints Try.underlying22 Try.underlying3 (by kernel_rfl) hf with ⟨hcs, _⟩ | ⟨x, l, c, zs, hcs, _, hl, hm, hz, _, hcell, hwz⟩
    · simp [Value.cells] at hcs
      obtain ⟨rfl, rfl, rfl⟩ := hcs
      exact ⟨[], IntsIn.none⟩
    · simp [Value.cells] at hcs
      obtain ⟨rfl, rfl, rfl⟩ := hcs
      exact ⟨_, IntsIn.some hl hm (by simpa using hz) hcell hwz⟩
  clear hA0 hval0
  have q0 := w0.1
  subst q0
  have q1 := w1.1
  subst q1
  have q2 := w2.1
  subst q2
  have q3 := w3.1
  subst q3
  have q4 := w4.1
  subst q4
  refine (walk_of (Tr.conv (Γ' := [ImmRX (α := PktS) rw3 a3 z3]) (fun w hw => (RecsIn.sat w3 hw)) ((ServeHandlesF_tr a0 cap0 z0 a1 cap1 z1 a2 cap2 z2 a3 cap3 rw3 z3 a4 cap4 z4 (w0.2.2.2.1 _) (w1.2.2.2.1 _) (w2.2.2.2.1 _) w2.2.1 (ImmRX.rd .here) w3.cap (w4.2.2.2.1 _) true (serveHandles_pure z0 z1 z2 z3 z4)).mono (fun _ _ h => h.1)))).mono fun e W' ⟨he, bel⟩ => ?_
  subst he
  exact ⟨_, rfl, _, _, _, [], _, [], hW', trodAll_mk1 (shut_bool Try.underlying4 _), (trodAll_cons_mk (Below.trod laidOut (by kernel_rfl) (of_decide_eq_true (by kernel_rfl)) k0 bel lt0) (trodAll_cons_mk (Below.trod laidOut (by kernel_rfl) (of_decide_eq_true (by kernel_rfl)) k1 bel lt1) (trodAll_cons_mk (Below.trod laidOut (by kernel_rfl) (of_decide_eq_true (by kernel_rfl)) k2 bel lt2) (trodAll_cons_mk (Below.trod laidOut (by kernel_rfl) (of_decide_eq_true (by kernel_rfl)) k3 bel lt3) (trodAll_cons_mk (Below.trod laidOut (by kernel_rfl) (of_decide_eq_true (by kernel_rfl)) k4 bel lt4) trodAll_mk0))))), rfl, bel.frame _, fun h => by cases h⟩
theorem over : Rows.serveHandlesRow.holds Try.pinned (OpenSpec.ofChange Rows.serveHandlesSpec) :=
  OpenClaim.holds_of_wide 12 Try.f12 rfl rfl rfl rfl rfl rfl rfl ⟨rfl, rfl, rfl, rfl, rfl⟩ rfl rfl rfl rfl rfl (by kernel_rfl) Try.func12 (by kernel_rfl)
    (of_decide_eq_true (by kernel_rfl)) (by unfold Func.isWrapper; first | (rw [if_pos (by decide +kernel)]; kernel_rfl) | (rw [if_neg (by decide +kernel)]; exact ⟨rfl, rfl⟩))
    (fun os started H enc _ => lifted os started H enc)
/-- The statement. -/
theorem proved : Rows.ServeHandlesSaid := over
end Go.Proofs.Ytfpiolnbnfngkaa.serveHandles
