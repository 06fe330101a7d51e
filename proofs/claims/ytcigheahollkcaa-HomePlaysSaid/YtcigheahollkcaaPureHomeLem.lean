/- A home, in plain words: its rows, and what is answered to each request. -/
import Derived.Test.YtcigheahollkcaaPureTurnsLem
import Derived.Test.YtcigheahollkcaaHoA
set_option linter.unusedSectionVars false
set_option linter.unusedSimpArgs false
set_option linter.unusedVariables false
namespace Go.Proofs.Ytcigheahollkcaa
open Go
theorem wr_small {x : Int} (h : x.natAbs ≤ 1000000) : wr x = x := wr_in (by omega) (by omega)
theorem within_is {v n : Int} (h1 : 1 ≤ n) (h2 : n ≤ 5000) : ∃ k, withinS v n = some k ∧ 0 ≤ k ∧ k < n := by
  refine ⟨v % n, ?_, Int.emod_nonneg v (by omega), Int.emod_lt_of_pos v (by omega)⟩
  unfold withinS
  rw [chk_true ⟨h1, by omega⟩]
theorem cut_is (xs : List Int) {n : Int} (h1 : 0 ≤ n) (h2 : n ≤ 1000) : ∃ ys, cutS xs n = some ys ∧ ys.length ≤ n.toNat := by
  refine ⟨xs.take n.toNat, ?_, List.length_take_le ..⟩
  unfold cutS
  rw [chk_true ⟨h1, by omega⟩]
theorem bif_and {P Q : Prop} [Decidable P] [Decidable Q] : (bif decide P then some (decide Q) else some false) = some (decide (P ∧ Q)) := by
  by_cases h : P
  · rw [bif_t (decide_eq_true h)]; simp [h]
  · rw [bif_f (decide_eq_false h)]; simp [h]
theorem pbelow_is (n l b : Int) : pbelowS n l b = some (decide (l ≤ n ∧ n < b)) := by unfold pbelowS; exact bif_and
/-- A packet's bounds. -/
def okP (p : PktS) : Bool := decide (0 ≤ p.src ∧ p.src < 6) && (decide (0 ≤ p.dst ∧ p.dst < 6) && (decide (0 ≤ p.id ∧ p.id < 4096) && (decide (1 ≤ p.kind ∧ p.kind < 10) && (decide (0 ≤ p.line ∧ p.line < 8) && (decide (-1 ≤ p.ptr ∧ p.ptr < 6) && (decide (0 ≤ p.state ∧ p.state < 3) && !decide (4 < ((p.data.length : Nat) : Int))))))))
theorem pcheck_is (p : PktS) : pcheckS p = some (bif okP p then 0 else 1) := by
  unfold pcheckS pcheckS_j0 pcheckS_j1 okP
  simp only [pbelow_is, Option.bind_some]
  generalize decide (0 ≤ p.src ∧ p.src < 6) = b1
  generalize decide (0 ≤ p.dst ∧ p.dst < 6) = b2
  generalize decide (0 ≤ p.id ∧ p.id < 4096) = b3
  generalize decide (1 ≤ p.kind ∧ p.kind < 10) = b4
  generalize decide (0 ≤ p.line ∧ p.line < 8) = b5
  generalize decide (-1 ≤ p.ptr ∧ p.ptr < 6) = b6
  generalize decide (0 ≤ p.state ∧ p.state < 3) = b7
  generalize decide (4 < ((p.data.length : Nat) : Int)) = b8
  cases b1 <;> cases b2 <;> cases b3 <;> cases b4 <;> cases b5 <;> cases b6 <;> cases b7 <;> cases b8 <;> rfl
theorem copy_is (xs : List Int) (h : xs.length ≤ 60) : copyS xs = some xs := by
  unfold copyS
  rw [chk_true (show okL xs by unfold okL; omega)]
abbrev noP : PktS := ⟨0, 0, 0, 0, 0, 0, 0, false, []⟩
structure CfgOk (c : CfgS) : Prop where
  nodes : 1 ≤ c.nodes ∧ c.nodes ≤ 4
  lines : 1 ≤ c.lines ∧ c.lines ≤ 4
  words : 1 ≤ c.words ∧ c.words ≤ 2
  init : c.init.length ≤ 60
theorem plconfig_is (s : SetupS) : ∃ c, plconfigS s = some c ∧ CfgOk c := by
  obtain ⟨a1, e1, f1⟩ := within_is (v := s.nodes) (n := 4) (by omega) (by omega)
  obtain ⟨a2, e2, f2⟩ := within_is (v := s.lines) (n := 4) (by omega) (by omega)
  obtain ⟨a3, e3, f3⟩ := within_is (v := s.words) (n := 2) (by omega) (by omega)
  obtain ⟨a4, e4, f4⟩ := within_is (v := s.sets) (n := 2) (by omega) (by omega)
  obtain ⟨a5, e5, f5⟩ := within_is (v := s.ways) (n := 2) (by omega) (by omega)
  obtain ⟨a6, e6, f6⟩ := within_is (v := s.out) (n := 3) (by omega) (by omega)
  obtain ⟨a7, e7, f7⟩ := within_is (v := s.inn) (n := 3) (by omega) (by omega)
  have g2 : wr (1 + a2) = 1 + a2 := wr_small (by omega)
  have g3 : wr (1 + a3) = 1 + a3 := wr_small (by omega)
  have hm : 0 ≤ (1 + a2) * (1 + a3) ∧ (1 + a2) * (1 + a3) ≤ 8 := by
    rcases (by omega : a2 = 0 ∨ a2 = 1 ∨ a2 = 2 ∨ a2 = 3) with rfl | rfl | rfl | rfl <;> rcases (by omega : a3 = 0 ∨ a3 = 1) with rfl | rfl <;> omega
  obtain ⟨ys, e8, e9⟩ := cut_is s.init (n := (1 + a2) * (1 + a3)) hm.1 (by omega)
  unfold plconfigS letP
  dsimp only
  rw [e1, Option.bind_some, e2, Option.bind_some, e3, Option.bind_some, e4, Option.bind_some, e5, Option.bind_some, e6, Option.bind_some, e7, Option.bind_some, g2, g3, wr_small (x := (1 + a2) * (1 + a3)) (by omega), e8, Option.bind_some]
  refine ⟨_, rfl, ?_, ?_, ?_, ?_⟩
  · show 1 ≤ wr (1 + a1) ∧ wr (1 + a1) ≤ 4
    rw [wr_small (by omega)]; omega
  · show 1 ≤ 1 + a2 ∧ 1 + a2 ≤ 4
    omega
  · show 1 ≤ 1 + a3 ∧ 1 + a3 ≤ 2
    omega
  · show ys.length ≤ 60
    omega
def here (c : CfgS) (node line : Int) : Prop := 0 ≤ line ∧ line < c.lines ∧ line.tmod c.nodes = node
theorem phome_is {c : CfgS} (hc : CfgOk c) (line : Int) : phomeS c line = some (if line < 0 then -1 else line.tmod c.nodes) := by
  unfold phomeS prestS
  by_cases h : line < 0
  · rw [bif_t (decide_eq_true h), Option.bind_some, if_pos h]
  · rw [bif_f (decide_eq_false h), chk_true hc.nodes.1, Option.bind_some, if_neg h]
theorem pwords_is {c : CfgS} (hc : CfgOk c) {line : Int} (h0 : 0 ≤ line) (h1 : line < c.lines) : ∃ ws, pwordsS c line = some ws ∧ (ws.length : Int) = c.words := by
  have h2 := hc.lines
  have h3 := hc.words
  have h4 := hc.init
  have hm : 0 ≤ line * c.words ∧ line * c.words ≤ 8 := by
    rcases (by omega : c.words = 1 ∨ c.words = 2) with e | e <;> rw [e] <;> omega
  unfold pwordsS pwordsS_j0 letP
  dsimp only
  rw [bif_f (decide_eq_false (by omega)), decide_eq_false (by omega), bif_f rfl, chk_true ⟨by omega, by omega⟩, wr_small (x := line * c.words) (by omega), chk_true (by split <;> omega)]
  exact ⟨_, rfl, by rw [cpI_len, List.length_replicate]; omega⟩
structure RowsOk (c : CfgS) (node : Int) (rows : List (Int × RowS)) : Prop where
  is : ∀ l, (mget rows l).isSome = true ↔ here c node l
  words : ∀ l r, mget rows l = some r → (r.data.length : Int) = c.words
theorem mnew_loop {c : CfgS} (hc : CfgOk c) (node : Int) (hn : 0 ≤ node) : ∀ (d i fuel : Nat) (rows : List (Int × RowS)), (i : Int) + d = c.lines → d < fuel →
    (∀ l, (mget rows l).isSome = true ↔ here c node l ∧ l < (i : Int)) → (∀ l r, mget rows l = some r → (r.data.length : Int) = c.words ∧ r.state = 0 ∧ r.head = -1) →
    ∃ rows', mnewS_l0 c node mnewS_k0 fuel (i : Int) ⟨c, rows⟩ = some ⟨c, rows'⟩ ∧ RowsOk c node rows' ∧ ∀ l r, mget rows' l = some r → r.state = 0 ∧ r.head = -1 := by
  have h2 := hc.lines
  intro d
  induction d with
  | zero =>
    intro i fuel rows hi hf h3 h4
    obtain ⟨f, rfl⟩ : ∃ f, fuel = f + 1 := ⟨fuel - 1, by omega⟩
    rw [mnewS_l0]
    dsimp only
    rw [bif_f (decide_eq_false (by omega))]
    refine ⟨rows, rfl, ⟨fun l => ?_, fun l r h => (h4 l r h).1⟩, fun l r h => (h4 l r h).2⟩
    rw [h3]
    exact ⟨fun h => h.1, fun h => ⟨h, by have := h.2.1; omega⟩⟩
  | succ d ih =>
    intro i fuel rows hi hf h3 h4
    obtain ⟨f, rfl⟩ : ∃ f, fuel = f + 1 := ⟨fuel - 1, by omega⟩
    rw [mnewS_l0]
    dsimp only
    rw [bif_t (decide_eq_true (by omega)), phome_is hc, Option.bind_some, if_neg (by omega)]
    by_cases h : (i : Int).tmod c.nodes = node
    · obtain ⟨ws, e1, e2⟩ := pwords_is hc (line := (i : Int)) (by omega) (by omega)
      rw [bif_t (decide_eq_true h), e1, Option.bind_some]
      unfold letP
      dsimp only
      rw [chk_true (by unfold inR; omega), show (i : Int) + 1 = ((i + 1 : Nat) : Int) by omega]
      refine ih (i + 1) f _ (by omega) (by omega) (fun l => ?_) (fun l r hr => ?_)
      · rw [mget_mset]
        by_cases e : l = (i : Int)
        · subst e
          rw [if_pos rfl]
          exact ⟨fun _ => ⟨⟨by omega, by omega, h⟩, by omega⟩, fun _ => rfl⟩
        · rw [if_neg e, h3]
          constructor
          · rintro ⟨a, b⟩; exact ⟨a, by omega⟩
          · rintro ⟨a, b⟩; exact ⟨a, by omega⟩
      · rw [mget_mset] at hr
        by_cases e : l = (i : Int)
        · rw [if_pos e] at hr
          injection hr with hr
          subst hr
          exact ⟨e2, rfl, rfl⟩
        · rw [if_neg e] at hr
          exact h4 l r hr
    · rw [bif_f (decide_eq_false h), chk_true (by unfold inR; omega), show (i : Int) + 1 = ((i + 1 : Nat) : Int) by omega]
      refine ih (i + 1) f rows (by omega) (by omega) (fun l => ?_) h4
      rw [h3]
      constructor
      · rintro ⟨a, b⟩; exact ⟨a, by omega⟩
      · rintro ⟨a, b⟩
        refine ⟨a, ?_⟩
        by_cases e : l = (i : Int)
        · subst e; exact absurd a.2.2 h
        · omega
structure HGood (c : CfgS) (node : Int) (N : Nat) (h : HomeS) : Prop where
  cfg : h.c = c
  nd : h.node = node
  dcfg : h.dir.c = c
  rows : RowsOk c node h.dir.rows
  turns : Good c.lines N h.turns
theorem hnew_is {c : CfgS} (hc : CfgOk c) {node : Int} (hn : 0 ≤ node) : ∃ rows, hnewS c node = some ⟨⟨c, rows⟩, ⟨[], []⟩, c, node⟩ ∧ HGood c node 0 ⟨⟨c, rows⟩, ⟨[], []⟩, c, node⟩ ∧ ∀ l r, mget rows l = some r → r.state = 0 ∧ r.head = -1 := by
  have h2 := hc.lines
  obtain ⟨rows, e1, e2, e3⟩ := mnew_loop hc node hn c.lines.toNat 0 64 [] (by omega) (by omega) (fun l => ⟨fun h => by simp [mget] at h, fun h => by have := h.1.1; omega⟩) (fun l r h => by simp [mget] at h)
  refine ⟨rows, ?_, ⟨rfl, rfl, rfl, e2, good_new _⟩, e3⟩
  unfold hnewS mnewS
  rw [show ((0 : Nat) : Int) = 0 from rfl] at e1
  rw [e1, Option.bind_some]; rfl
section
variable {c : CfgS} (hc : CfgOk c) {node : Int} {N : Nat} {h : HomeS} (hg : HGood c node N h)
include hc hg
theorem handle_bad (p : PktS) (hb : okP p = false ∨ p.dst ≠ node ∨ ¬ p.src < c.nodes ∨ p.kind ≠ 1 ∧ p.kind ≠ 2) : hhandleS h p = some (noP, false, 1, h) := by
  unfold hhandleS
  rw [pcheck_is, Option.bind_some, hg.cfg, hg.nd]
  have no : hhandleS_j0 h p false = some (noP, false, 1, h) := rfl
  cases ho : okP p with
  | false => rw [bif_f (by rfl)]; exact no
  | true =>
    rw [bif_t (by rfl)]
    by_cases hd : p.dst = node
    · rw [bif_t (decide_eq_true hd)]
      by_cases hs : p.src < c.nodes
      · rw [decide_eq_true hs]
        unfold hhandleS_j0
        have hk : p.kind ≠ 1 ∧ p.kind ≠ 2 := by
          rcases hb with hb | hb | hb | hb
          · rw [ho] at hb; cases hb
          · exact absurd hd hb
          · exact absurd hs hb
          · exact hb
        rw [bif_f (by rfl), bif_t (by simp [hk.1]), bif_t (by simp [hk.2])]
      · rw [decide_eq_false hs]; exact no
    · rw [bif_f (decide_eq_false hd)]; exact no
variable {p : PktS} (ho : okP p = true) (hd : p.dst = node) (hs : p.src < c.nodes) (hk : p.kind = 1 ∨ p.kind = 2)
include ho hd hs hk
theorem handle_in : hhandleS h p = hhandleS_j1 h p := by
  unfold hhandleS
  rw [pcheck_is, Option.bind_some, hg.cfg, hg.nd, ho, bif_t (by rfl), bif_t (decide_eq_true hd), decide_eq_true hs]
  unfold hhandleS_j0
  rw [bif_f (by rfl)]
  by_cases h1 : p.kind = 1
  · rw [bif_f (by simp [h1])]
  · rw [bif_t (by simp [h1]), bif_f (by simp [show p.kind = 2 by omega])]
theorem handle_far (hf : ¬ here c node p.line) (h0 : 0 ≤ p.line) : hhandleS h p = some (noP, false, 3, h) := by
  rw [handle_in hc hg ho hd hs hk]
  unfold hhandleS_j1
  rw [hg.cfg, hg.nd, phome_is hc, Option.bind_some, if_neg (by omega)]
  have no : hhandleS_j2 h p true = some (noP, false, 3, h) := rfl
  by_cases e : p.line.tmod c.nodes = node
  · rw [bif_f (by simp [e]), decide_eq_true (show c.lines ≤ p.line by
      by_cases q : p.line < c.lines
      · exact absurd ⟨h0, q, e⟩ hf
      · omega)]
    exact no
  · rw [bif_t (by simp [e])]; exact no
theorem handle_here (hf : here c node p.line) : hhandleS h p = hhandleS_j2 h p false := by
  rw [handle_in hc hg ho hd hs hk]
  unfold hhandleS_j1
  have := hf.1
  have := hf.2.1
  rw [hg.cfg, hg.nd, phome_is hc, Option.bind_some, if_neg (by omega), bif_f (by simp [hf.2.2]), decide_eq_false (by omega)]
end
/-- A row that is there. -/
theorem HGood.row {c : CfgS} (hc : CfgOk c) {node : Int} {N : Nat} {h : HomeS} (hg : HGood c node N h) {l : Int} (hl : here c node l) : ∃ r, mget h.dir.rows l = some r ∧ (r.data.length : Int) = c.words ∧ r.data.length ≤ 60 := by
  obtain ⟨r, hr⟩ := Option.isSome_iff_exists.1 ((hg.rows.is l).2 hl)
  have := hg.rows.words l r hr
  have := hc.words
  exact ⟨r, hr, hg.rows.words l r hr, by omega⟩
theorem granted_is {h : HomeS} {l who id : Int} {r : RowS} (hr : mget h.dir.rows l = some r) (hd : r.data.length ≤ 60) : hgrantedS h l who id = some ⟨7, h.node, who, id, l, r.head, r.state, false, r.data⟩ := by
  unfold hgrantedS mrowS letP
  dsimp only
  rw [hr]
  show ((copyS r.data).bind _).bind _ = _
  rw [copy_is _ hd]; rfl
section
variable {c : CfgS} (hc : CfgOk c) {node : Int} {N : Nat} {h : HomeS} (hg : HGood c node N h) {p : PktS} (ho : okP p = true) (hd : p.dst = node) (hs : p.src < c.nodes) (hf : here c node p.line)
include hc hg ho hd hs hf
theorem src_pos : 0 ≤ p.src := by
  unfold okP at ho
  simp only [Bool.and_eq_true, decide_eq_true_eq] at ho
  omega
theorem lock_wait (hk : p.kind = 1) (hw : own h.turns p.line = true ∨ 0 < (wl h.turns p.line).length) (hl : (wl h.turns p.line).length ≤ 1000) :
    hhandleS h p = some (noP, false, 0, { h with turns := ⟨h.turns.owners, mset h.turns.wait p.line (wl h.turns p.line ++ [(p.src, p.id)])⟩ }) := by
  have h0 := src_pos hc hg ho hd hs hf
  rw [handle_here hc hg ho hd hs (.inl hk) hf]
  unfold hhandleS_j2
  rw [bif_f rfl, bif_t (decide_eq_true hk), ask_is p.id (by omega) h0, if_pos hw]; rfl
theorem lock_free (hk : p.kind = 1) (hw : ¬ (own h.turns p.line = true ∨ 0 < (wl h.turns p.line).length)) {r : RowS} (hr : mget h.dir.rows p.line = some r) (hrd : r.data.length ≤ 60) :
    hhandleS h p = some (⟨7, node, p.src, p.id, p.line, r.head, r.state, false, r.data⟩, true, 0, { h with turns := ⟨mset h.turns.owners p.line p.src, h.turns.wait⟩ }) := by
  have h0 := src_pos hc hg ho hd hs hf
  rw [handle_here hc hg ho hd hs (.inl hk) hf]
  unfold hhandleS_j2
  rw [bif_f rfl, bif_t (decide_eq_true hk), ask_is p.id (by omega) h0, if_neg hw, Option.bind_some]
  dsimp only
  rw [bif_f (by rfl), granted_is (h := { dir := h.dir, turns := ⟨mset h.turns.owners p.line p.src, h.turns.wait⟩, c := h.c, node := h.node }) hr hrd, Option.bind_some]
  dsimp only
  rw [hg.nd]
theorem unlock_other (hk : p.kind = 2) (hw : (mget h.turns.owners p.line).getD (-1) ≠ p.src) : hhandleS h p = some (noP, false, 6, h) := by
  rw [handle_here hc hg ho hd hs (.inr hk) hf]
  unfold hhandleS_j2 hunlockS
  rw [bif_f rfl, bif_f (decide_eq_false (by omega)), owner_is, Option.bind_some, bif_t (by simp [hw])]; rfl
theorem unlock_set (hk : p.kind = 2) (hw : mget h.turns.owners p.line = some p.src) {xs : List Int} (hx : xs = if p.flag then p.data else []) {k : Int} {d2 : DirS} (hset : msetS h.dir p.line p.state p.ptr xs = some (k, d2)) :
    hhandleS h p = if k = 0 then some (⟨8, node, p.src, p.id, p.line, 0, 0, false, []⟩, true, 0, { h with dir := d2, turns := ⟨mdel h.turns.owners p.line, h.turns.wait⟩ }) else some (noP, false, k, { h with dir := d2 }) := by
  rw [handle_here hc hg ho hd hs (.inr hk) hf]
  unfold hhandleS_j2 hunlockS
  rw [bif_f rfl, bif_f (decide_eq_false (by omega)), owner_is, hw, Option.bind_some, bif_f (by simp)]
  have hfl : (bif p.flag then msetS h.dir p.line p.state p.ptr p.data else msetS h.dir p.line p.state p.ptr []) = some (k, d2) := by
    cases hq : p.flag with
    | true => rw [hq, if_pos rfl] at hx; subst hx; exact hset
    | false => rw [hq, if_neg (by simp)] at hx; subst hx; exact hset
  have fin : ((some (k, d2)).bind fun y6_11 => (bif !(decide (y6_11.1 = (0 : Int))) then some (y6_11.1, ({ dir := y6_11.2, turns := h.turns, c := h.c, node := h.node } : HomeS)) else (treleaseS h.turns p.line p.src).bind fun y9_8 => some (y9_8.1, ({ dir := y6_11.2, turns := y9_8.2, c := h.c, node := h.node } : HomeS)))) =
      if k = 0 then some (0, { h with dir := d2, turns := ⟨mdel h.turns.owners p.line, h.turns.wait⟩ }) else some (k, { h with dir := d2 }) := by
    rw [Option.bind_some]
    dsimp only
    by_cases e : k = 0
    · rw [bif_f (by simp [e]), release_is hw, if_pos e]; rfl
    · rw [bif_t (by simp [e]), if_neg e]
  have two : (bif p.flag then (msetS h.dir p.line p.state p.ptr p.data).bind fun y6_11 => (bif !(decide (y6_11.1 = (0 : Int))) then some (y6_11.1, ({ dir := y6_11.2, turns := h.turns, c := h.c, node := h.node } : HomeS)) else (treleaseS h.turns p.line p.src).bind fun y9_8 => some (y9_8.1, ({ dir := y6_11.2, turns := y9_8.2, c := h.c, node := h.node } : HomeS)))
      else (msetS h.dir p.line p.state p.ptr ([] : List Int)).bind fun y6_11 => (bif !(decide (y6_11.1 = (0 : Int))) then some (y6_11.1, ({ dir := y6_11.2, turns := h.turns, c := h.c, node := h.node } : HomeS)) else (treleaseS h.turns p.line p.src).bind fun y9_8 => some (y9_8.1, ({ dir := y6_11.2, turns := y9_8.2, c := h.c, node := h.node } : HomeS)))) =
      if k = 0 then some (0, { h with dir := d2, turns := ⟨mdel h.turns.owners p.line, h.turns.wait⟩ }) else some (k, { h with dir := d2 }) := by
    rw [← fin, ← hfl]
    cases p.flag <;> rfl
  rw [two]
  by_cases e : k = 0
  · rw [if_pos e, if_pos e, Option.bind_some, bif_f (by rfl), ← hg.nd]
  · rw [if_neg e, if_neg e, Option.bind_some, bif_t (by simp [e])]
end
theorem pending_is {m N : Nat} {h : HomeS} (hg : Good (m : Int) N h.turns) (hm : m ≤ 1000) (hN : N ≤ 60) : hpendingS h = some (decide (0 < ((((upto m).filter (isReady h.turns)).length : Nat) : Int))) := by
  unfold hpendingS
  rw [ready_is hg hm hN]; rfl
theorem grant_none {m N : Nat} {h : HomeS} (hg : Good (m : Int) N h.turns) (hm : m ≤ 1000) (hN : N ≤ 60) (he : (upto m).filter (isReady h.turns) = []) : hgrantS h = some (noP, false, h) := by
  unfold hgrantS
  rw [ready_is hg hm hN, he, Option.bind_some, hgrantS_l0]
  dsimp only
  rw [bif_f (by rfl)]; rfl
theorem grant_first {m N : Nat} {h : HomeS} (hg : Good (m : Int) N h.turns) (hm : m ≤ 1000) (hN : N ≤ 60) {l : Int} {ls : List Int} (he : (upto m).filter (isReady h.turns) = l :: ls) {q : Int × Int} {xs : List (Int × Int)} (ho : own h.turns l = false) (hw : wl h.turns l = q :: xs) {r : RowS} (hr : mget h.dir.rows l = some r) (hrd : r.data.length ≤ 60) :
    hgrantS h = some (⟨7, h.node, q.1, q.2, l, r.head, r.state, false, r.data⟩, true, { h with turns := ⟨mset h.turns.owners l q.1, mset h.turns.wait l xs⟩ }) := by
  unfold hgrantS
  rw [ready_is hg hm hN, he, Option.bind_some, hgrantS_l0]
  dsimp only
  rw [bif_t (decide_eq_true (by simp <;> omega)), chk_true ⟨by omega, by simp <;> omega⟩, show nth (l :: ls) 0 = l from rfl, next_is ho hw, Option.bind_some]
  dsimp only
  rw [bif_t rfl, granted_is (h := { dir := h.dir, turns := ⟨mset h.turns.owners l q.1, mset h.turns.wait l xs⟩, c := h.c, node := h.node }) hr hrd]; rfl
theorem mset_ok {d : DirS} {line state head : Int} {xs : List Int} {r : RowS} (hr : mget d.rows line = some r) (h1 : 0 ≤ state ∧ state ≤ 2) (h2 : -1 ≤ head ∧ head < d.c.nodes) (h3 : head = -1 ↔ state = 0) (h4 : xs = [] ∨ (xs.length : Int) = d.c.words) (h5 : xs.length ≤ 60) :
    msetS d line state head xs = some (0, ⟨d.c, mset d.rows line ⟨state, head, if xs = [] then r.data else xs⟩⟩) := by
  have j0 : msetS_j0 xs d line state head r = some (0, ⟨d.c, mset d.rows line ⟨state, head, if xs = [] then r.data else xs⟩⟩) := by
    unfold msetS_j0 letP
    dsimp only
    cases xs with
    | nil => rw [bif_f (by rfl), if_pos rfl]
    | cons x t => rw [bif_t (decide_eq_true (by simp <;> omega)), copy_is _ h5, if_neg (by simp)]; rfl
  have hb : (!((decide (head = ((-1) : Int))) == (decide (state = (0 : Int))))) = false := by
    by_cases e : head = -1
    · simp [e, h3.1 e]
    · have : state ≠ 0 := fun q => e (h3.2 q)
      simp [e, this]
  unfold msetS letP
  dsimp only
  rw [hr]
  show (bif !true then _ else _) = _
  rw [bif_f (by rfl), bif_f (decide_eq_false (by omega)), bif_f (decide_eq_false (by omega)), bif_f (decide_eq_false (by omega)), decide_eq_false (show ¬ d.c.nodes ≤ head by omega)]
  unfold msetS_j1
  rw [bif_f rfl, bif_f hb]
  rcases h4 with e | e
  · subst e; rw [bif_f (by rfl)]; exact j0
  · cases xs with
    | nil => rw [bif_f (by rfl)]; exact j0
    | cons x t => rw [bif_t (by simp <;> omega), bif_f (by simp at e; simp [e])]; exact j0
end Go.Proofs.Ytcigheahollkcaa
