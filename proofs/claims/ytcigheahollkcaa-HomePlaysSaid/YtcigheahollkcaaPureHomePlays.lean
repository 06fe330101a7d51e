/- The law HomePlays answers true at every input: the plain side. -/
import Derived.Test.YtcigheahollkcaaPureHSimLem
import Derived.Test.YtcigheahollkcaaLawHomePlays
set_option linter.unusedSectionVars false
set_option linter.unusedSimpArgs false
set_option linter.unusedVariables false
namespace Go.Proofs.Ytcigheahollkcaa
open Go
theorem wakes11_is : wakes11S = some true := by kernel_rfl
section
variable {c : CfgS} (hc : CfgOk c) {node : Int} {N : Nat} {h : HomeS} {q : HomesS} (hv : HSim c node N h q)
include hc hv
theorem HSim.more {N' : Nat} (hN : N ≤ N') : HSim c node N' h q :=
  ⟨⟨hv.good.cfg, hv.good.nd, hv.good.dcfg, hv.good.rows, good_less hv.good.turns hN⟩, hv.sim.more hN, hv.rlen, hv.rows, hv.wait⟩
theorem HSim.turned {N' : Nat} {T' : TurnsS} {R' : HomesS} (a : RSim c node q.r c.lines N' T' R') (hw : ∀ l, wl T' l ≠ [] → here c node l) : HSim c node N' { h with turns := T' } R' :=
  ⟨⟨hv.good.cfg, hv.good.nd, hv.good.dcfg, hv.good.rows, a.good⟩, by rw [a.kr]; exact a, by rw [a.kr]; exact hv.rlen, fun l r hr => by rw [a.kr]; exact hv.rows l r hr, hw⟩
theorem HSim.set {line : Int} (state head : Int) {xs : List Int} (hh : here c node line) (hx : xs.length ≤ 60) : ∃ k d' q', msetS h.dir line state head xs = some (k, d') ∧ ssetS q line state head xs = some (k, q') ∧ HSim c node N { h with dir := d' } q' := by
  have h1 := hc.nodes
  have h3 := hc.words
  obtain ⟨r, hr, hr1, hr2⟩ := hv.good.row hc hh
  obtain ⟨b1, b2, b3⟩ := hv.row_at hc hr
  have j1t : msetS_j1 h.dir head state xs line ((some r).getD Rec.zero) true = some (1, h.dir) := rfl
  have hin : ∀ a : Bool, (bif !(some r).isSome then some ((3 : Int), h.dir) else (bif decide (state < (0 : Int)) then msetS_j1 h.dir head state xs line ((some r).getD Rec.zero) true else (bif decide ((2 : Int) < state) then msetS_j1 h.dir head state xs line ((some r).getD Rec.zero) true else (bif decide (head < ((-1) : Int)) then msetS_j1 h.dir head state xs line ((some r).getD Rec.zero) true else msetS_j1 h.dir head state xs line ((some r).getD Rec.zero) a)))) =
      (bif decide (state < (0 : Int)) then msetS_j1 h.dir head state xs line r true else (bif decide ((2 : Int) < state) then msetS_j1 h.dir head state xs line r true else (bif decide (head < ((-1) : Int)) then msetS_j1 h.dir head state xs line r true else msetS_j1 h.dir head state xs line r a))) := fun a => rfl
  have same : HSim c node N { h with dir := h.dir } q := hv
  have ms : msetS h.dir line state head xs = (bif decide (state < (0 : Int)) then msetS_j1 h.dir head state xs line r true else (bif decide ((2 : Int) < state) then msetS_j1 h.dir head state xs line r true else (bif decide (head < ((-1) : Int)) then msetS_j1 h.dir head state xs line r true else msetS_j1 h.dir head state xs line r (decide (h.dir.c.nodes ≤ head))))) := by
    unfold msetS letP
    dsimp only
    rw [hr]
    exact hin _
  rw [ms, hv.good.dcfg]
  unfold ssetS
  rw [hv.here_is hc, decide_eq_true hh, Option.bind_some, bif_f (c := !true) rfl, hv.sim.kc]
  by_cases c1 : state < 0
  · rw [bif_t (decide_eq_true c1), bif_t (decide_eq_true c1)]; exact ⟨_, _, _, rfl, rfl, same⟩
  rw [bif_f (decide_eq_false c1), bif_f (decide_eq_false c1)]
  by_cases c2 : 2 < state
  · rw [bif_t (decide_eq_true c2), bif_t (decide_eq_true c2)]; exact ⟨_, _, _, rfl, rfl, same⟩
  rw [bif_f (decide_eq_false c2), bif_f (decide_eq_false c2)]
  by_cases c3 : head < -1
  · rw [bif_t (decide_eq_true c3), bif_t (decide_eq_true c3)]; exact ⟨_, _, _, rfl, rfl, same⟩
  rw [bif_f (decide_eq_false c3), bif_f (decide_eq_false c3)]
  by_cases c4 : c.nodes ≤ head
  · rw [decide_eq_true c4, bif_t rfl]; exact ⟨_, _, _, rfl, rfl, same⟩
  rw [decide_eq_false c4, bif_f rfl]
  have e1 : msetS_j1 h.dir head state xs line r false = msetS h.dir line state head xs := by
    rw [ms, hv.good.dcfg, bif_f (decide_eq_false c1), bif_f (decide_eq_false c2), bif_f (decide_eq_false c3), decide_eq_false c4]
  by_cases c5 : (head = -1 ↔ state = 0)
  · have hb : (!((decide (state = (0 : Int))) == (decide (head = ((-1) : Int))))) = false := by
      by_cases e : head = -1
      · simp [e, c5.1 e]
      · have : state ≠ 0 := fun x => e (c5.2 x)
        simp [e, this]
    rw [bif_f hb]
    by_cases c6 : xs = [] ∨ (xs.length : Int) = c.words
    · have hok := mset_ok (d := h.dir) (line := line) (state := state) (head := head) (xs := xs) hr (by omega) (by rw [hv.good.dcfg]; omega) c5 (by rw [hv.good.dcfg]; exact c6) hx
      have fin : ∀ ws : List Int, ws = (if xs = [] then r.data else xs) → HSim c node N { h with dir := ⟨h.dir.c, mset h.dir.rows line ⟨state, head, if xs = [] then r.data else xs⟩⟩ } { q with r := q.r.set line.toNat ⟨state, head, ws⟩ } := by
        intro ws hw
        subst hw
        have hlen : ((if xs = [] then r.data else xs).length : Int) = c.words := by
          rcases c6 with e | e
          · rw [if_pos e]; exact hr1
          · rw [if_neg (fun z => by rw [z] at e; simp at e; omega)]; exact e
        refine ⟨⟨hv.good.cfg, hv.good.nd, hv.good.dcfg, ⟨fun l => ?_, fun l r' hr' => ?_⟩, hv.good.turns⟩, ⟨hv.sim.good, hv.sim.two, hv.sim.three, hv.sim.fewo, hv.sim.feww, hv.sim.once, hv.sim.owneq, hv.sim.waiteq, hv.sim.lines, hv.sim.kc, hv.sim.kn, rfl⟩, by show (((q.r.set line.toNat _).length : Nat) : Int) = c.lines; rw [List.length_set]; exact hv.rlen, fun l r' hr' => ?_, hv.wait⟩
        · show (mget (mset h.dir.rows line _) l).isSome = true ↔ _
          rw [mget_mset]
          by_cases e : l = line
          · rw [if_pos e, e]; exact ⟨fun _ => hh, fun _ => rfl⟩
          · rw [if_neg e]; exact hv.good.rows.is l
        · have hr' : mget (mset h.dir.rows line _) l = some r' := hr'
          rw [mget_mset] at hr'
          by_cases e : l = line
          · rw [if_pos e] at hr'; injection hr' with hr'; subst hr'; exact hlen
          · rw [if_neg e] at hr'; exact hv.good.rows.words l r' hr'
        · have hr' : mget (mset h.dir.rows line _) l = some r' := hr'
          show (q.r.set line.toNat _)[l.toNat]? = some r'
          rw [mget_mset] at hr'
          by_cases e : l = line
          · rw [if_pos e] at hr'; injection hr' with hr'; subst hr'
            rw [e, List.getElem?_set_self (by omega)]
          · rw [if_neg e] at hr'
            have hl := (hv.good.rows.is l).1 (by rw [hr']; rfl)
            have := hl.1
            have := hh.1
            rw [List.getElem?_set_ne (by omega)]
            exact hv.rows l r' hr'
      rw [e1, hok]
      by_cases c7 : xs = []
      · subst c7
        rw [bif_f (by rfl), chk_true b1]
        unfold letP
        dsimp only
        rw [b2, bif_f (by rfl), chk_true b1]
        have f0 := fin r.data (by rw [if_pos rfl])
        rw [hv.sim.kc] at f0
        exact ⟨_, _, _, rfl, rfl, f0⟩
      · have hl := c6.resolve_left c7
        have hpos : (0 : Int) < ((xs.length : Nat) : Int) := by omega
        rw [bif_t (decide_eq_true hpos), bif_f (by simp [hl]), chk_true b1]
        unfold letP
        dsimp only
        rw [b2, bif_t (decide_eq_true hpos), chk_true (by omega), chk_true b1]
        have f0 := fin xs (by rw [if_neg c7])
        rw [hv.sim.kc] at f0
        exact ⟨_, _, _, rfl, rfl, f0⟩
    · have c7 : xs ≠ [] := fun e => c6 (.inl e)
      have c8 : ¬ (xs.length : Int) = c.words := fun e => c6 (.inr e)
      have hpos : (0 : Int) < ((xs.length : Nat) : Int) := by
        cases xs with
        | nil => exact absurd rfl c7
        | cons a t => simp <;> omega
      rw [bif_t (decide_eq_true hpos), bif_t (by simp [c8])]
      have hb2 : (!((decide (head = ((-1) : Int))) == (decide (state = (0 : Int))))) = false := by
        by_cases e : head = -1
        · simp [e, c5.1 e]
        · have : state ≠ 0 := fun x => e (c5.2 x)
          simp [e, this]
      unfold msetS_j1
      rw [bif_f rfl, bif_f hb2, bif_t (by simp; omega), hv.good.dcfg, bif_t (by simp [c8])]
      exact ⟨_, _, _, rfl, rfl, same⟩
  · have hb : (!((decide (state = (0 : Int))) == (decide (head = ((-1) : Int))))) = true := by
      by_cases e : head = -1
      · have : state ≠ 0 := fun x => c5 ⟨fun _ => x, fun _ => e⟩
        simp [e, this]
      · have : state = 0 := by
          by_cases x : state = 0
          · exact x
          · exact absurd ⟨fun z => absurd z e, fun z => absurd z x⟩ c5
        simp [e, this]
    have hb2 : (!((decide (head = ((-1) : Int))) == (decide (state = (0 : Int))))) = true := by
      rw [← hb]
      cases decide (state = 0) <;> cases decide (head = -1) <;> rfl
    rw [bif_t hb]
    unfold msetS_j1
    rw [bif_f rfl, bif_t hb2]
    exact ⟨_, _, _, rfl, rfl, same⟩
theorem granted_q {R : HomesS} (hR : R.r = q.r) (hk : R.node = node) {l who id : Int} {r : RowS} (hr : mget h.dir.rows l = some r) : sgrantedS R l who id = some ⟨7, node, who, id, l, r.head, r.state, false, r.data⟩ := by
  obtain ⟨b1, b2, b3⟩ := hv.row_at hc hr
  unfold sgrantedS letP
  dsimp only
  rw [hR, chk_true b1, b2, chk_true (by omega), hk]
variable (hN : N + 1 ≤ 50)
include hN
theorem HSim.handle (p : PktS) : ∃ p' ok e h' q', hhandleS h p = some (p', ok, e, h') ∧ shandle7S q p = some (p', ok, e, q') ∧ HSim c node (N + 1) h' q' ∧ p'.data.length ≤ 60 := by
  have hm := hv.more hc (Nat.le_succ N)
  have bad : (okP p = false ∨ p.dst ≠ node ∨ ¬ p.src < c.nodes ∨ p.kind ≠ 1 ∧ p.kind ≠ 2) → shandle7S q p = some (noP, false, 1, q) → ∃ p' ok e h' q', hhandleS h p = some (p', ok, e, h') ∧ shandle7S q p = some (p', ok, e, q') ∧ HSim c node (N + 1) h' q' ∧ p'.data.length ≤ 60 := fun a b => ⟨_, _, _, _, _, handle_bad hc hv.good p a, b, hm, by simp⟩
  have hs7 : shandle7S q p = (rrightS p).bind fun y1_1 => shandle7S q p := by rw [rright_is]; rfl
  cases ho : okP p with
  | false => exact bad (.inl ho) (by unfold shandle7S; rw [rright_is, ho, Option.bind_some, bif_t (by rfl)])
  | true =>
    obtain ⟨hd4, hl0, hs0⟩ := okP_data ho
    by_cases hd : p.dst = node
    · by_cases hs : p.src < c.nodes
      · by_cases hk : p.kind = 1 ∨ p.kind = 2
        · by_cases hf : here c node p.line
          · rcases hk with hk | hk
            · -- a line is asked for
              have hl : 0 ≤ p.line ∧ p.line < c.lines := ⟨hf.1, hf.2.1⟩
              obtain ⟨b, T', R', a1, a2, a3⟩ := hv.sim.ask (by omega) p.id hl hs0
              obtain ⟨r, hr, _, hr2⟩ := hv.good.row hc hf
              have hw : ∀ l, wl T' l ≠ [] → here c node l := by
                have hwl : (wl h.turns p.line).length ≤ N := by
                  rw [hv.sim.waiteq p.line]; unfold rwl; rw [List.length_map]
                  exact Nat.le_trans (List.length_filter_le _ _) hv.sim.feww
                rw [ask_is p.id (by omega) hs0] at a1
                intro l hl'
                by_cases e : own h.turns p.line = true ∨ 0 < (wl h.turns p.line).length
                · rw [if_pos e] at a1
                  injection a1 with a1
                  injection a1 with _ a1
                  subst a1
                  rw [wl_mset] at hl'
                  by_cases z : l = p.line
                  · rw [z]; exact hf
                  · rw [if_neg z] at hl'; exact hv.wait l hl'
                · rw [if_neg e] at a1
                  injection a1 with a1
                  injection a1 with _ a1
                  subst a1
                  exact hv.wait l hl'
              have hq : shandle7S q p = (qaskS q p.line p.src p.id).bind fun y6_9 => (bif y6_9.1 then (sgrantedS y6_9.2 p.line p.src p.id).bind fun y7_7 => some (y7_7, true, (0 : Int), y6_9.2) else some (noP, false, (0 : Int), y6_9.2)) := by
                unfold shandle7S
                rw [rright_is, ho, Option.bind_some, bif_f (by rfl), hv.sim.kn, bif_f (by simp [hd]), hv.sim.kc, bif_f (decide_eq_false (by omega)), bif_f (by simp [hk]), hv.here_is hc, decide_eq_true hf, Option.bind_some, bif_f (by rfl), bif_t (decide_eq_true hk)]
              rw [handle_here hc hv.good ho hd hs (.inl hk) hf, hq, a2, Option.bind_some]
              unfold hhandleS_j2
              rw [bif_f rfl, bif_t (decide_eq_true hk), a1, Option.bind_some]
              dsimp only
              cases b with
              | false => rw [bif_t (by rfl), bif_f rfl]; exact ⟨_, _, _, _, _, rfl, rfl, hv.turned hc a3 hw, by simp⟩
              | true =>
                rw [bif_f (by rfl), bif_t rfl, granted_is (h := { dir := h.dir, turns := T', c := h.c, node := h.node }) hr hr2, granted_q hc hv a3.kr a3.kn hr, Option.bind_some, Option.bind_some]
                dsimp only
                rw [hv.good.nd]
                exact ⟨_, _, _, _, _, rfl, rfl, by have := hv.turned hc a3 hw; rw [hv.good.nd] at this; exact this, hr2⟩
            · -- a line is let go
              have hq : shandle7S q p = (qownerS q p.line).bind fun y9_5 => (bif !(decide (y9_5 = p.src)) then some (noP, false, (6 : Int), q) else (bif p.flag then (ssetS q p.line p.state p.ptr p.data).bind fun y14_8 => (bif !(decide (y14_8.1 = (0 : Int))) then some (noP, false, y14_8.1, y14_8.2) else (qreleaseS y14_8.2 p.line p.src).bind fun y17_7 => some ((⟨8, y17_7.2.node, p.src, p.id, p.line, 0, 0, false, ([] : List Int)⟩ : PktS), true, (0 : Int), y17_7.2))
                  else (ssetS q p.line p.state p.ptr ([] : List Int)).bind fun y14_8 => (bif !(decide (y14_8.1 = (0 : Int))) then some (noP, false, y14_8.1, y14_8.2) else (qreleaseS y14_8.2 p.line p.src).bind fun y17_7 => some ((⟨8, y17_7.2.node, p.src, p.id, p.line, 0, 0, false, ([] : List Int)⟩ : PktS), true, (0 : Int), y17_7.2)))) := by
                unfold shandle7S
                rw [rright_is, ho, Option.bind_some, bif_f (by rfl), hv.sim.kn, bif_f (by simp [hd]), hv.sim.kc, bif_f (decide_eq_false (by omega)), bif_t (by simp [hk]), bif_f (by simp [hk]), hv.here_is hc, decide_eq_true hf, Option.bind_some, bif_f (by rfl), bif_f (decide_eq_false (by omega))]
              rw [hq, hv.sim.owner (by omega), Option.bind_some]
              by_cases how : (mget h.turns.owners p.line).getD (-1) = p.src
              · have how2 : mget h.turns.owners p.line = some p.src := by
                  cases hx : mget h.turns.owners p.line with
                  | none => rw [hx] at how; have : (-1 : Int) = p.src := how; omega
                  | some w => rw [hx] at how; have : w = p.src := how; rw [this]
                rw [bif_f (by simp [how])]
                obtain ⟨k, d', q', m1, m2, m3⟩ := hv.set hc (line := p.line) p.state p.ptr (xs := if p.flag then p.data else []) hf (by cases p.flag <;> simp <;> omega)
                rw [unlock_set hc hv.good ho hd hs hf hk how2 rfl m1]
                have two : (bif p.flag then (ssetS q p.line p.state p.ptr p.data).bind fun y14_8 => (bif !(decide (y14_8.1 = (0 : Int))) then some (noP, false, y14_8.1, y14_8.2) else (qreleaseS y14_8.2 p.line p.src).bind fun y17_7 => some ((⟨8, y17_7.2.node, p.src, p.id, p.line, 0, 0, false, ([] : List Int)⟩ : PktS), true, (0 : Int), y17_7.2))
                  else (ssetS q p.line p.state p.ptr ([] : List Int)).bind fun y14_8 => (bif !(decide (y14_8.1 = (0 : Int))) then some (noP, false, y14_8.1, y14_8.2) else (qreleaseS y14_8.2 p.line p.src).bind fun y17_7 => some ((⟨8, y17_7.2.node, p.src, p.id, p.line, 0, 0, false, ([] : List Int)⟩ : PktS), true, (0 : Int), y17_7.2))) =
                  (bif !(decide (k = (0 : Int))) then some (noP, false, k, q') else (qreleaseS q' p.line p.src).bind fun y17_7 => some ((⟨8, y17_7.2.node, p.src, p.id, p.line, 0, 0, false, ([] : List Int)⟩ : PktS), true, (0 : Int), y17_7.2)) := by
                  cases hfl : p.flag with
                  | true => rw [hfl, if_pos rfl] at m2; rw [bif_t rfl, m2, Option.bind_some]
                  | false => rw [hfl, if_neg (by simp)] at m2; rw [bif_f rfl, m2, Option.bind_some]
                rw [two]
                by_cases e : k = 0
                · rw [if_pos e, bif_f (by simp [e])]
                  obtain ⟨b, T', R', r1, r2, r3⟩ := m3.sim.release (by omega) p.line p.src
                  have r1 : treleaseS h.turns p.line p.src = some (if b then 0 else 6, T') := r1
                  rw [release_is how2] at r1
                  injection r1 with r1
                  injection r1 with _ r1
                  subst r1
                  rw [r2, Option.bind_some]
                  dsimp only
                  rw [r3.kn]
                  exact ⟨_, _, _, _, _, rfl, rfl, (m3.turned hc r3 hv.wait).more hc (Nat.le_succ N), by simp⟩
                · rw [if_neg e, bif_t (by simp [e])]
                  exact ⟨_, _, _, _, _, rfl, rfl, m3.more hc (Nat.le_succ N), by simp⟩
              · rw [bif_t (by simp [how])]
                exact ⟨_, _, _, _, _, unlock_other hc hv.good ho hd hs hf hk how, rfl, hm, by simp⟩
          · refine ⟨_, _, _, _, _, handle_far hc hv.good ho hd hs hk hf hl0, ?_, hm, by simp⟩
            unfold shandle7S
            rw [rright_is, ho, Option.bind_some, bif_f (by rfl), hv.sim.kn, bif_f (by simp [hd]), hv.sim.kc, bif_f (decide_eq_false (by omega)), hv.here_is hc, decide_eq_false hf]
            rcases hk with hk | hk
            · rw [bif_f (by simp [hk])]; rfl
            · rw [bif_t (by simp [hk]), bif_f (by simp [hk])]; rfl
        · refine bad (.inr (.inr (.inr ⟨fun e => hk (.inl e), fun e => hk (.inr e)⟩))) ?_
          unfold shandle7S
          rw [rright_is, ho, Option.bind_some, bif_f (by rfl), hv.sim.kn, bif_f (by simp [hd]), hv.sim.kc, bif_f (decide_eq_false (by omega)), bif_t (by simp; exact fun e => hk (.inl e)), bif_t (by simp; exact fun e => hk (.inr e))]
      · refine bad (.inr (.inr (.inl hs))) ?_
        unfold shandle7S
        rw [rright_is, ho, Option.bind_some, bif_f (by rfl), hv.sim.kn, bif_f (by simp [hd]), hv.sim.kc, bif_t (decide_eq_true (by omega))]
    · refine bad (.inr (.inl hd)) ?_
      unfold shandle7S
      rw [rright_is, ho, Option.bind_some, bif_f (by rfl), hv.sim.kn, bif_t (by simp [hd])]
theorem HSim.grant {m : Nat} (hm : c.lines = (m : Int)) : ∃ p' ok h' q', hgrantS h = some (p', ok, h') ∧ sgrantS q = some (p', ok, q') ∧ HSim c node (N + 1) h' q' ∧ p'.data.length ≤ 60 := by
  have h2 := hc.lines
  have hs := hv.sim
  have hg := hv.good.turns
  rw [hm] at hs hg
  have hrq := hs.ready (by omega)
  unfold sgrantS
  rw [hrq, Option.bind_some]
  cases hq : (upto m).filter (isReady h.turns) with
  | nil =>
    rw [grant_none hg (by omega) (by omega) hq, bif_t (by rfl)]
    exact ⟨_, _, _, _, rfl, rfl, hv.more hc (Nat.le_succ N), by simp⟩
  | cons l ls =>
    have hmem : l ∈ (upto m).filter (isReady h.turns) := by rw [hq]; exact List.mem_cons_self ..
    rw [List.mem_filter, upto_mem] at hmem
    obtain ⟨hl, hrd⟩ := hmem
    unfold isReady at hrd
    simp only [Bool.and_eq_true, Bool.not_eq_true', decide_eq_true_eq] at hrd
    obtain ⟨ho, hw0⟩ := hrd
    obtain ⟨p, xs, hw⟩ : ∃ p xs, wl h.turns l = p :: xs := by
      cases hx : wl h.turns l with
      | nil => rw [hx] at hw0; simp at hw0
      | cons p xs => exact ⟨p, xs, rfl⟩
    have hh := hv.wait l (by rw [hw]; simp)
    obtain ⟨r, hr, _, hr2⟩ := hv.good.row hc hh
    obtain ⟨a, b, cc, T', R', n1, n2, n3⟩ := hv.sim.next (by omega) (l := l) ⟨hh.1, hh.2.1⟩
    rw [next_is ho hw] at n1
    injection n1 with n1
    injection n1 with n1 n4
    injection n4 with n4 n5
    injection n5 with n5 n6
    subst n1; subst n4; subst n6
    rw [grant_first hg (by omega) (by omega) hq ho hw hr hr2, bif_f (by simp <;> omega), chk_true ⟨by omega, by simp <;> omega⟩, show nth (l :: ls) 0 = l from rfl, n2, Option.bind_some, chk_true ⟨by omega, by simp <;> omega⟩, granted_q hc hv n3.kr n3.kn hr, Option.bind_some, hv.good.nd]
    refine ⟨_, _, _, _, rfl, rfl, ?_, hr2⟩
    have := hv.turned hc n3 (fun l' hl' => by
      rw [wl_mset] at hl'
      by_cases e : l' = l
      · rw [e]; exact hh
      · rw [if_neg e] at hl'; exact hv.wait l' hl')
    rw [hv.good.nd] at this
    exact this
end
section
variable {c : CfgS} (hc : CfgOk c) {m : Nat} (hm : c.lines = (m : Int)) {node : Int} (hn : 0 ≤ node ∧ node < c.nodes)
include hc hm hn
theorem loop (acts : List ActH) : ∀ (d i fuel : Nat) (h : HomeS) (q : HomesS), i + d = min acts.length 24 → d < fuel → HSim c node i h q → homePlaysS_l0 acts c node homePlaysS_k0 fuel (i : Int) q h = some true := by
  have h1 := hc.nodes
  have h2 := hc.lines
  intro d
  induction d with
  | zero =>
    intro i fuel h q hi hf hv
    obtain ⟨f, rfl⟩ : ∃ f, fuel = f + 1 := ⟨fuel - 1, by omega⟩
    rw [homePlaysS_l0]
    dsimp only
    unfold homePlaysS_j1
    by_cases hq : (i : Int) < ((acts.length : Nat) : Int)
    · rw [bif_t (decide_eq_true hq), bif_f (decide_eq_false (by omega))]; unfold homePlaysS_k0; rw [wakes11_is]; rfl
    · rw [bif_f (decide_eq_false hq), bif_f rfl]; unfold homePlaysS_k0; rw [wakes11_is]; rfl
  | succ d ih =>
    intro i fuel h q hi hf hv
    obtain ⟨f, rfl⟩ : ∃ f, fuel = f + 1 := ⟨fuel - 1, by omega⟩
    have hq : (i : Int) < ((acts.length : Nat) : Int) := by omega
    have q5 : inR ((i : Int) + 1) := by unfold inR; omega
    have next : ∀ h' q', HSim c node (i + 1) h' q' → homePlaysS_l0 acts c node homePlaysS_k0 f ((i : Int) + 1) q' h' = some true := fun h' q' hv' => by
      rw [show (i : Int) + 1 = ((i + 1 : Nat) : Int) by omega]
      exact ih (i + 1) f h' q' (by omega) (by omega) hv'
    have j2 : ∀ (x : PktS) (k a b l p s : Int) (xs : List Int), homePlaysS_j2 h x q (i : Int) (homePlaysS_l0 acts c node homePlaysS_k0 f) k a b l p s xs = some true := by
      intro x k a b l p s xs
      obtain ⟨p', ok, e, h', q', s1, s2, s3, s4⟩ := hv.handle hc (by omega) ⟨k, a, b, x.id, l, p, s, x.flag, xs⟩
      unfold homePlaysS_j2
      rw [s1, Option.bind_some, s2, Option.bind_some]
      dsimp only
      rw [bif_f (by simp), bif_f (by simp), rsamep_is p' s4, Option.bind_some, bif_f (by rfl), s3.same hc (by omega) hm, Option.bind_some, bif_f (by rfl), chk_true q5]
      exact next _ _ s3
    rw [homePlaysS_l0]
    dsimp only
    rw [bif_t (decide_eq_true hq)]
    unfold homePlaysS_j1
    rw [bif_t (decide_eq_true (by omega)), chk_true ⟨by omega, hq⟩]
    unfold letP
    dsimp only
    generalize nthT acts (i : Int) = x
    obtain ⟨w, e1, w0, w1⟩ := within_is (v := x.do_) (n := 5) (by omega) (by omega)
    rw [e1, Option.bind_some]
    by_cases hw : w = 4
    · obtain ⟨p', ok, h', q', s1, s2, s3, s4⟩ := hv.grant hc (by omega) hm
      rw [bif_t (decide_eq_true hw), s1, Option.bind_some, s2, Option.bind_some]
      dsimp only
      rw [bif_f (by simp), rsamep_is p' s4, Option.bind_some, bif_f (by rfl), s3.same hc (by omega) hm, Option.bind_some, bif_f (by rfl), chk_true q5]
      exact next _ _ s3
    · obtain ⟨p, e2, e3⟩ := plpacket_few ⟨x.kind, x.src, x.dst, x.id, x.line, x.ptr, x.state, x.flag, x.data⟩ x.how
      rw [bif_f (decide_eq_false hw), e2, Option.bind_some]
      cases !(decide (x.how.tmod 4 = 3)) with
      | false => rw [bif_f rfl]; exact j2 _ _ _ _ _ _ _ _
      | true =>
        obtain ⟨a, e4, a0, a1⟩ := within_is (v := p.src) (n := c.nodes) (by omega) (by omega)
        obtain ⟨l, e5, l0, l1⟩ := within_is (v := wr (wr (p.line * c.nodes) + node)) (n := c.lines) (by omega) (by omega)
        rw [bif_t rfl, e4, Option.bind_some, e5, Option.bind_some, hv.sim.owner (by omega), Option.bind_some, Option.bind_some]
        have j3 : ∀ b : Bool, homePlaysS_j3 x p c h q (i : Int) (homePlaysS_l0 acts c node homePlaysS_k0 f) ((mget h.turns.owners l).getD (-1)) node l a b = some true := by
          intro b
          unfold homePlaysS_j3
          cases b with
          | false => rw [bif_f rfl]; exact j2 _ _ _ _ _ _ _ _
          | true =>
            rw [bif_t rfl]
            cases !(decide (x.do_.tmod 3 = 0)) with
            | false => rw [bif_f rfl]; exact j2 _ _ _ _ _ _ _ _
            | true =>
              obtain ⟨b1, e6, _⟩ := within_is (v := p.ptr) (n := c.nodes) (by omega) (by omega)
              obtain ⟨b2, e7, _⟩ := within_is (v := p.state) (n := 2) (by omega) (by omega)
              obtain ⟨ys, e8, _⟩ := cut_is (p.data ++ [1, 2, 3, 4]) (n := c.words) (by have := hc.words; omega) (by have := hc.words; omega)
              rw [bif_t rfl, e6, Option.bind_some, e7, Option.bind_some]
              unfold letP
              dsimp only
              rw [chk_true (by simp; omega), e8, Option.bind_some]
              exact j2 _ _ _ _ _ _ _ _
        by_cases hb : w < 2
        · rw [bif_t (decide_eq_true hb)]; exact j3 _
        · rw [bif_f (decide_eq_false hb)]; exact j3 _
end
theorem homePlays_pure (su : SetupS) (node : Int) (acts : List ActH) : homePlaysS su node acts = some true := by
  obtain ⟨c, e1, hc⟩ := plconfig_is su
  have h1 := hc.nodes
  have h2 := hc.lines
  obtain ⟨k, e2, k0, k1⟩ := within_is (v := node) (n := c.nodes) (by omega) (by omega)
  obtain ⟨m, hm⟩ : ∃ m : Nat, c.lines = (m : Int) := ⟨c.lines.toNat, by omega⟩
  obtain ⟨h, q, e3, e4, hv⟩ := both_new hc (node := k) k0
  unfold homePlaysS
  rw [e1, Option.bind_some, e2, Option.bind_some, e3, Option.bind_some, e4, Option.bind_some]
  exact loop hc hm ⟨k0, k1⟩ acts (min acts.length 24) 0 64 h q (by omega) (by omega) hv
end Go.Proofs.Ytcigheahollkcaa
