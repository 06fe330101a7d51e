/- The law HomeAlone answers true at every input: the plain side. -/
import Derived.Test.YtcigheahollkcaaPureHomeLem
import Derived.Test.YtcigheahollkcaaLawHomeAlone
set_option linter.unusedSimpArgs false
set_option linter.unusedVariables false
namespace Go.Proofs.Ytcigheahollkcaa
open Go
theorem wakes11_is : wakes11S = some true := by kernel_rfl
theorem ksame_is (xs : List Int) (h : xs.length ≤ 60) : ksameS xs xs = some true := by
  unfold ksameS
  rw [chk_true (show okL xs by unfold okL; omega)]; simp
/-- Line 0 has an owner; nobody waits for any line. -/
structure AInv (c : CfgS) (N : Nat) (o : Int) (h : HomeS) : Prop where
  good : HGood c 0 N h
  own0 : mget h.turns.owners 0 = some o
  only : ∀ l, l ≠ 0 → wl h.turns l = []
  none0 : wl h.turns 0 = []
theorem ready_nil {m : Nat} {T : TurnsS} (h : ∀ l, isReady T l = false) : (upto m).filter (isReady T) = [] := List.filter_eq_nil_iff.2 fun a _ => by rw [h a]; simp
theorem not_ready {T : TurnsS} {l : Int} (h : own T l = true ∨ wl T l = []) : isReady T l = false := by
  unfold isReady
  rcases h with h | h
  · rw [h]; rfl
  · rw [h]; simp
theorem ready_zero {m : Nat} (hm : 1 ≤ m) {T : TurnsS} (h0 : isReady T 0 = true) (h : ∀ l, l ≠ 0 → isReady T l = false) : ∃ ls, (upto m).filter (isReady T) = 0 :: ls := by
  obtain ⟨k, rfl⟩ : ∃ k, m = k + 1 := ⟨m - 1, by omega⟩
  unfold upto
  rw [List.range_succ_eq_map, List.map_cons, List.filter_cons, if_pos (by exact h0)]
  exact ⟨_, rfl⟩
section
variable {c : CfgS} (hc : CfgOk c) {m : Nat} (hm : c.lines = (m : Int))
include hc hm
theorem k1_is {N : Nat} (hN : N ≤ 60) {o : Int} {h : HomeS} (hi : AInv c N o h) (i : Int) : homeAloneS_k1 o i h = some true := by
  have h2 := hc.lines
  have hg : Good (m : Int) N h.turns := by rw [← hm]; exact hi.good.turns
  unfold homeAloneS_k1
  rw [grant_none hg (by omega) hN (ready_nil fun l => not_ready (by
    by_cases e : l = 0
    · exact .inr (by rw [e]; exact hi.none0)
    · exact .inr (hi.only l e))), Option.bind_some]
  dsimp only
  rw [bif_t (by rfl), waiting_eq, hi.none0, Option.bind_some, bif_t (by rfl), wakes11_is]; rfl
theorem step_ok {i : Nat} (hi : i ≤ 8) {o : Int} (ho : 0 ≤ o ∧ o < c.nodes) {h : HomeS} (hv : AInv c (2 * i) o h) (values : List Int) (next : Int) (hn : 0 ≤ next ∧ next < c.nodes) (r : Int → Int → HomeS → Option Bool)
    (hr : ∀ h', AInv c (2 * (i + 1)) next h' → r next ((i : Int) + 1) h' = some true) :
    ((hhandleS h (⟨1, next, 0, (i : Int), 0, 0, 0, false, ([] : List Int)⟩ : PktS)).bind fun y13_4 => (bif y13_4.2.1 then homeAloneS_j4 c (i : Int) values next o y13_4 r true else (bif !(decide (y13_4.2.2.1 = (0 : Int))) then homeAloneS_j4 c (i : Int) values next o y13_4 r true else (hpendingS y13_4.2.2.2).bind fun y14_7 => homeAloneS_j4 c (i : Int) values next o y13_4 r y14_7))) = some true := by
  have h1 := hc.nodes
  have h2 := hc.lines
  have h3 := hc.words
  have hh0 : here c 0 0 := ⟨by omega, by omega, by simp⟩
  have own0 : own h.turns 0 = true := by unfold own; rw [hv.own0]; rfl
  have hlock := lock_wait hc hv.good (p := ⟨1, next, 0, (i : Int), 0, 0, 0, false, []⟩) (by simp [okP]; omega) rfl hn.2 hh0 rfl (.inl own0) (by show (wl h.turns 0).length ≤ 1000; rw [hv.none0]; simp)
  rw [show wl h.turns (⟨1, next, 0, (i : Int), 0, 0, 0, false, []⟩ : PktS).line = [] from hv.none0] at hlock
  -- behind the request
  have hT1 : ∀ l, wl ⟨h.turns.owners, mset h.turns.wait 0 ([] ++ [(next, (i : Int))])⟩ l = if l = 0 then [(next, (i : Int))] else [] := fun l => by
    rw [wl_mset]
    by_cases e : l = 0
    · rw [if_pos e, if_pos e]; rfl
    · rw [if_neg e, if_neg e]; exact hv.only l e
  have hg1 : HGood c 0 (2 * i + 1) { h with turns := ⟨h.turns.owners, mset h.turns.wait 0 ([] ++ [(next, (i : Int))])⟩ } :=
    ⟨hv.good.cfg, hv.good.nd, hv.good.dcfg, hv.good.rows, good_wait hv.good.turns (by omega) _ (fun q hq => by simp at hq; rw [hq]; exact hn.1)⟩
  generalize hh1 : ({ h with turns := ⟨h.turns.owners, mset h.turns.wait 0 ([] ++ [(next, (i : Int))])⟩ } : HomeS) = g1 at hlock hg1
  have t1 : g1.turns = ⟨h.turns.owners, mset h.turns.wait 0 ([] ++ [(next, (i : Int))])⟩ := by rw [← hh1]
  have d1 : g1.dir = h.dir := by rw [← hh1]
  have ow1 : mget g1.turns.owners 0 = some o := by rw [t1]; exact hv.own0
  have gd1 : Good (m : Int) (2 * i + 1) g1.turns := by rw [← hm]; exact hg1.turns
  rw [hlock, Option.bind_some]
  dsimp only
  rw [bif_f rfl, bif_f (by rfl), pending_is gd1 (by omega) (by omega), Option.bind_some, ready_nil (fun l => not_ready (by
    rw [t1]
    by_cases e : l = 0
    · left; rw [e]; exact own0
    · right; rw [hT1, if_neg e]))]
  unfold homeAloneS_j4
  rw [show decide ((0 : Int) < ((([] : List Int).length : Nat) : Int)) = false from rfl, bif_f rfl, chk_true ⟨by omega, by omega⟩]
  have j5 : ∀ w : List Int, (w.length : Int) = c.words → homeAloneS_j5 next o (noP, false, 0, g1) (i : Int) r w = some true := by
    intro w hw
    have hw60 : w.length ≤ 60 := by omega
    have hwn : w ≠ [] := fun e => by rw [e] at hw; simp at hw; omega
    obtain ⟨r0, hr0, hr1, hr2⟩ := hg1.row hc hh0
    have j6 : homeAloneS_j6 o next w (i : Int) r g1 = some true := by
      have hset := mset_ok (d := g1.dir) (line := 0) (state := 1) (head := next) (xs := w) hr0 (by omega) ⟨by omega, by rw [hg1.dcfg]; exact hn.2⟩ ⟨fun e => by omega, fun e => by omega⟩ (.inr (by rw [hg1.dcfg]; exact hw)) hw60
      have hun := unlock_set hc hg1 (p := ⟨2, o, 0, 0, 0, next, 1, true, w⟩) (by simp [okP]; omega) rfl ho.2 hh0 rfl ow1 (xs := w) rfl hset
      rw [if_pos rfl, if_neg hwn] at hun
      have hrows2 : RowsOk c 0 (mset g1.dir.rows 0 ⟨1, next, w⟩) := ⟨fun l => by
        rw [mget_mset]
        by_cases e : l = 0
        · rw [if_pos e, e]; exact ⟨fun _ => hh0, fun _ => rfl⟩
        · rw [if_neg e]; exact hg1.rows.is l, fun l r' hr' => by
        rw [mget_mset] at hr'
        by_cases e : l = 0
        · rw [if_pos e] at hr'; injection hr' with hr'; subst hr'; exact hw
        · rw [if_neg e] at hr'; exact hg1.rows.words l r' hr'⟩
      have hg2 : HGood c 0 (2 * i + 1) { g1 with dir := ⟨g1.dir.c, mset g1.dir.rows 0 ⟨1, next, w⟩⟩, turns := ⟨mdel g1.turns.owners 0, g1.turns.wait⟩ } := ⟨hg1.cfg, hg1.nd, hg1.dcfg, hrows2, good_del hg1.turns 0⟩
      generalize hh2 : ({ g1 with dir := ⟨g1.dir.c, mset g1.dir.rows 0 ⟨1, next, w⟩⟩, turns := ⟨mdel g1.turns.owners 0, g1.turns.wait⟩ } : HomeS) = g2 at hun hg2
      have t2 : g2.turns = ⟨mdel g1.turns.owners 0, g1.turns.wait⟩ := by rw [← hh2]
      have r2 : mget g2.dir.rows 0 = some ⟨1, next, w⟩ := by rw [← hh2]; show mget (mset g1.dir.rows 0 ⟨1, next, w⟩) 0 = _; rw [mget_mset, if_pos rfl]
      have wl2 : ∀ l, wl g2.turns l = if l = 0 then [(next, (i : Int))] else [] := fun l => by rw [t2, t1]; exact hT1 l
      have ow2 : own g2.turns 0 = false := by
        rw [t2]
        show own ⟨mdel g1.turns.owners 0, g1.turns.wait⟩ 0 = false
        rw [own_mdel hg1.turns.nodupo, if_pos rfl]
      have gd2 : Good (m : Int) (2 * i + 1) g2.turns := by rw [← hm]; exact hg2.turns
      obtain ⟨ls, hls⟩ := ready_zero (m := m) (by omega) (T := g2.turns) (by unfold isReady; rw [ow2, wl2, if_pos rfl]; rfl) (fun l e => not_ready (.inr (by rw [wl2, if_neg e])))
      have owner2 : townerS g2.turns 0 = some (-1) := by
        rw [owner_is]
        have : mget g2.turns.owners 0 = none := by
          have := ow2
          unfold own at this
          cases hq : mget g2.turns.owners 0 with
          | none => rfl
          | some x => rw [hq] at this; cases this
        rw [this]; rfl
      unfold homeAloneS_j6
      rw [hun, Option.bind_some]
      dsimp only
      rw [bif_f (by rfl), bif_f (by rfl), pending_is gd2 (by omega) (by omega), hls, Option.bind_some, bif_f (by simp <;> omega), owner2, Option.bind_some]
      unfold homeAloneS_j7
      rw [bif_f (by rfl), grant_first gd2 (by omega) (by omega) hls ow2 (by rw [wl2, if_pos rfl]) r2 hw60, Option.bind_some]
      dsimp only
      have hg3 : HGood c 0 (2 * i + 1 + 1) { g2 with turns := ⟨mset g2.turns.owners 0 next, mset g2.turns.wait 0 []⟩ } :=
        ⟨hg2.cfg, hg2.nd, hg2.dcfg, hg2.rows, good_own (good_wait hg2.turns (by omega) [] (fun q hq => by simp at hq)) 0 next hn.1⟩
      generalize hh3 : ({ g2 with turns := ⟨mset g2.turns.owners 0 next, mset g2.turns.wait 0 []⟩ } : HomeS) = g3 at hg3
      have t3 : g3.turns = ⟨mset g2.turns.owners 0 next, mset g2.turns.wait 0 []⟩ := by rw [← hh3]
      have wl3 : ∀ l, wl g3.turns l = [] := fun l => by
        rw [t3]
        show wl ⟨mset g2.turns.owners 0 next, mset g2.turns.wait 0 []⟩ l = []
        rw [wl_mset]
        by_cases e : l = 0
        · rw [if_pos e]
        · rw [if_neg e]
          have := wl2 l
          rw [if_neg e] at this
          exact this
      have gd3 : Good (m : Int) (2 * i + 1 + 1) g3.turns := by rw [← hm]; exact hg3.turns
      have own3 : mget g3.turns.owners 0 = some next := by rw [t3]; show mget (mset g2.turns.owners 0 next) 0 = _; rw [mget_mset, if_pos rfl]
      have own4 : townerS ⟨mset g2.turns.owners 0 next, mset g2.turns.wait 0 []⟩ 0 = some next := by
        rw [owner_is]
        show some ((mget (mset g2.turns.owners 0 next) 0).getD (-1)) = some next
        rw [mget_mset, if_pos rfl]; rfl
      rw [bif_f (by rfl), show (!decide (next = next)) = false by simp, bif_f rfl, bif_f (by simp), bif_f rfl, bif_f (by rfl), ksame_is w hw60, Option.bind_some, bif_f (by rfl), own4, Option.bind_some, bif_f (by simp), pending_is gd3 (by omega) (by omega), Option.bind_some, ready_nil (fun l => not_ready (.inr (wl3 l)))]
      unfold homeAloneS_j8
      rw [show decide ((0 : Int) < ((([] : List Int).length : Nat) : Int)) = false from rfl, bif_f rfl]
      unfold homeAloneS_j3
      rw [chk_true (by unfold inR; omega)]
      exact hr g3 ⟨by rw [show 2 * (i + 1) = 2 * i + 1 + 1 by omega]; exact hg3, own3, fun l _ => wl3 l, wl3 0⟩
    unfold homeAloneS_j5
    by_cases e : next = o
    · rw [bif_f (by simp [e])]; exact j6
    · rw [bif_t (by simp [e])]
      dsimp only
      rw [unlock_other hc hg1 (p := ⟨2, next, 0, 0, 0, 0, 1, false, []⟩) (by simp [okP]; omega) rfl hn.2 hh0 rfl (by show (mget g1.turns.owners 0).getD (-1) ≠ next; rw [ow1]; exact Ne.symm e), Option.bind_some]
      dsimp only
      rw [bif_f rfl]
      unfold homeAloneS_j9
      rw [bif_f (by rfl)]
      exact j6
  unfold letP
  dsimp only
  by_cases e : (i : Int) < ((values.length : Nat) : Int)
  · rw [bif_t (decide_eq_true e), chk_true ⟨by omega, e⟩, chk_true ⟨by omega, by rw [List.length_replicate]; omega⟩]
    exact j5 _ (by unfold setI; rw [List.length_set, List.length_replicate]; omega)
  · rw [bif_f (decide_eq_false e)]
    exact j5 _ (by rw [List.length_replicate]; omega)
theorem loop (heads values : List Int) : ∀ (d i fuel : Nat) (o : Int) (h : HomeS), i + d = min heads.length 8 → d < fuel → 0 ≤ o ∧ o < c.nodes → AInv c (2 * i) o h → homeAloneS_l1 heads c values homeAloneS_k1 fuel o (i : Int) h = some true := by
  have h1 := hc.nodes
  intro d
  induction d with
  | zero =>
    intro i fuel o h hi hf ho hv
    obtain ⟨f, rfl⟩ : ∃ f, fuel = f + 1 := ⟨fuel - 1, by omega⟩
    rw [homeAloneS_l1]
    dsimp only
    unfold homeAloneS_j2
    by_cases hq : (i : Int) < ((heads.length : Nat) : Int)
    · rw [bif_t (decide_eq_true hq), bif_f (decide_eq_false (by omega))]; exact k1_is hc hm (by omega) hv _
    · rw [bif_f (decide_eq_false hq), bif_f rfl]; exact k1_is hc hm (by omega) hv _
  | succ d ih =>
    intro i fuel o h hi hf ho hv
    obtain ⟨f, rfl⟩ : ∃ f, fuel = f + 1 := ⟨fuel - 1, by omega⟩
    have hq : (i : Int) < ((heads.length : Nat) : Int) := by omega
    obtain ⟨next, e1, n0, n1⟩ := within_is (v := nth heads (i : Int)) (n := c.nodes) (by omega) (by omega)
    rw [homeAloneS_l1]
    dsimp only
    rw [bif_t (decide_eq_true hq)]
    unfold homeAloneS_j2
    rw [bif_t (decide_eq_true (by omega)), chk_true ⟨by omega, hq⟩, e1, Option.bind_some]
    exact step_ok hc hm (by omega) ho hv values next ⟨n0, n1⟩ _ fun h' hv' => by
      rw [show (i : Int) + 1 = ((i + 1 : Nat) : Int) by omega]
      exact ih (i + 1) f next h' (by omega) (by omega) ⟨n0, n1⟩ hv'
end
theorem homeAlone_pure (su : SetupS) (heads values : List Int) : homeAloneS su heads values = some true := by
  obtain ⟨c, e1, hc⟩ := plconfig_is su
  obtain ⟨rows, e2, hg, h00⟩ := hnew_is hc (node := 0) (by omega)
  have h1 := hc.nodes
  have h2 := hc.lines
  obtain ⟨m, hm⟩ : ∃ m : Nat, c.lines = (m : Int) := ⟨c.lines.toNat, by omega⟩
  have h0 : here c 0 0 := ⟨by omega, by omega, by simp⟩
  obtain ⟨r, hr, hr1, hr2⟩ := hg.row hc h0
  obtain ⟨hs, hh⟩ := h00 0 r hr
  have hlock := lock_free hc hg (p := ⟨1, 0, 0, 1, 0, 0, 0, false, []⟩) (by rfl) rfl (by show (0 : Int) < c.nodes; omega) h0 rfl (by simp [own, wl, wget, mget]) hr hr2
  unfold homeAloneS
  rw [e1, Option.bind_some, e2, Option.bind_some, hlock, Option.bind_some]
  dsimp only
  rw [bif_f (by rfl), bif_f (by rfl), bif_f (by rw [hh]; rfl), hs]
  unfold homeAloneS_j0
  rw [bif_f (by rfl)]
  exact loop hc hm heads values (min heads.length 8) 0 64 0 _ (by omega) (by omega) (by omega) ⟨⟨rfl, rfl, rfl, hg.rows, good_own hg.turns 0 0 (by omega)⟩, by show mget (mset ([] : List (Int × Int)) 0 0) 0 = some 0; rfl, fun l _ => rfl, rfl⟩
end Go.Proofs.Ytcigheahollkcaa
