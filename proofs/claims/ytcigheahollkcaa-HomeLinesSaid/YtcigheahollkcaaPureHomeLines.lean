/- The law HomeLines answers true at every input: the plain side. -/
import Derived.Test.YtcigheahollkcaaPureHomeLem
import Derived.Test.YtcigheahollkcaaLawHomeLines
set_option linter.unusedSimpArgs false
set_option linter.unusedVariables false
namespace Go.Proofs.Ytcigheahollkcaa
open Go
theorem wakes11_is : wakes11S = some true := by kernel_rfl
/-- The lines of the list have an owner, and at most one who waits. -/
structure LInv (c : CfgS) (N : Nat) (ls : List Int) (h : HomeS) : Prop where
  good : HGood c 0 N h
  at_ : ∀ l ∈ ls, here c 0 l
  owns : ∀ l ∈ ls, mget h.turns.owners l = some 0
  nots : ∀ l, l ∉ ls → own h.turns l = false
  waits : ∀ l, wl h.turns l = [] ∨ l ∈ ls ∧ wl h.turns l = [(0, 100 + l)]
theorem not_ready {T : TurnsS} {l : Int} (h : own T l = true ∨ wl T l = []) : isReady T l = false := by
  unfold isReady
  rcases h with h | h
  · rw [h]; rfl
  · rw [h]; simp
theorem LInv.unready {c : CfgS} {N : Nat} {ls : List Int} {h : HomeS} (hv : LInv c N ls h) (l : Int) : isReady h.turns l = false := by
  refine not_ready ?_
  rcases hv.waits l with e | ⟨e, _⟩
  · exact .inr e
  · left
    unfold own
    rw [hv.owns l e]; rfl
theorem ready_one {m : Nat} {T : TurnsS} {k : Int} (hk : 0 ≤ k ∧ k < (m : Int)) (h0 : isReady T k = true) (h : ∀ l, l ≠ k → isReady T l = false) : (upto m).filter (isReady T) = [k] := by
  refine eq_of_rising ((upto_rising m).filter _) (List.pairwise_singleton ..) fun a => ?_
  rw [List.mem_filter, upto_mem, List.mem_singleton]
  constructor
  · rintro ⟨_, q⟩
    by_cases e : a = k
    · exact e
    · rw [h a e] at q; cases q
  · rintro rfl
    exact ⟨hk, h0⟩
section
variable {c : CfgS} (hc : CfgOk c) {m : Nat} (hm : c.lines = (m : Int)) (v : Int)
include hc hm
theorem k1_is {N : Nat} (hN : N ≤ 60) {ls : List Int} {h : HomeS} (hv : LInv c N ls h) (xs : List Int) (i : Int) : homeLinesS_k1 xs i h = some true := by
  have h2 := hc.lines
  have hg : Good (m : Int) N h.turns := by rw [← hm]; exact hv.good.turns
  unfold homeLinesS_k1
  rw [pending_is hg (by omega) hN, Option.bind_some, List.filter_eq_nil_iff.2 fun a _ => by rw [hv.unready a]; simp, show decide ((0 : Int) < ((([] : List Int).length : Nat) : Int)) = false from rfl, bif_t (by rfl), wakes11_is]; rfl
theorem step_ok {N : Nat} (hN : N + 1 ≤ 60) {ls : List Int} {h : HomeS} (hv : LInv c N ls h) (c0 : CfgS) (hc0 : c0.words = c.words) {y : Int} (hy : 0 ≤ y ∧ y < ((ls.length : Nat) : Int)) {i : Nat} (hi : i ≤ 20) (xs : List Int) (hx : (xs.length : Int) = c.words) (r : List Int → Int → HomeS → Option Bool)
    (hr : ∀ xs' h', (xs'.length : Int) = c.words → LInv c (N + 1) ls h' → r xs' ((i : Int) + 1) h' = some true) :
    ((townerS h.turns (nth ls y)).bind fun y22_5 => (bif decide (y22_5 = ((-1) : Int)) then homeLinesS_j3 (i : Int) r xs h v ls y c0 true else (twaitingS h.turns (nth ls y)).bind fun y22_13 => homeLinesS_j3 (i : Int) r xs h v ls y c0 (decide (y22_13 = (0 : Int))))) = some true := by
  have h1 := hc.nodes
  have h2 := hc.lines
  have h3 := hc.words
  have hin : nth ls y ∈ ls := by
    unfold nth
    have : y.toNat < ls.length := by omega
    rw [List.getD_eq_getElem?_getD, List.getElem?_eq_getElem this]
    exact List.getElem_mem this
  have hnth : ∀ zs, homeLinesS_j3 (i : Int) r zs h v ls y c0 true = r zs ((i : Int) + 1) h := fun zs => by
    unfold homeLinesS_j3
    rw [bif_t rfl, chk_true (by unfold inR; omega)]
  have hmore : LInv c (N + 1) ls h := ⟨⟨hv.good.cfg, hv.good.nd, hv.good.dcfg, hv.good.rows, good_less hv.good.turns (Nat.le_succ N)⟩, hv.at_, hv.owns, hv.nots, hv.waits⟩
  generalize hk : nth ls y = k at hin
  have hh := hv.at_ k hin
  have how := hv.owns k hin
  rw [owner_is, how, Option.bind_some, bif_f (by rfl), waiting_eq, Option.bind_some]
  rcases hv.waits k with e | ⟨_, e⟩
  · rw [e, show decide (((([] : List (Int × Int)).length : Nat) : Int) = 0) = true from rfl, hnth]
    exact hr xs h hx hmore
  · rw [e, show decide ((([((0 : Int), 100 + k)].length : Nat) : Int) = 0) = false from rfl]
    unfold homeLinesS_j3 letP
    dsimp only
    rw [hk, bif_f rfl, chk_true ⟨by omega, by omega⟩]
    have hw : ((setI xs 0 (wr (v + k))).length : Int) = c.words := by unfold setI; rw [List.length_set]; exact hx
    have hw0 : nth (setI xs 0 (wr (v + k))) 0 = wr (v + k) := by
      have : 0 < xs.length := by omega
      unfold nth setI
      simp [List.getD_eq_getElem?_getD, this]
    generalize setI xs 0 (wr (v + k)) = w at hw hw0
    have hw60 : w.length ≤ 60 := by omega
    have hwn : w ≠ [] := fun e => by rw [e] at hw; simp at hw; omega
    obtain ⟨r0, hr0, hr1, hr2⟩ := hv.good.row hc hh
    have hset := mset_ok (d := h.dir) (line := k) (state := 2) (head := 0) (xs := w) hr0 (by omega) ⟨by omega, by rw [hv.good.dcfg]; omega⟩ (by simp) (.inr (by rw [hv.good.dcfg]; exact hw)) hw60
    have hun := unlock_set hc hv.good (p := ⟨2, 0, 0, 0, k, 0, 2, true, w⟩) (by have := hh.1; have := hh.2.1; simp [okP]; omega) rfl (by show (0 : Int) < c.nodes; omega) hh rfl how (xs := w) rfl hset
    rw [if_pos rfl, if_neg hwn] at hun
    have hrows2 : RowsOk c 0 (mset h.dir.rows k ⟨2, 0, w⟩) := ⟨fun l => by
      rw [mget_mset]
      by_cases e : l = k
      · rw [if_pos e, e]; exact ⟨fun _ => hh, fun _ => rfl⟩
      · rw [if_neg e]; exact hv.good.rows.is l, fun l r' hr' => by
      rw [mget_mset] at hr'
      by_cases e : l = k
      · rw [if_pos e] at hr'; injection hr' with hr'; subst hr'; exact hw
      · rw [if_neg e] at hr'; exact hv.good.rows.words l r' hr'⟩
    have hg2 : HGood c 0 N { h with dir := ⟨h.dir.c, mset h.dir.rows k ⟨2, 0, w⟩⟩, turns := ⟨mdel h.turns.owners k, h.turns.wait⟩ } := ⟨hv.good.cfg, hv.good.nd, hv.good.dcfg, hrows2, good_del hv.good.turns k⟩
    generalize hh2 : ({ h with dir := ⟨h.dir.c, mset h.dir.rows k ⟨2, 0, w⟩⟩, turns := ⟨mdel h.turns.owners k, h.turns.wait⟩ } : HomeS) = g2 at hun hg2
    have t2 : g2.turns = ⟨mdel h.turns.owners k, h.turns.wait⟩ := by rw [← hh2]
    have r2 : mget g2.dir.rows k = some ⟨2, 0, w⟩ := by rw [← hh2]; show mget (mset h.dir.rows k ⟨2, 0, w⟩) k = _; rw [mget_mset, if_pos rfl]
    have wl2 : ∀ l, wl g2.turns l = wl h.turns l := fun l => by rw [t2]; rfl
    have ow2 : ∀ l, own g2.turns l = if l = k then false else own h.turns l := fun l => by
      rw [t2]
      show own ⟨mdel h.turns.owners k, h.turns.wait⟩ l = _
      rw [own_mdel hv.good.turns.nodupo]
    have gd2 : Good (m : Int) N g2.turns := by rw [← hm]; exact hg2.turns
    have hrd := ready_one (m := m) (T := g2.turns) (k := k) ⟨hh.1, by rw [← hm]; exact hh.2.1⟩ (by unfold isReady; rw [ow2, if_pos rfl, wl2, e]; rfl) (fun l q => by
      have := hv.unready l
      unfold isReady at this ⊢
      rw [ow2, if_neg q, wl2]; exact this)
    rw [hun, Option.bind_some]
    dsimp only
    rw [bif_f (by rfl), show (!decide ((0 : Int) = 0)) = false from rfl]
    unfold homeLinesS_j4
    rw [bif_f rfl]
    dsimp only
    rw [grant_first gd2 (by omega) (by omega) hrd (by rw [ow2, if_pos rfl]) (by rw [wl2]; exact e) r2 hw60, Option.bind_some]
    dsimp only
    have hk2 := hh.2.1
    have hk1 := hh.1
    rw [hk, bif_f (by rfl), bif_f (by simp), wr_small (x := 100 + k) (by omega), bif_f (by simp), bif_f (by rfl), bif_f (by rfl), bif_f (by simp [hc0, hw]), chk_true ⟨by omega, by omega⟩, hw0, bif_f (by simp), chk_true (by unfold inR; omega)]
    refine hr w _ hw ⟨⟨hg2.cfg, hg2.nd, hg2.dcfg, hg2.rows, good_own (good_wait hg2.turns ⟨hh.1, hh.2.1⟩ [] (fun q hq => by simp at hq)) k 0 (by omega)⟩, hv.at_, fun l hl => ?_, fun l hl => ?_, fun l => ?_⟩
    · show mget (mset g2.turns.owners k 0) l = some 0
      rw [mget_mset]
      by_cases q : l = k
      · rw [if_pos q]
      · rw [if_neg q, t2]
        show mget (mdel h.turns.owners k) l = some 0
        rw [mget_mdel hv.good.turns.nodupo, if_neg q]
        exact hv.owns l hl
    · have q : l ≠ k := fun q => hl (by rw [q]; exact hin)
      show own ⟨mset g2.turns.owners k 0, mset g2.turns.wait k []⟩ l = false
      rw [own_mset, if_neg q]
      show own ⟨g2.turns.owners, mset g2.turns.wait k []⟩ l = false
      have := ow2 l
      rw [if_neg q, hv.nots l hl] at this
      exact this
    · show wl ⟨mset g2.turns.owners k 0, mset g2.turns.wait k []⟩ l = [] ∨ l ∈ ls ∧ wl ⟨mset g2.turns.owners k 0, mset g2.turns.wait k []⟩ l = [(0, 100 + l)]
      rw [wl_mset]
      by_cases q : l = k
      · rw [if_pos q]; exact .inl rfl
      · rw [if_neg q]
        have := hv.waits l
        rw [← wl2 l] at this
        exact this
theorem loop1 (c0 : CfgS) (hc0 : c0.words = c.words) (order : List Int) {ls : List Int} (hls : ls ≠ []) (hl60 : ls.length ≤ 60) : ∀ (d i fuel : Nat) (xs : List Int) (h : HomeS), i + d = min order.length 10 → d < fuel → (xs.length : Int) = c.words → LInv c (4 + i) ls h → homeLinesS_l1 order ls v c0 homeLinesS_k1 fuel xs (i : Int) h = some true := by
  have hpos : 0 < ls.length := by cases ls with | nil => exact absurd rfl hls | cons a t => simp
  intro d
  induction d with
  | zero =>
    intro i fuel xs h hi hf hx hv
    obtain ⟨f, rfl⟩ : ∃ f, fuel = f + 1 := ⟨fuel - 1, by omega⟩
    rw [homeLinesS_l1]
    dsimp only
    unfold homeLinesS_j2
    by_cases hq : (i : Int) < ((order.length : Nat) : Int)
    · rw [bif_t (decide_eq_true hq), bif_f (decide_eq_false (by omega))]; exact k1_is hc hm (by omega) hv _ _
    · rw [bif_f (decide_eq_false hq), bif_f rfl]; exact k1_is hc hm (by omega) hv _ _
  | succ d ih =>
    intro i fuel xs h hi hf hx hv
    obtain ⟨f, rfl⟩ : ∃ f, fuel = f + 1 := ⟨fuel - 1, by omega⟩
    have hq : (i : Int) < ((order.length : Nat) : Int) := by omega
    obtain ⟨y, e1, n0, n1⟩ := within_is (v := nth order (i : Int)) (n := ((ls.length : Nat) : Int)) (by omega) (by omega)
    rw [homeLinesS_l1]
    dsimp only
    rw [bif_t (decide_eq_true hq)]
    unfold homeLinesS_j2
    rw [bif_t (decide_eq_true (by omega)), chk_true ⟨by omega, hq⟩, e1, Option.bind_some, chk_true ⟨n0, n1⟩]
    exact step_ok hc hm v (by omega) hv c0 hc0 ⟨n0, n1⟩ (by omega) xs hx _ fun xs' h' hx' hv' => by
      rw [show (i : Int) + 1 = ((i + 1 : Nat) : Int) by omega]
      exact ih (i + 1) f xs' h' (by omega) (by omega) hx' hv'
theorem k0_is (c0 : CfgS) (hc0 : c0.words = c.words) (order : List Int) {ls : List Int} (hls : ls ≠ []) (hl : ls.length ≤ 4) {h : HomeS} (hv : LInv c ls.length ls h) (j : Int) : homeLinesS_k0 c0 order v ls j h = some true := by
  have h3 := hc.words
  unfold homeLinesS_k0 letP
  dsimp only
  rw [hc0, chk_true ⟨by omega, by omega⟩]
  exact loop1 hc hm v c0 hc0 order hls (by omega) (min order.length 10) 0 64 _ h (by omega) (by omega) (by rw [List.length_replicate]; omega) ⟨⟨hv.good.cfg, hv.good.nd, hv.good.dcfg, hv.good.rows, good_less hv.good.turns (by omega)⟩, hv.at_, hv.owns, hv.nots, hv.waits⟩
theorem loop0 (c0 : CfgS) (hc0 : c0.words = c.words) (hl0 : c0.lines = c.lines) (order : List Int) (u : Int) (hu : (u = 1 ∨ u = 2) ∧ c.nodes = u) : ∀ (d fuel : Nat) (l : Int) (ls : List Int) (h : HomeS), 0 ≤ l → l ≤ 6 → c.lines - l ≤ d → d < fuel → l % u = 0 → (∀ x ∈ ls, x < l) → ((ls.length : Nat) : Int) ≤ l → ls.length ≤ 4 → (ls ≠ [] ∨ l = 0) → LInv c ls.length ls h →
    homeLinesS_l0 c0 u (homeLinesS_k0 c0 order v) fuel ls l h = some true := by
  have h1 := hc.nodes
  have h2 := hc.lines
  intro d
  induction d with
  | zero =>
    intro fuel l ls h a0 a1 a2 hf a3 a4 a5 a6 a7 hv
    obtain ⟨f, rfl⟩ : ∃ f, fuel = f + 1 := ⟨fuel - 1, by omega⟩
    rw [homeLinesS_l0]
    dsimp only
    rw [hl0, bif_f (decide_eq_false (by omega))]
    exact k0_is hc hm v c0 hc0 order (by
      rcases a7 with q | q
      · exact q
      · omega) a6 hv l
  | succ d ih =>
    intro fuel l ls h a0 a1 a2 hf a3 a4 a5 a6 a7 hv
    obtain ⟨f, rfl⟩ : ∃ f, fuel = f + 1 := ⟨fuel - 1, by omega⟩
    rw [homeLinesS_l0]
    dsimp only
    rw [hl0]
    by_cases hlt : l < c.lines
    · rw [bif_t (decide_eq_true hlt)]
      unfold letP
      dsimp only
      have hh : here c 0 l := ⟨a0, hlt, by rw [hu.2, Int.tmod_eq_emod_of_nonneg a0]; exact a3⟩
      have hnot : l ∉ ls := fun q => by have := a4 l q; omega
      have hown := hv.nots l hnot
      have hwl : wl h.turns l = [] := by
        rcases hv.waits l with e | ⟨e, _⟩
        · exact e
        · exact absurd e hnot
      obtain ⟨r, hr, hr1, hr2⟩ := hv.good.row hc hh
      have hlock := lock_free hc hv.good (p := ⟨1, 0, 0, l, l, 0, 0, false, []⟩) (by simp [okP]; omega) rfl (by show (0 : Int) < c.nodes; omega) hh rfl (by show ¬ (own h.turns l = true ∨ 0 < (wl h.turns l).length); rw [hown, hwl]; simp) hr hr2
      have hg1 : HGood c 0 ls.length { h with turns := ⟨mset h.turns.owners l 0, h.turns.wait⟩ } := ⟨hv.good.cfg, hv.good.nd, hv.good.dcfg, hv.good.rows, good_own hv.good.turns l 0 (by omega)⟩
      have own1 : own (⟨mset h.turns.owners l 0, h.turns.wait⟩ : TurnsS) l = true := by rw [own_mset, if_pos rfl]
      have hlock2 := lock_wait hc hg1 (p := ⟨1, 0, 0, 100 + l, l, 0, 0, false, []⟩) (by simp [okP]; omega) rfl (by show (0 : Int) < c.nodes; omega) hh rfl (.inl own1) (by show (wl h.turns l).length ≤ 1000; rw [hwl]; simp)
      rw [show wl ({ h with turns := ⟨mset h.turns.owners l 0, h.turns.wait⟩ } : HomeS).turns (⟨1, 0, 0, 100 + l, l, 0, 0, false, []⟩ : PktS).line = [] from hwl] at hlock2
      rw [chk_true (by rw [List.length_append, List.length_singleton]; omega), hlock, Option.bind_some]
      dsimp only
      rw [bif_f (by rfl), bif_f (by rfl), bif_f (by simp), show (!decide (l = l)) = false by simp]
      unfold homeLinesS_j5
      dsimp only
      rw [bif_f rfl, chk_true (by unfold inR; omega), hlock2, Option.bind_some]
      dsimp only
      rw [bif_f rfl, show (!decide ((0 : Int) = 0)) = false from rfl]
      unfold homeLinesS_j6
      dsimp only
      rw [bif_f rfl, wr_small (x := l + u) (by omega)]
      refine ih f (l + u) (ls ++ [l]) _ (by omega) ?_ (by omega) (by omega) ?_ (fun x hx => ?_) (by rw [List.length_append, List.length_singleton]; omega) (by rw [List.length_append, List.length_singleton]; omega) (.inl (by simp)) ⟨⟨hv.good.cfg, hv.good.nd, hv.good.dcfg, hv.good.rows, ?_⟩, fun x hx => ?_, fun x hx => ?_, fun x hx => ?_, fun x => ?_⟩
      · omega
      · rcases hu.1 with rfl | rfl <;> omega
      · rw [List.mem_append, List.mem_singleton] at hx
        rcases hx with hx | hx
        · have := a4 x hx; omega
        · omega
      · rw [List.length_append, List.length_singleton]
        exact good_wait hg1.turns ⟨a0, hlt⟩ _ (fun q hq => by simp at hq; rw [hq]; omega)
      · rw [List.mem_append, List.mem_singleton] at hx
        rcases hx with hx | hx
        · exact hv.at_ x hx
        · rw [hx]; exact hh
      · show mget (mset h.turns.owners l 0) x = some 0
        rw [mget_mset]
        by_cases q : x = l
        · rw [if_pos q]
        · rw [if_neg q]
          rw [List.mem_append, List.mem_singleton] at hx
          exact hv.owns x (hx.resolve_right q)
      · rw [List.mem_append, List.mem_singleton] at hx
        have q : x ≠ l := fun q => hx (.inr q)
        have : own (⟨mset h.turns.owners l 0, h.turns.wait⟩ : TurnsS) x = false := by
          rw [own_mset, if_neg q]
          exact hv.nots x fun z => hx (.inl z)
        exact this
      · show wl ⟨mset h.turns.owners l 0, mset h.turns.wait l ([] ++ [(0, 100 + l)])⟩ x = [] ∨ x ∈ ls ++ [l] ∧ wl ⟨mset h.turns.owners l 0, mset h.turns.wait l ([] ++ [(0, 100 + l)])⟩ x = [(0, 100 + x)]
        rw [wl_mset]
        by_cases q : x = l
        · rw [if_pos q]; exact .inr ⟨by rw [q]; simp, by rw [q]; rfl⟩
        · rw [if_neg q]
          rcases hv.waits x with z | ⟨z1, z2⟩
          · exact .inl z
          · exact .inr ⟨List.mem_append.2 (.inl z1), z2⟩
    · rw [bif_f (decide_eq_false hlt)]
      exact k0_is hc hm v c0 hc0 order (by
        rcases a7 with q | q
        · exact q
        · omega) a6 hv l
end
theorem homeLines_pure (su : SetupS) (order : List Int) (v : Int) : homeLinesS su order v = some true := by
  obtain ⟨c0, e1, hc0⟩ := plconfig_is su
  have h1 := hc0.nodes
  have h2 := hc0.lines
  unfold homeLinesS letP
  dsimp only
  have hu : wr (1 + c0.nodes.tmod 2) = 1 ∨ wr (1 + c0.nodes.tmod 2) = 2 := by
    rw [Int.tmod_eq_emod_of_nonneg (by omega), wr_small (by omega)]; omega
  rw [e1, Option.bind_some]
  generalize wr (1 + c0.nodes.tmod 2) = u at hu
  have hc : CfgOk ⟨u, c0.lines, c0.words, c0.sets, c0.ways, c0.out, c0.inn, c0.init⟩ := ⟨by show 1 ≤ u ∧ u ≤ 4; omega, hc0.lines, hc0.words, hc0.init⟩
  obtain ⟨rows, e2, hg, h00⟩ := hnew_is hc (node := 0) (by omega)
  obtain ⟨m, hm⟩ : ∃ m : Nat, c0.lines = (m : Int) := ⟨c0.lines.toNat, by omega⟩
  rw [e2, Option.bind_some]
  exact loop0 hc (m := m) hm v c0 rfl rfl order u ⟨hu, rfl⟩ 4 64 0 [] _ (by omega) (by omega) (by show c0.lines - 0 ≤ 4; omega) (by omega) (by simp) (fun x hx => by simp at hx) (by simp) (by simp) (.inr rfl) ⟨hg, fun l hl => by simp at hl, fun l hl => by simp at hl, fun l _ => rfl, fun l => .inl rfl⟩
end Go.Proofs.Ytcigheahollkcaa
