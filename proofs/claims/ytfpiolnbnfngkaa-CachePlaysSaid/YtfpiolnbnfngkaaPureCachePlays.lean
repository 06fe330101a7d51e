/- The law CachePlays answers true at every input: the plain side. -/
import Derived.Test.YtfpiolnbnfngkaaPureCacheLem2
import Derived.Test.YtfpiolnbnfngkaaLawCachePlays
set_option linter.unusedSimpArgs false
set_option linter.unusedVariables false
namespace Go.Proofs.Ytfpiolnbnfngkaa
open Go
theorem wakes8_is : wakes8S = some true := by kernel_rfl
section
variable (r : Int → CacheS → CacheS → Option Bool) (i : Nat)
theorem j105_is {N : Nat} {c q : CacheS} (h : CSim N c q) (hN : N ≤ 59) (hi : i ≤ 40) (line : Int) (hr : r ((i + 1 : Nat) : Int) q c = some true) : cachePlaysS_j105 line (i : Int) r q c = some true := by
  have q5 : inR ((i : Int) + 1) := by unfold inR; omega
  have hr : r ((i : Int) + 1) q c = some true := by rw [show (i : Int) + 1 = ((i + 1 : Nat) : Int) by omega]; exact hr
  obtain ⟨b, f1, f2⟩ := h.full (by omega) line
  have fin : ((sameCS c q).bind fun y => (bif !y then some false else chk (inR ((i : Int) + 1)) (r ((i : Int) + 1) q c))) = some true := by
    rw [h.same (by omega), Option.bind_some, bif_f (by simp), chk_true q5, hr]
  unfold cachePlaysS_j105
  rcases h.victim (by omega) line with ⟨v1, v2⟩ | ⟨m, hm, v1, v2⟩
  · rw [v1, Option.bind_some, v2, Option.bind_some, f1, Option.bind_some, f2, Option.bind_some]
    dsimp only
    rw [bif_f (by simp), bif_f (by simp), bif_f (by simp), bif_t (by simp), bif_f (by simp)]
    exact fin
  · have hp := h.good.pos m hm
    rw [v1, Option.bind_some, v2, Option.bind_some, f1, Option.bind_some, f2, Option.bind_some]
    dsimp only
    rw [bif_f (by simp), bif_f (by simp [hp]), bif_t (by simp), bif_f (by simp), bif_f (by simp)]
    exact fin
theorem l107_is (k : Int → Int → List Int → Option Bool) (hk : ∀ a b c, k a b c = some true) (n : Nat) (hn : n ≤ 60) : ∀ (d j fuel : Nat) (xs : List Int), xs.length = n → j + d = n → d < fuel → cachePlaysS_l107 k fuel (n : Int) (j : Int) xs = some true := by
  intro d
  induction d with
  | zero =>
    intro j fuel xs hx hj hf
    obtain ⟨f, rfl⟩ : ∃ f, fuel = f + 1 := ⟨fuel - 1, by omega⟩
    rw [cachePlaysS_l107]
    dsimp only
    rw [bif_f (decide_eq_false (by omega))]; exact hk _ _ _
  | succ d ih =>
    intro j fuel xs hx hj hf
    obtain ⟨f, rfl⟩ : ∃ f, fuel = f + 1 := ⟨fuel - 1, by omega⟩
    have q5 : inR ((j : Int) + 1) := by unfold inR; omega
    rw [cachePlaysS_l107]
    dsimp only [letP]
    rw [bif_t (decide_eq_true (by omega)), chk_true ⟨by omega, by omega⟩, chk_true ⟨by omega, by omega⟩, chk_true q5]
    have := ih (j + 1) f (setI xs (j : Int) (xorI (nth xs (j : Int)) 1)) (by unfold setI; rw [List.length_set]; exact hx) (by omega) (by omega)
    rw [show ((j + 1 : Nat) : Int) = (j : Int) + 1 by omega] at this
    exact this
theorem l110_is (k : Int → Int → List Int → Option Bool) (hk : ∀ a b c, k a b c = some true) (n : Nat) (hn : n ≤ 60) : ∀ (d j fuel : Nat) (xs : List Int), xs.length = n → j + d = n → d < fuel → cachePlaysS_l110 k fuel (n : Int) (j : Int) xs = some true := by
  intro d
  induction d with
  | zero =>
    intro j fuel xs hx hj hf
    obtain ⟨f, rfl⟩ : ∃ f, fuel = f + 1 := ⟨fuel - 1, by omega⟩
    rw [cachePlaysS_l110]
    dsimp only
    rw [bif_f (decide_eq_false (by omega))]; exact hk _ _ _
  | succ d ih =>
    intro j fuel xs hx hj hf
    obtain ⟨f, rfl⟩ : ∃ f, fuel = f + 1 := ⟨fuel - 1, by omega⟩
    have q5 : inR ((j : Int) + 1) := by unfold inR; omega
    rw [cachePlaysS_l110]
    dsimp only [letP]
    rw [bif_t (decide_eq_true (by omega)), chk_true ⟨by omega, by omega⟩, chk_true ⟨by omega, by omega⟩, chk_true q5]
    have := ih (j + 1) f (setI xs (j : Int) (xorI (nth xs (j : Int)) 1)) (by unfold setI; rw [List.length_set]; exact hx) (by omega) (by omega)
    rw [show ((j + 1 : Nat) : Int) = (j : Int) + 1 by omega] at this
    exact this
variable {c q : CacheS} (h : CSim i c q) (hi : i ≤ 30) (hr : ∀ c' q', CSim (i + 1) c' q' → r ((i + 1 : Nat) : Int) q' c' = some true)
include h hi hr
theorem act_ok (x : ActC) (line : Int) : cachePlaysS_j84 x c q (i : Int) r line = some true := by
  obtain ⟨what, e1, w1, w2⟩ := within_is (v := x.act) (n := 8) (by omega) (by omega)
  have hm := h.more (Nat.le_succ i)
  have put : cachePlaysS_j106 x line c q (i : Int) r what true = some true := by
    obtain ⟨ys, c1, c2⟩ := cut_is x.data (n := 4) (by omega) (by omega)
    obtain ⟨r', c', q', p1, p2, p3⟩ := h.put (by omega) ⟨x.fwd, x.back, line, x.fwd, x.dirty, ys⟩ (by show ys.length ≤ 60; omega)
    unfold cachePlaysS_j106
    rw [bif_t rfl, c1, Option.bind_some, enew_is _ _ _ _ _ (by omega), Option.bind_some]
    dsimp only
    rw [p1, Option.bind_some, p2, Option.bind_some]
    dsimp only
    rw [bif_f (by simp)]
    exact l107_is _ (fun _ _ _ => by unfold cachePlaysS_k107; exact j105_is r i p3 (by omega) (by omega) line (hr _ _ p3)) ys.length (by omega) ys.length 0 64 ys rfl (by omega) (by omega)
  have touch : cachePlaysS_j108 c line q (i : Int) r true = some true := by
    have hm2 := h.good.hclock
    obtain ⟨b, c', q', p1, p2, p3⟩ := hm.touch (by omega) line (by omega)
    unfold cachePlaysS_j108
    rw [bif_t rfl, p1, Option.bind_some, p2, Option.bind_some]
    dsimp only
    rw [bif_f (by simp)]
    exact j105_is r i p3 (by omega) (by omega) line (hr _ _ p3)
  have find : cachePlaysS_j108 c line q (i : Int) r false = some true := by
    obtain ⟨e, b, p1, p2, p3, p4⟩ := h.find (by omega) line
    have go : e.data.length ≤ 60 → cachePlaysS_j109 line (i : Int) r q c (e, b) = some true := fun hd => by
      unfold cachePlaysS_j109
      exact l110_is _ (fun _ _ _ => by unfold cachePlaysS_k110; exact j105_is r i hm (by omega) (by omega) line (hr _ _ hm)) e.data.length (by omega) e.data.length 0 64 e.data rfl (by omega) (by omega)
    unfold cachePlaysS_j108
    rw [bif_f rfl, p1, Option.bind_some, p2, Option.bind_some]
    dsimp only
    cases b with
    | false =>
      obtain ⟨rfl, k2⟩ := p3 rfl
      rw [k2, bif_f (by simp), bif_t (by simp), bif_f (by simp [zeroE]), bif_f (by simp [zeroE])]
      exact go (by simp [zeroE])
    | true =>
      obtain ⟨k1, _, k3, _⟩ := p4 rfl
      rw [bif_f (by simp [k3]), bif_f (by simp)]
      exact go (h.good.data e k1)
  have drop : ∀ b, b = false → cachePlaysS_j106 x line c q (i : Int) r 4 b = some true := by
    rintro _ rfl
    obtain ⟨e, b, c', q', p1, p2, p3, p4⟩ := h.drop (by omega) line
    have p3m := p3.more (Nat.le_succ i)
    have fin := j105_is r i p3m (by omega) (by omega) line (hr _ _ p3m)
    unfold cachePlaysS_j106
    rw [bif_f rfl, bif_t (by simp), p1, Option.bind_some, p2, Option.bind_some]
    dsimp only
    rw [bif_f (by simp)]
    cases b with
    | false =>
      rw [p4 rfl, bif_f rfl, bif_t (by simp), bif_f (by simp [zeroE]), bif_f (by simp [zeroE])]
      exact fin
    | true =>
      obtain ⟨e2, b2, g1, _, g3, g4⟩ := h.find (by omega) line
      have hd : e.data.length ≤ 60 := by
        have ok := h.good.ok (by omega)
        unfold dropS at p1
        unfold findS at g1
        rw [chk_true ok] at p1 g1
        simp only [Option.some.injEq, Prod.mk.injEq] at p1
        have : (e2, b2) = (e, true) := by
          have k := Option.some.inj g1
          rw [← k]
          exact Prod.ext p1.1 p1.2.1
        simp only [Prod.mk.injEq] at this
        obtain ⟨rfl, rfl⟩ := this
        exact h.good.data _ (g4 rfl).1
      rw [bif_t rfl, same_ent e hd, Option.bind_some, bif_f (by simp), bif_f (by simp)]
      exact fin
  have oth : cachePlaysS_j106 x line c q (i : Int) r what false = some true := by
    by_cases c1 : what = 4
    · subst c1; exact drop _ rfl
    · unfold cachePlaysS_j106
      rw [bif_f rfl, bif_f (decide_eq_false c1)]
      by_cases c2 : what = 5
      · rw [bif_t (decide_eq_true c2), decide_eq_true c2]; exact touch
      · rw [bif_f (decide_eq_false c2)]
        by_cases c3 : what = 6
        · rw [decide_eq_true c3]; exact touch
        · rw [decide_eq_false c3]; exact find
  unfold cachePlaysS_j84
  rw [e1, Option.bind_some]
  by_cases c1 : what = 0
  · rw [bif_t (decide_eq_true c1), decide_eq_true c1]; exact put
  · rw [bif_f (decide_eq_false c1)]
    by_cases c2 : what = 1
    · rw [bif_t (decide_eq_true c2), decide_eq_true c2]; exact put
    · rw [bif_f (decide_eq_false c2)]
      by_cases c3 : what = 2
      · rw [bif_t (decide_eq_true c3), decide_eq_true c3]; exact put
      · rw [bif_f (decide_eq_false c3)]
        by_cases c4 : what = 3
        · rw [decide_eq_true c4]; exact put
        · rw [decide_eq_false c4]; exact oth
end
theorem loop2 (l : List ActC) (k2 : Int → CacheS → CacheS → Option Bool) (hk : ∀ i q c, k2 i q c = some true) :
    ∀ (d i fuel : Nat) (c q : CacheS), i + d = min l.length 24 → d < fuel → CSim i c q → cachePlaysS_l2 l k2 fuel (i : Int) q c = some true := by
  intro d
  induction d with
  | zero =>
    intro i fuel c q hi hf h
    obtain ⟨f, rfl⟩ : ∃ f, fuel = f + 1 := ⟨fuel - 1, by omega⟩
    rw [cachePlaysS_l2]
    dsimp only
    by_cases hq : (i : Int) < ((l.length : Nat) : Int)
    · rw [bif_t (decide_eq_true hq)]
      unfold cachePlaysS_j83
      rw [bif_f (decide_eq_false (by omega))]; exact hk _ _ _
    · rw [bif_f (decide_eq_false hq)]
      unfold cachePlaysS_j83
      rw [bif_f rfl]; exact hk _ _ _
  | succ d ih =>
    intro i fuel c q hi hf h
    obtain ⟨f, rfl⟩ : ∃ f, fuel = f + 1 := ⟨fuel - 1, by omega⟩
    have hq : (i : Int) < ((l.length : Nat) : Int) := by omega
    have hr : ∀ c' q', CSim (i + 1) c' q' → cachePlaysS_l2 l k2 f ((i + 1 : Nat) : Int) q' c' = some true := fun c' q' h' => ih (i + 1) f c' q' (by omega) (by omega) h'
    rw [cachePlaysS_l2]
    dsimp only
    rw [bif_t (decide_eq_true hq)]
    unfold cachePlaysS_j83
    dsimp only [letP]
    obtain ⟨k, e1, _, _⟩ := within_is (v := (nthT l (i : Int)).line) (n := 9) (by omega) (by omega)
    rw [bif_t (decide_eq_true (by omega)), chk_true ⟨by omega, hq⟩, e1, Option.bind_some]
    by_cases c1 : (nthT l (i : Int)).line.tmod 17 = 16
    · rw [bif_t (decide_eq_true c1)]
      exact act_ok _ i h (by omega) hr _ _
    · rw [bif_f (decide_eq_false c1)]
      exact act_ok _ i h (by omega) hr _ _
theorem j1_ok (l : List ActC) (sets ways : Int) : cachePlaysS_j1 sets l ways = some true := by
  unfold cachePlaysS_j1 letP
  dsimp only
  obtain ⟨q, e1, e2⟩ := CSim.new (sets := if 20 < sets then 20 else sets) (ways := if 20 < ways then 20 else ways) (by split <;> omega) (by split <;> omega)
  rw [e1, Option.bind_some]
  exact loop2 l _ (fun _ _ _ => by unfold cachePlaysS_k2; rw [wakes8_is]; rfl) (min l.length 24) 0 64 _ _ (by omega) (by omega) e2
theorem j0_ok (l : List ActC) (sets ways : Int) : cachePlaysS_j0 ways l sets = some true := by
  unfold cachePlaysS_j0
  obtain ⟨k, e1, _, _⟩ := within_is (v := ways) (n := 4) (by omega) (by omega)
  by_cases c1 : ways.tmod 9 = 8
  · rw [bif_f (by simp [c1])]; exact j1_ok _ _ _
  · rw [bif_t (by simp [c1]), e1, Option.bind_some]; exact j1_ok _ _ _
theorem cachePlays_pure (sets ways : Int) (l : List ActC) : cachePlaysS sets ways l = some true := by
  unfold cachePlaysS
  obtain ⟨k, e1, _, _⟩ := within_is (v := sets) (n := 4) (by omega) (by omega)
  by_cases c1 : sets.tmod 9 = 8
  · rw [bif_f (by simp [c1])]; exact j0_ok _ _ _
  · rw [bif_t (by simp [c1]), e1, Option.bind_some]; exact j0_ok _ _ _
end Go.Proofs.Ytfpiolnbnfngkaa
