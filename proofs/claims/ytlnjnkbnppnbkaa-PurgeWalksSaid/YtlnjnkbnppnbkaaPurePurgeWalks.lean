/- The law PurgeWalks answers true at every input: the plain side. -/
import Derived.Test.YtlnjnkbnppnbkaaLawPurgeWalks
import Derived.Test.YtlnjnkbnppnbkaaPureC15
import Derived.Test.YtlnjnkbnppnbkaaKsA

set_option linter.unusedSimpArgs false
set_option linter.unusedVariables false
namespace Go.Proofs.Ytlnjnkbnppnbkaa
open Go
theorem bif_t {α : Type} {c : Bool} {x y : α} (h : c = true) : (bif c then x else y) = x := by subst h; rfl
theorem bif_f {α : Type} {c : Bool} {x y : α} (h : c = false) : (bif c then x else y) = y := by subst h; rfl
/-- A list of unlike nodes. -/
def good (l : List Int) : Prop := l.Nodup ∧ ∀ x ∈ l, 0 ≤ x ∧ x < 6
theorem good_len {l : List Int} (h : good l) : l.length ≤ 6 := by
  have h1 : l.length ≤ ([0, 1, 2, 3, 4, 5] : List Int).length := by
    apply List.Nodup.length_le_of_subset h.1
    intro x hx
    have := h.2 x hx
    have : x = 0 ∨ x = 1 ∨ x = 2 ∨ x = 3 ∨ x = 4 ∨ x = 5 := by omega
    simpa using this
  simpa using h1
theorem nth_at {l : List Int} {i : Nat} (h : i < l.length) : nth l (i : Int) = l[i] := by simp [nth, h]
theorem nth_mem {l : List Int} {i : Nat} (h : i < l.length) : nth l (i : Int) ∈ l := by rw [nth_at h]; exact List.getElem_mem h
theorem l1_is (acc : List Int) (y : Int) (k : Bool → Int → Option Bool) (hacc : acc.length ≤ 6) : ∀ (d i : Nat) (b : Bool) (fuel : Nat), i + d = acc.length → d < fuel →
    purgeWalksS_l1 acc y k fuel b (i : Int) = k (b || decide (y ∈ acc.drop i)) ((acc.length : Nat) : Int) := by
  intro d
  induction d with
  | zero =>
    intro i b fuel hi hf
    obtain ⟨m, rfl⟩ : ∃ m, fuel = m + 1 := ⟨fuel - 1, by omega⟩
    rw [purgeWalksS_l1]
    have h1 : ¬ (i : Int) < ((acc.length : Nat) : Int) := by omega
    simp only [h1, decide_false, cond_false]
    rw [List.drop_eq_nil_of_le (by omega)]
    rw [show (i : Int) = ((acc.length : Nat) : Int) by omega]; simp
  | succ d ih =>
    intro i b fuel hi hf
    obtain ⟨m, rfl⟩ : ∃ m, fuel = m + 1 := ⟨fuel - 1, by omega⟩
    rw [purgeWalksS_l1]
    have h1 : (i : Int) < ((acc.length : Nat) : Int) := by omega
    have h5 : (0 : Int) ≤ (i : Int) := by omega
    have h4 : inR ((i : Int) + 1) := by unfold inR; omega
    have h6 := ih (i + 1) (b || decide (y = nth acc (i : Int))) m (by omega) (by omega)
    rw [show ((i + 1 : Nat) : Int) = (i : Int) + 1 by omega] at h6
    have h7 : decide (y ∈ acc.drop i) = (decide (y = nth acc (i : Int)) || decide (y ∈ acc.drop (i + 1))) := by
      rw [nth_drop (xs := acc) (i := i) (by omega)]
      by_cases h : y = nth acc (i : Int) <;> simp [h]
    rw [h7]
    cases b with
    | true =>
      simp only [Bool.true_or] at h6
      simp [h1, h5, chk, purgeWalksS_j12, h4, h6]
    | false =>
      have h8 : decide (nth acc (i : Int) = y) = decide (y = nth acc (i : Int)) := by simp [eq_comm]
      simp only [Bool.false_or] at h6
      simp [h1, h5, chk, purgeWalksS_j12, h4, h8, h6]
theorem l0_ok (order : List Int) (k : List Int → Int → Option Bool) (hk : ∀ l j, good l → k l j = some true) (hlen : order.length ≤ 9223372036854775807) : ∀ (d i : Nat) (acc : List Int) (fuel : Nat), i + d = order.length → d < fuel → good acc →
    purgeWalksS_l0 order k fuel acc (i : Int) = some true := by
  intro d
  induction d with
  | zero =>
    intro i acc fuel hi hf hg
    obtain ⟨m, rfl⟩ : ∃ m, fuel = m + 1 := ⟨fuel - 1, by omega⟩
    rw [purgeWalksS_l0]
    have h1 : ¬ (i : Int) < ((order.length : Nat) : Int) := by omega
    simp only [h1, decide_false, cond_false]
    exact hk _ _ hg
  | succ d ih =>
    intro i acc fuel hi hf hg
    obtain ⟨m, rfl⟩ : ∃ m, fuel = m + 1 := ⟨fuel - 1, by omega⟩
    have h1 : (i : Int) < ((order.length : Nat) : Int) := by omega
    have h5 : (0 : Int) ≤ (i : Int) := by omega
    have h4 : inR ((i : Int) + 1) := by unfold inR; omega
    obtain ⟨x, hx, hw⟩ : ∃ x, (0 ≤ x ∧ x < 6) ∧ withinS (nth order (i : Int)) 6 = some x := ⟨nth order (i : Int) % 6, by omega, by simp [withinS, chk]⟩
    have h6 := l1_is acc x (purgeWalksS_k1 x acc (i : Int) (purgeWalksS_l0 order k m)) (good_len hg) acc.length 0 false 64 (by omega) (by have := good_len hg; omega)
    simp only [Int.natCast_zero, List.drop_zero, Bool.false_or] at h6
    have h10 := good_len hg
    have hstep : purgeWalksS_l0 order k (m + 1) acc (i : Int) = purgeWalksS_l1 acc x (purgeWalksS_k1 x acc (i : Int) (purgeWalksS_l0 order k m)) 64 false 0 := by
      rw [purgeWalksS_l0]; dsimp only; rw [bif_t (decide_eq_true h1), chk_true ⟨h5, h1⟩, hw, Option.bind_some]
    rw [hstep, h6]
    by_cases hm : x ∈ acc
    · have := ih (i + 1) acc m (by omega) (by omega) hg
      rw [show ((i + 1 : Nat) : Int) = (i : Int) + 1 by omega] at this
      simp [purgeWalksS_k1, hm, purgeWalksS_j11, chk, h4, this]
    · have hg2 : good (acc ++ [x]) := by
        refine ⟨?_, ?_⟩
        · rw [List.nodup_append]
          refine ⟨hg.1, by simp, ?_⟩
          intro a ha b hb
          simp only [List.mem_singleton] at hb
          subst hb
          rintro rfl
          exact hm ha
        · intro z hz
          rcases List.mem_append.1 hz with hz | hz
          · exact hg.2 z hz
          · simp only [List.mem_singleton] at hz; subst hz; exact hx
      have := ih (i + 1) (acc ++ [x]) m (by omega) (by omega) hg2
      rw [show ((i + 1 : Nat) : Int) = (i : Int) + 1 by omega] at this
      have h11 : (acc ++ [x]).length ≤ 1099511627776 := by
        rw [List.length_append]
        have : [x].length = 1 := rfl
        omega
      have hne : (!decide (x ∈ acc)) = true := by simp [hm]
      unfold purgeWalksS_k1 letP
      dsimp only
      rw [bif_t hne, chk_true h11]
      unfold purgeWalksS_j11
      rw [chk_true h4]
      exact this
theorem six {e : List Int} (h : e.length = 6) : ([nth e 0, nth e 1, nth e 2, nth e 3, nth e 4, nth e 5] : List Int) = e := by
  match e, h with
  | [a, b, c, d, e, f], _ => rfl
theorem nth_setI {f : List Int} {a b v : Int} (ha : 0 ≤ a ∧ a < (f.length : Int)) (hb : 0 ≤ b) : nth (setI f a v) b = if a = b then v else nth f b := by
  have h1 := idx_nat ha
  unfold nth setI
  by_cases h : a = b
  · subst h; simp [h1]
  · have : a.toNat ≠ b.toNat := by omega
    simp [h, List.getD_eq_getElem?_getD, List.getElem?_set_ne this]
theorem nodup_at {l : List Int} (h : l.Nodup) {i j : Nat} (hi : i < l.length) (hj : j < l.length) (he : l[i] = l[j]) : i = j := by
  have h2 := List.pairwise_iff_getElem.1 h
  rcases Nat.lt_trichotomy i j with h3 | h3 | h3
  · exact absurd he (h2 i j hi hj h3)
  · exact h3
  · exact absurd he.symm (h2 j i hj hi h3)
theorem mem_take {l : List Int} {i : Nat} {x : Int} (h : x ∈ l.take i) : ∃ j, ∃ hj : j < l.length, j < i ∧ l[j] = x := by
  obtain ⟨j, hj, he⟩ := List.mem_iff_getElem.1 h
  simp only [List.length_take] at hj
  rw [List.getElem_take] at he
  exact ⟨j, by omega, by omega, he⟩
theorem not_take {l : List Int} (h : l.Nodup) {i : Nat} (hi : i < l.length) : l[i] ∉ l.take i := by
  intro hm
  obtain ⟨j, hj, hji, he⟩ := mem_take hm
  have := nodup_at h hj hi he
  omega
theorem take_mem {l : List Int} {i : Nat} (hi : i < l.length) {x : Int} : x ∈ l.take (i + 1) ↔ x ∈ l.take i ∨ x = l[i] := by
  rw [List.take_add_one, List.getElem?_eq_getElem hi, List.mem_append]; simp only [Option.toList_some, List.mem_singleton]
def Inv (l : List Int) (i : Nat) (f : List Int) : Prop := f.length = 6 ∧ (∀ j, ∀ hj : j + 1 < l.length, j < i → nth f l[j] = l[j + 1]) ∧ ∀ x, 0 ≤ x → x < 6 → x ∉ l.take i → nth f x = -1
def Behind (l f : List Int) : Prop := f.length = 6 ∧ ∀ i, ∀ hi : i < l.length, nth f l[i] = l.getD (i + 1) (-1)
theorem Inv.behind {l f : List Int} {i : Nat} (hg : good l) (h : Inv l i f) (hi : l.length ≤ i + 1) (hil : i = 0 ∨ i < l.length) : Behind l f := by
  refine ⟨h.1, fun j hj => ?_⟩
  by_cases hjl : j + 1 < l.length
  · rw [h.2.1 j hjl (by omega)]; simp [hjl]
  · have h2 := hg.2 _ (List.getElem_mem hj)
    rw [h.2.2 _ h2.1 h2.2 ?_]
    · simp [hjl]
    · intro hm
      obtain ⟨q, hq, hqi, he⟩ := mem_take hm
      have := nodup_at hg.1 hq hj he
      omega
theorem behind_loop (l : List Int) (hg : good l) (k : Int → List Int → Option (List Int)) : ∀ (d i : Nat) (f : List Int) (fuel : Nat), i + d = l.length → d < fuel → (i = 0 ∨ i < l.length) → Inv l i f →
    ∃ f' j, behindS_l0 l k fuel (i : Int) f = k j f' ∧ Behind l f' := by
  intro d
  have hl6 := good_len hg
  induction d with
  | zero =>
    intro i f fuel hi hf h0i hv
    obtain ⟨m, rfl⟩ : ∃ m, fuel = m + 1 := ⟨fuel - 1, by omega⟩
    refine ⟨f, i, ?_, hv.behind hg (by omega) h0i⟩
    have h4 : inR ((i : Int) + 1) := by unfold inR; omega
    have h1 : ¬ (i : Int) + 1 < ((l.length : Nat) : Int) := by omega
    rw [behindS_l0]; dsimp only; rw [chk_true h4, bif_f (decide_eq_false h1)]
  | succ d ih =>
    intro i f fuel hi hf h0i hv
    obtain ⟨m, rfl⟩ : ∃ m, fuel = m + 1 := ⟨fuel - 1, by omega⟩
    have h4 : inR ((i : Int) + 1) := by unfold inR; omega
    by_cases hlt : i + 1 < l.length
    · have hil : i < l.length := by omega
      have hx := hg.2 _ (List.getElem_mem hil)
      have hv2 : Inv l (i + 1) (setI f l[i] l[i + 1]) := by
        refine ⟨by simp [setI, hv.1], ?_, ?_⟩
        · intro j hj hji
          have hy := hg.2 _ (List.getElem_mem (show j < l.length by omega))
          rw [nth_setI (by rw [hv.1]; omega) hy.1]
          by_cases he : l[i] = l[j]
          · have := nodup_at hg.1 hil (by omega) he
            subst this
            rw [if_pos he]
          · rw [if_neg he]
            refine hv.2.1 j hj ?_
            rcases Nat.lt_or_ge j i with h | h
            · exact h
            · obtain rfl : j = i := by omega
              exact absurd rfl he
        · intro x h0 h6 hx2
          rw [take_mem hil] at hx2
          rw [nth_setI (by rw [hv.1]; omega) h0, if_neg (fun e => hx2 (.inr e.symm))]
          exact hv.2.2 x h0 h6 fun h => hx2 (.inl h)
      obtain ⟨f', j, h1, h2⟩ := ih (i + 1) (setI f l[i] l[i + 1]) m (by omega) (by omega) (.inr hlt) hv2
      refine ⟨f', j, ?_, h2⟩
      have e1 : nth l (i : Int) = l[i] := nth_at hil
      have e2 : nth l ((i : Int) + 1) = l[i + 1] := by
        have := nth_at hlt
        rwa [show ((i + 1 : Nat) : Int) = (i : Int) + 1 by omega] at this
      have g1 : (i : Int) + 1 < ((l.length : Nat) : Int) := by omega
      have g2 : (0 : Int) ≤ (i : Int) := by omega
      have g3 : (i : Int) < ((l.length : Nat) : Int) := by omega
      have g4 : (0 : Int) ≤ (i : Int) + 1 := by omega
      have g5 : l[i] < ((f.length : Nat) : Int) := by rw [hv.1]; omega
      rw [show ((i + 1 : Nat) : Int) = (i : Int) + 1 by omega] at h1
      rw [behindS_l0]; dsimp only; rw [chk_true h4, bif_t (decide_eq_true g1), chk_true ⟨g2, g3⟩, chk_true h4, chk_true ⟨g4, g1⟩, e1, e2, chk_true ⟨⟨hx.1, hx.2⟩, hx.1, g5⟩]
      unfold letP
      dsimp only
      rw [chk_true h4]
      exact h1
    · refine ⟨f, i, ?_, hv.behind hg (by omega) h0i⟩
      have h1 : ¬ (i : Int) + 1 < ((l.length : Nat) : Int) := by omega
      rw [behindS_l0]; dsimp only; rw [chk_true h4, bif_f (decide_eq_false h1)]
theorem behind_is (l : List Int) (hg : good l) : ∃ f, behindS l = some f ∧ Behind l f := by
  have hv : Inv l 0 [-1, -1, -1, -1, -1, -1] := by
    refine ⟨rfl, fun j hj h => absurd h (Nat.not_lt_zero _), fun x h0 h6 _ => ?_⟩
    have : x = 0 ∨ x = 1 ∨ x = 2 ∨ x = 3 ∨ x = 4 ∨ x = 5 := by omega
    rcases this with rfl | rfl | rfl | rfl | rfl | rfl <;> rfl
  obtain ⟨f, j, h1, h2⟩ := behind_loop l hg behindS_k0 l.length 0 _ 64 (by omega) (by have := good_len hg; omega) (.inl rfl) hv
  refine ⟨f, ?_, h2⟩
  unfold behindS
  simp only [Int.natCast_zero] at h1
  rw [h1]
  unfold behindS_k0
  rw [chk_true h2.1, six h2.1, chk_true h2.1]

/-- The cache, once the node's own entry is there. -/
def ownC (l : List Int) (node : Int) (f : List Int) (data b : Int) : CacheS := if node ∈ l then ⟨[⟨nth f node, b, 1, 1, false, [data]⟩], 2, 2, 1⟩ else ⟨[], 2, 2, 0⟩
def partC (l : List Int) (i : Nat) (node : Int) (f : List Int) (data b : Int) : CacheS := ownC (l.take i) node f data b
theorem l4_ok (l : List Int) (hg : good l) (node data : Int) (f : List Int) (hb : Behind l f) (k : Int → CacheS → Option Bool) (hk : ∀ b j, k j (ownC l node f data b) = some true) :
    ∀ (d i : Nat) (b : Int) (fuel : Nat), i + d = l.length → d < fuel → purgeWalksS_l4 l node f data k fuel (i : Int) (partC l i node f data b) = some true := by
  intro d
  have hl6 := good_len hg
  induction d with
  | zero =>
    intro i b fuel hi hf
    obtain ⟨m, rfl⟩ : ∃ m, fuel = m + 1 := ⟨fuel - 1, by omega⟩
    have h1 : ¬ (i : Int) < ((l.length : Nat) : Int) := by omega
    rw [purgeWalksS_l4]
    dsimp only
    rw [bif_f (decide_eq_false h1)]
    have : partC l i node f data b = ownC l node f data b := by unfold partC; rw [List.take_of_length_le (by omega)]
    rw [this]
    exact hk _ _
  | succ d ih =>
    intro i b fuel hi hf
    obtain ⟨m, rfl⟩ : ∃ m, fuel = m + 1 := ⟨fuel - 1, by omega⟩
    have hil : i < l.length := by omega
    have g2 : (0 : Int) ≤ (i : Int) := by omega
    have g3 : (i : Int) < ((l.length : Nat) : Int) := by omega
    have h4 : inR ((i : Int) + 1) := by unfold inR; omega
    have e1 : nth l (i : Int) = l[i] := nth_at hil
    have hx := hg.2 _ (List.getElem_mem hil)
    have g5 : l[i] < ((f.length : Nat) : Int) := by rw [hb.1]; omega
    have hs : (([nth f 0, nth f 1, nth f 2, nth f 3, nth f 4, nth f 5] : List Int)) = f := six hb.1
    rw [purgeWalksS_l4]
    dsimp only
    rw [bif_t (decide_eq_true g3), chk_true ⟨g2, g3⟩, e1]
    by_cases hn : l[i] = node
    · have hne : (!decide (l[i] = node)) = false := by simp [hn]
      rw [bif_f hne]
      have hnot : node ∉ l.take i := by rw [← hn]; exact not_take hg.1 hil
      have hC : partC l i node f data b = ⟨[], 2, 2, 0⟩ := by unfold partC ownC; rw [if_neg hnot]
      have hin : node ∈ l.take (i + 1) := (take_mem hil).2 (.inr hn.symm)
      have fin : ∀ back : Int, purgeWalksS_j10 l (i : Int) f data ⟨[], 2, 2, 0⟩ (purgeWalksS_l4 l node f data k m) back = some true := by
        intro back
        have h6 := ih (i + 1) back m (by omega) (by omega)
        have hC2 : partC l (i + 1) node f data back = ⟨[⟨nth f node, back, 1, 1, false, [data]⟩], 2, 2, 1⟩ := by unfold partC ownC; rw [if_pos hin]
        rw [hC2, show ((i + 1 : Nat) : Int) = (i : Int) + 1 by omega] at h6
        unfold purgeWalksS_j10
        rw [e1, hs, chk_true ⟨⟨hx.1, hx.2⟩, hx.1, g5⟩, hn]
        have e2 : enewS 1 (nth f node) back false [data] = some ⟨nth f node, back, 1, 0, false, [data]⟩ := by simp [enewS, chk, okL]
        have e3 : putS ⟨[], 2, 2, 0⟩ ⟨nth f node, back, 1, 0, false, [data]⟩ = some (0, ⟨[⟨nth f node, back, 1, 1, false, [data]⟩], 2, 2, 1⟩) := by simp [putS, chk, okL, okC, putC, idx, setL]
        unfold letP
        dsimp only
        rw [e2, Option.bind_some, e3, Option.bind_some]
        unfold purgeWalksS_j9
        rw [chk_true h4]
        exact h6
      rw [hC]
      by_cases h0 : (0 : Int) < (i : Int)
      · have h5 : inR ((i : Int) - 1) := by unfold inR; omega
        have h7 : (0 : Int) ≤ (i : Int) - 1 := by omega
        have h8 : (i : Int) - 1 < ((l.length : Nat) : Int) := by omega
        rw [bif_t (decide_eq_true h0), chk_true h5, chk_true ⟨h7, h8⟩]
        exact fin _
      · rw [bif_f (decide_eq_false h0)]
        exact fin _
    · have hne : (!decide (l[i] = node)) = true := by simp [hn]
      rw [bif_t hne]
      have h6 := ih (i + 1) b m (by omega) (by omega)
      have hC2 : partC l (i + 1) node f data b = partC l i node f data b := by
        unfold partC ownC
        by_cases h : node ∈ l.take i
        · rw [if_pos h, if_pos ((take_mem hil).2 (.inl h))]
        · rw [if_neg h, if_neg fun h2 => ((take_mem hil).1 h2).elim h fun h3 => hn h3.symm]
      rw [hC2, show ((i + 1 : Nat) : Int) = (i : Int) + 1 by omega] at h6
      unfold purgeWalksS_j9
      rw [chk_true h4]
      exact h6

section walk
variable (l : List Int) (node : Int) (f : List Int) (st hd data b : Int)
def stepN (x : Int) : Int := if x = node ∧ node ∈ l then nth f node else x
def endC : CacheS := ⟨[⟨-1, -1, 1, 1, true, [data]⟩], 2, 2, 1⟩
def Wd (x : Int) : DealS := if stepN l node f x = -1 then ⟨2, 1, 3, 6, 2, node, [], -1, hd⟩ else ⟨2, 1, 3, 3, st, hd, [data], stepN l node f x, hd⟩
def Wc (x : Int) : CacheS := if stepN l node f x = -1 then endC data else ownC l node f data b
theorem pwalk_is (s x : Int) : pwalkS ⟨2, 1, 3, s, st, hd, [data], x, hd⟩ node (ownC l node f data b) = some (Wd l node f st hd data x, Wc l node f data b x) := by
  unfold Wd Wc stepN
  by_cases hm : node ∈ l
  · by_cases hx : x = node
    · subst hx
      by_cases h1 : nth f x = -1
      · simp [pwalkS, pwalkS_j0, ownC, hm, findS, findE, okC, idx, chk, h1, enewS, okL, putS, putC, endC]
      · simp [pwalkS, pwalkS_j0, ownC, hm, findS, findE, okC, idx, chk, h1, enewS, okL, putS, putC, endC]
    · by_cases h1 : x = -1
      · have h2 : ¬ -1 = node := by rw [← h1]; exact hx
        simp [pwalkS, pwalkS_j0, ownC, hm, findS, findE, okC, idx, chk, h1, h2, enewS, okL, putS, putC, endC]
      · simp [pwalkS, pwalkS_j0, ownC, hm, findS, findE, okC, idx, chk, h1, hx, enewS, okL, putS, putC, endC]
  · by_cases h1 : x = -1
    · by_cases hx : -1 = node <;> simp [pwalkS, pwalkS_j0, ownC, hm, findS, findE, okC, idx, chk, h1, hx, enewS, okL, putS, putC, setL, endC]
    · by_cases hx : x = node <;> simp [pwalkS, pwalkS_j0, ownC, hm, findS, findE, okC, idx, chk, h1, hx, enewS, okL, putS, putC, setL, endC]
      subst hx
      simp [h1]
theorem lock_is : pnextS ⟨2, 1, 3, 1, 0, -1, [], -1, -1⟩ node (ownC l node f data b) ⟨7, 0, 0, 3, 1, hd, st, false, [data]⟩ = some (Wd l node f st hd data hd, true, Wc l node f data b hd) := by
  have h := pwalk_is l node f st hd data b 1 hd
  have hf : dfitsS ⟨2, 1, 3, 1, 0, -1, [], -1, -1⟩ ⟨7, 0, 0, 3, 1, hd, st, false, [data]⟩ = some true := by simp [dfitsS, dkindS, pansS]
  unfold pnextS
  simp only [hf, Option.bind_some]
  by_cases hm : node ∈ l
  · have hF : findS (ownC l node f data b) 1 = some (⟨nth f node, b, 1, 1, false, [data]⟩, true) := by simp [findS, ownC, hm, findE, okC, idx, chk]
    simp [hF, copyS, chk, okL, pnextS_j0, pnextS_j1, pnextS_j2, h]
  · have hF : findS (ownC l node f data b) 1 = some (zeroE, false) := by simp [findS, ownC, hm, findE, okC, idx, chk]
    simp [hF, copyS, chk, okL, pnextS_j0, pnextS_j1, pnextS_j2, h]
theorem purge_is (k ptr : Int) : pnextS ⟨2, 1, 3, 3, st, hd, [data], k, hd⟩ node (ownC l node f data b) ⟨9, 0, 0, 3, 1, ptr, 0, false, [data]⟩ = some (Wd l node f st hd data ptr, true, Wc l node f data b ptr) := by
  have h := pwalk_is l node f st hd data b 3 ptr
  have hf : dfitsS ⟨2, 1, 3, 3, st, hd, [data], k, hd⟩ ⟨9, 0, 0, 3, 1, ptr, 0, false, [data]⟩ = some true := by simp [dfitsS, dkindS, pansS]
  unfold pnextS
  simp only [hf, Option.bind_some]
  by_cases hm : node ∈ l
  · have hF : findS (ownC l node f data b) 1 = some (⟨nth f node, b, 1, 1, false, [data]⟩, true) := by simp [findS, ownC, hm, findE, okC, idx, chk]
    simp [hF, copyS, chk, okL, pnextS_j0, pnextS_j1, pnextS_j2, h]
  · have hF : findS (ownC l node f data b) 1 = some (zeroE, false) := by simp [findS, ownC, hm, findE, okC, idx, chk]
    simp [hF, copyS, chk, okL, pnextS_j0, pnextS_j1, pnextS_j2, h]
theorem l5_ok (hg : good l) (hb : Behind l f) (hn : 0 ≤ node) (k : Bool → Int → Int → Int → Int → Int → Int → Int → List Int → Int → Int → CacheS → Option Bool)
    (hk : ∀ j, k true j 2 1 3 6 2 node [] (-1) hd (endC data) = some true) : ∀ (d i : Nat) (fuel : Nat), i + d = l.length → d < fuel → ∀ D C, D = Wd l node f st hd data (l.getD i (-1)) → C = Wc l node f data b (l.getD i (-1)) →
    purgeWalksS_l5 l node f data k fuel true (i : Int) D.kind D.line D.id D.step D.state D.head D.data D.next D.told C = some true := by
  intro d
  have hl6 := good_len hg
  induction d with
  | zero =>
    intro i fuel hi hf D C hD hC
    obtain ⟨m, rfl⟩ : ∃ m, fuel = m + 1 := ⟨fuel - 1, by omega⟩
    have h1 : ¬ (i : Int) < ((l.length : Nat) : Int) := by omega
    rw [purgeWalksS_l5]
    dsimp only
    rw [bif_f (decide_eq_false h1)]
    have hx : l.getD i (-1) = -1 := by
      have : l.length ≤ i := by omega
      simp [List.getD_eq_getElem?_getD, this]
    have hs : stepN l node f (-1) = -1 := by unfold stepN; rw [if_neg (by omega)]
    rw [hx] at hD hC
    unfold Wd at hD
    unfold Wc at hC
    rw [if_pos hs] at hD hC
    subst hD
    subst hC
    exact hk _
  | succ d ih =>
    intro i fuel hi hf D C hD hC
    obtain ⟨m, rfl⟩ : ∃ m, fuel = m + 1 := ⟨fuel - 1, by omega⟩
    have hil : i < l.length := by omega
    have g2 : (0 : Int) ≤ (i : Int) := by omega
    have g3 : (i : Int) < ((l.length : Nat) : Int) := by omega
    have h4 : inR ((i : Int) + 1) := by unfold inR; omega
    have e1 : nth l (i : Int) = l[i] := nth_at hil
    have e0 : l.getD i (-1) = l[i] := by simp [hil]
    have hx := hg.2 _ (List.getElem_mem hil)
    have g5 : l[i] < ((f.length : Nat) : Int) := by rw [hb.1]; omega
    have hs : (([nth f 0, nth f 1, nth f 2, nth f 3, nth f 4, nth f 5] : List Int)) = f := six hb.1
    have hbi := hb.2 i hil
    have ih2 := ih (i + 1) m (by omega) (by omega)
    rw [show ((i + 1 : Nat) : Int) = (i : Int) + 1 by omega] at ih2
    rw [e0] at hD hC
    rw [purgeWalksS_l5]
    dsimp only
    rw [bif_t (decide_eq_true g3), chk_true ⟨g2, g3⟩, e1]
    by_cases hnode : l[i] = node
    · rw [bif_t (decide_eq_true hnode)]
      have hmem : node ∈ l := by rw [← hnode]; exact List.getElem_mem hil
      have hne : l.getD (i + 1) (-1) ≠ node := by
        by_cases h : i + 1 < l.length
        · have : l.getD (i + 1) (-1) = l[i + 1] := by simp [h]
          rw [this, ← hnode]
          intro he
          have := nodup_at hg.1 h hil he
          omega
        · have : l.getD (i + 1) (-1) = -1 := by
            have : l.length ≤ i + 1 := by omega
            simp [List.getD_eq_getElem?_getD, this]
          rw [this]; omega
      have hst : stepN l node f l[i] = stepN l node f (l.getD (i + 1) (-1)) := by
        unfold stepN
        rw [if_pos ⟨hnode, hmem⟩, if_neg (fun h => hne h.1), ← hbi, hnode]
      have hWd : Wd l node f st hd data l[i] = Wd l node f st hd data (l.getD (i + 1) (-1)) := by unfold Wd; rw [hst]
      have hWc : Wc l node f data b l[i] = Wc l node f data b (l.getD (i + 1) (-1)) := by unfold Wc; rw [hst]
      unfold purgeWalksS_j7
      rw [chk_true h4]
      exact ih2 D C (hD.trans hWd) (hC.trans hWc)
    · rw [bif_f (decide_eq_false hnode)]
      have hst : stepN l node f l[i] = l[i] := by unfold stepN; rw [if_neg (fun h => hnode h.1)]
      have hne1 : ¬ l[i] = -1 := by omega
      unfold Wd at hD
      unfold Wc at hC
      rw [hst, if_neg hne1] at hD hC
      subst hD
      subst hC
      have hask : daskS ⟨2, 1, 3, 3, st, hd, [data], l[i], hd⟩ node 0 = some ⟨6, node, l[i], 3, 1, 0, 0, false, []⟩ := by simp [daskS, dkindS]
      dsimp only
      rw [hask, Option.bind_some]
      dsimp only
      rw [bif_f (show (!true) = false from rfl), bif_f (show (!decide ((6 : Int) = 6)) = false from rfl)]
      have hz : (!decide (l[i] = l[i])) = false := by simp
      rw [hz]
      unfold purgeWalksS_j8 letP
      dsimp only
      rw [bif_f rfl, e1, hs, chk_true ⟨⟨hx.1, hx.2⟩, hx.1, g5⟩, purge_is, Option.bind_some]
      unfold purgeWalksS_j7
      rw [chk_true h4]
      refine ih2 _ _ ?_ ?_
      · rw [hbi]
      · rw [hbi]
theorem k5_ok (j : Int) (hn : 0 ≤ node) : purgeWalksS_k5 node data true j 2 1 3 6 2 node [] (-1) hd (endC data) = some true := by
  simp [purgeWalksS_k5, purgeWalksS_j6, daskS, dkindS, copyS, findS, findE, okC, okL, endC, idx, chk, lonlyS, lheadS, ltailS, ewordS, eisS, nth, letP, lenC, pnextS, pnextS_j0, pnextS_j1, pnextS_j2, dfitsS, pansS, wakes15_is]
end walk
theorem j2_ok (l : List Int) (hg : good l) (data node : Int) (hn : 0 ≤ node ∧ node < 6) : purgeWalksS_j2 l data node = some true := by
  obtain ⟨f, hf, hb⟩ := behind_is l hg
  have hl6 := good_len hg
  have main : ∀ st, purgeWalksS_j3 l node data (⟨[], 2, 2, 0⟩, ⟨[], 2, 2, 0⟩) (l.getD 0 (-1)) st = some true := by
    intro st
    unfold purgeWalksS_j3
    rw [hf, Option.bind_some]
    have hp : partC l 0 node f data 0 = ⟨[], 2, 2, 0⟩ := by simp [partC, ownC]
    have h4 := l4_ok l hg node data f hb (purgeWalksS_k4 data node (l.getD 0 (-1)) st l f) (fun b j => by
      unfold purgeWalksS_k4 letP
      have hd : dbeginS 2 1 3 = some ⟨2, 1, 3, 1, 0, -1, [], -1, -1⟩ := rfl
      rw [hd, Option.bind_some]
      dsimp only
      rw [lock_is, Option.bind_some]
      have := l5_ok l node f st (l.getD 0 (-1)) data b hg hb hn.1 (purgeWalksS_k5 node data) (fun j => k5_ok node _ data j hn.1) l.length 0 64 (by omega) (by omega) _ _ rfl rfl
      exact this) l.length 0 0 64 (by omega) (by omega)
    rw [hp] at h4
    exact h4
  unfold purgeWalksS_j2
  rw [bothNil_is, Option.bind_some]
  by_cases h0 : (0 : Int) < ((l.length : Nat) : Int)
  · rw [bif_t (decide_eq_true h0), chk_true ⟨by omega, h0⟩]
    have := main 1
    have e : nth l 0 = l.getD 0 (-1) := by
      have := nth_at (l := l) (i := 0) (by omega)
      simp only [Int.natCast_zero] at this
      have h1 : 0 < l.length := by omega
      rw [this]; simp [h1]
    rw [e]; exact this
  · rw [bif_f (decide_eq_false h0)]
    have := main 0
    have e : l.getD 0 (-1) = -1 := by
      have : l.length ≤ 0 := by omega
      simp [List.getD_eq_getElem?_getD, this]
    rw [e] at this; exact this
theorem k0_ok (node own data : Int) (l : List Int) (j : Int) (hg : good l) : purgeWalksS_k0 node own data l j = some true := by
  unfold purgeWalksS_k0
  have hw : withinS node 6 = some (node % 6) := by simp [withinS, chk]
  have hl6 := good_len hg
  rw [hw, Option.bind_some]
  by_cases h1 : own.tmod 2 = 0
  · rw [bif_t (decide_eq_true h1)]
    by_cases h0 : (0 : Int) < ((l.length : Nat) : Int)
    · rw [bif_t (decide_eq_true h0)]
      obtain ⟨z, hz, hw2⟩ : ∃ z, (0 ≤ z ∧ z < ((l.length : Nat) : Int)) ∧ withinS (wr (own.tdiv 2)) ((l.length : Nat) : Int) = some z := by
        refine ⟨wr (own.tdiv 2) % ((l.length : Nat) : Int), ⟨Int.emod_nonneg _ (by omega), Int.emod_lt_of_pos _ h0⟩, ?_⟩
        unfold withinS
        rw [chk_true ⟨by omega, by omega⟩]
      rw [hw2, Option.bind_some, chk_true hz]
      obtain ⟨i, rfl⟩ : ∃ i : Nat, z = (i : Int) := ⟨z.toNat, by omega⟩
      have hi : i < l.length := by omega
      rw [nth_at hi]
      exact j2_ok l hg data _ (hg.2 _ (List.getElem_mem hi))
    · rw [bif_f (decide_eq_false h0)]
      exact j2_ok l hg data _ (by omega)
  · rw [bif_f (decide_eq_false h1)]
    exact j2_ok l hg data _ (by omega)
theorem purgeWalks_pure (order : List Int) (own node data : Int) (hlen : order.length ≤ 9223372036854775807) : purgeWalksS order own node data = some true := by
  unfold purgeWalksS
  exact l0_ok order (purgeWalksS_k0 node own data) (fun l j hg => k0_ok node own data l j hg) hlen order.length 0 [] (order.length + 1) (by omega) (by omega) ⟨by simp, by simp⟩
end Go.Proofs.Ytlnjnkbnppnbkaa
