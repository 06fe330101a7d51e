/- The second writing of turns, in plain words: it keeps step with the first one. -/
import Derived.Test.YtcigheahollkcaaPureTurnsLem
import Derived.Test.YtcigheahollkcaaQuA
set_option linter.unusedSimpArgs false
set_option linter.unusedVariables false
namespace Go.Proofs.Ytcigheahollkcaa
open Go
theorem drop_cons_at {α : Type} {L : List α} {i : Nat} {x : α} {r : List α} (h : L.drop i = x :: r) : i < L.length ∧ L[i]? = some x ∧ L.drop (i + 1) = r ∧ x ∈ L := by
  have hl : i < L.length := by
    rcases Nat.lt_or_ge i L.length with q | q
    · exact q
    · rw [List.drop_eq_nil_of_le q] at h; cases h
  rw [List.drop_eq_getElem_cons hl] at h
  injection h with h1 h2
  exact ⟨hl, by rw [List.getElem?_eq_getElem hl, h1], h2, h1 ▸ List.getElem_mem hl⟩
theorem drop_nil_at {α : Type} {L : List α} {i : Nat} (h : L.drop i = []) : L.length ≤ i := by
  rcases Nat.lt_or_ge i L.length with q | q
  · rw [List.drop_eq_getElem_cons q] at h; cases h
  · exact q
theorem nthR_at {L : List (List Int)} {i : Nat} {x : List Int} (h : L[i]? = some x) : nthR L (i : Int) = x := by
  unfold nthR
  rw [Int.toNat_natCast, List.getD_eq_getElem?_getD, h]; rfl
theorem nth_at {L : List Int} {i : Nat} {x : Int} (h : L[i]? = some x) : nth L (i : Int) = x := by
  unfold nth
  rw [Int.toNat_natCast, List.getD_eq_getElem?_getD, h]; rfl
def hasL (l : Int) (r : List Int) : Bool := decide (nth r 0 = l)
def rown (o : List (List Int)) (l : Int) : Option Int := (o.find? (hasL l)).map (nth · 1)
def rwl (w : List (List Int)) (l : Int) : List (Int × Int) := (w.filter (hasL l)).map fun r => (nth r 1, nth r 2)
theorem rowner_loop (R : HomesS) (l : Int) (h2 : ∀ r ∈ R.owner, r.length = 2) (hn : R.owner.length ≤ 60) : ∀ (rest : List (List Int)) (i fuel : Nat), R.owner.drop i = rest → rest.length < fuel →
    qownerS_l0 R l qownerS_k0 fuel (i : Int) = some ((rown rest l).getD (-1)) := by
  intro rest
  induction rest with
  | nil =>
    intro i fuel hd hf
    obtain ⟨f, rfl⟩ : ∃ f, fuel = f + 1 := ⟨fuel - 1, by omega⟩
    have := drop_nil_at hd
    rw [qownerS_l0]
    dsimp only
    rw [bif_f (decide_eq_false (by omega))]; rfl
  | cons r rest ih =>
    intro i fuel hd hf
    obtain ⟨f, rfl⟩ : ∃ f, fuel = f + 1 := ⟨fuel - 1, by omega⟩
    obtain ⟨q1, q2, q3, q4⟩ := drop_cons_at hd
    have q5 : inR ((i : Int) + 1) := by unfold inR; omega
    rw [List.length_cons] at hf
    rw [qownerS_l0]
    dsimp only
    rw [bif_t (decide_eq_true (by omega)), chk_true ⟨by omega, by omega⟩, nthR_at q2, chk_true (h2 r q4)]
    by_cases hc : nth r 0 = l
    · rw [bif_t (decide_eq_true hc)]; simp [rown, hasL, hc]
    · rw [bif_f (decide_eq_false hc), chk_true q5]
      have := ih (i + 1) f q3 (by omega)
      rw [show ((i + 1 : Nat) : Int) = (i : Int) + 1 by omega] at this
      rw [this]; simp [rown, hasL, hc]
theorem rwaiting_loop (R : HomesS) (l : Int) (h3 : ∀ r ∈ R.wait, r.length = 3) (hn : R.wait.length ≤ 60) : ∀ (rest : List (List Int)) (i n fuel : Nat), R.wait.drop i = rest → rest.length < fuel → n ≤ i →
    qwaitingS_l0 R l qwaitingS_k0 fuel (n : Int) (i : Int) = some (((n + (rwl rest l).length : Nat) : Int)) := by
  intro rest
  induction rest with
  | nil =>
    intro i n fuel hd hf hni
    obtain ⟨f, rfl⟩ : ∃ f, fuel = f + 1 := ⟨fuel - 1, by omega⟩
    have := drop_nil_at hd
    rw [qwaitingS_l0]
    dsimp only
    rw [bif_f (decide_eq_false (by omega))]; simp [qwaitingS_k0, rwl]
  | cons r rest ih =>
    intro i n fuel hd hf hni
    obtain ⟨f, rfl⟩ : ∃ f, fuel = f + 1 := ⟨fuel - 1, by omega⟩
    obtain ⟨q1, q2, q3, q4⟩ := drop_cons_at hd
    have q5 : inR ((i : Int) + 1) := by unfold inR; omega
    have q6 : inR ((n : Int) + 1) := by unfold inR; omega
    rw [List.length_cons] at hf
    rw [qwaitingS_l0]
    dsimp only
    rw [bif_t (decide_eq_true (by omega)), chk_true ⟨by omega, by omega⟩, nthR_at q2, chk_true (h3 r q4)]
    by_cases hc : nth r 0 = l
    · rw [bif_t (decide_eq_true hc), chk_true q6, chk_true q5]
      have := ih (i + 1) (n + 1) f q3 (by omega) (by omega)
      rw [show ((i + 1 : Nat) : Int) = (i : Int) + 1 by omega, show ((n + 1 : Nat) : Int) = (n : Int) + 1 by omega] at this
      rw [this]; simp [rwl, hasL, hc]; omega
    · rw [bif_f (decide_eq_false hc), chk_true q5]
      have := ih (i + 1) n f q3 (by omega) (by omega)
      rw [show ((i + 1 : Nat) : Int) = (i : Int) + 1 by omega] at this
      rw [this]; simp [rwl, hasL, hc]
/-- Both writings say the same. -/
structure RSim (C : CfgS) (D : Int) (E : List RowS) (m : Int) (N : Nat) (T : TurnsS) (R : HomesS) : Prop where
  good : Good m N T
  two : ∀ r ∈ R.owner, r.length = 2
  three : ∀ r ∈ R.wait, r.length = 3
  fewo : R.owner.length ≤ N
  feww : R.wait.length ≤ N
  once : (R.owner.map (nth · 0)).Nodup
  owneq : ∀ l, mget T.owners l = rown R.owner l
  waiteq : ∀ l, wl T l = rwl R.wait l
  lines : ∀ r ∈ R.wait, 0 ≤ nth r 0 ∧ nth r 0 < m
  kc : R.c = C
  kn : R.node = D
  kr : R.r = E
theorem RSim.new (C : CfgS) (D : Int) (E : List RowS) (m : Int) : RSim C D E m 0 ⟨[], []⟩ ⟨C, D, E, [], []⟩ := ⟨good_new m, by simp, by simp, Nat.le_refl _, Nat.le_refl _, by simp, fun _ => rfl, fun _ => rfl, by simp, rfl, rfl, rfl⟩
theorem RSim.more {m : Int} {N N' : Nat} {T : TurnsS} {C : CfgS} {D : Int} {E : List RowS} {R : HomesS} (h : RSim C D E m N T R) (hN : N ≤ N') : RSim C D E m N' T R :=
  ⟨good_less h.good hN, h.two, h.three, Nat.le_trans h.fewo hN, Nat.le_trans h.feww hN, h.once, h.owneq, h.waiteq, h.lines, h.kc, h.kn, h.kr⟩
section
variable {m : Int} {N : Nat} {T : TurnsS} {C : CfgS} {D : Int} {E : List RowS} {R : HomesS} (h : RSim C D E m N T R) (hN : N ≤ 60)
include h hN
theorem RSim.owner (l : Int) : qownerS R l = some ((mget T.owners l).getD (-1)) := by
  have h1 := h.fewo
  have := rowner_loop R l h.two (by omega) R.owner 0 64 (by simp) (by omega)
  unfold qownerS
  rw [show ((0 : Nat) : Int) = 0 from rfl] at this
  rw [this, h.owneq l]
theorem RSim.waiting (l : Int) : qwaitingS R l = some (((wl T l).length : Nat) : Int) := by
  have h1 := h.feww
  have := rwaiting_loop R l h.three (by omega) R.wait 0 0 64 (by simp) (by omega) (Nat.le_refl _)
  unfold qwaitingS
  rw [show ((0 : Nat) : Int) = 0 from rfl] at this
  rw [this, h.waiteq l]; simp
omit hN in
theorem RSim.owner_none {l : Int} : (mget T.owners l).getD (-1) = -1 ↔ mget T.owners l = none := by
  cases hm : mget T.owners l with
  | none => simp
  | some w =>
    have := h.good.who l w hm
    simp; omega
end
theorem rown_app (o : List (List Int)) (l l' w : Int) (hn : rown o l' = none) : rown (o ++ [[l', w]]) l = if l = l' then some w else rown o l := by
  unfold rown at *
  rw [List.find?_append]
  by_cases hl : l = l'
  · subst hl
    cases hf : o.find? (hasL l) with
    | none => simp [hasL, nth]
    | some r => rw [hf] at hn; cases hn
  · have : hasL l [l', w] = false := by simp [hasL, nth, Ne.symm hl]
    simp [hl, this]
theorem rwl_app (w : List (List Int)) (l l' a b : Int) : rwl (w ++ [[l', a, b]]) l = if l = l' then rwl w l ++ [(a, b)] else rwl w l := by
  unfold rwl
  rw [List.filter_append]
  by_cases hl : l = l'
  · subst hl; simp [hasL, nth]
  · have : hasL l [l', a, b] = false := by simp [hasL, nth, Ne.symm hl]
    simp [hl, this]
theorem rown_keys {o : List (List Int)} {l : Int} : rown o l = none ↔ l ∉ o.map (nth · 0) := by
  unfold rown
  rw [Option.map_eq_none_iff, List.find?_eq_none]
  simp [hasL]
theorem good_wait_in {m : Int} {N : Nat} {T : TurnsS} (h : Good m N T) {k : Int} (hk : 0 ≤ k ∧ k < m) {p : Int × Int} {ps : List (Int × Int)} (hw : wl T k = p :: ps) (v : List (Int × Int)) (hv : ∀ q ∈ v, 0 ≤ q.1) : Good m N ⟨T.owners, mset T.wait k v⟩ := by
  have h1 := good_wait h hk v hv
  refine ⟨h1.nodup, h1.nodupo, h1.keys, ?_, h1.who, h1.whos⟩
  have hk2 : k ∈ T.wait.map Prod.fst := by
    by_cases q : k ∈ T.wait.map Prod.fst
    · exact q
    · have := mget_none.2 q
      unfold wl wget at hw
      rw [this] at hw
      simp at hw
  have := congrArg List.length (mset_keys T.wait k v)
  rw [if_pos hk2, List.length_map, List.length_map] at this
  show (mset T.wait k v).length ≤ N
  rw [this]; exact h.few
theorem rown_eraseP {o : List (List Int)} (hn : (o.map (nth · 0)).Nodup) (l l' : Int) : rown (o.eraseP (hasL l)) l' = if l' = l then none else rown o l' := by
  induction o with
  | nil => simp [rown]
  | cons r o ih =>
    rw [List.map_cons, List.nodup_cons] at hn
    by_cases hr : nth r 0 = l
    · have e1 : hasL l r = true := by simp [hasL, hr]
      rw [List.eraseP_cons_of_pos e1]
      by_cases hl : l' = l
      · rw [if_pos hl, hl, ← hr]; exact rown_keys.2 hn.1
      · rw [if_neg hl]
        have : hasL l' r = false := by simp [hasL, hr, Ne.symm hl]
        simp [rown, List.find?_cons, this]
    · have e1 : ¬ hasL l r = true := by simp [hasL, hr]
      rw [List.eraseP_cons_of_neg e1]
      by_cases hq : nth r 0 = l'
      · have e2 : hasL l' r = true := by simp [hasL, hq]
        have : l' ≠ l := by rw [← hq]; exact hr
        simp [rown, List.find?_cons, e2, this]
      · have e2 : hasL l' r = false := by simp [hasL, hq]
        have := ih hn.2
        simpa [rown, List.find?_cons, e2] using this
theorem rwl_eraseP (w : List (List Int)) (l l' : Int) : rwl (w.eraseP (hasL l)) l' = if l' = l then (rwl w l').tail else rwl w l' := by
  induction w with
  | nil => simp [rwl]
  | cons r w ih =>
    by_cases hr : nth r 0 = l
    · have e1 : hasL l r = true := by simp [hasL, hr]
      rw [List.eraseP_cons_of_pos e1]
      by_cases hl : l' = l
      · subst hl; simp [rwl, List.filter_cons, e1]
      · have : hasL l' r = false := by simp [hasL, hr, Ne.symm hl]
        simp [rwl, List.filter_cons, this, hl]
    · have e1 : ¬ hasL l r = true := by simp [hasL, hr]
      rw [List.eraseP_cons_of_neg e1]
      by_cases hl : l' = l
      · subst hl
        simp only [if_true] at ih ⊢
        simp only [rwl, List.filter_cons, e1, if_false, Bool.false_eq_true] at ih ⊢
        exact ih
      · rw [if_neg hl] at ih ⊢
        by_cases e2 : hasL l' r = true
        · simp only [rwl, List.filter_cons, e2, if_true, List.map_cons] at ih ⊢
          rw [ih]
        · simp only [rwl, List.filter_cons, e2, if_false, Bool.false_eq_true] at ih ⊢
          exact ih
section
variable {m : Int} {N : Nat} {T : TurnsS} {C : CfgS} {D : Int} {E : List RowS} {R : HomesS} (h : RSim C D E m N T R) (hN : N ≤ 60)
include h hN
omit hN in
theorem RSim.asked {l who : Int} (id : Int) (hl : 0 ≤ l ∧ l < m) (hw : 0 ≤ who) : RSim C D E m (N + 1) ⟨T.owners, mset T.wait l (wl T l ++ [(who, id)])⟩ { R with wait := R.wait ++ [[l, who, id]] } := by
  have h1 := h.fewo
  have h2 := h.feww
  refine ⟨good_wait h.good hl _ ?_, h.two, ?_, by show R.owner.length ≤ _; omega, by simp; omega, h.once, h.owneq, fun l' => ?_, ?_, h.kc, h.kn, h.kr⟩
  · intro q hq
    rw [List.mem_append, List.mem_singleton] at hq
    rcases hq with hq | rfl
    · exact h.good.whos l q hq
    · exact hw
  · intro r hr
    rw [List.mem_append, List.mem_singleton] at hr
    rcases hr with hr | rfl
    · exact h.three r hr
    · rfl
  · rw [wl_mset, rwl_app]
    by_cases e : l' = l
    · rw [if_pos e, if_pos e, h.waiteq l, e]
    · rw [if_neg e, if_neg e]; exact h.waiteq l'
  · intro r hr
    rw [List.mem_append, List.mem_singleton] at hr
    rcases hr with hr | rfl
    · exact h.lines r hr
    · exact hl
theorem RSim.ask {l who : Int} (id : Int) (hl : 0 ≤ l ∧ l < m) (hw : 0 ≤ who) :
    ∃ b T' R', taskS T l who id = some (b, T') ∧ qaskS R l who id = some (b, R') ∧ RSim C D E m (N + 1) T' R' := by
  have h1 := h.fewo
  have h2 := h.feww
  have hwl : (wl T l).length ≤ N := by
    rw [h.waiteq l]; unfold rwl; rw [List.length_map]
    exact Nat.le_trans (List.length_filter_le _ _) h2
  rw [ask_is id (by omega) hw]
  unfold qaskS
  rw [bif_f (decide_eq_false (by omega)), h.owner hN, Option.bind_some]
  cases hm : mget T.owners l with
  | none =>
    have ho : own T l = false := by unfold own; rw [hm]; rfl
    rw [bif_t (by simp), h.waiting hN, Option.bind_some]
    by_cases hq : (wl T l).length = 0
    · rw [if_neg (by rw [ho, hq]; simp), bif_t (decide_eq_true (by omega)), chk_true (by simp; omega)]
      refine ⟨_, _, _, rfl, rfl, good_less (good_own h.good l who hw) (by omega), ?_, h.three, by simp; omega, by show R.wait.length ≤ _; omega, ?_, fun l' => ?_, h.waiteq, h.lines, h.kc, h.kn, h.kr⟩
      · intro r hr
        rw [List.mem_append, List.mem_singleton] at hr
        rcases hr with hr | rfl
        · exact h.two r hr
        · rfl
      · rw [List.map_append, List.nodup_append]
        refine ⟨h.once, by simp, ?_⟩
        intro a ha b hb
        simp only [List.map_cons, List.map_nil, List.mem_singleton] at hb
        subst hb
        rintro rfl
        exact (rown_keys.1 ((h.owneq _) ▸ hm)) ha
      · show mget (mset T.owners l who) l' = _
        rw [mget_mset, rown_app _ _ _ _ ((h.owneq l) ▸ hm), h.owneq l']
    · rw [if_pos (.inr (by omega)), bif_f (decide_eq_false (by omega)), chk_true (by simp; omega)]
      exact ⟨_, _, _, rfl, rfl, h.asked id hl hw⟩
  | some w =>
    have ho : own T l = true := by unfold own; rw [hm]; rfl
    have := h.good.who l w hm
    rw [if_pos (.inl ho), bif_f (by simp; omega), chk_true (by simp; omega)]
    exact ⟨_, _, _, rfl, rfl, h.asked id hl hw⟩
omit h hN
theorem release_not {T : TurnsS} {l w w' : Int} (h : mget T.owners l = some w) (hne : w ≠ w') : treleaseS T l w' = some (6, T) := by
  unfold treleaseS
  have ho : own T l = true := by unfold own; rw [h]; rfl
  rw [owned_eq, Option.bind_some, ho, bif_f (show (!true) = false from rfl)]
  unfold letP
  dsimp only
  rw [h, bif_t (by simp [hne])]
theorem release_none {T : TurnsS} {l w' : Int} (h : mget T.owners l = none) : treleaseS T l w' = some (6, T) := by
  unfold treleaseS
  have ho : own T l = false := by unfold own; rw [h]; rfl
  rw [owned_eq, Option.bind_some, ho, bif_t (show (!false) = true from rfl)]
theorem rrelease_loop (R : HomesS) (l who : Int) (h2 : ∀ r ∈ R.owner, r.length = 2) (hn : R.owner.length ≤ 60) : ∀ (rest : List (List Int)) (i fuel : Nat), R.owner.drop i = rest → (rest.map (nth · 0)).Nodup → rest.length < fuel →
    qreleaseS_l0 R l who (qreleaseS_k0 R) fuel (i : Int) = if rown rest l = some who then some (true, { R with owner := R.owner.take i ++ rest.eraseP (hasL l) }) else some (false, R) := by
  intro rest
  induction rest with
  | nil =>
    intro i fuel hd _ hf
    obtain ⟨f, rfl⟩ : ∃ f, fuel = f + 1 := ⟨fuel - 1, by omega⟩
    have := drop_nil_at hd
    rw [qreleaseS_l0]
    dsimp only
    rw [bif_f (decide_eq_false (by omega))]; rfl
  | cons r rest ih =>
    intro i fuel hd hnd hf
    obtain ⟨f, rfl⟩ : ∃ f, fuel = f + 1 := ⟨fuel - 1, by omega⟩
    obtain ⟨q1, q2, q3, q4⟩ := drop_cons_at hd
    have q5 : inR ((i : Int) + 1) := by unfold inR; omega
    have q6 : ((i : Int) + 1).toNat = i + 1 := by omega
    have q7 : (i : Int).toNat = i := by omega
    rw [List.length_cons] at hf
    rw [List.map_cons, List.nodup_cons] at hnd
    have next := ih (i + 1) f q3 hnd.2 (by omega)
    rw [show ((i + 1 : Nat) : Int) = (i : Int) + 1 by omega] at next
    have ht : R.owner.take (i + 1) = R.owner.take i ++ [r] := by rw [List.take_add_one, q2]; rfl
    rw [qreleaseS_l0]
    dsimp only
    rw [bif_t (decide_eq_true (by omega)), chk_true ⟨by omega, by omega⟩, nthR_at q2, chk_true (h2 r q4)]
    by_cases hc : nth r 0 = l
    · have e1 : hasL l r = true := by simp [hasL, hc]
      have e2 : rown (r :: rest) l = some (nth r 1) := by simp [rown, e1]
      have e3 : rown rest l = none := rown_keys.2 (hc ▸ hnd.1)
      rw [bif_t (decide_eq_true hc), e2]
      by_cases hw : nth r 1 = who
      · rw [bif_t (decide_eq_true hw), chk_true ⟨⟨by omega, by omega, by omega⟩, h2⟩]
        unfold letP
        dsimp only
        have e5 : (R.owner.drop ((i : Int) + 1).toNat).take (R.owner.length - ((i : Int) + 1).toNat) = rest := by rw [q6, q3, List.take_of_length_le (by rw [← q3, List.length_drop]; exact Nat.le_refl _)]
        have e6 : (R.owner.drop 0).take ((i : Int).toNat - 0) = R.owner.take i := by rw [q7]; simp
        have l1 : ((R.owner.drop 0).take ((i : Int).toNat - 0)).length ≤ 60 := by simp; omega
        have l2 : ((R.owner.drop ((i : Int) + 1).toNat).take (R.owner.length - ((i : Int) + 1).toNat)).length ≤ 60 := by simp; omega
        rw [chk_true q5, chk_true ⟨⟨by omega, by omega, by omega⟩, h2⟩, chk_true (by omega), chk_true (by rw [List.length_append]; omega), if_pos (by rw [hw])]
        rw [e5, e6, List.eraseP_cons_of_pos e1]
      · rw [bif_f (decide_eq_false hw), chk_true q5, next, e3, if_neg (by simp), if_neg (by simp [hw])]
    · have e1 : ¬ hasL l r = true := by simp [hasL, hc]
      have e2 : rown (r :: rest) l = rown rest l := by simp [rown, List.find?_cons, e1]
      rw [bif_f (decide_eq_false hc), chk_true q5, next, e2, List.eraseP_cons_of_neg e1, ht]
      simp
include h hN
theorem RSim.release (l who : Int) : ∃ b T' R', treleaseS T l who = some (if b then 0 else 6, T') ∧ qreleaseS R l who = some (b, R') ∧ RSim C D E m N T' R' := by
  have h1 := h.fewo
  have hr := rrelease_loop R l who h.two (by omega) R.owner 0 64 (by simp) h.once (by omega)
  rw [show ((0 : Nat) : Int) = 0 from rfl, ← h.owneq l] at hr
  unfold qreleaseS
  rw [hr]
  cases hm : mget T.owners l with
  | none => exact ⟨false, T, R, by rw [release_none hm]; rfl, by simp, h⟩
  | some w =>
    by_cases hw : w = who
    · subst hw
      refine ⟨true, _, _, by rw [release_is hm]; rfl, if_pos rfl, good_del h.good l, fun r hr => h.two r (List.mem_of_mem_eraseP (by simpa using hr)), h.three, ?_, h.feww, ?_, fun l' => ?_, h.waiteq, h.lines, h.kc, h.kn, h.kr⟩
      · simp only [List.take_zero, List.nil_append]
        exact Nat.le_trans (List.length_eraseP_le) h.fewo
      · simp only [List.take_zero, List.nil_append]
        exact ((List.eraseP_sublist).map _).nodup h.once
      · show mget (mdel T.owners l) l' = rown (List.take 0 R.owner ++ R.owner.eraseP (hasL l)) l'
        rw [mget_mdel h.good.nodupo, List.take_zero, List.nil_append, rown_eraseP h.once, h.owneq l']
    · exact ⟨false, T, R, by rw [release_not hm hw]; rfl, by simp [hw], h⟩
omit h hN
theorem rnext_loop (R : HomesS) (l : Int) (h3 : ∀ r ∈ R.wait, r.length = 3) (hn : R.wait.length ≤ 60) (hn2 : R.owner.length ≤ 60) : ∀ (rest : List (List Int)) (i fuel : Nat), R.wait.drop i = rest → rest.length < fuel →
    qnextS_l0 R l (qnextS_k0 R) fuel (i : Int) = match rwl rest l with
      | [] => some (0, 0, false, R)
      | p :: _ => some (p.1, p.2, true, { R with owner := R.owner ++ [[l, p.1]], wait := R.wait.take i ++ rest.eraseP (hasL l) }) := by
  intro rest
  induction rest with
  | nil =>
    intro i fuel hd hf
    obtain ⟨f, rfl⟩ : ∃ f, fuel = f + 1 := ⟨fuel - 1, by omega⟩
    have := drop_nil_at hd
    rw [qnextS_l0]
    dsimp only
    rw [bif_f (decide_eq_false (by omega))]; rfl
  | cons r rest ih =>
    intro i fuel hd hf
    obtain ⟨f, rfl⟩ : ∃ f, fuel = f + 1 := ⟨fuel - 1, by omega⟩
    obtain ⟨q1, q2, q3, q4⟩ := drop_cons_at hd
    have q5 : inR ((i : Int) + 1) := by unfold inR; omega
    have q6 : ((i : Int) + 1).toNat = i + 1 := by omega
    have q7 : (i : Int).toNat = i := by omega
    rw [List.length_cons] at hf
    have next := ih (i + 1) f q3 (by omega)
    rw [show ((i + 1 : Nat) : Int) = (i : Int) + 1 by omega] at next
    have ht : R.wait.take (i + 1) = R.wait.take i ++ [r] := by rw [List.take_add_one, q2]; rfl
    rw [qnextS_l0]
    dsimp only
    rw [bif_t (decide_eq_true (by omega)), chk_true ⟨by omega, by omega⟩, nthR_at q2, chk_true (h3 r q4)]
    by_cases hc : nth r 0 = l
    · have e1 : hasL l r = true := by simp [hasL, hc]
      have e2 : rwl (r :: rest) l = (nth r 1, nth r 2) :: rwl rest l := by simp [rwl, List.filter_cons, e1]
      rw [bif_t (decide_eq_true hc), e2, chk_true ⟨⟨by omega, by omega, by omega⟩, h3⟩]
      unfold letP
      dsimp only
      have e5 : (R.wait.drop ((i : Int) + 1).toNat).take (R.wait.length - ((i : Int) + 1).toNat) = rest := by rw [q6, q3, List.take_of_length_le (by rw [← q3, List.length_drop]; exact Nat.le_refl _)]
      have e6 : (R.wait.drop 0).take ((i : Int).toNat - 0) = R.wait.take i := by rw [q7]; simp
      have l1 : ((R.wait.drop 0).take ((i : Int).toNat - 0)).length ≤ 60 := by simp; omega
      have l2 : ((R.wait.drop ((i : Int) + 1).toNat).take (R.wait.length - ((i : Int) + 1).toNat)).length ≤ 60 := by simp; omega
      rw [chk_true q5, chk_true ⟨⟨by omega, by omega, by omega⟩, h3⟩, chk_true (by omega), chk_true (by rw [List.length_append]; omega), chk_true (by rw [List.length_append]; simp; omega)]
      rw [e5, e6, List.eraseP_cons_of_pos e1]
    · have e1 : ¬ hasL l r = true := by simp [hasL, hc]
      have e2 : rwl (r :: rest) l = rwl rest l := by simp [rwl, List.filter_cons, e1]
      rw [bif_f (decide_eq_false hc), chk_true q5, next, e2, List.eraseP_cons_of_neg e1, ht]
      simp
include h hN
theorem RSim.next {l : Int} (hl : 0 ≤ l ∧ l < m) : ∃ a b c T' R', tnextS T l = some (a, b, c, T') ∧ qnextS R l = some (a, b, c, R') ∧ RSim C D E m (N + 1) T' R' := by
  have h1 := h.fewo
  have h2 := h.feww
  unfold qnextS
  rw [h.owner hN, Option.bind_some]
  cases hm : mget T.owners l with
  | some w =>
    have ho : own T l = true := by unfold own; rw [hm]; rfl
    have := h.good.who l w hm
    rw [next_none (.inl ho), bif_t (by simp; omega)]
    exact ⟨_, _, _, _, _, rfl, rfl, h.more (by omega)⟩
  | none =>
    have ho : own T l = false := by unfold own; rw [hm]; rfl
    have hr := rnext_loop R l h.three (by omega) (by omega) R.wait 0 64 (by simp) (by omega)
    rw [show ((0 : Nat) : Int) = 0 from rfl, ← h.waiteq l] at hr
    rw [bif_f (by simp), hr]
    cases hw : wl T l with
    | nil => rw [next_none (.inr (by rw [hw]; rfl))]; exact ⟨_, _, _, _, _, rfl, rfl, h.more (by omega)⟩
    | cons p xs =>
      have hp := h.good.whos l p (by rw [hw]; exact List.mem_cons_self ..)
      rw [next_is ho hw]
      have hmem : ∀ r, r ∈ List.take 0 R.wait ++ R.wait.eraseP (hasL l) → r ∈ R.wait := fun r hr => List.mem_of_mem_eraseP (by simpa using hr)
      have g1 := good_wait_in h.good hl hw xs (fun q hq => h.good.whos l q (by rw [hw]; exact List.mem_cons_of_mem _ hq))
      have g2 := good_own g1 l p.1 hp
      refine ⟨_, _, _, _, _, rfl, rfl, good_less g2 (by omega), ?_, fun r hr => h.three r (hmem r hr), by simp; omega, ?_, ?_, fun l' => ?_, fun l' => ?_, fun r hr => h.lines r (hmem r hr), h.kc, h.kn, h.kr⟩
      · intro r hr
        rw [List.mem_append, List.mem_singleton] at hr
        rcases hr with hr | rfl
        · exact h.two r hr
        · rfl
      · simp only [List.take_zero, List.nil_append]
        exact Nat.le_trans (Nat.le_trans List.length_eraseP_le h2) (by omega)
      · rw [List.map_append, List.nodup_append]
        refine ⟨h.once, by simp, ?_⟩
        intro a ha b hb
        simp only [List.map_cons, List.map_nil, List.mem_singleton] at hb
        subst hb
        rintro rfl
        exact (rown_keys.1 ((h.owneq _) ▸ hm)) ha
      · show mget (mset T.owners l p.1) l' = _
        rw [mget_mset, rown_app _ _ _ _ ((h.owneq l) ▸ hm), h.owneq l']
      · rw [wl_mset]
        show _ = rwl (List.take 0 R.wait ++ R.wait.eraseP (hasL l)) l'
        rw [List.take_zero, List.nil_append, rwl_eraseP, ← h.waiteq l']
        by_cases e : l' = l
        · rw [if_pos e, if_pos e, e, hw]; rfl
        · rw [if_neg e, if_neg e]; rfl
end
/-! Which lines are ready. -/
theorem l1_is (out : List Int) (R : HomesS) (v : Int) (k1 : Int → Option (List Int)) (ho : out.length ≤ 60) : ∀ (rest : List Int) (j fuel : Nat), out.drop j = rest → rest.length < fuel →
    qreadyS_l1 out R v k1 fuel (j : Int) = k1 (((j + (rest.takeWhile fun a => decide (a < nth (nthR R.wait v) 0)).length : Nat) : Int)) := by
  intro rest
  induction rest with
  | nil =>
    intro j fuel hd hf
    obtain ⟨f, rfl⟩ : ∃ f, fuel = f + 1 := ⟨fuel - 1, by omega⟩
    have := drop_nil_at hd
    rw [qreadyS_l1]
    dsimp only
    rw [bif_f (decide_eq_false (by omega))]; simp
  | cons a rest ih =>
    intro j fuel hd hf
    obtain ⟨f, rfl⟩ : ∃ f, fuel = f + 1 := ⟨fuel - 1, by omega⟩
    obtain ⟨q1, q2, q3, q4⟩ := drop_cons_at hd
    have q5 : inR ((j : Int) + 1) := by unfold inR; omega
    rw [List.length_cons] at hf
    rw [qreadyS_l1]
    dsimp only
    rw [bif_t (decide_eq_true (by omega)), chk_true ⟨by omega, by omega⟩, nth_at q2]
    by_cases hc : a < nth (nthR R.wait v) 0
    · rw [bif_t (decide_eq_true hc), chk_true q5]
      have := ih (j + 1) f q3 (by omega)
      rw [show ((j + 1 : Nat) : Int) = (j : Int) + 1 by omega] at this
      rw [this]
      simp [hc]
      congr 1; omega
    · rw [bif_f (decide_eq_false hc)]
      simp [hc]
def insI (x : Int) (out : List Int) : List Int := out.takeWhile (fun a => decide (a < x)) ++ (if (out.dropWhile fun a => decide (a < x)).head? = some x then [] else [x]) ++ out.dropWhile fun a => decide (a < x)
theorem insI_mem (x : Int) (out : List Int) (a : Int) : a ∈ insI x out ↔ a = x ∨ a ∈ out := by
  have hs : ∀ b, b ∈ out ↔ b ∈ out.takeWhile (fun a => decide (a < x)) ∨ b ∈ out.dropWhile fun a => decide (a < x) := fun b => by
    rw [← List.mem_append, List.takeWhile_append_dropWhile]
  unfold insI
  rw [List.mem_append, List.mem_append, hs a]
  by_cases hh : (out.dropWhile fun a => decide (a < x)).head? = some x
  · rw [if_pos hh]
    have : x ∈ out.dropWhile fun a => decide (a < x) := List.mem_of_mem_head? hh
    constructor
    · rintro ((q | q) | q)
      · exact .inr (.inl q)
      · cases q
      · exact .inr (.inr q)
    · rintro (rfl | q | q)
      · exact .inr this
      · exact .inl (.inl q)
      · exact .inr q
  · rw [if_neg hh, List.mem_singleton]
    constructor
    · rintro ((q | q) | q)
      · exact .inr (.inl q)
      · exact .inl q
      · exact .inr (.inr q)
    · rintro (q | q | q)
      · exact .inl (.inr q)
      · exact .inl (.inl q)
      · exact .inr q
theorem dropWhile_head {x : Int} {out : List Int} {a : Int} (h : (out.dropWhile fun a => decide (a < x)).head? = some a) : ¬ a < x := by
  have := List.head?_dropWhile_not (fun a => decide (a < x)) out
  rw [h] at this
  simpa using this
theorem insI_rising (x : Int) {out : List Int} (h : out.Pairwise (· < ·)) : (insI x out).Pairwise (· < ·) := by
  have h0 : (out.takeWhile (fun a => decide (a < x)) ++ out.dropWhile fun a => decide (a < x)).Pairwise (· < ·) := by rw [List.takeWhile_append_dropWhile]; exact h
  rw [List.pairwise_append] at h0
  obtain ⟨h1, h2, h3⟩ := h0
  have hlt : ∀ a ∈ out.takeWhile (fun a => decide (a < x)), a < x := fun a ha => by
    have := List.all_takeWhile (p := fun a => decide (a < x)) (l := out)
    simpa using List.all_eq_true.1 this a ha
  unfold insI
  by_cases hh : (out.dropWhile fun a => decide (a < x)).head? = some x
  · rw [if_pos hh, List.append_nil, List.pairwise_append]
    exact ⟨h1, h2, h3⟩
  · rw [if_neg hh, List.append_assoc, List.pairwise_append]
    have hgt : ∀ b ∈ out.dropWhile (fun a => decide (a < x)), x < b := by
      cases hd : out.dropWhile (fun a => decide (a < x)) with
      | nil => simp
      | cons c r =>
        have hc : ¬ c < x := dropWhile_head (out := out) (by rw [hd]; rfl)
        have hcx : c ≠ x := by rintro rfl; exact hh (by rw [hd]; rfl)
        rw [hd, List.pairwise_cons] at h2
        intro b hb
        rw [List.mem_cons] at hb
        rcases hb with rfl | hb
        · omega
        · have := h2.1 b hb; omega
    refine ⟨h1, ?_, ?_⟩
    · rw [List.singleton_append, List.pairwise_cons]
      exact ⟨hgt, h2⟩
    · intro a ha b hb
      rw [List.singleton_append, List.mem_cons] at hb
      rcases hb with rfl | hb
      · exact hlt a ha
      · exact h3 a ha b hb
theorem insI_len (x : Int) (out : List Int) : (insI x out).length ≤ out.length + 1 := by
  have h0 : (out.takeWhile (fun a => decide (a < x)) ++ out.dropWhile fun a => decide (a < x)).length = out.length := by rw [List.takeWhile_append_dropWhile]
  rw [List.length_append] at h0
  unfold insI
  rw [List.length_append, List.length_append]
  split <;> simp <;> omega
theorem tw_take {α : Type} (p : α → Bool) : ∀ l : List α, l.take (l.takeWhile p).length = l.takeWhile p
  | [] => rfl
  | x :: l => by
    cases hp : p x
    · simp [hp]
    · simp [hp, tw_take p l]
theorem tw_drop {α : Type} (p : α → Bool) : ∀ l : List α, l.drop (l.takeWhile p).length = l.dropWhile p
  | [] => rfl
  | x :: l => by
    cases hp : p x
    · simp [hp]
    · simp [hp, tw_drop p l]
theorem k1_is (out : List Int) (R : HomesS) (i : Nat) (r0 : List Int → Int → Option (List Int)) (ho : out.length ≤ 60) (hi : i ≤ 60) :
    qreadyS_k1 out R (i : Int) r0 (((out.takeWhile fun a => decide (a < nth (nthR R.wait (i : Int)) 0)).length : Nat) : Int) = r0 (insI (nth (nthR R.wait (i : Int)) 0) out) ((i : Int) + 1) := by
  have q5 : inR ((i : Int) + 1) := by unfold inR; omega
  generalize hx : nth (nthR R.wait (i : Int)) 0 = x
  have hs := List.takeWhile_append_dropWhile (p := fun a => decide (a < x)) (l := out)
  have hl := congrArg List.length hs
  rw [List.length_append] at hl
  generalize he : (out.takeWhile fun a => decide (a < x)).length = e
  rw [he] at hl
  have ht : out.take e = out.takeWhile fun a => decide (a < x) := by rw [← he]; exact tw_take _ _
  have hd : out.drop e = out.dropWhile fun a => decide (a < x) := by rw [← he]; exact tw_drop _ _
  have en : (e : Int).toNat = e := by omega
  have d0 : (out.drop (e : Int).toNat).take (out.length - (e : Int).toNat) = out.dropWhile fun a => decide (a < x) := by
    rw [en, List.take_of_length_le (by rw [List.length_drop]; exact Nat.le_refl _), hd]
  have t0 : (out.drop 0).take ((e : Int).toNat - 0) = out.takeWhile fun a => decide (a < x) := by rw [en, List.drop_zero, Nat.sub_zero, ht]
  unfold qreadyS_k1
  rw [hx]
  by_cases hc : e = out.length
  · have hdn : out.dropWhile (fun a => decide (a < x)) = [] := by
      apply List.eq_nil_of_length_eq_zero; omega
    rw [bif_t (decide_eq_true (by omega)), chk_true ⟨by omega, by omega, by omega, by omega, by omega⟩]
    unfold letP
    dsimp only
    rw [chk_true ⟨by omega, by omega, by omega⟩, d0, t0, hdn, chk_true (by simp), chk_true (by simp; omega), chk_true q5]
    unfold insI
    rw [hdn]; simp
  · have hel : e < out.length := by omega
    obtain ⟨c, r, hcr⟩ : ∃ c r, out.dropWhile (fun a => decide (a < x)) = c :: r := by
      cases hq : out.dropWhile (fun a => decide (a < x)) with
      | nil => rw [hq] at hl; simp at hl; omega
      | cons c r => exact ⟨c, r, rfl⟩
    have hce : nth out (e : Int) = c := nth_at (by rw [hcr] at hd; exact (drop_cons_at hd).2.1)
    rw [bif_f (decide_eq_false (by omega)), chk_true ⟨by omega, by omega⟩, hce]
    by_cases hxe : c = x
    · rw [bif_f (by simp [hxe]), chk_true q5]
      unfold insI
      rw [hcr, hxe]
      simp only [List.head?_cons, if_true, List.append_nil]
      rw [← hxe, ← hcr, hxe, hs]
    · rw [bif_t (by simp [hxe]), chk_true ⟨by omega, by omega, by omega, by omega, by omega⟩]
      unfold letP
      dsimp only
      rw [chk_true ⟨by omega, by omega, by omega⟩, d0, t0]
      have l3 : (out.dropWhile fun a => decide (a < x)).length ≤ 60 := by omega
      have l4 : (out.takeWhile fun a => decide (a < x)).length ≤ 60 := by omega
      rw [chk_true (by rw [List.length_append]; simp only [List.length_cons, List.length_nil]; omega), chk_true (by rw [List.length_append, List.length_append]; simp only [List.length_cons, List.length_nil]; omega), chk_true q5]
      unfold insI
      rw [hcr]
      simp [hxe]
theorem rready_loop {m : Int} {N : Nat} {T : TurnsS} {C : CfgS} {D : Int} {E : List RowS} {R : HomesS} (h : RSim C D E m N T R) (hN : N ≤ 59) : ∀ (rest : List (List Int)) (i fuel : Nat) (out : List Int), R.wait.drop i = rest → rest.length < fuel → out.length ≤ i → out.Pairwise (· < ·) →
    ∃ out', qreadyS_l0 R qreadyS_k0 fuel out (i : Int) = some out' ∧ out'.Pairwise (· < ·) ∧ ∀ a, a ∈ out' ↔ a ∈ out ∨ (mget T.owners a = none ∧ ∃ r ∈ rest, nth r 0 = a) := by
  have h2 := h.feww
  intro rest
  induction rest with
  | nil =>
    intro i fuel out hd hf ho hp
    obtain ⟨f, rfl⟩ : ∃ f, fuel = f + 1 := ⟨fuel - 1, by omega⟩
    have := drop_nil_at hd
    rw [qreadyS_l0]
    dsimp only
    rw [bif_f (decide_eq_false (by omega))]
    exact ⟨out, rfl, hp, fun a => by simp⟩
  | cons r rest ih =>
    intro i fuel out hd hf ho hp
    obtain ⟨f, rfl⟩ : ∃ f, fuel = f + 1 := ⟨fuel - 1, by omega⟩
    obtain ⟨q1, q2, q3, q4⟩ := drop_cons_at hd
    have q5 : inR ((i : Int) + 1) := by unfold inR; omega
    rw [List.length_cons] at hf
    rw [qreadyS_l0]
    dsimp only
    rw [bif_t (decide_eq_true (by omega)), chk_true ⟨by omega, by omega⟩, nthR_at q2, chk_true (h.three r q4), h.owner (by omega), Option.bind_some]
    cases hm : mget T.owners (nth r 0) with
    | some w =>
      have := h.good.who _ w hm
      rw [bif_t (by simp; omega), chk_true q5]
      obtain ⟨out', k1, k2, k3⟩ := ih (i + 1) f out q3 (by omega) (by omega) hp
      rw [show ((i + 1 : Nat) : Int) = (i : Int) + 1 by omega] at k1
      refine ⟨out', k1, k2, fun a => ?_⟩
      rw [k3 a]
      constructor
      · rintro (q | ⟨q, r', q', q''⟩)
        · exact .inl q
        · exact .inr ⟨q, r', List.mem_cons_of_mem _ q', q''⟩
      · rintro (q | ⟨q, r', q', q''⟩)
        · exact .inl q
        · rw [List.mem_cons] at q'
          rcases q' with rfl | q'
          · rw [q'', q] at hm; cases hm
          · exact .inr ⟨q, r', q', q''⟩
    | none =>
      rw [bif_f (by simp)]
      have e1 := l1_is out R (i : Int) (qreadyS_k1 out R (i : Int) (qreadyS_l0 R qreadyS_k0 f)) (by omega) out 0 64 (by simp) (by omega)
      rw [show ((0 : Nat) : Int) = 0 from rfl] at e1
      rw [e1, Nat.zero_add, k1_is out R i _ (by omega) (by omega), nthR_at q2]
      have hl := insI_len (nth r 0) out
      obtain ⟨out', k1, k2, k3⟩ := ih (i + 1) f (insI (nth r 0) out) q3 (by omega) (by omega) (insI_rising _ hp)
      rw [show ((i + 1 : Nat) : Int) = (i : Int) + 1 by omega] at k1
      refine ⟨out', k1, k2, fun a => ?_⟩
      rw [k3 a, insI_mem]
      constructor
      · rintro ((rfl | q) | ⟨q, r', q', q''⟩)
        · exact .inr ⟨hm, r, List.mem_cons_self .., rfl⟩
        · exact .inl q
        · exact .inr ⟨q, r', List.mem_cons_of_mem _ q', q''⟩
      · rintro (q | ⟨q, r', q', q''⟩)
        · exact .inl (.inr q)
        · rw [List.mem_cons] at q'
          rcases q' with rfl | q'
          · exact .inl (.inl q''.symm)
          · exact .inr ⟨q, r', q', q''⟩
theorem RSim.ready {m N : Nat} {T : TurnsS} {C : CfgS} {D : Int} {E : List RowS} {R : HomesS} (h : RSim C D E (m : Int) N T R) (hN : N ≤ 59) : qreadyS R = some ((upto m).filter (isReady T)) := by
  have h2 := h.feww
  obtain ⟨out, k1, k2, k3⟩ := rready_loop h hN R.wait 0 64 [] (by simp) (by omega) (Nat.le_refl _) List.Pairwise.nil
  rw [show ((0 : Nat) : Int) = 0 from rfl] at k1
  unfold qreadyS
  rw [k1]
  congr 1
  refine eq_of_rising k2 ((upto_rising m).filter _) fun a => ?_
  rw [k3 a, List.mem_filter, upto_mem]
  have hw := h.waiteq a
  constructor
  · rintro (q | ⟨q, r, q', rfl⟩)
    · cases q
    · refine ⟨h.lines r q', ?_⟩
      unfold isReady own
      rw [q, hw]
      have : (nth r 1, nth r 2) ∈ rwl R.wait (nth r 0) := List.mem_map.2 ⟨r, List.mem_filter.2 ⟨q', by simp [hasL]⟩, rfl⟩
      have := List.length_pos_of_mem this
      simp; exact this
  · rintro ⟨q, q'⟩
    unfold isReady own at q'
    rw [Bool.and_eq_true, decide_eq_true_eq, hw] at q'
    obtain ⟨p1, p2⟩ := q'
    refine .inr ⟨by simpa using p1, ?_⟩
    obtain ⟨x, hx⟩ := List.exists_mem_of_length_pos p2
    obtain ⟨r, hr, _⟩ := List.mem_map.1 hx
    have := List.mem_filter.1 hr
    exact ⟨r, this.1, by simpa [hasL] using this.2⟩
end Go.Proofs.Ytcigheahollkcaa
