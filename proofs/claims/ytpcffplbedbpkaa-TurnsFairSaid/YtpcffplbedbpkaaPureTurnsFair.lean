/- The law TurnsFair answers true at every input: the plain side. -/
import Derived.Test.YtpcffplbedbpkaaLawTurnsFair
import Derived.Test.YtpcffplbedbpkaaPureTurnsLem
set_option linter.unusedSimpArgs false
set_option linter.unusedVariables false
namespace Go.Proofs.Ytpcffplbedbpkaa
open Go
theorem wakes10_is : wakes10S = some true := by rfl
theorem release_not {T : TurnsS} {l w w' : Int} (h : mget T.owners l = some w) (hne : w ≠ w') : treleaseS T l w' = some (6, T) := by
  unfold treleaseS
  have ho : own T l = true := by unfold own; rw [h]; rfl
  rw [owned_eq, Option.bind_some, ho, bif_f (show (!true) = false from rfl)]
  unfold letP
  dsimp only
  rw [h, bif_t (by simp [hne])]
/-- Who has the line, and behind it who waits. -/
def Que (T : TurnsS) (l : Int) (xs : List Int) : Prop := (mget T.owners l).toList ++ (wl T l).map Prod.fst = xs ∧ (mget T.owners l = none → wl T l = [])
theorem Que.nil {T : TurnsS} {l : Int} (h : Que T l []) : mget T.owners l = none ∧ wl T l = [] := by
  obtain ⟨h1, h2⟩ := h
  have : mget T.owners l = none := by
    cases hm : mget T.owners l with
    | none => rfl
    | some w => rw [hm] at h1; simp at h1
  exact ⟨this, h2 this⟩
theorem Que.cons {T : TurnsS} {l x : Int} {r : List Int} (h : Que T l (x :: r)) : mget T.owners l = some x ∧ (wl T l).map Prod.fst = r := by
  obtain ⟨h1, h2⟩ := h
  cases hm : mget T.owners l with
  | none => rw [hm, h2 hm] at h1; simp at h1
  | some w => rw [hm] at h1; simp at h1; exact ⟨by rw [h1.1], h1.2⟩
theorem lget_lset {ls : List (List Int)} {l l' : Int} {v : List Int} (h : 0 ≤ l ∧ l < (ls.length : Int)) (h' : 0 ≤ l') : lget (lset ls l v) l' = if l' = l then v else lget ls l' := by
  unfold lget lset
  by_cases hl : l' = l
  · subst hl
    rw [if_pos rfl]
    have : l'.toNat < ls.length := by omega
    simp [List.getD, this]
  · rw [if_neg hl]
    have : l.toNat ≠ l'.toNat := by omega
    simp [List.getD, List.getElem?_set, this]
section
variable (asks lines : List Int)
theorem good_wait_in {m : Int} {N : Nat} {T : TurnsS} (h : Good m N T) {k : Int} (hk : 0 ≤ k ∧ k < m) {p : Int × Int} {ps : List (Int × Int)} (hw : wl T k = p :: ps) (v : List (Int × Int)) (hv : ∀ q ∈ v, 0 ≤ q.1) : Good m N ⟨T.owners, mset T.wait k v⟩ := by
  have h1 := good_wait h hk v hv
  refine ⟨h1.nodup, h1.nodupo, h1.keys, ?_, h1.who, h1.whos⟩
  have hk2 : k ∈ T.wait.map Prod.fst := by
    by_cases q : k ∈ T.wait.map Prod.fst
    · exact q
    · have := mget_none.2 q
      unfold wl wget at hw
      rw [this] at hw
      simp at hw
  have := congrArg List.length (mset_keys T.wait k v)
  rw [if_pos hk2, List.length_map, List.length_map] at this
  show (mset T.wait k v).length ≤ N
  rw [this]; exact h.few
structure Rel (i : Nat) (T : TurnsS) (ls : List (List Int)) : Prop where
  good : Good 3 i T
  len : ls.length = 3
  que : ∀ l, 0 ≤ l → l < 3 → Que T l (lget ls l)
  small : ∀ l, 0 ≤ l → l < 3 → ∀ x ∈ lget ls l, 0 ≤ x ∧ x < 9
  few : ∀ l, 0 ≤ l → l < 3 → (lget ls l).length ≤ i
theorem Rel.ask {i : Nat} {T : TurnsS} {ls : List (List Int)} (h : Rel i T ls) {l who : Int} (id : Int) (hl : 0 ≤ l ∧ l < 3) (hw : 0 ≤ who ∧ who < 9) (hi : i ≤ 20) :
    ∃ T', taskS T l who id = some (decide ((((lget ls l).length : Nat) : Int) = 0), T') ∧ Rel (i + 1) T' (lset ls l (lget ls l ++ [who])) := by
  have hq := h.que l hl.1 hl.2
  have hf := h.few l hl.1 hl.2
  have hlen : (wl T l).length ≤ (lget ls l).length := by
    have := congrArg List.length hq.1
    rw [List.length_append, List.length_map] at this
    omega
  have hb : 0 ≤ l ∧ l < (ls.length : Int) := by rw [h.len]; exact hl
  have rest : ∀ T', Good 3 (i + 1) T' → Que T' l (lget ls l ++ [who]) → (∀ l', l' ≠ l → mget T'.owners l' = mget T.owners l' ∧ wl T' l' = wl T l') → Rel (i + 1) T' (lset ls l (lget ls l ++ [who])) := by
    intro T' g1 g2 g3
    refine ⟨g1, by unfold lset; rw [List.length_set]; exact h.len, fun l' a b => ?_, fun l' a b => ?_, fun l' a b => ?_⟩
    · rw [lget_lset hb a]
      by_cases e : l' = l
      · rw [if_pos e, e]; exact g2
      · rw [if_neg e]
        have := h.que l' a b
        unfold Que at this ⊢
        rw [(g3 l' e).1, (g3 l' e).2]
        exact this
    · rw [lget_lset hb a]
      by_cases e : l' = l
      · rw [if_pos e]
        intro x hx
        rw [List.mem_append, List.mem_singleton] at hx
        rcases hx with hx | rfl
        · exact h.small l hl.1 hl.2 x hx
        · exact hw
      · rw [if_neg e]; exact h.small l' a b
    · rw [lget_lset hb a]
      by_cases e : l' = l
      · rw [if_pos e, List.length_append]; simp; omega
      · rw [if_neg e]; have := h.few l' a b; omega
  rw [ask_is id (by omega) hw.1]
  cases hxs : lget ls l with
  | nil =>
    rw [hxs] at hq
    obtain ⟨q1, q2⟩ := hq.nil
    have ho : own T l = false := by unfold own; rw [q1]; rfl
    rw [if_neg (by rw [ho, q2]; simp)]
    rw [hxs] at rest
    refine ⟨_, rfl, rest _ (good_less (good_own h.good l who hw.1) (by omega)) ?_ (fun l' e => ⟨?_, rfl⟩)⟩
    · unfold Que
      show (mget (mset T.owners l who) l).toList ++ (wl T l).map Prod.fst = _ ∧ _
      rw [mget_mset, if_pos rfl, q2]
      exact ⟨rfl, fun e => by cases e⟩
    · show mget (mset T.owners l who) l' = _
      rw [mget_mset, if_neg e]
  | cons x r =>
    rw [hxs] at hq
    obtain ⟨q1, q2⟩ := hq.cons
    have ho : own T l = true := by unfold own; rw [q1]; rfl
    rw [if_pos (.inl ho)]
    rw [hxs] at rest
    refine ⟨_, by rw [decide_eq_false (by rw [List.length_cons]; omega)], rest _ (good_wait h.good hl _ ?_) ?_ (fun l' e => ⟨rfl, ?_⟩)⟩
    · intro q hq
      rw [List.mem_append, List.mem_singleton] at hq
      rcases hq with hq | rfl
      · exact h.good.whos l q hq
      · exact hw.1
    · unfold Que
      show (mget T.owners l).toList ++ (wl _ l).map Prod.fst = _ ∧ _
      rw [wl_mset, if_pos rfl, q1, List.map_append, q2]
      exact ⟨by simp, fun e => by cases e⟩
    · rw [wl_mset, if_neg e]
theorem loop0 (k0 : Int → List (List Int) → TurnsS → Option Bool) (n : Nat) (hn : n = min asks.length 20) (hk : ∀ ls T, Rel n T ls → k0 (n : Int) ls T = some true) :
    ∀ (d i : Nat) (ls : List (List Int)) (T : TurnsS) (fuel : Nat), i + d = n → d < fuel → Rel i T ls → turnsFairS_l0 asks lines k0 fuel (i : Int) ls T = some true := by
  intro d
  induction d with
  | zero =>
    intro i ls T fuel hi hf h1
    obtain ⟨m, rfl⟩ : ∃ m, fuel = m + 1 := ⟨fuel - 1, by omega⟩
    obtain rfl : i = n := by omega
    rw [turnsFairS_l0]
    dsimp only
    by_cases q : (i : Int) < ((asks.length : Nat) : Int)
    · rw [bif_t (decide_eq_true q), bif_f (decide_eq_false (by omega))]
      exact hk ls T h1
    · rw [bif_f (decide_eq_false q)]
      exact hk ls T h1
  | succ d ih =>
    intro i ls T fuel hi hf h1
    obtain ⟨m, rfl⟩ : ∃ m, fuel = m + 1 := ⟨fuel - 1, by omega⟩
    have q1 : (i : Int) < ((asks.length : Nat) : Int) := by omega
    have q2 : (i : Int) < 20 := by omega
    have q3 : (0 : Int) ≤ (i : Int) := by omega
    have q4 : inR ((i : Int) + 1) := by unfold inR; omega
    have step : ∀ l : Int, 0 ≤ l ∧ l < 3 → (chk (0 ≤ (i : Int) ∧ (i : Int) < ((asks.length : Nat) : Int)) ((withinS (nth asks (i : Int)) (9 : Int)).bind fun y11_6 => chk ((0 ≤ l ∧ l < (3 : Int)) ∧ 0 ≤ l ∧ l < ((ls.length : Nat) : Int)) ((taskS T l y11_6 (i : Int)).bind fun y11_8 => (bif !(y11_8.1 == (decide ((((List.length (lget ls l)) : Nat) : Int) = (0 : Int)))) then some false else chk ((0 ≤ l ∧ l < (3 : Int)) ∧ 0 ≤ l ∧ l < ((ls.length : Nat) : Int)) (chk (0 ≤ (i : Int) ∧ (i : Int) < ((asks.length : Nat) : Int)) ((withinS (nth asks (i : Int)) (9 : Int)).bind fun y13_8 => letP ([y13_8] : List Int) fun l13_9 => chk (((lget ls l) ++ l13_9).length ≤ 1099511627776) (letP ((lget ls l) ++ l13_9) fun l13_10 => chk ((0 ≤ l ∧ l < (3 : Int)) ∧ 0 ≤ l ∧ l < ((ls.length : Nat) : Int)) (letP (lset ls l l13_10) fun ls13_12 => chk (inR ((i : Int) + (1 : Int))) ((turnsFairS_l0 asks lines k0 m) ((i : Int) + (1 : Int)) ls13_12 y11_8.2))))))))) = some true := by
      intro l hl
      have hw : withinS (nth asks (i : Int)) 9 = some (nth asks (i : Int) % 9) := by unfold withinS; rw [chk_true ⟨by omega, by omega⟩]
      have hL : (0 ≤ l ∧ l < (3 : Int)) ∧ 0 ≤ l ∧ l < ((ls.length : Nat) : Int) := ⟨hl, by rw [h1.len]; exact hl⟩
      obtain ⟨T', ht, h3⟩ := h1.ask (who := nth asks (i : Int) % 9) (i : Int) hl (by omega) (by omega)
      have hf := h1.few l hl.1 hl.2
      rw [chk_true ⟨q3, q1⟩, hw, Option.bind_some, chk_true hL, ht, Option.bind_some]
      dsimp only
      rw [bif_f (by simp), chk_true hL, chk_true ⟨q3, q1⟩, Option.bind_some]
      unfold letP
      dsimp only
      rw [chk_true (by rw [List.length_append]; simp; omega), chk_true hL, chk_true q4]
      have := ih (i + 1) _ T' m (by omega) (by omega) h3
      rw [show ((i + 1 : Nat) : Int) = (i : Int) + 1 by omega] at this
      exact this
    rw [turnsFairS_l0]
    dsimp only
    rw [bif_t (decide_eq_true q1), bif_t (decide_eq_true q2)]
    by_cases q : (i : Int) < ((lines.length : Nat) : Int)
    · have hw : withinS (nth lines (i : Int)) 3 = some (nth lines (i : Int) % 3) := by unfold withinS; rw [chk_true ⟨by omega, by omega⟩]
      rw [bif_t (decide_eq_true q), chk_true ⟨q3, q⟩, hw, Option.bind_some]
      exact step _ (by omega)
    · rw [bif_f (decide_eq_false q)]
      exact step 0 (by omega)
theorem loop3 (ls : List (List Int)) (l : Int) (hl : 0 ≤ l ∧ l < 3) (hlen : ls.length = 3) (hs : ∀ x ∈ lget ls l, 0 ≤ x ∧ x < 9) (h20 : (lget ls l).length ≤ 20) (T0 : TurnsS) (k3 : Int → TurnsS → Option Bool)
    (N : Nat) (hk : ∀ i T, Good 3 N T → Que T l [] → (∀ l', l' ≠ l → mget T.owners l' = mget T0.owners l' ∧ wl T l' = wl T0 l') → k3 i T = some true) :
    ∀ (d i : Nat) (T : TurnsS) (fuel : Nat), i + d = (lget ls l).length → d < fuel → Good 3 N T → Que T l ((lget ls l).drop i) → (∀ l', l' ≠ l → mget T.owners l' = mget T0.owners l' ∧ wl T l' = wl T0 l') →
      turnsFairS_l3 ls l k3 fuel (i : Int) T = some true := by
  intro d
  induction d with
  | zero =>
    intro i T fuel hi hf hg hq ho
    obtain ⟨m, rfl⟩ : ∃ m, fuel = m + 1 := ⟨fuel - 1, by omega⟩
    rw [turnsFairS_l3]
    dsimp only
    rw [bif_f (decide_eq_false (by omega))]
    rw [List.drop_eq_nil_of_le (by omega)] at hq
    exact hk _ T hg hq ho
  | succ d ih =>
    intro i T fuel hi hf hg hq ho
    obtain ⟨m, rfl⟩ : ∃ m, fuel = m + 1 := ⟨fuel - 1, by omega⟩
    have q1 : (i : Int) < (((lget ls l).length : Nat) : Int) := by omega
    have q3 : (0 : Int) ≤ (i : Int) := by omega
    have q4 : inR ((i : Int) + 1) := by unfold inR; omega
    have hL : (0 ≤ l ∧ l < (3 : Int)) ∧ 0 ≤ l ∧ l < ((ls.length : Nat) : Int) := ⟨hl, by rw [hlen]; exact hl⟩
    have hd := nth_drop (xs := lget ls l) (i := i) (by omega)
    rw [hd] at hq
    obtain ⟨c1, c2⟩ := hq.cons
    have hx : nth (lget ls l) (i : Int) ∈ lget ls l := by
      have : nth (lget ls l) (i : Int) ∈ (lget ls l).drop i := by rw [hd]; exact List.mem_cons_self ..
      exact List.mem_of_mem_drop this
    have hx9 := hs _ hx
    have hwl : (wl T l).length = (lget ls l).length - (i + 1) := by
      have := congrArg List.length c2
      rw [List.length_map, List.length_drop] at this
      exact this
    have hown : own T l = true := by unfold own; rw [c1]; rfl
    have hg1 := good_del hg l
    have hn1 : mget (mdel T.owners l) l = none := by rw [mget_mdel hg.nodupo, if_pos rfl]
    have nxt : ∀ T', Good 3 N T' → Que T' l ((lget ls l).drop (i + 1)) → (∀ l', l' ≠ l → mget T'.owners l' = mget T0.owners l' ∧ wl T' l' = wl T0 l') → turnsFairS_l3 ls l k3 m ((i : Int) + 1) T' = some true := by
      intro T' g1 g2 g3
      have := ih (i + 1) T' m (by omega) (by omega) g1 g2 g3
      rw [show ((i + 1 : Nat) : Int) = (i : Int) + 1 by omega] at this
      exact this
    have hoth : ∀ l', l' ≠ l → mget (mdel T.owners l) l' = mget T0.owners l' := fun l' e => by rw [mget_mdel hg.nodupo, if_neg e]; exact (ho l' e).1
    rw [turnsFairS_l3]
    dsimp only
    rw [bif_t (decide_eq_true q1), chk_true ⟨q3, q1⟩, owner_is, Option.bind_some, c1, show (some (nth (lget ls l) (i : Int))).getD (-1) = nth (lget ls l) (i : Int) from rfl, bif_f (by simp), chk_true hL]
    unfold letP
    dsimp only
    rw [waiting_eq, Option.bind_some, wr_in (x := (((lget ls l).length : Nat) : Int) - 1) (by omega) (by omega), wr_in (by omega) (by omega), bif_f (by rw [hwl]; simp; omega), next_none (.inl hown), Option.bind_some]
    dsimp only
    rw [bif_f (by rfl), wr_in (by omega) (by omega), release_not c1 (by omega), Option.bind_some]
    dsimp only
    rw [bif_f (by simp), release_is c1, Option.bind_some]
    dsimp only
    rw [bif_f (by simp), owner_is, Option.bind_some]
    dsimp only
    rw [hn1, show (none : Option Int).getD (-1) = -1 from rfl, bif_f (by simp)]
    cases hp : wl T l with
    | nil =>
      rw [hp] at hwl c2
      rw [List.length_nil] at hwl
      rw [next_none (.inr (by show (wl T l).length = 0; rw [hp]; rfl)), Option.bind_some, chk_true q4, chk_true hL]
      dsimp only
      rw [bif_f (by rw [decide_eq_false (by omega)]; rfl), bif_f (by rfl), chk_true q4]
      refine nxt _ hg1 ?_ (fun l' e => ⟨hoth l' e, (ho l' e).2⟩)
      rw [List.drop_eq_nil_of_le (by omega)]
      unfold Que
      show (mget (mdel T.owners l) l).toList ++ (wl T l).map Prod.fst = [] ∧ _
      rw [hn1, hp]
      exact ⟨rfl, fun _ => hp⟩
    | cons p ps =>
      rw [hp] at hwl c2
      rw [List.length_cons] at hwl
      have hd2 := nth_drop (xs := lget ls l) (i := i + 1) (by omega)
      rw [hd2, List.map_cons] at c2
      injection c2 with c3 c4
      rw [show ((i + 1 : Nat) : Int) = (i : Int) + 1 by omega] at c3
      rw [next_is (T := ⟨mdel T.owners l, T.wait⟩) (p := p) (xs := ps) (by unfold own; show (mget (mdel T.owners l) l).isSome = false; rw [hn1]; rfl) hp, Option.bind_some, chk_true q4, chk_true hL]
      dsimp only
      rw [bif_f (by rw [decide_eq_true (by omega)]; rfl), bif_t (by rfl), chk_true hL, chk_true q4, chk_true ⟨by omega, by omega⟩, bif_f (by rw [c3]; simp), chk_true q4]
      have hps : ∀ q ∈ ps, 0 ≤ q.1 := fun q hq => hg.whos l q (by rw [hp]; exact List.mem_cons_of_mem _ hq)
      refine nxt _ (good_own (T := ⟨mdel T.owners l, mset T.wait l ps⟩) (good_wait_in (T := ⟨mdel T.owners l, T.wait⟩) hg1 hl hp ps hps) l p.1 (hg.whos l p (by rw [hp]; exact List.mem_cons_self ..))) ?_ (fun l' e => ⟨?_, ?_⟩)
      · unfold Que
        show (mget (mset (mdel T.owners l) l p.1) l).toList ++ (wl _ l).map Prod.fst = _ ∧ (mget (mset (mdel T.owners l) l p.1) l = none → _)
        rw [mget_mset, if_pos rfl, wl_mset, if_pos rfl, hd2, show ((i + 1 : Nat) : Int) = (i : Int) + 1 by omega, ← c3, c4]
        exact ⟨rfl, fun e => by cases e⟩
      · show mget (mset (mdel T.owners l) l p.1) l' = _
        rw [mget_mset, if_neg e]; exact hoth l' e
      · rw [wl_mset, if_neg e]; exact (ho l' e).2
theorem loop1 (ls : List (List Int)) (hlen : ls.length = 3) (hs : ∀ l, 0 ≤ l → l < 3 → ∀ x ∈ lget ls l, 0 ≤ x ∧ x < 9) (h20 : ∀ l, 0 ≤ l → l < 3 → (lget ls l).length ≤ 20) (k1 : Int → TurnsS → Option Bool) (N : Nat)
    (hk : ∀ T, Good 3 N T → (∀ l, 0 ≤ l → l < 3 → wl T l = []) → k1 3 T = some true) :
    ∀ (d j : Nat) (T : TurnsS) (fuel : Nat), j + d = 3 → d < fuel → Good 3 N T → (∀ l, 0 ≤ l → l < (j : Int) → wl T l = []) → (∀ l, (j : Int) ≤ l → l < 3 → Que T l (lget ls l)) → turnsFairS_l1 ls k1 fuel (j : Int) T = some true := by
  intro d
  induction d with
  | zero =>
    intro j T fuel hi hf hg hw hq
    obtain ⟨m, rfl⟩ : ∃ m, fuel = m + 1 := ⟨fuel - 1, by omega⟩
    obtain rfl : j = 3 := by omega
    rw [turnsFairS_l1]
    dsimp only
    rw [bif_f (decide_eq_false (by omega))]
    exact hk T hg hw
  | succ d ih =>
    intro j T fuel hi hf hg hw hq
    obtain ⟨m, rfl⟩ : ∃ m, fuel = m + 1 := ⟨fuel - 1, by omega⟩
    have hj : (0 : Int) ≤ (j : Int) ∧ (j : Int) < 3 := by omega
    have q4 : inR ((j : Int) + 1) := by unfold inR; omega
    rw [turnsFairS_l1]
    dsimp only
    rw [bif_t (decide_eq_true hj.2), chk_true ⟨hj, hj.1, by rw [hlen]; exact hj.2⟩]
    refine loop3 ls (j : Int) hj hlen (hs _ hj.1 hj.2) (h20 _ hj.1 hj.2) T _ N (fun i T' g1 g2 g3 => ?_) (lget ls (j : Int)).length 0 T 64 (by omega) (by have := h20 _ hj.1 hj.2; omega) hg (by rw [List.drop_zero]; exact hq _ (Int.le_refl _) hj.2) (fun l' _ => ⟨rfl, rfl⟩)
    obtain ⟨n1, n2⟩ := g2.nil
    unfold turnsFairS_k3
    rw [waiting_eq, Option.bind_some, n2, bif_f (by simp), owner_is, Option.bind_some, n1, bif_f (by simp), chk_true q4]
    have := ih (j + 1) T' m (by omega) (by omega) g1 (fun l a b => ?_) (fun l a b => ?_)
    · rw [show ((j + 1 : Nat) : Int) = (j : Int) + 1 by omega] at this
      exact this
    · by_cases e : l = (j : Int)
      · rw [e]; exact n2
      · rw [(g3 l e).2]; exact hw l a (by omega)
    · have e : l ≠ (j : Int) := by omega
      have := hq l (by omega) b
      unfold Que at this ⊢
      rw [(g3 l e).1, (g3 l e).2]
      exact this
end
theorem turnsFair_pure (asks lines : List Int) : turnsFairS asks lines = some true := by
  unfold turnsFairS
  rw [show tnewS = some ⟨[], []⟩ from rfl, Option.bind_some]
  have hnil : ∀ l, 0 ≤ l → l < 3 → lget (List.replicate 3 []) l = [] := fun l a b => by
    have : l = 0 ∨ l = 1 ∨ l = 2 := by omega
    rcases this with rfl | rfl | rfl <;> rfl
  refine loop0 asks lines turnsFairS_k0 (min asks.length 20) rfl (fun ls T h => ?_) (min asks.length 20) 0 _ ⟨[], []⟩ 64 (by omega) (by omega) ⟨good_new 3, rfl, fun l a b => ?_, fun l a b x hx => ?_, fun l a b => ?_⟩
  · unfold turnsFairS_k0
    refine loop1 ls h.len h.small (fun l a b => by have := h.few l a b; omega) turnsFairS_k1 _ (fun T' g hw => ?_) 3 0 T 64 (by omega) (by omega) h.good (fun l a b => by omega) (fun l a b => h.que l a b)
    unfold turnsFairS_k1
    have hr : (upto 3).filter (isReady T') = [] := by
      rw [List.filter_eq_nil_iff]
      intro a ha
      rw [upto_mem] at ha
      unfold isReady
      rw [hw a ha.1 ha.2]
      simp
    rw [ready_is (m := 3) g (by omega) (by omega), Option.bind_some, hr, bif_t (by rfl), wakes10_is]
    rfl
  · rw [hnil l a b]; exact ⟨rfl, fun _ => rfl⟩
  · rw [hnil l a b] at hx; cases hx
  · rw [hnil l a b]; exact Nat.zero_le _
end Go.Proofs.Ytpcffplbedbpkaa
