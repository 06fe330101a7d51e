/- The law TurnsIDs answers true at every input: the plain side. -/
import Derived.Test.YtpcffplbedbpkaaLawTurnsIDs
set_option linter.unusedSimpArgs false
set_option linter.unusedVariables false
namespace Go.Proofs.Ytpcffplbedbpkaa
open Go
theorem bif_t {α : Type} {c : Bool} {x y : α} (h : c = true) : (bif c then x else y) = x := by subst h; rfl
theorem bif_f {α : Type} {c : Bool} {x y : α} (h : c = false) : (bif c then x else y) = y := by subst h; rfl
theorem wakes10_is : wakes10S = some true := by rfl
theorem mget_mset {α : Type} (l : List (Int × α)) (k k' : Int) (v : α) : mget (mset l k v) k' = if k' = k then some v else mget l k' := by
  induction l with
  | nil => rfl
  | cons p r ih =>
    unfold mset
    by_cases h : k = p.1
    · rw [if_pos h]
      show (if k' = p.1 then some v else mget r k') = if k' = k then some v else (if k' = p.1 then some p.2 else mget r k')
      rw [← h]
      by_cases h2 : k' = k
      · simp [h2]
      · simp [h2]
    · rw [if_neg h]
      show (if k' = p.1 then some p.2 else mget (mset r k v) k') = if k' = k then some v else (if k' = p.1 then some p.2 else mget r k')
      rw [ih]
      by_cases h2 : k' = k
      · subst h2; simp [h]
      · simp [h2]
section
variable (L : Int) (ids : List Int)
/-- Only L has waiting ones: xs. -/
def QW (W : List (Int × List (Int × Int))) (xs : List (Int × Int)) : Prop := wget W L = xs ∧ ∀ k, k ≠ L → mget W k = none
theorem QW.set {W : List (Int × List (Int × Int))} {xs : List (Int × Int)} (h : QW L W xs) (ys : List (Int × Int)) : QW L (mset W L ys) ys := by
  refine ⟨by simp [wget, mget_mset], fun k hk => ?_⟩
  rw [mget_mset, if_neg hk]
  exact h.2 k hk
def asks (i : Nat) : List (Int × Int) := (List.range i).map fun (j : Nat) => ((j : Int), nth ids (j : Int))
theorem asks_len (i : Nat) : (asks ids i).length = i := by simp [asks]
theorem asks_succ (i : Nat) : asks ids i ++ [((i : Int), nth ids (i : Int))] = asks ids (i + 1) := by simp [asks, List.range_succ]
theorem asks_drop {i n : Nat} (h : i < n) : (asks ids n).drop i = ((i : Int), nth ids (i : Int)) :: (asks ids n).drop (i + 1) := by
  rw [List.drop_eq_getElem_cons (by rw [asks_len]; exact h)]
  simp [asks]
theorem owned_is (w k : Int) (W : List (Int × List (Int × Int))) : townedS ⟨[(L, w)], W⟩ k = some (decide (k = L)) := by
  unfold townedS letP mget
  by_cases h : k = L <;> simp [h, mget]
theorem owned_nil (k : Int) (W : List (Int × List (Int × Int))) : townedS ⟨[], W⟩ k = some false := rfl
theorem ask_is {W : List (Int × List (Int × Int))} {xs : List (Int × Int)} (h : QW L W xs) (hx : xs.length ≤ 1099511627776) (w who id : Int) (hw : 0 ≤ who) :
    taskS ⟨[(L, w)], W⟩ L who id = some (false, ⟨[(L, w)], mset W L (xs ++ [(who, id)])⟩) := by
  have h1 : ¬ who < 0 := by omega
  unfold taskS
  rw [bif_f (decide_eq_false h1), owned_is, Option.bind_some, bif_t (by simp)]
  rw [h.1, chk_true hx]; rfl
theorem loop0 (k0 : Int → TurnsS → Option Bool) (n : Nat) (hn : n = min ids.length 10) (hk : ∀ W, QW L W (asks ids n) → k0 (n : Int) ⟨[(L, 0)], W⟩ = some true) :
    ∀ (d i : Nat) (W : List (Int × List (Int × Int))) (fuel : Nat), i + d = n → d < fuel → QW L W (asks ids i) → turnsIDsS_l0 ids L k0 fuel (i : Int) ⟨[(L, 0)], W⟩ = some true := by
  intro d
  induction d with
  | zero =>
    intro i W fuel hi hf hq
    obtain ⟨m, rfl⟩ : ∃ m, fuel = m + 1 := ⟨fuel - 1, by omega⟩
    obtain rfl : i = n := by omega
    rw [turnsIDsS_l0]
    dsimp only
    have e : ∀ b, b = false → turnsIDsS_j4 (i : Int) ids ⟨[(L, 0)], W⟩ L (turnsIDsS_l0 ids L k0 m) k0 b = some true := by
      rintro _ rfl
      unfold turnsIDsS_j4
      rw [bif_f (by decide)]
      exact hk W hq
    by_cases h1 : (i : Int) < ((ids.length : Nat) : Int)
    · rw [bif_t (decide_eq_true h1)]
      exact e _ (decide_eq_false (by omega))
    · rw [bif_f (decide_eq_false h1)]
      exact e _ rfl
  | succ d ih =>
    intro i W fuel hi hf hq
    obtain ⟨m, rfl⟩ : ∃ m, fuel = m + 1 := ⟨fuel - 1, by omega⟩
    have h1 : (i : Int) < ((ids.length : Nat) : Int) := by omega
    have h2 : (i : Int) < 10 := by omega
    have h3 : (0 : Int) ≤ (i : Int) := by omega
    have h4 : inR ((i : Int) + 1) := by unfold inR; omega
    have hl := asks_len ids i
    have hq2 := hq.set L (asks ids i ++ [((i : Int), nth ids (i : Int))])
    rw [turnsIDsS_l0]
    dsimp only
    rw [bif_t (decide_eq_true h1)]
    unfold turnsIDsS_j4
    rw [bif_t (decide_eq_true h2), chk_true ⟨h3, h1⟩, ask_is L hq (by omega) 0 (i : Int) _ h3, Option.bind_some]
    dsimp only
    rw [bif_f (by decide)]
    have hw : twaitingS ⟨[(L, 0)], mset W L (asks ids i ++ [((i : Int), nth ids (i : Int))])⟩ L = some ((i : Int) + 1) := by
      unfold twaitingS
      dsimp only
      rw [hq2.1, List.length_append, hl]; rfl
    rw [hw, Option.bind_some, chk_true h4]
    unfold turnsIDsS_j5
    rw [bif_f (by simp), chk_true h4]
    have := ih (i + 1) (mset W L (asks ids i ++ [((i : Int), nth ids (i : Int))])) m (by omega) (by omega) (by rw [← asks_succ]; exact hq2)
    rw [show ((i + 1 : Nat) : Int) = (i : Int) + 1 by omega] at this
    exact this
theorem next_is {W : List (Int × List (Int × Int))} {p : Int × Int} {xs : List (Int × Int)} (h : QW L W (p :: xs)) : tnextS ⟨[], W⟩ L = some (p.1, p.2, true, ⟨[(L, p.1)], mset W L xs⟩) := by
  unfold tnextS
  rw [owned_nil, Option.bind_some, bif_f (by decide)]
  have hw : twaitingS ⟨[], W⟩ L = some (((p :: xs).length : Nat) : Int) := by
    unfold twaitingS
    dsimp only
    rw [h.1]
  have hp : ¬ ((((p :: xs).length : Nat) : Int) = 0) := by rw [List.length_cons]; omega
  have hp2 : (0 : Int) < (((p :: xs).length : Nat) : Int) := by rw [List.length_cons]; omega
  have hp3 : 1 ≤ (p :: xs).length := by simp
  rw [hw, Option.bind_some, bif_f (decide_eq_false hp)]
  dsimp only
  rw [h.1, chk_true ⟨by omega, hp2⟩, chk_true hp3]
  rfl
theorem release_is (w : Int) (W : List (Int × List (Int × Int))) : treleaseS ⟨[(L, w)], W⟩ L w = some (0, ⟨[], W⟩) := by
  unfold treleaseS
  rw [owned_is, Option.bind_some, bif_f (by simp)]
  simp [letP, mget, mdel]
theorem loop1 (k1 : Int → Int → TurnsS → Option Bool) (n : Nat) (hn : n = min ids.length 10) (hk : ∀ w j W, QW L W [] → k1 w j ⟨[(L, w)], W⟩ = some true) :
    ∀ (d i : Nat) (w : Int) (W : List (Int × List (Int × Int))) (fuel : Nat), i + d = n → d < fuel → QW L W ((asks ids n).drop i) → turnsIDsS_l1 ids L k1 fuel w (i : Int) ⟨[(L, w)], W⟩ = some true := by
  intro d
  induction d with
  | zero =>
    intro i w W fuel hi hf hq
    obtain ⟨m, rfl⟩ : ∃ m, fuel = m + 1 := ⟨fuel - 1, by omega⟩
    obtain rfl : i = n := by omega
    have hnil : (asks ids i).drop i = [] := List.drop_eq_nil_of_le (by rw [asks_len]; exact Nat.le_refl _)
    rw [hnil] at hq
    rw [turnsIDsS_l1]
    dsimp only
    have e : ∀ b, b = false → turnsIDsS_j2 ⟨[(L, w)], W⟩ L w (i : Int) (turnsIDsS_l1 ids L k1 m) ids k1 b = some true := by
      rintro _ rfl
      unfold turnsIDsS_j2
      rw [bif_f (by decide)]
      exact hk w _ W hq
    by_cases h1 : (i : Int) < ((ids.length : Nat) : Int)
    · rw [bif_t (decide_eq_true h1)]
      exact e _ (decide_eq_false (by omega))
    · rw [bif_f (decide_eq_false h1)]
      exact e _ rfl
  | succ d ih =>
    intro i w W fuel hi hf hq
    obtain ⟨m, rfl⟩ : ∃ m, fuel = m + 1 := ⟨fuel - 1, by omega⟩
    have h1 : (i : Int) < ((ids.length : Nat) : Int) := by omega
    have h2 : (i : Int) < 10 := by omega
    have h3 : (0 : Int) ≤ (i : Int) := by omega
    have h4 : inR ((i : Int) + 1) := by unfold inR; omega
    rw [asks_drop ids (show i < n by omega)] at hq
    have hnx := next_is L hq
    have hq2 := hq.set L ((asks ids n).drop (i + 1))
    rw [turnsIDsS_l1]
    dsimp only
    rw [bif_t (decide_eq_true h1)]
    unfold turnsIDsS_j2
    rw [bif_t (decide_eq_true h2), release_is, Option.bind_some]
    dsimp only
    rw [bif_f (by simp), hnx, Option.bind_some]
    dsimp only
    rw [bif_f (by decide), bif_f (by simp), chk_true ⟨h3, h1⟩]
    unfold turnsIDsS_j3
    rw [bif_f (by simp), chk_true h4]
    have := ih (i + 1) (i : Int) _ m (by omega) (by omega) hq2
    rw [show ((i + 1 : Nat) : Int) = (i : Int) + 1 by omega] at this
    exact this
theorem tail_ok (hL : 0 ≤ L ∧ L < 50) (w j : Int) (W : List (Int × List (Int × Int))) (hq : QW L W []) : turnsIDsS_k1 L w j ⟨[(L, w)], W⟩ = some true := by
  have hw : wr (L + 1) = L + 1 := wr_in (by omega) (by omega)
  have hne : ¬ L + 1 = L := by omega
  have ho : townedS ⟨[(L, w)], W⟩ (L + 1) = some false := by rw [owned_is]; simp [hne]
  have hg : wget W (L + 1) = [] := by unfold wget; rw [hq.2 _ hne]; rfl
  have hwt : twaitingS ⟨[(L, w)], W⟩ (L + 1) = some 0 := by unfold twaitingS; dsimp only; rw [hg]; rfl
  have hnx : tnextS ⟨[(L, w)], W⟩ (L + 1) = some (0, 0, false, ⟨[(L, w)], W⟩) := by
    unfold tnextS
    rw [ho, Option.bind_some, bif_f (by decide), hwt, Option.bind_some, bif_t (by decide)]
  have how : townerS ⟨[(L, w)], W⟩ (L + 1) = some (-1) := by simp [townerS, letP, mget, hne]
  have hrel : treleaseS ⟨[(L, w)], W⟩ (L + 1) 0 = some (6, ⟨[(L, w)], W⟩) := by
    unfold treleaseS
    rw [ho, Option.bind_some, bif_t (by decide)]
  have hask : taskS ⟨[(L, w)], W⟩ (L + 1) (-1) 0 = some (false, ⟨[(L, w)], W⟩) := by
    unfold taskS
    rw [bif_t (by decide)]
  unfold turnsIDsS_k1
  rw [hw, hnx, Option.bind_some]
  dsimp only
  rw [bif_t (by first | rfl | simp), how, Option.bind_some, bif_t (by first | rfl | simp), hwt, Option.bind_some, bif_t (by first | rfl | simp), hrel, Option.bind_some]
  dsimp only
  rw [bif_t (by first | rfl | simp), hask, Option.bind_some]
  dsimp only
  rw [bif_t (by first | rfl | simp), how, Option.bind_some, bif_t (by first | rfl | simp), wakes10_is]
  rfl
end
theorem turnsIDs_pure (ids : List Int) (line : Int) : turnsIDsS ids line = some true := by
  unfold turnsIDsS
  have hw : withinS line 50 = some (line % 50) := by unfold withinS; rw [chk_true ⟨by omega, by omega⟩]
  obtain ⟨L, hL, he⟩ : ∃ L, (0 ≤ L ∧ L < 50) ∧ line % 50 = L := ⟨_, by omega, rfl⟩
  rw [show tnewS = some ⟨[], []⟩ from rfl, Option.bind_some, hw, he, Option.bind_some]
  have h0 : taskS ⟨[], []⟩ L 0 (-1) = some (true, ⟨[(L, 0)], []⟩) := rfl
  rw [h0, Option.bind_some]
  refine loop0 L ids (turnsIDsS_k0 ids L) (min ids.length 10) rfl (fun W hq => ?_) (min ids.length 10) 0 [] 64 (by omega) (by omega) ⟨rfl, fun _ _ => rfl⟩
  unfold turnsIDsS_k0
  exact loop1 L ids (turnsIDsS_k1 L) (min ids.length 10) rfl (fun w j W hq => tail_ok L hL w j W hq) (min ids.length 10) 0 0 W 64 (by omega) (by omega) (by rw [List.drop_zero]; exact hq)
end Go.Proofs.Ytpcffplbedbpkaa
