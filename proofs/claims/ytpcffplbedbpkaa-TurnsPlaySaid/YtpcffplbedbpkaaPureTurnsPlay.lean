/- The law TurnsPlay answers true at every input: the plain side. -/
import Derived.Test.YtpcffplbedbpkaaPureRTurnsLem
import Derived.Test.YtpcffplbedbpkaaLawTurnsPlay
set_option linter.unusedSimpArgs false
set_option linter.unusedVariables false
namespace Go.Proofs.Ytpcffplbedbpkaa
open Go
theorem wakes10_is : wakes10S = some true := by rfl
theorem loop63 {N : Nat} {T : TurnsS} {R : RTurnsS} (h : RSim 3 N T R) (hN : N ≤ 60) (k : Int → Option Bool) : ∀ (d fuel : Nat) (i : Int), -1 ≤ i → i + d = 4 → d < fuel → turnsPlayS_l63 T R k fuel i = k 4 := by
  intro d
  induction d with
  | zero =>
    intro fuel i h0 hi hf
    obtain ⟨f, rfl⟩ : ∃ f, fuel = f + 1 := ⟨fuel - 1, by omega⟩
    obtain rfl : i = 4 := by omega
    rw [turnsPlayS_l63]
    dsimp only
    rw [bif_f (decide_eq_false (by omega))]
  | succ d ih =>
    intro fuel i h0 hi hf
    obtain ⟨f, rfl⟩ : ∃ f, fuel = f + 1 := ⟨fuel - 1, by omega⟩
    have q5 : inR (i + 1) := by unfold inR; omega
    rw [turnsPlayS_l63]
    dsimp only
    rw [bif_t (decide_eq_true (by omega)), owner_is, Option.bind_some, h.owner hN, Option.bind_some, bif_f (by simp), waiting_eq, Option.bind_some, h.waiting hN, Option.bind_some, bif_f (by simp), chk_true q5]
    exact ih f (i + 1) (by omega) (by omega) (by omega)
theorem ksame_self (xs : List Int) (h : xs.length ≤ 60) : ksameS xs xs = some true := by
  unfold ksameS
  rw [chk_true (show okL xs by unfold okL; omega)]
  simp
theorem j62_is {N : Nat} {T : TurnsS} {R : RTurnsS} (h : RSim 3 N T R) (hN : N ≤ 59) (i : Nat) (hi : i ≤ 60) (r0 : Int → RTurnsS → TurnsS → Option Bool) : turnsPlayS_j62 (i : Int) r0 R T = r0 ((i + 1 : Nat) : Int) R T := by
  have q5 : inR ((i : Int) + 1) := by unfold inR; omega
  have hg : Good ((3 : Nat) : Int) N T := h.good
  have hR : RSim ((3 : Nat) : Int) N T R := h
  unfold turnsPlayS_j62
  have hf : ((upto 3).filter (isReady T)).length ≤ 60 := Nat.le_trans (List.length_filter_le _ _) (by decide)
  rw [ready_is hg (by omega) (by omega), Option.bind_some, hR.ready (by omega), Option.bind_some, ksame_self _ hf, Option.bind_some, bif_f (show (!true) = false from rfl), loop63 h (by omega) _ 5 64 (-1) (by omega) (by omega) (by omega)]
  unfold turnsPlayS_k63
  rw [chk_true q5]
  congr 1
theorem within_is {v n : Int} (h1 : 1 ≤ n) (h2 : n ≤ 1000) : ∃ k, withinS v n = some k ∧ 0 ≤ k ∧ k < n := by
  refine ⟨v % n, ?_, Int.emod_nonneg v (by omega), Int.emod_lt_of_pos v (by omega)⟩
  unfold withinS
  rw [chk_true ⟨h1, by omega⟩]
theorem j66_is {i : Nat} {T : TurnsS} {R : RTurnsS} (h : RSim 3 i T R) (hi : i ≤ 40) (line who : Int) (r0 : Int → RTurnsS → TurnsS → Option Bool) (hr : ∀ T' R', RSim 3 (i + 1) T' R' → r0 ((i + 1 : Nat) : Int) R' T' = some true) :
    turnsPlayS_j66 R line T (i : Int) r0 who = some true := by
  obtain ⟨b, T', R', e1, e2, e3⟩ := h.release (by omega) line who
  unfold turnsPlayS_j66
  rw [e2, Option.bind_some]
  dsimp only
  cases b
  · rw [bif_f rfl]
    unfold turnsPlayS_j67
    rw [e1, Option.bind_some]
    dsimp only
    rw [bif_f (by simp), j62_is e3 (by omega) i (by omega)]
    exact hr _ _ (e3.more (by omega))
  · rw [bif_t rfl]
    unfold turnsPlayS_j67
    rw [e1, Option.bind_some]
    dsimp only
    rw [bif_f (by simp), j62_is e3 (by omega) i (by omega)]
    exact hr _ _ (e3.more (by omega))
theorem loop0 (l : List (List Int)) (hl : ∀ x ∈ l, x.length = 4) (k0 : Int → RTurnsS → TurnsS → Option Bool) (hk : ∀ i R T, k0 i R T = some true) :
    ∀ (d i fuel : Nat) (T : TurnsS) (R : RTurnsS), i + d = min l.length 30 → d < fuel → RSim 3 i T R → turnsPlayS_l0 l k0 fuel (i : Int) R T = some true := by
  intro d
  induction d with
  | zero =>
    intro i fuel T R hi hf h
    obtain ⟨f, rfl⟩ : ∃ f, fuel = f + 1 := ⟨fuel - 1, by omega⟩
    rw [turnsPlayS_l0]
    dsimp only
    by_cases q : (i : Int) < ((l.length : Nat) : Int)
    · rw [bif_t (decide_eq_true q)]
      unfold turnsPlayS_j61
      rw [bif_f (decide_eq_false (by omega))]; exact hk _ _ _
    · rw [bif_f (decide_eq_false q)]
      unfold turnsPlayS_j61
      rw [bif_f rfl]; exact hk _ _ _
  | succ d ih =>
    intro i fuel T R hi hf h
    obtain ⟨f, rfl⟩ : ∃ f, fuel = f + 1 := ⟨fuel - 1, by omega⟩
    have q : (i : Int) < ((l.length : Nat) : Int) := by omega
    have hr : ∀ T' R', RSim 3 (i + 1) T' R' → turnsPlayS_l0 l k0 f ((i + 1 : Nat) : Int) R' T' = some true := fun T' R' h' => ih (i + 1) f T' R' (by omega) (by omega) h'
    have hx : (nthR l (i : Int)).length = 4 := by
      have : i < l.length := by omega
      rw [nthR_at (List.getElem?_eq_getElem this)]
      exact hl _ (List.getElem_mem this)
    rw [turnsPlayS_l0]
    dsimp only
    rw [bif_t (decide_eq_true q)]
    unfold turnsPlayS_j61
    rw [bif_t (decide_eq_true (by omega)), chk_true ⟨by omega, q⟩, chk_true hx]
    obtain ⟨line, e1, l1, l2⟩ := within_is (v := nth (nthR l (i : Int)) 1) (n := 3) (by omega) (by omega)
    obtain ⟨what, e2, w1, w2⟩ := within_is (v := nth (nthR l (i : Int)) 0) (n := 5) (by omega) (by omega)
    obtain ⟨who, e3, p1, p2⟩ := within_is (v := nth (nthR l (i : Int)) 2) (n := 5) (by omega) (by omega)
    rw [e1, Option.bind_some, e2, Option.bind_some]
    have ask : turnsPlayS_j64 l (i : Int) T line R (turnsPlayS_l0 l k0 f) what true = some true := by
      obtain ⟨b, T', R', a1, a2, a3⟩ := h.ask (by omega) (nth (nthR l (i : Int)) 3) ⟨l1, l2⟩ p1
      unfold turnsPlayS_j64
      rw [bif_t rfl, e3, Option.bind_some, a1, Option.bind_some, a2, Option.bind_some]
      dsimp only
      rw [bif_f (by simp), j62_is a3 (by omega) i (by omega)]
      exact hr _ _ a3
    have rel : turnsPlayS_j65 l (i : Int) R line T (turnsPlayS_l0 l k0 f) true = some true := by
      have go : ∀ w, turnsPlayS_j66 R line T (i : Int) (turnsPlayS_l0 l k0 f) w = some true := fun w => j66_is h (by omega) line w _ hr
      unfold turnsPlayS_j65
      rw [bif_t rfl, e3, Option.bind_some]
      rw [h.owner (by omega), Option.bind_some, Option.bind_some]
      by_cases c1 : (nth (nthR l (i : Int)) 0).tmod 2 = 0
      · rw [bif_t (decide_eq_true c1)]
        by_cases c2 : (mget T.owners line).getD (-1) = -1
        · rw [bif_f (by simp [c2])]; exact go _
        · rw [bif_t (by simp [c2])]; exact go _
      · rw [bif_f (decide_eq_false c1)]; exact go _
    have nx : turnsPlayS_j65 l (i : Int) R line T (turnsPlayS_l0 l k0 f) false = some true := by
      obtain ⟨a, b, c, T', R', a1, a2, a3⟩ := h.next (by omega) ⟨l1, l2⟩
      unfold turnsPlayS_j65
      rw [bif_f rfl, a1, Option.bind_some, a2, Option.bind_some]
      dsimp only
      rw [bif_f (by simp), bif_f (by simp), bif_f (by simp), j62_is a3 (by omega) i (by omega)]
      exact hr _ _ a3
    have oth : turnsPlayS_j64 l (i : Int) T line R (turnsPlayS_l0 l k0 f) what false = some true := by
      unfold turnsPlayS_j64
      rw [bif_f rfl]
      by_cases c1 : what = 2
      · rw [bif_t (decide_eq_true c1), decide_eq_true c1]; exact rel
      · rw [bif_f (decide_eq_false c1)]
        by_cases c2 : what = 3
        · rw [decide_eq_true c2]; exact rel
        · rw [decide_eq_false c2]; exact nx
    by_cases c1 : what = 0
    · rw [bif_t (decide_eq_true c1), decide_eq_true c1]; exact ask
    · rw [bif_f (decide_eq_false c1)]
      by_cases c2 : what = 1
      · rw [decide_eq_true c2]; exact ask
      · rw [decide_eq_false c2]; exact oth
theorem turnsPlay_pure (l : List (List Int)) (hl : ∀ x ∈ l, x.length = 4) : turnsPlayS l = some true := by
  unfold turnsPlayS
  rw [show tnewS = some ⟨[], []⟩ from rfl, Option.bind_some]
  exact loop0 l hl _ (fun _ _ _ => by unfold turnsPlayS_k0; rw [wakes10_is]; rfl) (min l.length 30) 0 64 _ _ (by omega) (by omega) (RSim.new 3)
end Go.Proofs.Ytpcffplbedbpkaa
