/- The law TurnsReady answers true at every input: the plain side. -/
import Derived.Test.YtpcffplbedbpkaaLawTurnsReady
import Derived.Test.YtpcffplbedbpkaaPureTurnsLem
set_option linter.unusedSimpArgs false
set_option linter.unusedVariables false
namespace Go.Proofs.Ytpcffplbedbpkaa
open Go
theorem wakes10_is : wakes10S = some true := by rfl
section
variable (ls : List Int)
def askd (i : Nat) : List Int := (ls.take i).map (· % 6)
def cnt (i : Nat) (l : Int) : Nat := (askd ls i).count l
theorem cnt_le (i : Nat) (l : Int) : cnt ls i l ≤ i := by
  have h1 : (askd ls i).count l ≤ (askd ls i).length := List.count_le_length
  have h2 : (askd ls i).length ≤ i := by simp [askd]; omega
  exact Nat.le_trans h1 h2
theorem cnt_succ {i : Nat} (h : i < ls.length) (l : Int) : cnt ls (i + 1) l = cnt ls i l + (if l = nth ls (i : Int) % 6 then 1 else 0) := by
  unfold cnt askd
  rw [List.take_add_one, List.map_append, List.count_append]
  congr 1
  have : ls[i]? = some (nth ls (i : Int)) := by simp [nth, h]
  rw [this]
  by_cases hl : l = nth ls (i : Int) % 6
  · simp [hl]
  · rw [if_neg hl]
    simp [List.count_cons, Ne.symm hl]
structure Inv (i : Nat) (T : TurnsS) : Prop where
  good : Good 6 i T
  own : ∀ l, own T l = decide (0 < cnt ls i l)
  wl : ∀ l, (wl T l).length = cnt ls i l - 1
def Num (i : Nat) (N : List (Int × Int)) : Prop := ∀ l, (mget N l).getD 0 = ((cnt ls i l : Nat) : Int)
theorem Inv.ask {i : Nat} {T : TurnsS} (h : Inv ls i T) (hi : i < ls.length) (hs : i ≤ 20) : ∃ b T', taskS T (nth ls (i : Int) % 6) ((i : Int).tmod 4) (i : Int) = some (b, T') ∧ Inv ls (i + 1) T' := by
  have hw : 0 ≤ (i : Int).tmod 4 := Int.tmod_nonneg _ (by omega)
  have hL : 0 ≤ nth ls (i : Int) % 6 ∧ nth ls (i : Int) % 6 < 6 := by omega
  have hlen : (Go.Proofs.Ytpcffplbedbpkaa.wl T (nth ls (i : Int) % 6)).length ≤ 1099511627776 := by
    have := h.wl (nth ls (i : Int) % 6); have := cnt_le ls i (nth ls (i : Int) % 6); omega
  rw [ask_is _ hlen hw]
  have hc := fun l => cnt_succ ls hi l
  generalize hLe : nth ls (i : Int) % 6 = L at *
  have ho := h.own L
  have hwl := h.wl L
  by_cases hcase : Go.Proofs.Ytpcffplbedbpkaa.own T L = true ∨ 0 < (Go.Proofs.Ytpcffplbedbpkaa.wl T L).length
  · rw [if_pos hcase]
    have hpos : 0 < cnt ls i L := by
      rcases hcase with q | q
      · rw [q] at ho; exact of_decide_eq_true ho.symm
      · omega
    refine ⟨_, _, rfl, good_wait h.good hL _ ?_, fun l => ?_, fun l => ?_⟩
    · intro q hq
      rw [List.mem_append, List.mem_singleton] at hq
      rcases hq with hq | rfl
      · exact h.good.whos L q hq
      · exact hw
    · show Go.Proofs.Ytpcffplbedbpkaa.own T l = _
      rw [h.own l, hc l]
      by_cases hl : l = L
      · subst hl; simp [hpos]
      · simp [hl]
    · rw [wl_mset, hc l]
      by_cases hl : l = L
      · rw [if_pos hl, if_pos hl, List.length_append, hwl, hl]; simp; omega
      · rw [if_neg hl, if_neg hl]; exact h.wl l
  · rw [if_neg hcase]
    have hz : cnt ls i L = 0 := by
      rcases Nat.eq_zero_or_pos (cnt ls i L) with q | q
      · exact q
      · exact absurd (.inl (by rw [ho]; exact decide_eq_true q)) hcase
    refine ⟨_, _, rfl, good_less (good_own h.good L _ hw) (by omega), fun l => ?_, fun l => ?_⟩
    · rw [own_mset, hc l]
      by_cases hl : l = L
      · simp [hl]
      · simp only [if_neg hl, Nat.add_zero]; exact h.own l
    · show (Go.Proofs.Ytpcffplbedbpkaa.wl T l).length = _
      rw [h.wl l, hc l]
      by_cases hl : l = L
      · rw [hl, if_pos rfl, hz]
      · rw [if_neg hl]; rfl
theorem num_ask {i : Nat} {N : List (Int × Int)} (h : Num ls i N) (hi : i < ls.length) (hs : i ≤ 20) : Num ls (i + 1) (mset N (nth ls (i : Int) % 6) (wr ((mget N (nth ls (i : Int) % 6)).getD 0 + 1))) := by
  intro l
  have h1 := h (nth ls (i : Int) % 6)
  have h2 := cnt_le ls i (nth ls (i : Int) % 6)
  rw [mget_mset, cnt_succ ls hi l, h1, wr_in (by omega) (by omega)]
  by_cases hl : l = nth ls (i : Int) % 6
  · rw [if_pos hl, if_pos hl, hl]; simp
  · rw [if_neg hl, if_neg hl]; simpa using h l
theorem loop0 (k0 : Int → List (Int × Int) → TurnsS → Option Bool) (n : Nat) (hn : n = min ls.length 20) (hk : ∀ N T, Inv ls n T → Num ls n N → k0 (n : Int) N T = some true) :
    ∀ (d i : Nat) (N : List (Int × Int)) (T : TurnsS) (fuel : Nat), i + d = n → d < fuel → Inv ls i T → Num ls i N → turnsReadyS_l0 ls k0 fuel (i : Int) N T = some true := by
  intro d
  induction d with
  | zero =>
    intro i N T fuel hi hf h1 h2
    obtain ⟨m, rfl⟩ : ∃ m, fuel = m + 1 := ⟨fuel - 1, by omega⟩
    obtain rfl : i = n := by omega
    rw [turnsReadyS_l0]
    dsimp only
    by_cases q : (i : Int) < ((ls.length : Nat) : Int)
    · rw [bif_t (decide_eq_true q), bif_f (decide_eq_false (by omega))]
      exact hk N T h1 h2
    · rw [bif_f (decide_eq_false q)]
      exact hk N T h1 h2
  | succ d ih =>
    intro i N T fuel hi hf h1 h2
    obtain ⟨m, rfl⟩ : ∃ m, fuel = m + 1 := ⟨fuel - 1, by omega⟩
    have q1 : (i : Int) < ((ls.length : Nat) : Int) := by omega
    have q2 : (i : Int) < 20 := by omega
    have q3 : (0 : Int) ≤ (i : Int) := by omega
    have q4 : inR ((i : Int) + 1) := by unfold inR; omega
    have hw : withinS (nth ls (i : Int)) 6 = some (nth ls (i : Int) % 6) := by unfold withinS; rw [chk_true ⟨by omega, by omega⟩]
    obtain ⟨b, T', ht, h3⟩ := h1.ask ls (by omega) (by omega)
    have h4 := num_ask ls h2 (by omega) (by omega)
    rw [turnsReadyS_l0]
    dsimp only
    rw [bif_t (decide_eq_true q1), bif_t (decide_eq_true q2), chk_true ⟨q3, q1⟩, hw, Option.bind_some, ht, Option.bind_some]
    unfold letP
    dsimp only
    rw [chk_true q4]
    have := ih (i + 1) _ T' m (by omega) (by omega) h3 h4
    rw [show ((i + 1 : Nat) : Int) = (i : Int) + 1 by omega] at this
    exact this
/-- Lines ahead of j are let go. -/
structure Gone (n j : Nat) (T : TurnsS) : Prop where
  good : Good 6 20 T
  own : ∀ l, own T l = decide (0 < cnt ls n l ∧ (j : Int) ≤ l)
  wl : ∀ l, (wl T l).length = cnt ls n l - 1
theorem loop1 (N : List (Int × Int)) (n : Nat) (hN : Num ls n N) (k1 : Int → TurnsS → Option Bool) (hk : ∀ T, Gone ls n 6 T → k1 6 T = some true) :
    ∀ (d j : Nat) (T : TurnsS) (fuel : Nat), j + d = 6 → d < fuel → Gone ls n j T → turnsReadyS_l1 N k1 fuel (j : Int) T = some true := by
  intro d
  induction d with
  | zero =>
    intro j T fuel hi hf h1
    obtain ⟨m, rfl⟩ : ∃ m, fuel = m + 1 := ⟨fuel - 1, by omega⟩
    obtain rfl : j = 6 := by omega
    rw [turnsReadyS_l1]
    dsimp only
    rw [bif_f (decide_eq_false (by omega))]
    exact hk T h1
  | succ d ih =>
    intro j T fuel hi hf h1
    obtain ⟨m, rfl⟩ : ∃ m, fuel = m + 1 := ⟨fuel - 1, by omega⟩
    have q4 : inR ((j : Int) + 1) := by unfold inR; omega
    rw [turnsReadyS_l1]
    dsimp only
    rw [bif_t (decide_eq_true (by omega))]
    unfold letP
    dsimp only
    rw [hN (j : Int)]
    have ho := h1.own (j : Int)
    by_cases hc : 0 < cnt ls n (j : Int)
    · rw [bif_t (decide_eq_true (by omega)), owner_is, Option.bind_some]
      rw [decide_eq_true ⟨hc, Int.le_refl _⟩] at ho
      unfold Go.Proofs.Ytpcffplbedbpkaa.own at ho
      obtain ⟨w, hw⟩ := Option.isSome_iff_exists.1 ho
      rw [hw, show (some w).getD (-1) = w from rfl, release_is hw, Option.bind_some]
      dsimp only
      rw [bif_f (by simp), chk_true q4]
      have := ih (j + 1) ⟨mdel T.owners (j : Int), T.wait⟩ m (by omega) (by omega) ⟨good_del h1.good _, fun l => ?_, h1.wl⟩
      · rw [show ((j + 1 : Nat) : Int) = (j : Int) + 1 by omega] at this
        exact this
      · rw [own_mdel h1.good.nodupo]
        by_cases hl : l = (j : Int)
        · rw [if_pos hl]; exact (decide_eq_false (by omega)).symm
        · rw [if_neg hl]
          show Go.Proofs.Ytpcffplbedbpkaa.own T l = _
          rw [h1.own l, decide_eq_decide]; omega
    · rw [bif_f (decide_eq_false (by omega)), chk_true q4]
      have := ih (j + 1) T m (by omega) (by omega) ⟨h1.good, fun l => by
        rw [h1.own l, decide_eq_decide]
        by_cases hl : l = (j : Int)
        · rw [hl]; omega
        · omega, h1.wl⟩
      rw [show ((j + 1 : Nat) : Int) = (j : Int) + 1 by omega] at this
      exact this
def moreW (n : Nat) (l : Int) : Bool := decide (1 < cnt ls n l)
theorem upto_succ (j : Nat) : upto (j + 1) = upto j ++ [(j : Int)] := by simp [upto, List.range_succ]
theorem upto_len (j : Nat) : (upto j).length = j := by simp [upto]
theorem loop2 (N : List (Int × Int)) (n : Nat) (hN : Num ls n N) (k2 : List Int → Int → Option Bool) (hk : k2 ((upto 6).filter (moreW ls n)) 6 = some true) :
    ∀ (d j : Nat) (fuel : Nat), j + d = 6 → d < fuel → turnsReadyS_l2 N k2 fuel ((upto j).filter (moreW ls n)) (j : Int) = some true := by
  intro d
  induction d with
  | zero =>
    intro j fuel hi hf
    obtain ⟨m, rfl⟩ : ∃ m, fuel = m + 1 := ⟨fuel - 1, by omega⟩
    obtain rfl : j = 6 := by omega
    rw [turnsReadyS_l2]
    dsimp only
    rw [bif_f (decide_eq_false (by omega))]
    exact hk
  | succ d ih =>
    intro j fuel hi hf
    obtain ⟨m, rfl⟩ : ∃ m, fuel = m + 1 := ⟨fuel - 1, by omega⟩
    have q4 : inR ((j : Int) + 1) := by unfold inR; omega
    have hl : ((upto j).filter (moreW ls n)).length ≤ j := by have := List.length_filter_le (moreW ls n) (upto j); rw [upto_len] at this; exact this
    have := ih (j + 1) m (by omega) (by omega)
    rw [show ((j + 1 : Nat) : Int) = (j : Int) + 1 by omega, upto_succ, List.filter_append] at this
    rw [turnsReadyS_l2]
    dsimp only
    rw [bif_t (decide_eq_true (by omega))]
    unfold letP
    dsimp only
    rw [hN (j : Int)]
    by_cases hc : 1 < cnt ls n (j : Int)
    · rw [bif_t (decide_eq_true (by omega)), chk_true (by rw [List.length_append]; simp; omega), chk_true q4]
      rw [show [(j : Int)].filter (moreW ls n) = [(j : Int)] by simp [moreW, hc]] at this
      exact this
    · rw [bif_f (decide_eq_false (by omega)), chk_true q4]
      rw [show [(j : Int)].filter (moreW ls n) = [] by simp only [List.filter_cons, moreW, decide_eq_false hc]; rfl, List.append_nil] at this
      exact this
theorem filter_head {p q : Int → Bool} {x : Int} {r : List Int} : ∀ {l : List Int}, l.Nodup → l.filter p = x :: r → (∀ a, q a = (p a && !decide (a = x))) → l.filter q = r
  | [], _, h, _ => by simp at h
  | a :: l, hn, h, hq => by
    rw [List.nodup_cons] at hn
    rw [List.filter_cons] at h ⊢
    by_cases hp : p a = true
    · rw [if_pos hp] at h
      injection h with h1 h2
      subst h1
      rw [if_neg (by rw [hq]; simp)]
      rw [← h2]
      refine List.filter_congr fun b hb => ?_
      rw [hq]
      have : b ≠ a := fun e => hn.1 (e ▸ hb)
      simp [this]
    · rw [if_neg hp] at h
      rw [if_neg (by rw [hq]; simp [hp])]
      exact filter_head hn.2 h hq
theorem ksame_self {l : List Int} (h : okL l) : ksameS l l = some true := by unfold ksameS; rw [chk_true h]; simp
theorem loop3 (k3 : List Int → TurnsS → Option Bool) (hk : ∀ T, k3 [] T = some true) : ∀ (want : List Int) (T : TurnsS) (N : Nat) (fuel : Nat), want.length < fuel → Good 6 N T → N + want.length ≤ 40 → (upto 6).filter (isReady T) = want → turnsReadyS_l3 k3 fuel want T = some true := by
  intro want
  induction want with
  | nil =>
    intro T N fuel hf _ _ _
    obtain ⟨m, rfl⟩ : ∃ m, fuel = m + 1 := ⟨fuel - 1, by omega⟩
    rw [turnsReadyS_l3]
    dsimp only
    rw [bif_f (decide_eq_false (by simp))]
    exact hk T
  | cons x r ih =>
    intro T N fuel hf hg hN hr
    obtain ⟨m, rfl⟩ : ∃ m, fuel = m + 1 := ⟨fuel - 1, by omega⟩
    rw [List.length_cons] at hf hN
    have hx : x ∈ (upto 6).filter (isReady T) := by rw [hr]; exact List.mem_cons_self ..
    rw [List.mem_filter, upto_mem] at hx
    obtain ⟨hx1, hx2⟩ := hx
    unfold isReady at hx2
    rw [Bool.and_eq_true, decide_eq_true_eq, Bool.not_eq_true'] at hx2
    obtain ⟨ho, hwl⟩ := hx2
    obtain ⟨p, xs, hp⟩ : ∃ p xs, wl T x = p :: xs := by
      cases hq : wl T x with
      | nil => rw [hq] at hwl; simp at hwl
      | cons p xs => exact ⟨p, xs, rfl⟩
    have hwho : 0 ≤ p.1 := hg.whos x p (by rw [hp]; exact List.mem_cons_self ..)
    have hg2 : Good 6 (N + 1) ⟨mset T.owners x p.1, mset T.wait x xs⟩ := good_own (T := ⟨T.owners, mset T.wait x xs⟩) (good_wait hg hx1 xs fun q hq => hg.whos x q (by rw [hp]; exact List.mem_cons_of_mem _ hq)) x p.1 hwho
    have hr2 : (upto 6).filter (isReady ⟨mset T.owners x p.1, mset T.wait x xs⟩) = r := by
      refine filter_head ((upto_rising 6).imp fun h => by omega) hr fun a => ?_
      by_cases ha : a = x
      · unfold isReady
        rw [own_mset, if_pos ha, ha]; simp
      · have e1 : Go.Proofs.Ytpcffplbedbpkaa.own ⟨mset T.owners x p.1, mset T.wait x xs⟩ a = Go.Proofs.Ytpcffplbedbpkaa.own T a := by rw [own_mset, if_neg ha]; rfl
        have e2 : Go.Proofs.Ytpcffplbedbpkaa.wl ⟨mset T.owners x p.1, mset T.wait x xs⟩ a = Go.Proofs.Ytpcffplbedbpkaa.wl T a := by rw [wl_mset, if_neg ha]; rfl
        unfold isReady
        rw [e1, e2, decide_eq_false ha]; simp
    have hn0 : nth (x :: r) 0 = x := rfl
    have hpos : (0 : Int) < (((x :: r).length : Nat) : Int) := by rw [List.length_cons]; omega
    have hrl : r.length ≤ 6 := by
      have h1 := List.length_filter_le (isReady T) (upto 6)
      rw [hr, upto_len, List.length_cons] at h1; omega
    rw [turnsReadyS_l3]
    dsimp only
    rw [bif_t (decide_eq_true hpos), chk_true ⟨by omega, hpos⟩, hn0, next_is ho hp, Option.bind_some]
    dsimp only
    rw [bif_f (by rfl), chk_true ⟨by omega, hpos⟩, owner_is, Option.bind_some]
    dsimp only
    rw [mget_mset, if_pos rfl, show (some p.1).getD (-1) = p.1 from rfl, bif_f (decide_eq_false (by omega)), chk_true ⟨by omega, by omega, by omega⟩]
    unfold letP
    dsimp only
    rw [show ((x :: r).drop ((1 : Int)).toNat).take ((x :: r).length - ((1 : Int)).toNat) = r from by
      show r.take (r.length + 1 - 1) = r
      rw [Nat.add_sub_cancel, List.take_length], ready_is (m := 6) hg2 (by omega) (by omega), Option.bind_some, hr2, ksame_self (by unfold okL; omega), Option.bind_some, bif_f (show (!true) = false from rfl)]
    exact ih _ (N + 1) m (by omega) hg2 (by omega) hr2
end
theorem turnsReady_pure (lines : List Int) : turnsReadyS lines = some true := by
  unfold turnsReadyS
  rw [show tnewS = some ⟨[], []⟩ from rfl, Option.bind_some]
  refine loop0 lines turnsReadyS_k0 (min lines.length 20) rfl (fun N T hI hN => ?_) (min lines.length 20) 0 [] ⟨[], []⟩ 64 (by omega) (by omega) ⟨good_new 6, fun l => rfl, fun l => rfl⟩ (fun l => rfl)
  unfold turnsReadyS_k0
  have hg := good_less hI.good (Nat.min_le_right lines.length 20)
  have h0 : (upto 6).filter (isReady T) = [] := by
    rw [List.filter_eq_nil_iff]
    intro a _ h
    unfold isReady at h
    rw [hI.own a, hI.wl a] at h
    simp at h
    omega
  rw [ready_is (m := 6) hg (by omega) (by omega), Option.bind_some, h0, bif_f (by rfl)]
  refine loop1 lines N _ hN (turnsReadyS_k1 N) (fun T2 h2 => ?_) 6 0 T 64 (by omega) (by omega) ⟨hg, fun l => ?_, hI.wl⟩
  · unfold turnsReadyS_k1
    refine loop2 lines N _ hN (turnsReadyS_k2 T2) ?_ 6 0 64 (by omega) (by omega)
    unfold turnsReadyS_k2
    have hr : (upto 6).filter (isReady T2) = (upto 6).filter (moreW lines (min lines.length 20)) := by
      refine List.filter_congr fun a ha => ?_
      rw [upto_mem] at ha
      unfold isReady moreW
      rw [h2.own a, h2.wl a, decide_eq_false (by omega)]
      simp only [Bool.not_false, Bool.true_and, decide_eq_decide]
      omega
    have hl : ((upto 6).filter (moreW lines (min lines.length 20))).length ≤ 6 := by have := List.length_filter_le (moreW lines (min lines.length 20)) (upto 6); rw [upto_len] at this; exact this
    rw [ready_is (m := 6) h2.good (by omega) (by omega), Option.bind_some, hr, ksame_self (by unfold okL; omega), Option.bind_some, bif_f (show (!true) = false from rfl)]
    refine loop3 turnsReadyS_k3 (fun T3 => ?_) _ T2 20 64 (by omega) h2.good (by omega) hr
    unfold turnsReadyS_k3
    rw [wakes10_is]; rfl
  · rw [hI.own l, decide_eq_decide]
    constructor
    · intro h
      refine ⟨h, ?_⟩
      by_cases hl : (0 : Int) ≤ l
      · exact hl
      · exfalso
        have : l ∈ askd lines (min lines.length 20) := List.count_pos_iff.1 h
        obtain ⟨z, _, rfl⟩ := List.mem_map.1 this
        omega
    · exact fun h => h.1
end Go.Proofs.Ytpcffplbedbpkaa
