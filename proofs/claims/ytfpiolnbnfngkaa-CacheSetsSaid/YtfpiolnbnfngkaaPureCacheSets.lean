/- The law CacheSets answers true at every input: the plain side. -/
import Derived.Test.YtfpiolnbnfngkaaPureCacheLem3
import Derived.Test.YtfpiolnbnfngkaaLawCacheSets
set_option linter.unusedSectionVars false
set_option linter.unusedSimpArgs false
set_option linter.unusedVariables false
namespace Go.Proofs.Ytfpiolnbnfngkaa
open Go
theorem wakes8_is : wakes8S = some true := by kernel_rfl
theorem mget_mset2 {α : Type} (l : List (Int × α)) (k k' : Int) (v : α) : mget (mset l k v) k' = if k' = k then some v else mget l k' := by
  induction l with
  | nil => rfl
  | cons p r ih =>
    unfold mset
    by_cases h : k = p.1
    · rw [if_pos h]
      show (if k' = p.1 then some v else mget r k') = if k' = k then some v else (if k' = p.1 then some p.2 else mget r k')
      rw [← h]
      by_cases h2 : k' = k
      · simp [h2]
      · simp [h2]
    · rw [if_neg h]
      show (if k' = p.1 then some p.2 else mget (mset r k v) k') = if k' = k then some v else (if k' = p.1 then some p.2 else mget r k')
      rw [ih]
      by_cases h2 : k' = k
      · subst h2; simp [h]
      · simp [h2]
theorem mset_new_len {α : Type} {l : List (Int × α)} {k : Int} (h : mget l k = none) (v : α) : (mset l k v).length = l.length + 1 := by
  induction l with
  | nil => rfl
  | cons p r ih =>
    have h : (if k = p.1 then some p.2 else mget r k) = none := h
    by_cases hk : k = p.1
    · simp [hk] at h
    · rw [if_neg hk] at h
      unfold mset
      rw [if_neg hk, List.length_cons, ih h, List.length_cons]
def cnt (s k : Int) (ls : List Int) : Nat := (ls.filter fun x => decide (x.tmod s = k)).length
theorem setL_cnt (c : CacheS) {l : Int} (hl : 0 ≤ l) : (setL c l).length = cnt c.sets (l.tmod c.sets) (c.l.map Ent.line) := by
  rw [setL_len]
  unfold cnt
  congr 1
  refine List.filter_congr fun x _ => ?_
  unfold inLine
  simp [hl]
structure SInv (S W : Int) (i : Nat) (n : List Int) (m : List (Int × Bool)) (c : CacheS) : Prop where
  good : CGood i c
  sets : c.sets = S
  ways : c.ways = W
  keys : ∀ l, mget m l = if (lkE c.l l).isSome then some true else none
  mlen : m.length = c.l.length
  nlen : (n.length : Int) = S
  nums : ∀ k, 0 ≤ k → k < S → nth n k = ((cnt S k (c.l.map Ent.line) : Nat) : Int)
  most : ∀ k, 0 ≤ k → k < S → ((cnt S k (c.l.map Ent.line) : Nat) : Int) ≤ W
theorem loop1 (ls : List Int) (m : List (Int × Bool)) (hm : ∀ a ∈ ls, (mget m a).getD false = true) (hp : ls.Pairwise (· < ·)) (hn : ls.length ≤ 60) (k1 : Int → Option Bool) :
    ∀ (d i fuel : Nat), i + d = ls.length → d < fuel → cacheSetsS_l1 ls m k1 fuel (i : Int) = k1 ((ls.length : Nat) : Int) := by
  intro d
  induction d with
  | zero =>
    intro i fuel hi hf
    obtain ⟨f, rfl⟩ : ∃ f, fuel = f + 1 := ⟨fuel - 1, by omega⟩
    obtain rfl : i = ls.length := by omega
    rw [cacheSetsS_l1]
    dsimp only
    rw [bif_f (decide_eq_false (by omega))]
  | succ d ih =>
    intro i fuel hi hf
    obtain ⟨f, rfl⟩ : ∃ f, fuel = f + 1 := ⟨fuel - 1, by omega⟩
    have q5 : inR ((i : Int) + 1) := by unfold inR; omega
    have hx : nth ls (i : Int) = ls[i] := nth_at (List.getElem?_eq_getElem (by omega))
    have next := ih (i + 1) f (by omega) (by omega)
    rw [show ((i + 1 : Nat) : Int) = (i : Int) + 1 by omega] at next
    have fin : cacheSetsS_j3 (i : Int) (cacheSetsS_l1 ls m k1 f) false = k1 ((ls.length : Nat) : Int) := by
      unfold cacheSetsS_j3
      rw [bif_f rfl]
      unfold cacheSetsS_j2
      rw [chk_true q5, next]
    rw [cacheSetsS_l1]
    dsimp only [letP]
    rw [bif_t (decide_eq_true (by omega)), chk_true ⟨by omega, by omega⟩, hx, bif_f (by rw [hm _ (List.getElem_mem (by omega))]; rfl)]
    by_cases h0 : 0 < i
    · have hy : nth ls ((i : Int) - 1) = ls[i - 1] := by
        rw [show (i : Int) - 1 = ((i - 1 : Nat) : Int) by omega]
        exact nth_at (List.getElem?_eq_getElem (by omega))
      have := List.pairwise_iff_getElem.1 hp (i - 1) i (by omega) (by omega) (by omega)
      rw [bif_t (decide_eq_true (by omega)), chk_true ⟨by omega, by omega⟩, chk_true (by unfold inR; omega), chk_true ⟨by omega, by omega⟩, hy, decide_eq_false (by omega)]
      exact fin
    · rw [bif_f (decide_eq_false (by omega))]
      exact fin
section
variable {S W : Int} (hS : 1 ≤ S ∧ S ≤ 4) (hW : 1 ≤ W ∧ W ≤ 3)
include hS hW
theorem k0_ok {i : Nat} {n : List Int} {m : List (Int × Bool)} {c : CacheS} (h : SInv S W i n m c) (hi : i ≤ 50) (j : Int) : cacheSetsS_k0 n j m c = some true := by
  obtain ⟨ls, g1, g2, g3, g4⟩ := h.good.lines_ok (by omega)
  have hfew := h.good.few
  unfold cacheSetsS_k0
  rw [g1, Option.bind_some]
  have := loop1 ls m (fun a ha => by
    rw [h.keys, lkE_keys, decide_eq_true ((g3 a).1 ha)]; rfl) g2 (by omega) (cacheSetsS_k1 ls m c) ls.length 0 64 (by omega) (by omega)
  rw [show ((0 : Nat) : Int) = 0 from rfl] at this
  rw [this]
  unfold cacheSetsS_k1 letP lenC
  dsimp only
  rw [bif_t (decide_eq_true (by rw [g4, h.mlen])), bif_t (decide_eq_true (by rw [h.mlen])), wakes8_is]; rfl
theorem step_ok {i : Nat} {n : List Int} {m : List (Int × Bool)} {c : CacheS} (h : SInv S W i n m c) (hi : i ≤ 40) {l : Int} (hl : 0 ≤ l ∧ l < 16) (s0 w0 : Int) (hs0 : wr (1 + s0) = S)
    (r0 : List Int → Int → List (Int × Bool) → CacheS → Option Bool) (hr : ∀ n' m' c', SInv S W (i + 1) n' m' c' → r0 n' ((i : Int) + 1) m' c' = some true) (b : Bool) (hb : b = ((lkE c.l l).isNone && decide (W ≤ (((setL c l).length : Nat) : Int)))) :
    cacheSetsS_j6 c l m s0 n (i : Int) r0 b = some true := by
  have q5 : inR ((i : Int) + 1) := by unfold inR; omega
  have hfew := h.good.few
  have hk : 0 ≤ l.tmod S ∧ l.tmod S < S := ⟨Int.tmod_nonneg _ hl.1, Int.tmod_lt_of_pos _ (by omega)⟩
  have hset : (setL c l).length = cnt S (l.tmod S) (c.l.map Ent.line) := by rw [setL_cnt c hl.1, h.sets]
  have hnk := h.nums _ hk.1 hk.2
  have hmk := h.most _ hk.1 hk.2
  obtain ⟨r, c', p1, p2, p3, p4, p5⟩ := h.good.put (by omega) ⟨(i : Int), -1, l, 0, false, []⟩ (by simp)
  -- behind the step: what is found
  have fin : ∀ (n' : List Int) (m' : List (Int × Bool)), SInv S W (i + 1) n' m' c' → (∀ e, lkE c'.l l = some e → e.fwd = (i : Int)) → cacheSetsS_j8 c' l (i : Int) r0 n' m' = some true := by
    intro n' m' h' hf
    have last : cacheSetsS_j9 (i : Int) r0 n' m' c' false = some true := by
      unfold cacheSetsS_j9
      rw [bif_f rfl]
      unfold cacheSetsS_j5
      rw [chk_true q5]; exact hr _ _ _ h'
    unfold cacheSetsS_j8 letP
    dsimp only
    rw [h'.good.find (by omega) l, Option.bind_some, h'.keys]
    cases hq : lkE c'.l l with
    | none =>
      dsimp only
      rw [bif_f (by simp), bif_f rfl]; exact last
    | some e =>
      dsimp only
      rw [bif_f (by simp), bif_t rfl, hf e hq, show (!decide ((i : Int) = (i : Int))) = false by simp]; exact last
  unfold cacheSetsS_j6
  rw [h.good.full (by omega) l, Option.bind_some, h.ways, ← hb, bif_f (by simp), enew_is _ _ _ _ _ (by simp), Option.bind_some, p1, Option.bind_some]
  dsimp only
  unfold cacheSetsS_j7
  dsimp only [letP]
  have hm1 := h.good.more (Nat.le_succ i)
  cases p5 with
  | neg hn => exfalso; have : l < 0 := hn; omega
  | full h0 hn hf =>
    have hn : lkE c.l l = none := hn
    have hf : c.ways ≤ (((setL c l).length : Nat) : Int) := hf
    rw [h.ways] at hf
    have hbt : b = true := by rw [hb, hn, decide_eq_true hf]; rfl
    subst hbt
    rw [bif_f (by simp), bif_f (by simp)]
    unfold cacheSetsS_j10
    rw [bif_f rfl]
    exact fin _ _ ⟨p2, h.sets, h.ways, h.keys, h.mlen, h.nlen, h.nums, h.most⟩ (fun e he => by rw [hn] at he; cases he)
  | old e0 h0 he hc hlk hml _ =>
    have he : lkE c.l l = some e0 := he
    have hlk : ∀ x, lkE c'.l x = if x = l then some ⟨(i : Int), -1, l, e0.used, false, []⟩ else lkE c.l x := hlk
    have hbf : b = false := by rw [hb, he]; rfl
    subst hbf
    rw [bif_f (by simp), bif_t (by simp), h.keys, he]
    unfold cacheSetsS_j10
    rw [bif_f (by simp)]
    refine fin _ _ ⟨p2, by rw [p3, h.sets], by rw [p4, h.ways], fun x => ?_, ?_, h.nlen, by rw [hml]; exact h.nums, by rw [hml]; exact h.most⟩ (fun e hq => by rw [hlk, if_pos rfl] at hq; injection hq with hq; rw [← hq])
    · rw [hlk]
      by_cases hx : x = l
      · rw [if_pos hx, h.keys, hx, he]; rfl
      · rw [if_neg hx, h.keys]
    · have := congrArg List.length hml
      rw [List.length_map, List.length_map] at this
      rw [this, h.mlen]
  | new h0 hn hf hc hlk hml =>
    have hn : lkE c.l l = none := hn
    have hf : (((setL c l).length : Nat) : Int) < c.ways := hf
    have hlk : ∀ x, lkE c'.l x = if x = l then some ⟨(i : Int), -1, l, c.clock + 1, false, []⟩ else lkE c.l x := hlk
    rw [h.ways] at hf
    have hbf : b = false := by rw [hb, hn, decide_eq_false (by omega)]; rfl
    subst hbf
    rw [bif_f (by simp), bif_t (by simp), h.keys, hn]
    unfold cacheSetsS_j10 letP
    dsimp only
    have hnl := h.nlen
    have hcs : cnt S (l.tmod S) (c.l.map Ent.line) ≤ 60 := by rw [← hset]; exact Nat.le_trans (List.length_filter_le _ _) (by omega)
    rw [bif_t (by simp), hs0, chk_true ⟨hk.1, by omega⟩, hnk, wr_small (by omega), chk_true ⟨hk.1, by omega⟩]
    have hlines : c'.l.map Ent.line = c.l.map Ent.line ++ [l] := by rw [hml]; simp
    have hcnt : ∀ k, cnt S k (c'.l.map Ent.line) = cnt S k (c.l.map Ent.line) + (if l.tmod S = k then 1 else 0) := by
      intro k
      rw [hlines]
      unfold cnt
      rw [List.filter_append, List.length_append]
      by_cases hq : l.tmod S = k <;> simp [hq]
    refine fin _ _ ⟨p2, by rw [p3, h.sets], by rw [p4, h.ways], fun x => ?_, ?_, by unfold setI; rw [List.length_set]; exact hnl, fun k k1 k2 => ?_, fun k k1 k2 => ?_⟩ (fun e hq => by rw [hlk, if_pos rfl] at hq; injection hq with hq; rw [← hq])
    · rw [mget_mset2, hlk]
      by_cases hx : x = l
      · rw [if_pos hx, if_pos hx]; rfl
      · rw [if_neg hx, if_neg hx, h.keys]
    · rw [mset_new_len (by rw [h.keys, hn]; rfl), h.mlen, hml]; simp
    · rw [hcnt k]
      unfold nth setI
      by_cases hq : l.tmod S = k
      · subst hq
        have : (l.tmod S).toNat < n.length := by omega
        simp [List.getD_eq_getElem?_getD, this]
      · have h1 := h.nums k k1 k2
        unfold nth at h1
        have : (l.tmod S).toNat ≠ k.toNat := by omega
        rw [if_neg hq, List.getD_eq_getElem?_getD, List.getElem?_set_ne this, ← List.getD_eq_getElem?_getD, h1]; rfl
    · rw [hcnt k]
      by_cases hq : l.tmod S = k
      · rw [if_pos hq]
        subst hq
        rw [hset] at hf
        omega
      · rw [if_neg hq]; exact h.most k k1 k2
theorem loop0 (lines : List Int) (s0 w0 : Int) (hs0 : wr (1 + s0) = S) (hw0 : wr (1 + w0) = W) :
    ∀ (d i fuel : Nat) (n : List Int) (m : List (Int × Bool)) (c : CacheS), i + d = min lines.length 30 → d < fuel → SInv S W i n m c → cacheSetsS_l0 lines s0 w0 cacheSetsS_k0 fuel n (i : Int) m c = some true := by
  intro d
  induction d with
  | zero =>
    intro i fuel n m c hi hf h
    obtain ⟨f, rfl⟩ : ∃ f, fuel = f + 1 := ⟨fuel - 1, by omega⟩
    rw [cacheSetsS_l0]
    dsimp only
    by_cases hq : (i : Int) < ((lines.length : Nat) : Int)
    · rw [bif_t (decide_eq_true hq)]
      unfold cacheSetsS_j4
      rw [bif_f (decide_eq_false (by omega))]; exact k0_ok hS hW h (by omega) _
    · rw [bif_f (decide_eq_false hq)]
      unfold cacheSetsS_j4
      rw [bif_f rfl]; exact k0_ok hS hW h (by omega) _
  | succ d ih =>
    intro i fuel n m c hi hf h
    obtain ⟨f, rfl⟩ : ∃ f, fuel = f + 1 := ⟨fuel - 1, by omega⟩
    have hq : (i : Int) < ((lines.length : Nat) : Int) := by omega
    have hr : ∀ n' m' c', SInv S W (i + 1) n' m' c' → cacheSetsS_l0 lines s0 w0 cacheSetsS_k0 f n' ((i : Int) + 1) m' c' = some true := fun n' m' c' h' => by
      rw [show (i : Int) + 1 = ((i + 1 : Nat) : Int) by omega]
      exact ih (i + 1) f n' m' c' (by omega) (by omega) h'
    obtain ⟨l, e1, l1, l2⟩ := within_is (v := nth lines (i : Int)) (n := 16) (by omega) (by omega)
    have hk : 0 ≤ l.tmod S ∧ l.tmod S < S := ⟨Int.tmod_nonneg _ l1, Int.tmod_lt_of_pos _ (by omega)⟩
    have hset : (setL c l).length = cnt S (l.tmod S) (c.l.map Ent.line) := by rw [setL_cnt c l1, h.sets]
    have hnk := h.nums _ hk.1 hk.2
    have hmk := h.most _ hk.1 hk.2
    rw [cacheSetsS_l0]
    dsimp only
    rw [bif_t (decide_eq_true hq)]
    unfold cacheSetsS_j4 letP
    dsimp only
    rw [bif_t (decide_eq_true (by omega)), chk_true ⟨by omega, hq⟩, e1, Option.bind_some, hs0, hw0, chk_true hS.1, h.keys]
    cases hq2 : lkE c.l l with
    | none =>
      rw [bif_t (by simp), chk_true ⟨hk.1, by have := h.nlen; omega⟩, hnk]
      refine step_ok hS hW h (by omega) ⟨l1, l2⟩ s0 w0 hs0 _ hr _ ?_
      rw [hq2, hset]
      simp only [Option.isNone_none, Bool.true_and]
      by_cases hc : ((cnt S (l.tmod S) (c.l.map Ent.line) : Nat) : Int) = W
      · rw [decide_eq_true hc, decide_eq_true (by omega)]
      · rw [decide_eq_false hc, decide_eq_false (by omega)]
    | some e =>
      rw [bif_f (by simp)]
      exact step_ok hS hW h (by omega) ⟨l1, l2⟩ s0 w0 hs0 _ hr _ (by rw [hq2]; rfl)
end
theorem cacheSets_pure (sets ways : Int) (lines : List Int) : cacheSetsS sets ways lines = some true := by
  obtain ⟨s0, e1, s1, s2⟩ := within_is (v := sets) (n := 4) (by omega) (by omega)
  obtain ⟨w0, e2, w1, w2⟩ := within_is (v := ways) (n := 3) (by omega) (by omega)
  unfold cacheSetsS letP
  dsimp only
  have hS : wr (1 + s0) = 1 + s0 := wr_small (by omega)
  have hW : wr (1 + w0) = 1 + w0 := wr_small (by omega)
  rw [e1, Option.bind_some, e2, Option.bind_some, hS, hW, chk_true ⟨by omega, by omega⟩]
  have e3 : (newC (1 + s0) (1 + w0)).sets = 1 + s0 := by show (if 1 < 1 + s0 then 1 + s0 else 1) = 1 + s0; split <;> omega
  have e4 : (newC (1 + s0) (1 + w0)).ways = 1 + w0 := by show (if 1 < 1 + w0 then 1 + w0 else 1) = 1 + w0; split <;> omega
  refine loop0 (S := 1 + s0) (W := 1 + w0) ⟨by omega, by omega⟩ ⟨by omega, by omega⟩ lines s0 w0 hS hW (min lines.length 30) 0 64 _ [] _ (by omega) (by omega) ⟨CGood.new, e3, e4, fun l => rfl, rfl, by rw [List.length_replicate]; omega, fun k k1 k2 => ?_, fun k k1 k2 => ?_⟩
  · unfold nth
    have : k.toNat < (1 + s0).toNat := by omega
    simp [List.getD_eq_getElem?_getD, List.getElem?_replicate, this, cnt, newC]
  · simp [cnt, newC]; omega
end Go.Proofs.Ytfpiolnbnfngkaa
