/- The law CacheClock answers true at every input: the plain side. -/
import Derived.Test.YtfpiolnbnfngkaaPureCacheLem3
import Derived.Test.YtfpiolnbnfngkaaLawCacheClock
set_option linter.unusedSimpArgs false
set_option linter.unusedVariables false
namespace Go.Proofs.Ytfpiolnbnfngkaa
open Go
theorem wakes8_is : wakes8S = some true := by kernel_rfl
structure KInv (i : Nat) (k : Int) (c : CacheS) : Prop where
  good : CGood i c
  clock : c.clock = k
  sets : c.sets = 2
  ways : c.ways = 3
  lines : ∀ l ∈ c.l.map Ent.line, 0 ≤ l ∧ l < 6
/-- There is room for each line. -/
theorem KInv.room {i : Nat} {k : Int} {c : CacheS} (h : KInv i k c) {l : Int} (hl : 0 ≤ l ∧ l < 6) (hn : lkE c.l l = none) : (setL c l).length < 3 := by
  rw [setL_len, h.sets]
  have hnd : ((c.l.map Ent.line).filter (inLine 2 l)).Nodup := by
    rw [List.nodup_iff_pairwise_ne]
    refine List.Pairwise.filter _ ?_
    rw [List.pairwise_map]; exact h.good.once
  have hsub : (c.l.map Ent.line).filter (inLine 2 l) ⊆ if l % 2 = 0 then (if l = 0 then [2, 4] else if l = 2 then [0, 4] else [0, 2]) else (if l = 1 then [3, 5] else if l = 3 then [1, 5] else [1, 3]) := by
    intro x hx
    obtain ⟨h1, h2⟩ := List.mem_filter.1 hx
    have h3 := h.lines x h1
    have h4 : x ≠ l := by
      rintro rfl
      obtain ⟨e, he, hel⟩ := List.mem_map.1 h1
      exact lkE_none.1 hn e he hel
    unfold inLine at h2
    rw [Bool.and_eq_true, decide_eq_true_eq, decide_eq_true_eq, Int.tmod_eq_emod_of_nonneg h3.1, Int.tmod_eq_emod_of_nonneg hl.1] at h2
    have hc : x = 0 ∨ x = 1 ∨ x = 2 ∨ x = 3 ∨ x = 4 ∨ x = 5 := by omega
    have hc2 : l = 0 ∨ l = 1 ∨ l = 2 ∨ l = 3 ∨ l = 4 ∨ l = 5 := by omega
    rcases hc with rfl | rfl | rfl | rfl | rfl | rfl <;> rcases hc2 with rfl | rfl | rfl | rfl | rfl | rfl <;> simp_all
  have := hnd.length_le_of_subset hsub
  refine Nat.lt_of_le_of_lt this ?_
  split <;> split <;> first | decide | (split <;> decide)
theorem loop0 (acts : List Int) (k0 : Int → Int → CacheS → Option Bool) (hk : ∀ a b c, k0 a b c = some true) :
    ∀ (d i fuel : Nat) (k : Int) (c : CacheS), i + d = min acts.length 30 → d < fuel → KInv i k c → cacheClockS_l0 acts k0 fuel k (i : Int) c = some true := by
  intro d
  induction d with
  | zero =>
    intro i fuel k c hi hf h
    obtain ⟨f, rfl⟩ : ∃ f, fuel = f + 1 := ⟨fuel - 1, by omega⟩
    rw [cacheClockS_l0]
    dsimp only
    by_cases hq : (i : Int) < ((acts.length : Nat) : Int)
    · rw [bif_t (decide_eq_true hq)]
      unfold cacheClockS_j1
      rw [bif_f (decide_eq_false (by omega))]; exact hk _ _ _
    · rw [bif_f (decide_eq_false hq)]
      unfold cacheClockS_j1
      rw [bif_f rfl]; exact hk _ _ _
  | succ d ih =>
    intro i fuel k c hi hf h
    obtain ⟨f, rfl⟩ : ∃ f, fuel = f + 1 := ⟨fuel - 1, by omega⟩
    have hq : (i : Int) < ((acts.length : Nat) : Int) := by omega
    have q5 : inR ((i : Int) + 1) := by unfold inR; omega
    have hr : ∀ k' c', KInv (i + 1) k' c' → cacheClockS_l0 acts k0 f k' ((i : Int) + 1) c' = some true := fun k' c' h' => by
      rw [show (i : Int) + 1 = ((i + 1 : Nat) : Int) by omega]
      exact ih (i + 1) f k' c' (by omega) (by omega) h'
    have hm : KInv (i + 1) k c := ⟨h.good.more (by omega), h.clock, h.sets, h.ways, h.lines⟩
    have hkc := h.good.hclock
    have hk1 : inR (k + 1) := by have := h.clock; unfold inR; omega
    obtain ⟨l, e1, l1, l2⟩ := within_is (v := wr ((nth acts (i : Int)).tdiv 4)) (n := 6) (by omega) (by omega)
    obtain ⟨what, e2, w1, w2⟩ := within_is (v := nth acts (i : Int)) (n := 4) (by omega) (by omega)
    have hfind := h.good.find (by omega) l
    rw [cacheClockS_l0]
    dsimp only
    rw [bif_t (decide_eq_true hq)]
    unfold cacheClockS_j1
    rw [bif_t (decide_eq_true (by omega)), chk_true ⟨by omega, hq⟩, e1, Option.bind_some, hfind, Option.bind_some, chk_true ⟨by omega, hq⟩, e2, Option.bind_some]
    by_cases c1 : what = 0
    · rw [bif_t (decide_eq_true c1), enew_is _ _ _ _ _ (by simp), Option.bind_some]
      obtain ⟨r, c', p1, p2, p3, p4, p5⟩ := h.good.put (by omega) ⟨(i : Int), (i : Int), l, 0, false, []⟩ (by simp)
      rw [p1, Option.bind_some]
      dsimp only
      cases p5 with
      | neg hn => exfalso; have : l < 0 := hn; omega
      | full h0 hn hfl => exfalso; have := h.room ⟨l1, l2⟩ hn; rw [h.ways] at hfl; have : (3 : Int) ≤ (((setL c l).length : Nat) : Int) := hfl; omega
      | old e0 h0 hl hc hlk hml _ =>
        have hl : lkE c.l l = some e0 := hl
        rw [bif_f (by simp), hl]
        dsimp only
        rw [bif_f (by simp)]
        unfold cacheClockS_j2
        dsimp only
        rw [p2.find (by omega) l, Option.bind_some, hlk l, if_pos rfl]
        dsimp only
        rw [bif_f (by simp), chk_true q5]
        exact hr _ _ ⟨p2, by rw [hc, h.clock], by rw [p3, h.sets], by rw [p4, h.ways], by rw [hml]; exact h.lines⟩
      | new h0 hl hfl hc hlk hml =>
        have hl : lkE c.l l = none := hl
        rw [bif_f (by simp), hl]
        dsimp only
        rw [bif_t (by simp), chk_true hk1]
        unfold cacheClockS_j2
        dsimp only
        rw [p2.find (by omega) l, Option.bind_some, hlk l, if_pos rfl]
        dsimp only
        rw [h.clock, bif_f (by simp), chk_true q5]
        refine hr _ _ ⟨p2, by rw [hc, h.clock], by rw [p3, h.sets], by rw [p4, h.ways], ?_⟩
        rw [hml]
        intro x hx
        rw [List.map_append, List.mem_append] at hx
        rcases hx with hx | hx
        · exact h.lines x hx
        · simp at hx; subst hx; exact ⟨l1, l2⟩
    · rw [bif_f (decide_eq_false c1)]
      by_cases c2 : what = 1
      · rw [bif_t (decide_eq_true c2)]
        obtain ⟨c', p1, p2, p3, p4, p5, p6⟩ := hm.good.touch (by omega) l (by omega)
        rw [p1, Option.bind_some]
        dsimp only
        rcases p6 with ⟨hl, rfl⟩ | ⟨e, hl, hc, hlk, _⟩
        · rw [hl]
          dsimp only
          rw [bif_f (by simp), bif_f rfl, chk_true q5]
          exact hr _ _ hm
        · rw [hl]
          dsimp only
          rw [bif_f (by simp), bif_t rfl, chk_true hk1, p2.find (by omega) l, Option.bind_some, hlk l, if_pos rfl]
          dsimp only
          rw [h.clock, bif_f (by simp), chk_true q5]
          exact hr _ _ ⟨p2, by rw [hc, h.clock], by rw [p3, h.sets], by rw [p4, h.ways], by rw [p5]; exact h.lines⟩
      · rw [bif_f (decide_eq_false c2)]
        by_cases c3 : what = 2
        · rw [bif_t (decide_eq_true c3)]
          obtain ⟨c', p1, p2, p3, p4, p5, p6, p7⟩ := hm.good.drop (by omega) l
          rw [p1, Option.bind_some]
          dsimp only
          have hinv : KInv (i + 1) k c' := by
            refine ⟨p2, by rw [p5, h.clock], by rw [p3, h.sets], by rw [p4, h.ways], ?_⟩
            rcases p7 with ⟨_, rfl⟩ | ⟨a, b, e, k1, k2, _, _⟩
            · exact h.lines
            · intro x hx
              rw [k2] at hx
              obtain ⟨y, hy, rfl⟩ := List.mem_map.1 hx
              exact h.lines _ (List.mem_map.2 ⟨y, by rw [k1]; exact mem_mid hy, rfl⟩)
          cases hl : lkE c.l l with
          | none =>
            dsimp only
            rw [bif_f (by simp), bif_f (by simp), chk_true q5]
            exact hr _ _ hinv
          | some e =>
            dsimp only
            rw [bif_f (by simp), bif_t (by simp), bif_f (by simp), chk_true q5]
            exact hr _ _ hinv
        · rw [bif_f (decide_eq_false c3)]
          obtain ⟨ls, g1, _, _, _⟩ := h.good.lines_ok (by omega)
          have fin : (bif !((match lkE c.l l with | some e => (e, true) | none => (zeroE, false) : Ent × Bool).2 == (match lkE c.l l with | some e => (e, true) | none => (zeroE, false) : Ent × Bool).2) then some false else (bif !(decide ((match lkE c.l l with | some e => (e, true) | none => (zeroE, false) : Ent × Bool).1.used = (match lkE c.l l with | some e => (e, true) | none => (zeroE, false) : Ent × Bool).1.used)) then some false else chk (inR ((i : Int) + 1)) (cacheClockS_l0 acts k0 f k ((i : Int) + 1) c))) = some true := by
            rw [bif_f (by simp), bif_f (by simp), chk_true q5]
            exact hr _ _ hm
          rcases h.good.victim (by omega) l with ⟨_, v⟩ | ⟨m, v, _, _⟩
          · rw [v, Option.bind_some, h.good.full (by omega) l, Option.bind_some, g1, Option.bind_some, Option.bind_some]
            exact fin
          · rw [v, Option.bind_some, h.good.full (by omega) l, Option.bind_some, g1, Option.bind_some, Option.bind_some]
            exact fin
theorem cacheClock_pure (acts : List Int) : cacheClockS acts = some true := by
  unfold cacheClockS letP
  dsimp only
  exact loop0 acts _ (fun _ _ _ => by unfold cacheClockS_k0; rw [wakes8_is]; rfl) (min acts.length 30) 0 64 0 _ (by omega) (by omega) ⟨CGood.new, rfl, rfl, rfl, by simp [newC]⟩
end Go.Proofs.Ytfpiolnbnfngkaa
