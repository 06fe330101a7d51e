/- The law CacheLeast answers true at every input: the plain side. -/
import Derived.Test.YtfpiolnbnfngkaaPureCacheLem3
import Derived.Test.YtfpiolnbnfngkaaLawCacheLeast
set_option linter.unusedSectionVars false
set_option linter.unusedSimpArgs false
set_option linter.unusedVariables false
namespace Go.Proofs.Ytfpiolnbnfngkaa
open Go
theorem wakes8_is : wakes8S = some true := by kernel_rfl
def useOf (c : CacheS) (l : Int) : Int := ((lkE c.l l).map Ent.used).getD 0
theorem lget_lset {ls : List (List Int)} {l l' : Int} {v : List Int} (h : 0 ≤ l ∧ l < (ls.length : Int)) (h' : 0 ≤ l') : lget (lset ls l v) l' = if l' = l then v else lget ls l' := by
  unfold lget lset
  by_cases hl : l' = l
  · subst hl
    rw [if_pos rfl]
    have : l'.toNat < ls.length := by omega
    simp [List.getD, this]
  · rw [if_neg hl]
    have : l.toNat ≠ l'.toNat := by omega
    simp [List.getD, List.getElem?_set, this]
structure LInv (W : Int) (i : Nat) (ls : List (List Int)) (c : CacheS) : Prop where
  good : CGood i c
  sets : c.sets = 2
  ways : c.ways = W
  len : ls.length = 2
  mem : ∀ k, 0 ≤ k → k < 2 → ∀ l, l ∈ lget ls k ↔ (lkE c.l l).isSome ∧ l.tmod 2 = k
  sorted : ∀ k, 0 ≤ k → k < 2 → (lget ls k).Pairwise fun a b => useOf c a < useOf c b
  most : ∀ k, 0 ≤ k → k < 2 → ((lget ls k).length : Int) ≤ W
section
variable {W : Int} {i : Nat} {ls : List (List Int)} {c : CacheS} (h : LInv W i ls c)
include h
theorem LInv.nodup {k : Int} (h1 : 0 ≤ k) (h2 : k < 2) : (lget ls k).Nodup := by
  rw [List.nodup_iff_pairwise_ne]
  exact (h.sorted k h1 h2).imp fun {a b} hab e => by subst e; omega
theorem LInv.lines_nodup : (c.l.map Ent.line).Nodup := by
  rw [List.nodup_iff_pairwise_ne, List.pairwise_map]; exact h.good.once
theorem LInv.is_some (l : Int) : (lkE c.l l).isSome ↔ l ∈ c.l.map Ent.line := by
  rw [lkE_keys]; simp
/-- A set has as many as its list. -/
theorem LInv.setLen {l : Int} (hl : 0 ≤ l) (k : Int) (hk : l.tmod 2 = k) (h1 : 0 ≤ k) (h2 : k < 2) : (setL c l).length = (lget ls k).length := by
  rw [setL_len, h.sets]
  refine (List.Perm.length_eq ((List.perm_ext_iff_of_nodup ?_ (h.nodup h1 h2)).2 fun x => ?_))
  · rw [List.nodup_iff_pairwise_ne]
    refine List.Pairwise.filter _ ?_
    rw [← List.nodup_iff_pairwise_ne]; exact h.lines_nodup
  · rw [List.mem_filter, h.mem k h1 h2, h.is_some]
    unfold inLine
    simp [hl, hk]
theorem LInv.total : c.l.length = (lget ls 0).length + (lget ls 1).length := by
  have hp : (c.l.map Ent.line).Perm (lget ls 0 ++ lget ls 1) := by
    refine (List.perm_ext_iff_of_nodup h.lines_nodup ?_).2 fun x => ?_
    · rw [List.nodup_append]
      refine ⟨h.nodup (by omega) (by omega), h.nodup (by omega) (by omega), fun a ha b hb => ?_⟩
      rintro rfl
      have h1 := ((h.mem 0 (by omega) (by omega) a).1 ha).2
      have h2 := ((h.mem 1 (by omega) (by omega) a).1 hb).2
      omega
    · rw [List.mem_append, h.mem 0 (by omega) (by omega), h.mem 1 (by omega) (by omega), h.is_some]
      constructor
      · intro hx
        obtain ⟨e, he, rfl⟩ := List.mem_map.1 hx
        have := h.good.pos e he
        have h1 : 0 ≤ e.line.tmod 2 := Int.tmod_nonneg _ this
        have h2 : e.line.tmod 2 < 2 := Int.tmod_lt_of_pos _ (by omega)
        by_cases h3 : e.line.tmod 2 = 0
        · exact .inl ⟨hx, h3⟩
        · exact .inr ⟨hx, by omega⟩
      · rintro (⟨hx, _⟩ | ⟨hx, _⟩) <;> exact hx
  have := hp.length_eq
  rw [List.length_map, List.length_append] at this
  exact this
theorem LInv.use_le (l : Int) : useOf c l ≤ c.clock := by
  unfold useOf
  cases hq : lkE c.l l with
  | none => exact h.good.hclock.1
  | some e => exact (h.good.used e (lkE_some hq).1).2
theorem LInv.more : LInv W (i + 1) ls c := ⟨h.good.more (Nat.le_succ i), h.sets, h.ways, h.len, h.mem, h.sorted, h.most⟩
/-- A line without its place in the list, used now, stands at the end. -/
theorem LInv.last {c' : CacheS} {l : Int} (k : Int) (hk : l.tmod 2 = k) (h1 : 0 ≤ k) (h2 : k < 2) (q : List Int) (hq : q.Sublist (lget ls k)) (hql : ∀ x ∈ lget ls k, x ∈ q ∨ x = l ∨ lkE c'.l x = none) (hnl : l ∉ q) (hlen : (q.length : Int) + 1 ≤ W)
    (g : CGood (i + 1) c') (hs : c'.sets = 2) (hw : c'.ways = W) (hlk : ∀ x, x ≠ l → (lkE c'.l x = lkE c.l x ∨ lkE c'.l x = none ∧ x ∉ q ∧ x.tmod 2 = k)) (hin : ∃ e, lkE c'.l l = some e ∧ c.clock < e.used) :
    LInv W (i + 1) (lset ls k (q ++ [l])) c' := by
  obtain ⟨e, he, hu⟩ := hin
  have hb : 0 ≤ k ∧ k < (ls.length : Int) := by rw [h.len]; omega
  have huse : ∀ x ∈ q, useOf c' x = useOf c x := fun x hx => by
    have hne : x ≠ l := fun e1 => hnl (e1 ▸ hx)
    unfold useOf
    rcases hlk x hne with e1 | ⟨_, e2, _⟩
    · rw [e1]
    · exact absurd hx e2
  have hul : useOf c' l = e.used := by unfold useOf; rw [he]; rfl
  refine ⟨g, hs, hw, by unfold lset; rw [List.length_set]; exact h.len, fun k' a b x => ?_, fun k' a b => ?_, fun k' a b => ?_⟩
  · rw [lget_lset hb a]
    by_cases e1 : k' = k
    · subst e1
      rw [if_pos rfl, List.mem_append, List.mem_singleton]
      by_cases hx : x = l
      · subst hx
        rw [he]; simp [hk]
      · constructor
        · rintro (hx2 | hx2)
          · obtain ⟨m1, m2⟩ := (h.mem k' a b x).1 (hq.subset hx2)
            rcases hlk x hx with e2 | ⟨_, e3, _⟩
            · rw [e2]; exact ⟨m1, m2⟩
            · exact absurd hx2 e3
          · exact absurd hx2 hx
        · rintro ⟨m1, m2⟩
          left
          rcases hlk x hx with e2 | ⟨e3, _⟩
          · rw [e2] at m1
            rcases hql x ((h.mem k' a b x).2 ⟨m1, m2⟩) with e4 | e4 | e4
            · exact e4
            · exact absurd e4 hx
            · rw [e2] at e4; rw [e4] at m1; cases m1
          · rw [e3] at m1; cases m1
    · rw [if_neg e1, h.mem k' a b]
      by_cases hx : x = l
      · subst hx
        constructor
        · rintro ⟨_, m2⟩; omega
        · rintro ⟨_, m2⟩; omega
      · rcases hlk x hx with e2 | ⟨e3, _, e5⟩
        · rw [e2]
        · constructor
          · rintro ⟨_, m2⟩; omega
          · rintro ⟨m1, _⟩; rw [e3] at m1; cases m1
  · rw [lget_lset hb a]
    by_cases e1 : k' = k
    · subst e1
      rw [if_pos rfl, List.pairwise_append]
      refine ⟨((h.sorted k' a b).sublist hq).imp_of_mem fun {x y} hx hy hxy => by rw [huse x hx, huse y hy]; exact hxy, List.pairwise_singleton .., fun x hx y hy => ?_⟩
      rw [List.mem_singleton] at hy
      subst hy
      rw [huse x hx, hul]
      have := h.use_le x
      omega
    · rw [if_neg e1]
      refine (h.sorted k' a b).imp_of_mem fun {x y} hx hy hxy => ?_
      have go : ∀ z ∈ lget ls k', useOf c' z = useOf c z := by
        intro z hz
        obtain ⟨m1, m2⟩ := (h.mem k' a b z).1 hz
        have hne : z ≠ l := by rintro rfl; omega
        unfold useOf
        rcases hlk z hne with e2 | ⟨_, _, e5⟩
        · rw [e2]
        · omega
      rw [go x hx, go y hy]; exact hxy
  · rw [lget_lset hb a]
    by_cases e1 : k' = k
    · rw [if_pos e1, List.length_append]; simpa using hlen
    · rw [if_neg e1]; exact h.most k' a b
end
/-- Where a line stands in a list. -/
theorem l4_is (ls : List (List Int)) (l : Int) (k4 : Int → Int → Option Bool) (hn : (lget ls (l.tmod 2)).length ≤ 60) : ∀ (rest : List Int) (j fuel : Nat) (p : Int), (lget ls (l.tmod 2)).drop j = rest → j ≤ (lget ls (l.tmod 2)).length → rest.length < fuel →
    (l ∉ rest → cacheLeastS_l4 ls l k4 fuel p (j : Int) = k4 p (((lget ls (l.tmod 2)).length : Nat) : Int)) ∧ ∀ a b, rest = a ++ l :: b → l ∉ b → cacheLeastS_l4 ls l k4 fuel p (j : Int) = k4 ((j + a.length : Nat) : Int) (((lget ls (l.tmod 2)).length : Nat) : Int) := by
  intro rest
  induction rest with
  | nil =>
    intro j fuel p hd hle hf
    obtain ⟨f, rfl⟩ : ∃ f, fuel = f + 1 := ⟨fuel - 1, by omega⟩
    have hj := drop_nil_at hd
    refine ⟨fun _ => ?_, fun a b e => by cases a <;> cases e⟩
    rw [cacheLeastS_l4]
    dsimp only
    rw [bif_f (decide_eq_false (by omega)), show j = (lget ls (l.tmod 2)).length by omega]
  | cons x rest ih =>
    intro j fuel p hd hle hf
    obtain ⟨f, rfl⟩ : ∃ f, fuel = f + 1 := ⟨fuel - 1, by omega⟩
    obtain ⟨hj, hx, hr, _⟩ := drop_cons_at hd
    have hf : rest.length < f := by simp at hf; omega
    have q5 : inR ((j : Int) + 1) := by unfold inR; omega
    have go : ∀ p', cacheLeastS_j10 (j : Int) (cacheLeastS_l4 ls l k4 f) p' = cacheLeastS_l4 ls l k4 f p' ((j + 1 : Nat) : Int) := fun p' => by
      unfold cacheLeastS_j10
      rw [chk_true q5, show ((j + 1 : Nat) : Int) = (j : Int) + 1 by omega]
    have one : cacheLeastS_l4 ls l k4 (f + 1) p (j : Int) = cacheLeastS_l4 ls l k4 f (if x = l then (j : Int) else p) ((j + 1 : Nat) : Int) := by
      rw [cacheLeastS_l4]
      dsimp only
      rw [bif_t (decide_eq_true (by omega)), chk_true ⟨by omega, by omega⟩, nth_at hx]
      by_cases hxl : x = l
      · rw [bif_t (decide_eq_true hxl), go, if_pos hxl]
      · rw [bif_f (decide_eq_false hxl), go, if_neg hxl]
    rw [one]
    constructor
    · intro hn2
      rw [if_neg (fun e : x = l => hn2 (by rw [e]; exact List.mem_cons_self ..))]
      exact (ih (j + 1) f p hr (by omega) hf).1 (fun h => hn2 (List.mem_cons_of_mem _ h))
    · intro a b e hb
      cases a with
      | nil =>
        injection e with e1 e2
        subst e1; subst e2
        rw [if_pos rfl]
        exact (ih (j + 1) f (j : Int) hr (by omega) hf).1 hb
      | cons y a =>
        injection e with e1 e2
        have := (ih (j + 1) f (if x = l then (j : Int) else p) hr (by omega) hf).2 a b e2 hb
        rw [this, List.length_cons]
        congr 2
        omega
theorem lset_lset (ls : List (List Int)) (k : Int) (u v : List Int) : lset (lset ls k u) k v = lset ls k v := by
  unfold lset; rw [List.set_set]
theorem j6_is {ls : List (List Int)} (hl : ls.length = 2) (l : Int) (h0 : 0 ≤ l) (i : Nat) (r0 : Int → List (List Int) → CacheS → Option Bool) (c : CacheS) (hi : i ≤ 50) (hs : (lget ls (l.tmod 2)).length ≤ 60) :
    cacheLeastS_j6 l (i : Int) r0 ls c = r0 ((i : Int) + 1) (lset ls (l.tmod 2) (lget ls (l.tmod 2) ++ [l])) c := by
  have hk : 0 ≤ l.tmod 2 ∧ l.tmod 2 < 2 := ⟨Int.tmod_nonneg _ h0, Int.tmod_lt_of_pos _ (by omega)⟩
  unfold cacheLeastS_j6 letP
  dsimp only
  rw [chk_true ⟨hk, hk.1, by omega⟩, chk_true (by rw [List.length_append, List.length_singleton]; omega), chk_true ⟨hk, hk.1, by omega⟩]
  unfold cacheLeastS_j5
  rw [chk_true (by unfold inR; omega)]
section
variable {W : Int} (hW : 1 ≤ W ∧ W ≤ 4)
include hW
theorem step_ok {i : Nat} {ls : List (List Int)} {c : CacheS} (h : LInv W i ls c) (hi : i ≤ 40) {l : Int} (hl : 0 ≤ l ∧ l < 10) (w0 : Int) (hw0 : wr (1 + w0) = W)
    (r0 : Int → List (List Int) → CacheS → Option Bool) (hr : ∀ ls' c', LInv W (i + 1) ls' c' → r0 ((i : Int) + 1) ls' c' = some true) :
    cacheLeastS_l4 ls l (cacheLeastS_k4 c l ls (i : Int) r0 w0) 64 (-1) 0 = some true := by
  have hk : 0 ≤ l.tmod 2 ∧ l.tmod 2 < 2 := ⟨Int.tmod_nonneg _ hl.1, Int.tmod_lt_of_pos _ (by omega)⟩
  have hfew := h.good.few
  have hlen := h.len
  have hmk := h.most _ hk.1 hk.2
  have hset := h.setLen hl.1 _ rfl hk.1 hk.2
  have hnd := h.nodup hk.1 hk.2
  have hmem := h.mem _ hk.1 hk.2
  have hin : (0 ≤ l.tmod 2 ∧ l.tmod 2 < 2) ∧ 0 ≤ l.tmod 2 ∧ l.tmod 2 < ((ls.length : Nat) : Int) := ⟨hk, hk.1, by omega⟩
  have h4 := l4_is ls l (cacheLeastS_k4 c l ls (i : Int) r0 w0) (by omega) (lget ls (l.tmod 2)) 0 64 (-1) rfl (by omega) (by omega)
  rw [show ((0 : Nat) : Int) = 0 from rfl] at h4
  -- what is put behind all
  have put : ∀ (ls1 : List (List Int)) (c1 : CacheS) (q : List Int), ls1.length = 2 → lget ls1 (l.tmod 2) = q → lset ls1 (l.tmod 2) (q ++ [l]) = lset ls (l.tmod 2) (q ++ [l]) → CGood i c1 → c1.sets = 2 → c1.ways = W → lkE c1.l l = none → c1.clock = c.clock → (((setL c1 l).length : Nat) : Int) < W →
      q.Sublist (lget ls (l.tmod 2)) → (∀ x ∈ lget ls (l.tmod 2), x ∈ q ∨ x ≠ l ∧ lkE c1.l x = none) → l ∉ q → (q.length : Int) + 1 ≤ W → (∀ x, lkE c1.l x = lkE c.l x ∨ lkE c1.l x = none ∧ x ∉ q ∧ x.tmod 2 = l.tmod 2) →
      cacheLeastS_j8 l (i : Int) r0 ls1 c1 = some true := by
    intro ls1 c1 q e1 e2 e3 g1 g2 g3 g4 g5 g6 q1 q2 q3 q4 q5
    obtain ⟨r, c', p1, p2, p3, p4, p5⟩ := g1.put (by omega) ⟨-1, -1, l, 0, false, []⟩ (by simp)
    unfold cacheLeastS_j8
    rw [enew_is _ _ _ _ _ (by simp), Option.bind_some, p1, Option.bind_some]
    dsimp only
    cases p5 with
    | neg hn => exfalso; have : l < 0 := hn; omega
    | full a1 a2 a3 => exfalso; have : c1.ways ≤ (((setL c1 l).length : Nat) : Int) := a3; omega
    | old e0 a1 a2 => exfalso; have : lkE c1.l l = some e0 := a2; rw [g4] at this; cases this
    | new a1 a2 a3 a4 a5 a6 =>
      have a5 : ∀ x, lkE c'.l x = if x = l then some ⟨-1, -1, l, c1.clock + 1, false, []⟩ else lkE c1.l x := a5
      rw [bif_f (by simp), j6_is e1 l hl.1 i r0 c' (by omega) (by rw [e2]; omega), e2, e3]
      refine hr _ _ (h.last _ rfl hk.1 hk.2 q q1 (fun x hx => ?_) q3 q4 p2 (by rw [p3, g2]) (by rw [p4, g3]) (fun x hx => ?_) ⟨_, by rw [a5, if_pos rfl], by show c.clock < c1.clock + 1; omega⟩)
      · rcases q2 x hx with b | ⟨b1, b2⟩
        · exact .inl b
        · exact .inr (.inr (by rw [a5, if_neg b1, b2]))
      · rw [a5, if_neg hx]; exact q5 x
  by_cases hin2 : l ∈ lget ls (l.tmod 2)
  · -- it is there: it is used
    obtain ⟨a, b, hab⟩ := List.append_of_mem hin2
    have hnd2 := hnd
    rw [hab, List.nodup_append, List.nodup_cons] at hnd2
    obtain ⟨n1, ⟨n2, n3⟩, n4⟩ := hnd2
    have hla : l ∉ a := fun hx => n4 l hx l (List.mem_cons_self ..) rfl
    have hlab : (lget ls (l.tmod 2)).length = a.length + b.length + 1 := by rw [hab, List.length_append, List.length_cons]; omega
    obtain ⟨c', p1, p2, p3, p4, p5, p6⟩ := (h.good.more (Nat.le_succ i)).touch (by omega) l (by have := h.good.hclock; omega)
    have hs := ((hmem l).1 hin2).1
    rw [h4.2 a b hab n2]
    unfold cacheLeastS_k4
    rw [bif_t (decide_eq_true (by omega)), p1, Option.bind_some]
    dsimp only
    rw [hs, bif_f (by rfl)]
    rcases p6 with ⟨e1, _⟩ | ⟨e, e1, e2, e3, _⟩
    · rw [e1] at hs; cases hs
    rw [p2.full (by omega) l, e3, if_pos rfl, Option.bind_some]
    unfold cacheLeastS_j7 letP
    dsimp only
    have t1 : ((lget ls (l.tmod 2)).drop 0).take ((((0 + a.length : Nat) : Int)).toNat - 0) = a := by
      rw [hab]; simp
    have t2 : ((lget ls (l.tmod 2)).drop ((((0 + a.length : Nat) : Int) + 1)).toNat).take ((lget ls (l.tmod 2)).length - ((((0 + a.length : Nat) : Int) + 1)).toNat) = b := by
      rw [show ((((0 + a.length : Nat) : Int) + 1)).toNat = a.length + 1 by omega, hlab, hab, ← List.drop_drop, List.drop_left]
      rw [List.drop_one, List.tail_cons, List.take_of_length_le (by omega)]
    rw [bif_f (by rfl), chk_true hin, chk_true ⟨by omega, by omega, by omega⟩, t1, t2, chk_true hin, chk_true (by unfold inR; omega), chk_true ⟨by omega, by omega, by omega⟩, chk_true (by omega), chk_true (by rw [List.length_append]; omega), chk_true hin,
      j6_is (by unfold lset; rw [List.length_set]; exact hlen) l hl.1 i r0 c' (by omega) (by rw [lget_lset ⟨hk.1, by omega⟩ hk.1, if_pos rfl, List.length_append]; omega), lget_lset ⟨hk.1, by omega⟩ hk.1, if_pos rfl, lset_lset]
    refine hr _ _ (h.last _ rfl hk.1 hk.2 (a ++ b) (by rw [hab]; exact List.Sublist.append (List.Sublist.refl _) (List.sublist_cons_self ..)) (fun x hx => ?_) (fun hx => (List.mem_append.1 hx).elim hla n2) (by rw [List.length_append]; omega) p2 (by rw [p3, h.sets]) (by rw [p4, h.ways]) (fun x hx => .inl (by rw [e3, if_neg hx])) ⟨_, by rw [e3, if_pos rfl], by show c.clock < c.clock + 1; omega⟩)
    rw [hab, List.mem_append, List.mem_cons] at hx
    rw [List.mem_append]
    rcases hx with hx | hx | hx
    · exact .inl (.inl hx)
    · exact .inr (.inl hx)
    · exact .inl (.inr hx)
  · have hs : lkE c.l l = none := by
      cases hq : lkE c.l l with
      | none => rfl
      | some e => exact absurd ((hmem l).2 ⟨by rw [hq]; rfl, rfl⟩) hin2
    rw [h4.1 hin2]
    unfold cacheLeastS_k4
    rw [bif_f (decide_eq_false (by omega)), chk_true hin, h.good.full (by omega) l, Option.bind_some, hs, hset, h.ways, hw0]
    by_cases hfull : (((lget ls (l.tmod 2)).length : Nat) : Int) = W
    · rw [decide_eq_true hfull, decide_eq_true (show W ≤ (((lget ls (l.tmod 2)).length : Nat) : Int) by omega), bif_f (by rfl), chk_true hin, bif_t rfl]
      obtain ⟨x, b, hxb⟩ : ∃ x b, lget ls (l.tmod 2) = x :: b := by
        cases hq : lget ls (l.tmod 2) with
        | nil => rw [hq] at hfull; simp at hfull; omega
        | cons x b => exact ⟨x, b, rfl⟩
      have hnd2 := hnd
      rw [hxb, List.nodup_cons] at hnd2
      have hxm := (hmem x).1 (by rw [hxb]; exact List.mem_cons_self ..)
      obtain ⟨ex, hex⟩ := Option.isSome_iff_exists.1 hxm.1
      obtain ⟨hexm, hexl⟩ := lkE_some hex
      have hxne : x ≠ l := fun e => hin2 (by rw [hxb, e]; exact List.mem_cons_self ..)
      have hexs : ex ∈ setL c l := by
        unfold setL
        rw [List.mem_filter]
        exact ⟨hexm, inSet_yes hl.1 (by rw [hexl, h.sets]; exact hxm.2)⟩
      rcases h.good.victim (by omega) l with ⟨v1, _⟩ | ⟨m, v1, v2, v3⟩
      · rw [v1] at hexs; cases hexs
      have hm : m.line = x := by
        have hm1 := List.mem_filter.1 v2
        have hlm : lkE c.l m.line = some m := by
          rcases h.good.at m.line with ⟨b1, _⟩ | ⟨a', b', e', b1, b2, b3, _, b5⟩
          · exact absurd rfl (lkE_none.1 b1 m hm1.1)
          · rw [b3]
            have : m ∈ a' ++ e' :: b' := b1 ▸ hm1.1
            rw [List.mem_append, List.mem_cons] at this
            rcases this with q | q | q
            · exact absurd rfl (b5 m (List.mem_append.2 (.inl q)))
            · rw [q]
            · exact absurd rfl (b5 m (List.mem_append.2 (.inr q)))
        have hmt : m.line.tmod 2 = l.tmod 2 := by
          have := hm1.2
          unfold inSet at this
          simp [hl.1, h.sets] at this
          exact this
        have hmm := (hmem m.line).2 ⟨by rw [hlm]; rfl, hmt⟩
        rw [hxb, List.mem_cons] at hmm
        rcases hmm with q | q
        · exact q
        · exfalso
          have hso := h.sorted _ hk.1 hk.2
          rw [hxb, List.pairwise_cons] at hso
          have := hso.1 _ q
          unfold useOf at this
          rw [hlm, hex] at this
          have h3 := v3 _ hexs
          have : ex.used < m.used := this
          omega
      rw [v1, Option.bind_some]
      dsimp only
      rw [bif_f (by rfl), chk_true hin, chk_true ⟨by omega, by omega⟩, hxb, show nth (x :: b) 0 = x from rfl, hm, show (!decide (x = x)) = false by simp]
      unfold cacheLeastS_j9
      obtain ⟨c1, d1, d2, d3, d4, d5, d6, d7⟩ := h.good.drop (by omega) x
      rw [bif_f rfl, d1, Option.bind_some]
      dsimp only
      rw [hex, bif_f (by rfl), chk_true hin, chk_true ⟨by omega, by omega, by omega⟩]
      unfold letP
      dsimp only
      have t1 : ((lget ls (l.tmod 2)).drop ((1 : Int)).toNat).take ((lget ls (l.tmod 2)).length - ((1 : Int)).toNat) = b := by rw [hxb]; simp
      rw [t1, chk_true hin]
      rcases d7 with ⟨f1, _⟩ | ⟨a', b', e', f1, f2, f3, _⟩
      · rw [hex] at f1; cases f1
      have hbl : (lget ls (l.tmod 2)).length = b.length + 1 := by rw [hxb, List.length_cons]
      refine put _ c1 b (by unfold lset; rw [List.length_set]; exact hlen) (by rw [lget_lset ⟨hk.1, by omega⟩ hk.1, if_pos rfl]) (lset_lset ..) d2 (by rw [d3, h.sets]) (by rw [d4, h.ways]) (by rw [d6, if_neg (Ne.symm hxne), hs]) d5 ?_ (by rw [hxb]; exact List.sublist_cons_self ..) (fun y hy => ?_) (fun hy => hin2 (by rw [hxb]; exact List.mem_cons_of_mem _ hy)) (by omega) (fun y => ?_)
      · have : (setL c l).length = (setL c1 l).length + 1 := by
          have he : inSet 2 l e' = true := inSet_yes hl.1 (by rw [f3]; exact hxm.2)
          unfold setL
          rw [h.sets, d3, h.sets, f1, f2, List.filter_append, List.filter_append, List.filter_cons, if_pos he, List.length_append, List.length_append, List.length_cons]; omega
        omega
      · rw [hxb, List.mem_cons] at hy
        rcases hy with hy | hy
        · exact .inr ⟨by rw [hy]; exact hxne, by rw [d6, if_pos hy]⟩
        · exact .inl hy
      · rw [d6]
        by_cases hyx : y = x
        · rw [if_pos hyx]
          exact .inr ⟨rfl, by rw [hyx]; exact hnd2.1, by rw [hyx]; exact hxm.2⟩
        · rw [if_neg hyx]; exact .inl rfl
    · rw [decide_eq_false hfull, decide_eq_false (show ¬ W ≤ (((lget ls (l.tmod 2)).length : Nat) : Int) by omega), bif_f (by rfl), chk_true hin, bif_f rfl]
      exact put ls c _ hlen rfl rfl h.good h.sets h.ways hs rfl (by omega) (List.Sublist.refl _) (fun x hx => .inl hx) hin2 (by omega) (fun x => .inl rfl)
theorem k0_ok {i : Nat} {ls : List (List Int)} {c : CacheS} (h : LInv W i ls c) (hi : i ≤ 50) (j : Int) : cacheLeastS_k0 j ls c = some true := by
  have hfew := h.good.few
  have ht := h.total
  unfold cacheLeastS_k0 letP lenC
  dsimp only
  rw [chk_true h.len, wr_small (by omega), bif_t (decide_eq_true (by omega)), wakes8_is]; rfl
theorem loop0 (uses : List Int) (w0 : Int) (hw0 : wr (1 + w0) = W) :
    ∀ (d i fuel : Nat) (ls : List (List Int)) (c : CacheS), i + d = min uses.length 30 → d < fuel → LInv W i ls c → cacheLeastS_l0 uses w0 cacheLeastS_k0 fuel (i : Int) ls c = some true := by
  intro d
  induction d with
  | zero =>
    intro i fuel ls c hi hf h
    obtain ⟨f, rfl⟩ : ∃ f, fuel = f + 1 := ⟨fuel - 1, by omega⟩
    rw [cacheLeastS_l0]
    dsimp only
    by_cases hq : (i : Int) < ((uses.length : Nat) : Int)
    · rw [bif_t (decide_eq_true hq)]
      unfold cacheLeastS_j3
      rw [bif_f (decide_eq_false (by omega))]; exact k0_ok hW h (by omega) _
    · rw [bif_f (decide_eq_false hq)]
      unfold cacheLeastS_j3
      rw [bif_f rfl]; exact k0_ok hW h (by omega) _
  | succ d ih =>
    intro i fuel ls c hi hf h
    obtain ⟨f, rfl⟩ : ∃ f, fuel = f + 1 := ⟨fuel - 1, by omega⟩
    have hq : (i : Int) < ((uses.length : Nat) : Int) := by omega
    obtain ⟨l, e1, l1, l2⟩ := within_is (v := nth uses (i : Int)) (n := 10) (by omega) (by omega)
    have hk : 0 ≤ l.tmod 2 ∧ l.tmod 2 < 2 := ⟨Int.tmod_nonneg _ l1, Int.tmod_lt_of_pos _ (by omega)⟩
    have hlen := h.len
    rw [cacheLeastS_l0]
    dsimp only
    rw [bif_t (decide_eq_true hq)]
    unfold cacheLeastS_j3
    rw [bif_t (decide_eq_true (by omega)), chk_true ⟨by omega, hq⟩, e1, Option.bind_some, chk_true ⟨hk, hk.1, by omega⟩]
    refine step_ok hW h (by omega) ⟨l1, l2⟩ w0 hw0 _ fun ls' c' h' => ?_
    rw [show (i : Int) + 1 = ((i + 1 : Nat) : Int) by omega]
    exact ih (i + 1) f ls' c' (by omega) (by omega) h'
end
theorem cacheLeast_pure (ways : Int) (uses : List Int) : cacheLeastS ways uses = some true := by
  obtain ⟨w0, e2, w1, w2⟩ := within_is (v := ways) (n := 4) (by omega) (by omega)
  unfold cacheLeastS letP
  dsimp only
  have hW : wr (1 + w0) = 1 + w0 := wr_small (by omega)
  rw [e2, Option.bind_some, hW]
  refine loop0 (W := 1 + w0) (by omega) uses w0 hW (min uses.length 30) 0 64 _ _ (by omega) (by omega) ⟨CGood.new, by simp [newC], ?_, by simp, fun k k1 k2 l => ?_, fun k k1 k2 => ?_, fun k k1 k2 => ?_⟩
  · show (if 1 < 1 + w0 then 1 + w0 else 1) = 1 + w0
    split <;> omega
  all_goals
    have : lget (List.replicate 2 ([] : List Int)) k = [] := by
      unfold lget
      rcases (by omega : k = 0 ∨ k = 1) with rfl | rfl <;> rfl
    rw [this]
  · simp [newC, lkE]
  · exact List.Pairwise.nil
  · simp; omega
end Go.Proofs.Ytfpiolnbnfngkaa
