/- Both caches, in plain words: what is put; which line is the victim; all lines; the same. -/
import Derived.Test.YtfndeehlbcbkpaaPureCacheLem
import Derived.Test.YtfndeehlbcbkpaaSmA
set_option linter.unusedSimpArgs false
set_option linter.unusedVariables false
namespace Go.Proofs.Ytfndeehlbcbkpaa
open Go
theorem rise_split {line : Int} : ∀ {l : List Ent}, l.Pairwise (fun a b => a.line < b.line) → (∀ x ∈ l, x.line ≠ line) → ∃ a b, l = a ++ b ∧ (∀ y ∈ a, y.line < line) ∧ ∀ y ∈ b, line < y.line
  | [], _, _ => ⟨[], [], rfl, by simp, by simp⟩
  | x :: l, h, hn => by
    rw [List.pairwise_cons] at h
    rcases Int.lt_or_lt_of_ne (hn x (List.mem_cons_self ..)) with hx | hx
    · obtain ⟨a, b, h1, h2, h3⟩ := rise_split h.2 fun y hy => hn y (List.mem_cons_of_mem _ hy)
      exact ⟨x :: a, b, by rw [h1]; rfl, by intro y hy; rcases List.mem_cons.1 hy with rfl | hy; exact hx; exact h2 y hy, h3⟩
    · refine ⟨[], x :: l, rfl, by simp, fun y hy => ?_⟩
      rcases List.mem_cons.1 hy with rfl | hy
      · exact hx
      · have := h.1 y hy; omega
theorem rput_loop (q : CacheS) (e : Ent) (k0 : Int → Option (Int × CacheS)) {a b : List Ent} (hl : q.l = a ++ b) (ha : ∀ y ∈ a, y.line < e.line) (hb : ∀ y ∈ b, e.line < y.line) (hn : q.l.length ≤ 60) : ∀ (j fuel : Nat), j ≤ b.length → j < fuel →
    rputS_l0 q e k0 fuel (((a.length + j : Nat) : Int)) = k0 ((a.length : Nat) : Int) := by
  have hlen : a.length + b.length = q.l.length := by rw [hl]; simp
  intro j
  induction j with
  | zero =>
    intro fuel hj hf
    obtain ⟨f, rfl⟩ : ∃ f, fuel = f + 1 := ⟨fuel - 1, by omega⟩
    rw [rputS_l0, Nat.add_zero]
    dsimp only
    by_cases h0 : 0 < a.length
    · have q5 : inR ((a.length : Int) - 1) := by unfold inR; omega
      have hx : q.l[a.length - 1]? = some a[a.length - 1] := by rw [hl, List.getElem?_append_left (by omega), List.getElem?_eq_getElem (by omega)]
      have hn1 := nthT_at hx
      rw [show ((a.length - 1 : Nat) : Int) = (a.length : Int) - 1 by omega] at hn1
      have := ha _ (List.getElem_mem (show a.length - 1 < a.length by omega))
      rw [bif_t (decide_eq_true (by omega)), chk_true q5, chk_true ⟨by omega, by omega⟩, hn1, bif_f (decide_eq_false (by omega))]
    · rw [bif_f (decide_eq_false (by omega))]
  | succ j ih =>
    intro fuel hj hf
    obtain ⟨f, rfl⟩ : ∃ f, fuel = f + 1 := ⟨fuel - 1, by omega⟩
    have q5 : inR (((a.length + (j + 1) : Nat) : Int) - 1) := by unfold inR; omega
    have hx : q.l[a.length + j]? = some b[j] := by rw [hl, List.getElem?_append_right (by omega), show a.length + j - a.length = j by omega, List.getElem?_eq_getElem (by omega)]
    have hn1 := nthT_at hx
    have e1 : ((a.length + (j + 1) : Nat) : Int) - 1 = ((a.length + j : Nat) : Int) := by omega
    have := hb _ (List.getElem_mem (show j < b.length by omega))
    rw [rputS_l0]
    dsimp only
    rw [bif_t (decide_eq_true (by omega)), chk_true q5, chk_true ⟨by omega, by omega⟩, e1, hn1, bif_t (decide_eq_true this), chk_true (by unfold inR; omega)]
    exact ih f (by omega) (by omega)
section
variable {N : Nat} {c q : CacheS} (h : CSim N c q) (hN : N ≤ 59)
include h hN
theorem CSim.put (e : Ent) (hd : e.data.length ≤ 60) : ∃ r c' q', putS c e = some (r, c') ∧ rputS q e = some (r, q') ∧ CSim (N + 1) c' q' := by
  have ok := h.good.ok (by omega)
  have hfew := h.good.few
  have hq : q.l.length ≤ 60 := by rw [h.len]; omega
  have hk := h.good.hclock
  have hs : 1 ≤ q.sets := by rw [h.sets]; exact h.good.hsets
  have hcp : ecopyS e = some e := by
    unfold ecopyS
    rw [chk_true (by omega)]; rfl
  unfold putS rputS
  rw [chk_true ⟨ok, by unfold okL; omega⟩, hcp]
  by_cases h0 : e.line < 0
  · rw [bif_t (decide_eq_true h0)]
    exact ⟨1, c, q, by simp [putC, h0], rfl, h.more (by omega)⟩
  · rw [bif_f (decide_eq_false h0), Option.bind_some, rat_is q e.line hq, Option.bind_some]
    rcases h.where e.line with ⟨h1, h2⟩ | ⟨a, b, a', b', e0, h1, h2, h3, h4, h5⟩
    · rw [idxI_none h2, bif_f (by simp), rin_is q e.line hs hq, Option.bind_some, h.setLen, h.ways]
      by_cases hf : c.ways ≤ (((setL c e.line).length : Nat) : Int)
      · rw [bif_t (decide_eq_true hf)]
        exact ⟨5, c, q, by simp [putC, h0, h1, hf], rfl, h.more (by omega)⟩
      · rw [bif_f (decide_eq_false hf)]
        obtain ⟨a, b, k1, k2, k3⟩ := rise_split h.rise (idx_none_iff.1 h2)
        have hlen : a.length + b.length = q.l.length := by rw [k1]; simp
        have e1 := rput_loop q e (rputS_k0 q e) k1 k2 k3 hq b.length 64 (Nat.le_refl _) (by omega)
        rw [hlen] at e1
        rw [e1]
        have hw : wr (q.clock + 1) = c.clock + 1 := by rw [h.clock]; exact wr_small (by omega)
        have t1 : (q.l.drop 0).take ((a.length : Int).toNat - 0) = a := by rw [k1]; simp
        have t2 : (q.l.drop (a.length : Int).toNat).take (q.l.length - (a.length : Int).toNat) = b := by
          rw [List.take_of_length_le (by rw [List.length_drop]; exact Nat.le_refl _), Int.toNat_natCast, k1]; simp
        unfold rputS_k0 letP
        dsimp only
        rw [chk_true ⟨by omega, by omega, by omega, by omega, by omega⟩, chk_true ⟨by omega, by omega, by omega⟩, t1, t2, hw, chk_true (by simp; omega), chk_true (by simp; omega)]
        have g1 := h.good.one (a := c.l) (b := []) (x := { e with used := c.clock + 1 }) (by simp) (fun y hy => idx_none_iff.1 h1 y hy) (by show 0 ≤ e.line; omega) hd rfl
        refine ⟨0, { c with l := c.l ++ [{ e with used := c.clock + 1 }], clock := c.clock + 1 }, _, by simp [putC, h0, h1, hf], rfl, g1, ?_, ?_, h.sets, h.ways, rfl⟩
        · show (c.l ++ [{ e with used := c.clock + 1 }]).Perm (a ++ ({ e with used := c.clock + 1 } :: b))
          refine List.Perm.trans List.perm_append_comm ?_
          refine List.Perm.trans ?_ (List.Perm.symm List.perm_middle)
          have hp := h.perm
          rw [k1] at hp
          exact List.Perm.cons _ hp
        · have hr := h.rise
          rw [k1] at hr
          exact pw_mid_mk hr k2 k3
    · have hlen : (a'.length : Int) < ((q.l.length : Nat) : Int) := by rw [h2]; simp; omega
      rw [idxI_some h5, bif_t (decide_eq_true (by omega)), chk_true ⟨by omega, hlen⟩, chk_true ⟨by omega, hlen⟩]
      unfold letP
      have g1 := h.set (x := { e with used := e0.used }) h1 h2 h3.symm hd c.clock ⟨Int.le_refl _, hk.2⟩ (.inl rfl)
      refine ⟨0, { c with l := a ++ { e with used := e0.used } :: b }, _, ?_, rfl, ?_⟩
      · simp only [putC, h0, h4, if_false]
        rw [h1, getD_mid, set_mid]
      · have t1 : List.set q.l ((a'.length : Nat) : Int).toNat ⟨e.fwd, e.back, e.line, (nthT q.l ((a'.length : Nat) : Int)).used, e.dirty, e.data⟩ = a' ++ { e with used := e0.used } :: b' := by
          rw [h2, nthT_mid, Int.toNat_natCast, set_mid]
        rw [t1]
        have : ({ q with l := a' ++ { e with used := e0.used } :: b', clock := c.clock } : CacheS) = { sets := q.sets, ways := q.ways, clock := q.clock, l := a' ++ { e with used := e0.used } :: b' } := by rw [h.clock]
        rw [this] at g1
        exact g1.more (by omega)
end
/-! The victim. -/
theorem min_loop (s : List Ent) (hn : s.length ≤ 60) (hu : ∀ y ∈ s, 1 ≤ y.used ∧ y.used ≤ 1000) : ∀ (rest : List Ent) (i fuel : Nat) (m : Ent), s.drop i = rest → rest.length < fuel → m ∈ s → (∀ y ∈ s.take i, m.used ≤ y.used) →
    ∃ m', minS_l0 s minS_k0 fuel (i : Int) m.fwd m.back m.line m.used m.dirty m.data = some m' ∧ m' ∈ s ∧ ∀ y ∈ s, m'.used ≤ y.used := by
  intro rest
  induction rest with
  | nil =>
    intro i fuel m hd hf hm hle
    obtain ⟨f, rfl⟩ : ∃ f, fuel = f + 1 := ⟨fuel - 1, by omega⟩
    have := drop_nil_at hd
    rw [minS_l0]
    dsimp only
    rw [bif_f (decide_eq_false (by omega))]
    exact ⟨m, rfl, hm, fun y hy => hle y (by rw [List.take_of_length_le this]; exact hy)⟩
  | cons e rest ih =>
    intro i fuel m hd hf hm hle
    obtain ⟨f, rfl⟩ : ∃ f, fuel = f + 1 := ⟨fuel - 1, by omega⟩
    obtain ⟨q1, q2, q3, q4⟩ := drop_cons_at hd
    have q5 : inR ((i : Int) + 1) := by unfold inR; omega
    rw [List.length_cons] at hf
    have u1 := hu e q4
    have u2 := hu m hm
    have ht : s.take (i + 1) = s.take i ++ [e] := by rw [List.take_add_one, q2]; rfl
    have hw : wr (e.used - m.used) = e.used - m.used := wr_small (by omega)
    rw [minS_l0]
    dsimp only
    rw [bif_t (decide_eq_true (by omega)), chk_true ⟨by omega, by omega⟩]
    unfold letP vusedS
    dsimp only
    rw [nthT_at q2, Option.bind_some, hw]
    by_cases hc : e.used - m.used < 0
    · rw [bif_t (decide_eq_true hc), chk_true ⟨by omega, by omega⟩, chk_true q5]
      have := ih (i + 1) f e q3 (by omega) q4 (by
        rw [ht]
        intro y hy
        rw [List.mem_append, List.mem_singleton] at hy
        rcases hy with hy | rfl
        · have := hle y hy; omega
        · exact Int.le_refl _)
      rw [show ((i + 1 : Nat) : Int) = (i : Int) + 1 by omega] at this
      exact this
    · rw [bif_f (decide_eq_false hc), chk_true q5]
      have := ih (i + 1) f m q3 (by omega) hm (by
        rw [ht]
        intro y hy
        rw [List.mem_append, List.mem_singleton] at hy
        rcases hy with hy | rfl
        · exact hle y hy
        · omega)
      rw [show ((i + 1 : Nat) : Int) = (i : Int) + 1 by omega] at this
      exact this
theorem min_is (s : List Ent) (h0 : s ≠ []) (hn : s.length ≤ 60) (hu : ∀ y ∈ s, 1 ≤ y.used ∧ y.used ≤ 1000) : ∃ m, minS s = some m ∧ m ∈ s ∧ ∀ y ∈ s, m.used ≤ y.used := by
  obtain ⟨x, r, rfl⟩ : ∃ x r, s = x :: r := by cases s with | nil => exact absurd rfl h0 | cons x r => exact ⟨x, r, rfl⟩
  have hx : nthT (x :: r) (0 : Int) = x := nthT_at (i := 0) rfl
  unfold minS letP
  rw [bif_f (decide_eq_false (by simp; omega)), chk_true ⟨by omega, by simp⟩, hx]
  have := min_loop (x :: r) hn hu r 1 64 x rfl (by simp at hn; omega) (List.mem_cons_self ..) (by simp)
  rw [show ((1 : Nat) : Int) = 1 from rfl] at this
  exact this
/-- The victim of a cache: of its set's entries the one that was used first. -/
theorem CGood.victim {N : Nat} {c : CacheS} (h : CGood N c) (hN : N ≤ 60) (line : Int) : (setL c line = [] ∧ victimS c line = some (0, false)) ∨ ∃ m, victimS c line = some (m.line, true) ∧ m ∈ setL c line ∧ ∀ y ∈ setL c line, m.used ≤ y.used := by
  have hfew := h.few
  unfold victimS
  rw [cset_is c line h.hsets (by omega), Option.bind_some]
  by_cases h0 : setL c line = []
  · rw [bif_t (by rw [h0]; simp)]
    exact .inl ⟨h0, rfl⟩
  · have hl : 0 < (setL c line).length := List.length_pos_iff.2 h0
    have hk := h.hclock
    obtain ⟨m, e1, e2, e3⟩ := min_is (setL c line) h0 (Nat.le_trans (List.length_filter_le _ _) (by omega)) (fun y hy => by have := h.used y (List.mem_filter.1 hy).1; omega)
    rw [bif_f (decide_eq_false (by omega)), e1, Option.bind_some]
    exact .inr ⟨m, rfl, e2, e3⟩
section
variable {N : Nat} {c q : CacheS} (h : CSim N c q) (hN : N ≤ 60)
include h hN
end
/-! All lines. -/
theorem eq_of_risingC : ∀ {l l' : List Int}, l.Pairwise (· < ·) → l'.Pairwise (· < ·) → (∀ a, a ∈ l ↔ a ∈ l') → l = l'
  | [], [], _, _, _ => rfl
  | [], b :: l', _, _, h => absurd ((h b).2 (List.mem_cons_self ..)) (by simp)
  | a :: l, [], _, _, h => absurd ((h a).1 (List.mem_cons_self ..)) (by simp)
  | a :: l, b :: l', h1, h2, h => by
    rw [List.pairwise_cons] at h1 h2
    have hab : a = b := by
      have ha := (h a).1 (List.mem_cons_self ..)
      have hb := (h b).2 (List.mem_cons_self ..)
      rw [List.mem_cons] at ha hb
      rcases ha with ha | ha
      · exact ha
      · rcases hb with hb | hb
        · exact hb.symm
        · have := h1.1 b hb; have := h2.1 a ha; omega
    subst hab
    rw [eq_of_risingC h1.2 h2.2 fun x => ?_]
    constructor
    · intro hx
      have := (h x).1 (List.mem_cons_of_mem _ hx)
      rw [List.mem_cons] at this
      rcases this with rfl | hx2
      · exact absurd (h1.1 _ hx) (by omega)
      · exact hx2
    · intro hx
      have := (h x).2 (List.mem_cons_of_mem _ hx)
      rw [List.mem_cons] at this
      rcases this with rfl | hx2
      · exact absurd (h2.1 _ hx) (by omega)
      · exact hx2
theorem srt_risingC {xs : List Int} (h : xs.Nodup) : (srt xs).Pairwise (· < ·) := by
  have h1 : (srt xs).Pairwise fun a b => leI a b = true := List.pairwise_mergeSort (fun a b c h1 h2 => by simp only [leI, decide_eq_true_eq] at *; omega) (fun a b => by simp only [leI, Bool.or_eq_true, decide_eq_true_eq]; omega) xs
  have h2 : (srt xs).Nodup := (List.mergeSort_perm xs leI).nodup_iff.2 h
  exact (h1.and h2).imp fun ⟨q1, q2⟩ => by simp only [leI, decide_eq_true_eq] at q1; omega
theorem srt_memC {xs : List Int} {a : Int} : a ∈ srt xs ↔ a ∈ xs := (List.mergeSort_perm xs leI).mem_iff
theorem lines_loop (c : CacheS) (hn : c.l.length ≤ 60) : ∀ (rest : List Ent) (i fuel : Nat) (out : List Int), c.l.drop i = rest → rest.length < fuel → out.length + rest.length ≤ 60 →
    linesS_l0 c linesS_k0 fuel out (i : Int) = some (srt (out ++ rest.map Ent.line)) := by
  intro rest
  induction rest with
  | nil =>
    intro i fuel out hd hf ho
    obtain ⟨f, rfl⟩ : ∃ f, fuel = f + 1 := ⟨fuel - 1, by omega⟩
    have := drop_nil_at hd
    rw [linesS_l0]
    dsimp only
    rw [bif_f (decide_eq_false (by omega))]
    unfold linesS_k0 sortiS
    rw [chk_true (show okL out by unfold okL; simp at ho; omega)]; simp
  | cons e rest ih =>
    intro i fuel out hd hf ho
    obtain ⟨f, rfl⟩ : ∃ f, fuel = f + 1 := ⟨fuel - 1, by omega⟩
    obtain ⟨q1, q2, q3, q4⟩ := drop_cons_at hd
    have q5 : inR ((i : Int) + 1) := by unfold inR; omega
    rw [List.length_cons] at hf ho
    rw [linesS_l0]
    dsimp only [letP]
    rw [bif_t (decide_eq_true (by omega)), chk_true ⟨by omega, by omega⟩, nthT_at q2, chk_true (by simp; omega), chk_true q5]
    have := ih (i + 1) f (out ++ [e.line]) q3 (by omega) (by simp; omega)
    rw [show ((i + 1 : Nat) : Int) = (i : Int) + 1 by omega] at this
    rw [this]; simp
theorem lines_is (c : CacheS) (hn : c.l.length ≤ 60) : linesS c = some (srt (c.l.map Ent.line)) := by
  have := lines_loop c hn c.l 0 64 [] (by simp) (by omega) (by simp; omega)
  unfold linesS
  rw [show ((0 : Nat) : Int) = 0 from rfl] at this
  rw [this]; rfl
theorem same_ent (e : Ent) (h : e.data.length ≤ 60) : sameEntS e e = some true := by
  unfold sameEntS ksameS
  rw [bif_t (by simp), bif_t (by simp), bif_t (by simp), bif_t (by simp), bif_t (by simp), chk_true (show okL e.data by unfold okL; omega)]
  simp
section
variable {N : Nat} {c q : CacheS} (h : CSim N c q) (hN : N ≤ 60)
include h hN
theorem CSim.lines : linesS c = some (q.l.map Ent.line) := by
  have hfew := h.good.few
  rw [lines_is c (by omega)]
  congr 1
  refine eq_of_risingC (srt_risingC ?_) ?_ fun a => ?_
  · rw [List.nodup_iff_pairwise_ne, List.pairwise_map]; exact h.good.once
  · rw [List.pairwise_map]; exact h.rise
  · rw [srt_memC]; exact (h.perm.map _).mem_iff
theorem CSim.same_loop : ∀ (rest : List Ent) (i fuel : Nat), q.l.drop i = rest → rest.length < fuel → sameCS_l0 q c (q.l.map Ent.line) sameCS_k0 fuel (i : Int) = some true := by
  have hfew := h.good.few
  have hq := h.len
  intro rest
  induction rest with
  | nil =>
    intro i fuel hd hf
    obtain ⟨f, rfl⟩ : ∃ f, fuel = f + 1 := ⟨fuel - 1, by omega⟩
    have := drop_nil_at hd
    rw [sameCS_l0]
    dsimp only
    rw [bif_f (decide_eq_false (by omega))]; rfl
  | cons e rest ih =>
    intro i fuel hd hf
    obtain ⟨f, rfl⟩ : ∃ f, fuel = f + 1 := ⟨fuel - 1, by omega⟩
    obtain ⟨q1, q2, q3, q4⟩ := drop_cons_at hd
    have q5 : inR ((i : Int) + 1) := by unfold inR; omega
    rw [List.length_cons] at hf
    have hnl : nth (q.l.map Ent.line) (i : Int) = e.line := nth_at (by rw [List.getElem?_map, q2]; rfl)
    obtain ⟨e', b, f1, f2, f3, f4⟩ := h.find hN e.line
    have hb : b = true := by
      cases b with
      | true => rfl
      | false =>
        exfalso
        have := (f3 rfl).2
        rcases h.where e.line with ⟨_, k2⟩ | ⟨_, _, a', _, _, _, _, _, _, k5⟩
        · exact idx_none_iff.1 k2 e q4 rfl
        · rw [idxI_some k5] at this; omega
    subst hb
    obtain ⟨g1, g2, _⟩ := f4 rfl
    have he : e' = e := h.one g1 (h.mem.1 q4) g2
    subst he
    rw [sameCS_l0]
    dsimp only [letP]
    rw [bif_t (decide_eq_true (by omega)), chk_true ⟨by omega, by omega⟩, nthT_at q2, f1, Option.bind_some, chk_true ⟨by omega, by rw [List.length_map]; omega⟩, hnl, bif_f (by simp), bif_f (by simp), same_ent e' (h.good.data _ g1), Option.bind_some, bif_f (by simp), chk_true q5]
    have := ih (i + 1) f q3 (by omega)
    rw [show ((i + 1 : Nat) : Int) = (i : Int) + 1 by omega] at this
    exact this
theorem CSim.same : sameCS c q = some true := by
  have hfew := h.good.few
  have hq := h.len
  unfold sameCS letP lenC
  dsimp only
  rw [bif_f (by simp [hq]), h.lines hN, Option.bind_some, bif_f (by simp)]
  have := h.same_loop hN q.l 0 64 (by simp) (by omega)
  rw [show ((0 : Nat) : Int) = 0 from rfl] at this
  exact this
end
/-- Two new caches. -/
theorem CSim.new {sets ways : Int} (h1 : sets ≤ 100) (h2 : ways ≤ 100) : ∃ q, rnewcS sets ways = some q ∧ CSim 0 (newC sets ways) q := by
  refine ⟨_, rfl, ⟨by simp [newC], by simp [newC], by simp [newC], by simp [newC], by simp [newC], by simp [newC], ?_, ?_, by simp [newC]⟩, by simp [newC], by simp, ?_, ?_, rfl⟩
  · show 1 ≤ if 1 < sets then sets else 1
    split <;> omega
  · show 1 ≤ if 1 < ways then ways else 1
    split <;> omega
  · show (if sets < 1 then 1 else sets) = if 1 < sets then sets else 1
    split <;> split <;> omega
  · show (if ways < 1 then 1 else ways) = if 1 < ways then ways else 1
    split <;> split <;> omega
theorem within_is {v n : Int} (h1 : 1 ≤ n) (h2 : n ≤ 5000) : ∃ k, withinS v n = some k ∧ 0 ≤ k ∧ k < n := by
  refine ⟨v % n, ?_, Int.emod_nonneg v (by omega), Int.emod_lt_of_pos v (by omega)⟩
  unfold withinS
  rw [chk_true ⟨h1, by omega⟩]
theorem cut_is (xs : List Int) {n : Int} (h1 : 0 ≤ n) (h2 : n ≤ 1000) : ∃ ys, cutS xs n = some ys ∧ ys.length ≤ n.toNat := by
  refine ⟨xs.take n.toNat, ?_, List.length_take_le ..⟩
  unfold cutS
  rw [chk_true ⟨h1, by omega⟩]
theorem enew_is (l f b : Int) (d : Bool) (xs : List Int) (h : xs.length ≤ 1000) : enewS l f b d xs = some ⟨f, b, l, 0, d, xs⟩ := by
  unfold enewS
  rw [chk_true (show okL xs by unfold okL; omega)]
end Go.Proofs.Ytfndeehlbcbkpaa
