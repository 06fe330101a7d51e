/- The law AttachKeeps answers true at every input: the plain side. -/
import Derived.Test.YtfndeehlbcbkpaaPureBothLem
import Derived.Test.YtfndeehlbcbkpaaLawAttachKeeps
set_option linter.unusedSimpArgs false
set_option linter.unusedVariables false
namespace Go.Proofs.Ytfndeehlbcbkpaa
open Go
theorem wakes14_is : wakes14S = some true := by kernel_rfl
theorem drop_end {N : Nat} {c' : CacheS} (h : CGood N c') (hN : N ≤ 60) {l : List Ent} {e : Ent} (hl : c'.l = l ++ [e]) (hn : ∀ x ∈ l, x.line ≠ e.line) : dropS c' e.line = some (e, true, { c' with l := l }) := by
  have hi : idx c'.l e.line = some l.length := by rw [hl]; exact idx_mid rfl hn
  unfold dropS
  rw [chk_true (h.ok (by omega))]
  simp only [findE, dropC, hi]
  rw [hl, getD_mid, erase_mid, List.append_nil]
set_option maxRecDepth 20000 in
theorem keep_j0 {N : Nat} {c q : CacheS} (h : CSim N c q) (hN : N ≤ 50) (hn : lkE c.l 5 = none) (hf : (((setL c 5).length : Nat) : Int) < c.ways) (v : Int) : attachKeepsS_j0 v c q = some true := by
  obtain ⟨r, c', p1, p2, p3, p4, p5⟩ := h.good.put (by omega) ⟨-1, -1, 5, 0, false, [v]⟩ (by simp)
  have ha : anextS ⟨1, 5, 0, 1, 0, -1, [], -1, -1⟩ 1 c ⟨7, 0, 0, 0, 5, -1, 0, false, [v]⟩ = some (⟨1, 5, 0, 6, 1, 1, [], -1, -1⟩, true, c') := by
    unfold anextS
    rw [bif_f (by decide), show dfitsS ⟨1, 5, 0, 1, 0, -1, [], -1, -1⟩ ⟨7, 0, 0, 0, 5, -1, 0, false, [v]⟩ = some true from rfl, Option.bind_some]
    unfold anextS_j0
    rw [bif_f (by rfl), bif_t (by decide)]
    unfold alockedS
    rw [show copyS [v] = some [v] from rfl, Option.bind_some, bif_f (by simp), enew_is _ _ _ _ _ (by simp), Option.bind_some, p1]; rfl
  cases p5 with
  | neg a1 => exfalso; have : (5 : Int) < 0 := a1; omega
  | full a1 a2 a3 => exfalso; have : c.ways ≤ (((setL c 5).length : Nat) : Int) := a3; omega
  | old e0 a1 a2 => exfalso; have : lkE c.l 5 = some e0 := a2; rw [hn] at this; cases this
  | new a1 a2 a3 a4 a5 a6 =>
    have hd : dropS c' 5 = some (⟨-1, -1, 5, c.clock + 1, false, [v]⟩, true, { c' with l := c.l }) := drop_end (e := ⟨-1, -1, 5, c.clock + 1, false, [v]⟩) p2 (by omega) a6 (fun x hx => lkE_none.1 hn x hx)
    have h5 : lkE c'.l 5 = some ⟨-1, -1, 5, c.clock + 1, false, [v]⟩ := by rw [a5, if_pos rfl]
    have hsame : sameCS { c' with l := c.l } q = some true := by
      have hc := h.good
      have hk := hc.hclock
      have h2 : CSim (N + 1) { c' with l := c.l } { q with clock := c.clock + 1 } := by
        have s1 : q.sets = c'.sets := by rw [p3]; exact h.sets
        have s2 : q.ways = c'.ways := by rw [p4]; exact h.ways
        have s3 : c.clock + 1 = c'.clock := by rw [a4]
        refine ⟨?_, h.perm, h.rise, s1, s2, s3⟩
        exact ⟨by show c.l.length ≤ N + 1; have := hc.few; omega, hc.once, hc.pos, hc.data, fun e he => by show 1 ≤ e.used ∧ e.used ≤ c'.clock; have := hc.used e he; omega, hc.uses, by show 1 ≤ c'.sets; rw [p3]; exact hc.hsets, by show 1 ≤ c'.ways; rw [p4]; exact hc.hways, by show 0 ≤ c'.clock ∧ c'.clock ≤ ((N + 1 : Nat) : Int); omega⟩
      have := h2.same (by omega)
      exact this
    unfold attachKeepsS_j0 letP
    rw [show dbeginS 1 5 0 = some ⟨1, 5, 0, 1, 0, -1, [], -1, -1⟩ from rfl, Option.bind_some]
    dsimp only
    rw [ha, Option.bind_some]
    dsimp only
    rw [p2.find (by omega) 5, h5, Option.bind_some]
    dsimp only
    rw [bif_f (by rfl), bif_f (by rfl), show ewordS ⟨-1, -1, 5, c.clock + 1, false, [v]⟩ 0 = some v from rfl, Option.bind_some, bif_f (by simp), show lonlyS ⟨-1, -1⟩ = some true from rfl, Option.bind_some, bif_f (by rfl), hd, Option.bind_some]
    dsimp only
    rw [hsame, Option.bind_some, bif_t rfl, wakes14_is]; rfl
theorem attachKeeps_pure (lines links data : List Int) (v : Int) : attachKeepsS lines links data v = some true := by
  obtain ⟨c, q, e1, h, hl, hs, hw⟩ := both_is lines links data
  have hn : lkE c.l 5 = none := lkE_none.2 fun x hx e => by
    have := hl.lt x.line (List.mem_map.2 ⟨x, hx, rfl⟩)
    omega
  unfold attachKeepsS
  rw [e1, Option.bind_some]
  dsimp only
  rw [h.good.full (by omega) 5, Option.bind_some, hn]
  by_cases hf : c.ways ≤ (((setL c 5).length : Nat) : Int)
  · rw [bif_t (by simp [hf])]
    rcases h.good.victim (by omega) 5 with ⟨v1, v2⟩ | ⟨m, v2, v3, v4⟩
    · exfalso; rw [v1] at hf; simp at hf; omega
    obtain ⟨e', b', c', q', d1, d2, d3, _⟩ := h.drop (by omega) m.line
    obtain ⟨c2, f1, f2, f3, f4, f5, f6, f7⟩ := h.good.drop (by omega) m.line
    rw [d1] at f1
    injection f1 with f1
    injection f1 with f0 f1
    injection f1 with f8 f1
    subst f1
    rw [v2, Option.bind_some]
    dsimp only
    rw [d1, Option.bind_some, d2, Option.bind_some]
    dsimp only
    refine keep_j0 d3 (by omega) (by rw [f6]; split; rfl; exact hn) ?_ v
    have hm := List.mem_filter.1 v3
    have hroom := hl.room 5 (by omega)
    rcases f7 with ⟨g1, _⟩ | ⟨a, b, e, g1, g2, g3, g4⟩
    · exact absurd rfl (lkE_none.1 g1 m hm.1)
    · have hin : inSet c.sets 5 e = true := by
        have := hm.2
        unfold inSet at this ⊢
        rw [g3]; exact this
      have : (setL c 5).length = (setL c' 5).length + 1 := by
        unfold setL
        rw [f3, g1, g2, List.filter_append, List.filter_append, List.filter_cons, if_pos hin, List.length_append, List.length_append, List.length_cons]; omega
      omega
  · rw [bif_f (by simp [hf])]
    exact keep_j0 h (by omega) hn (by omega) v
end Go.Proofs.Ytfndeehlbcbkpaa
