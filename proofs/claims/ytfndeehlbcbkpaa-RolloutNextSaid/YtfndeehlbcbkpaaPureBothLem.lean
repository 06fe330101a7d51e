/- Both caches, filled alike; packets by small numbers: plain lemmas (no request is served). -/
import Derived.Test.YtfndeehlbcbkpaaPureCacheLem3
import Derived.Test.YtfndeehlbcbkpaaBoA
set_option linter.unusedSectionVars false
set_option linter.unusedSimpArgs false
set_option linter.unusedVariables false
namespace Go.Proofs.Ytfndeehlbcbkpaa
open Go
theorem exI_bif {α : Type} {c : Bool} {a b : Option α} (h1 : ∃ y, a = some y) (h2 : ∃ y, b = some y) : ∃ y, (bif c then a else b) = some y := by cases c <;> assumption
theorem exI_bind {α β : Type} {a : Option α} {f : α → Option β} (h1 : ∃ y, a = some y) (h2 : ∀ x, ∃ y, f x = some y) : ∃ y, a.bind f = some y := by
  obtain ⟨x, rfl⟩ := h1
  exact h2 x
theorem exI_within (v n : Int) (h1 : 1 ≤ n) (h2 : n ≤ 5000) : ∃ y, withinS v n = some y := let ⟨k, e, _⟩ := within_is h1 h2; ⟨k, e⟩
theorem exI_cut (xs : List Int) (n : Int) (h1 : 0 ≤ n) (h2 : n ≤ 1000) : ∃ y, cutS xs n = some y := let ⟨k, e, _⟩ := cut_is xs h1 h2; ⟨k, e⟩
theorem plpacket_some (p : PktS) (how : Int) : ∃ y, plpacketS p how = some y := by
  unfold plpacketS plpacketS_j0
  repeat' first
    | exact ⟨_, rfl⟩
    | exact exI_within _ _ (by omega) (by omega)
    | exact exI_cut _ _ (by omega) (by omega)
    | refine exI_bif ?_ ?_
    | refine exI_bind ?_ fun _ => ?_
/-! Both caches, filled alike. -/
structure low (c : CacheS) : Prop where
  lt : ∀ x ∈ c.l.map Ent.line, x < 4
  room : ∀ l, 0 ≤ l → (((setL c l).length : Nat) : Int) ≤ c.ways
theorem inLine_same {s l e : Int} (h0 : 0 ≤ l) (h1 : 0 ≤ e) (h : inLine s l e = true) : inLine s l = inLine s e := by
  have h2 : e.tmod s = l.tmod s := by
    unfold inLine at h
    simp [h0] at h
    exact h
  funext x
  unfold inLine
  rw [h2]
  simp [h0, h1]
theorem put_low {N : Nat} {c c' : CacheS} {e : Ent} {r : Int} (h : CGood N c) (hN : N ≤ 59) (hl : low c) (he : e.line < 4) (hd : e.data.length ≤ 60) (hp : putS c e = some (r, c')) : low c' := by
  obtain ⟨r1, c1, p1, p2, p3, p4, p5⟩ := h.put (by omega) e hd
  rw [hp] at p1
  injection p1 with p1
  injection p1 with p1 p6
  subst p6
  cases p5 with
  | neg => exact hl
  | full => exact hl
  | old e0 a1 a2 a3 a4 a5 =>
    refine ⟨by rw [a5]; exact hl.lt, fun l h0 => ?_⟩
    have := hl.room l h0
    rw [setL_len] at this
    rw [setL_len, a5, p3, p4]; exact this
  | new a1 a2 a3 a4 a5 a6 =>
    refine ⟨?_, fun l h0 => ?_⟩
    · rw [a6]
      intro x hx
      rw [List.map_append, List.mem_append] at hx
      rcases hx with hx | hx
      · exact hl.lt x hx
      · simp at hx; omega
    · have h1 := hl.room l h0
      rw [setL_len] at h1
      rw [setL_len, a6, p3, p4, List.map_append, List.filter_append, List.length_append]
      have h2 : (((setL c e.line).length : Nat) : Int) < c.ways := a3
      rw [setL_len] at h2
      by_cases hq : inLine c.sets l e.line = true
      · rw [inLine_same h0 a1 hq] at h1 ⊢
        have : (List.filter (inLine c.sets e.line) (List.map Ent.line [{ e with used := c.clock + 1 }])).length ≤ 1 := List.length_filter_le _ _
        omega
      · have : List.filter (inLine c.sets l) (List.map Ent.line [{ e with used := c.clock + 1 }]) = [] := by
          simp [hq]
        rw [this, List.length_nil]; omega
theorem put_sets {N : Nat} {c c' : CacheS} {e : Ent} {r : Int} {s w : Int} (h : CGood N c) (hN : N ≤ 59) (hs : c.sets = s ∧ c.ways = w) (hd : e.data.length ≤ 60) (hp : putS c e = some (r, c')) : c'.sets = s ∧ c'.ways = w := by
  obtain ⟨r1, c1, p1, p2, p3, p4, p5⟩ := h.put (by omega) e hd
  rw [hp] at p1
  injection p1 with p1
  injection p1 with p1 p6
  subst p6
  exact ⟨by rw [p3]; exact hs.1, by rw [p4]; exact hs.2⟩
theorem both_loop (lines links data : List Int) : ∀ (d i fuel : Nat) (c q : CacheS), i + d = min lines.length 5 → d < fuel → CSim i c q → low c ∧ c.sets = 2 ∧ c.ways = 2 → ∃ c' q', bothS_l0 lines links data bothS_k0 fuel (i : Int) q c = some (c', q') ∧ CSim 5 c' q' ∧ low c' ∧ c'.sets = 2 ∧ c'.ways = 2 := by
  intro d
  induction d with
  | zero =>
    intro i fuel c q hi hf h hl
    obtain ⟨f, rfl⟩ : ∃ f, fuel = f + 1 := ⟨fuel - 1, by omega⟩
    have fin : bothS_l0 lines links data bothS_k0 (f + 1) (i : Int) q c = some (c, q) := by
      rw [bothS_l0]
      dsimp only
      unfold bothS_j1
      by_cases hq : (i : Int) < ((lines.length : Nat) : Int)
      · rw [bif_t (decide_eq_true hq), bif_f (decide_eq_false (by omega))]; rfl
      · rw [bif_f (decide_eq_false hq), bif_f rfl]; rfl
    exact ⟨c, q, fin, h.more (by omega), hl⟩
  | succ d ih =>
    intro i fuel c q hi hf h hl
    obtain ⟨f, rfl⟩ : ∃ f, fuel = f + 1 := ⟨fuel - 1, by omega⟩
    have hq : (i : Int) < ((lines.length : Nat) : Int) := by omega
    have q5 : inR ((i : Int) + 1) := by unfold inR; omega
    have ht : 0 ≤ (i : Int).tmod 3 ∧ (i : Int).tmod 3 < 3 := ⟨Int.tmod_nonneg _ (by omega), Int.tmod_lt_of_pos _ (by omega)⟩
    have step : ∀ u v : Int, ∃ c' q', bothS_j2 (i : Int) lines data c q (bothS_l0 lines links data bothS_k0 f) u v = some (c', q') ∧ CSim 5 c' q' ∧ low c' ∧ c'.sets = 2 ∧ c'.ways = 2 := by
      intro u v
      obtain ⟨l, e1, l1, l2⟩ := within_is (v := nth lines (i : Int)) (n := 4) (by omega) (by omega)
      obtain ⟨ys, e2, e3⟩ := cut_is data (n := 1 + (i : Int).tmod 3) (by omega) (by omega)
      unfold bothS_j2
      rw [chk_true ⟨by omega, hq⟩, e1, Option.bind_some, chk_true ⟨by omega, hq⟩, chk_true (by unfold inR; omega), e2, Option.bind_some, enew_is _ _ _ _ _ (by omega), Option.bind_some]
      obtain ⟨r, c', q', p1, p2, p3⟩ := h.put (by omega) ⟨u, v, l, 0, decide ((nth lines (i : Int)).tmod 5 = 0), ys⟩ (by show ys.length ≤ 60; omega)
      unfold bothS_j3
      rw [p1, Option.bind_some, p2, Option.bind_some, chk_true q5, show (i : Int) + 1 = ((i + 1 : Nat) : Int) by omega]
      exact ih (i + 1) f c' q' (by omega) (by omega) p3 ⟨put_low h.good (by omega) hl.1 l2 (by show ys.length ≤ 60; omega) p1, put_sets h.good (by omega) hl.2 (by show ys.length ≤ 60; omega) p1⟩
    rw [bothS_l0]
    dsimp only
    rw [bif_t (decide_eq_true hq)]
    unfold bothS_j1
    rw [bif_t (decide_eq_true (by omega))]
    by_cases hk : (i : Int) < ((links.length : Nat) : Int)
    · obtain ⟨u, e1, _⟩ := within_is (v := nth links (i : Int)) (n := 5) (by omega) (by omega)
      obtain ⟨v, e2, _⟩ := within_is (v := wr ((nth links (i : Int)).tdiv 5)) (n := 5) (by omega) (by omega)
      rw [bif_t (decide_eq_true hk), chk_true ⟨by omega, hk⟩, e1, Option.bind_some, chk_true ⟨by omega, hk⟩, e2, Option.bind_some]
      exact step _ _
    · rw [bif_f (decide_eq_false hk)]
      exact step _ _
theorem both_is (lines links data : List Int) : ∃ c q, bothS lines links data = some (c, q) ∧ CSim 5 c q ∧ low c ∧ c.sets = 2 ∧ c.ways = 2 := by
  obtain ⟨q, e1, e2⟩ := CSim.new (sets := 2) (ways := 2) (by omega) (by omega)
  unfold bothS letP
  dsimp only
  rw [e1, Option.bind_some]
  exact both_loop lines links data (min lines.length 5) 0 64 _ _ (by omega) (by omega) e2 ⟨⟨by simp [newC], fun l _ => by simp [newC, setL]⟩, rfl, rfl⟩
end Go.Proofs.Ytfndeehlbcbkpaa
