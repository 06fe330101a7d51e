/- A packet that is served: both writings stay in step and answer alike. -/
import Derived.Test.YtfpiolnbnfngkaaPureCacheLem3
import Derived.Test.YtfpiolnbnfngkaaSvA
import Derived.Test.YtfpiolnbnfngkaaSvB
import Derived.Test.YtfpiolnbnfngkaaBoA
set_option linter.unusedSimpArgs false
set_option linter.unusedVariables false
namespace Go.Proofs.Ytfpiolnbnfngkaa
open Go
theorem bif_and {P Q : Prop} [Decidable P] [Decidable Q] : (bif decide P then some (decide Q) else some false) = some (decide (P ∧ Q)) := by
  by_cases h : P
  · rw [bif_t (decide_eq_true h)]; simp [h]
  · rw [bif_f (decide_eq_false h)]; simp [h]
theorem pbelow_is (n l b : Int) : pbelowS n l b = some (decide (l ≤ n ∧ n < b)) := by unfold pbelowS; exact bif_and
/-- A packet's bounds. -/
def okP (p : PktS) : Bool := decide (0 ≤ p.src ∧ p.src < 6) && (decide (0 ≤ p.dst ∧ p.dst < 6) && (decide (0 ≤ p.id ∧ p.id < 4096) && (decide (1 ≤ p.kind ∧ p.kind < 10) && (decide (0 ≤ p.line ∧ p.line < 8) && (decide (-1 ≤ p.ptr ∧ p.ptr < 6) && (decide (0 ≤ p.state ∧ p.state < 3) && !decide (4 < ((p.data.length : Nat) : Int))))))))
theorem pcheck_is (p : PktS) : pcheckS p = some (bif okP p then 0 else 1) := by
  unfold pcheckS pcheckS_j0 pcheckS_j1 okP
  simp only [pbelow_is, Option.bind_some]
  generalize decide (0 ≤ p.src ∧ p.src < 6) = b1
  generalize decide (0 ≤ p.dst ∧ p.dst < 6) = b2
  generalize decide (0 ≤ p.id ∧ p.id < 4096) = b3
  generalize decide (1 ≤ p.kind ∧ p.kind < 10) = b4
  generalize decide (0 ≤ p.line ∧ p.line < 8) = b5
  generalize decide (-1 ≤ p.ptr ∧ p.ptr < 6) = b6
  generalize decide (0 ≤ p.state ∧ p.state < 3) = b7
  generalize decide (4 < ((p.data.length : Nat) : Int)) = b8
  cases b1 <;> cases b2 <;> cases b3 <;> cases b4 <;> cases b5 <;> cases b6 <;> cases b7 <;> cases b8 <;> rfl
theorem rright_is (p : PktS) : rrightS p = some (okP p) := by
  unfold rrightS okP
  simp only [bif_and]
  congr 1
  rw [Bool.eq_iff_iff]
  simp
  omega
theorem rsamep_loop (a b : PktS) (hab : a.data = b.data) (hn : a.data.length ≤ 60) : ∀ (d i fuel : Nat), i + d = a.data.length → d < fuel → rsamepS_l1 a b rsamepS_k1 fuel (i : Int) = some true := by
  intro d
  induction d with
  | zero =>
    intro i fuel hi hf
    obtain ⟨f, rfl⟩ : ∃ f, fuel = f + 1 := ⟨fuel - 1, by omega⟩
    rw [rsamepS_l1]
    dsimp only
    rw [bif_f (decide_eq_false (by omega))]; rfl
  | succ d ih =>
    intro i fuel hi hf
    obtain ⟨f, rfl⟩ : ∃ f, fuel = f + 1 := ⟨fuel - 1, by omega⟩
    have q5 : inR ((i : Int) + 1) := by unfold inR; omega
    rw [rsamepS_l1]
    dsimp only
    rw [bif_t (decide_eq_true (by omega)), chk_true ⟨by omega, by omega⟩, chk_true (by rw [← hab]; exact ⟨by omega, by omega⟩), ← hab, bif_f (by simp), chk_true q5]
    have := ih (i + 1) f (by omega) (by omega)
    rw [show ((i + 1 : Nat) : Int) = (i : Int) + 1 by omega] at this
    exact this
theorem rsamep_is (p : PktS) (hn : p.data.length ≤ 60) : rsamepS p p = some true := by
  unfold rsamepS
  rw [bif_f (by simp), bif_f (by simp), bif_f (by simp), bif_f (by simp), bif_f (by simp), bif_f (by simp), bif_f (by simp), bif_f (by simp), show (!decide (((p.data.length : Nat) : Int) = ((p.data.length : Nat) : Int))) = false by simp]
  unfold rsamepS_j0
  rw [bif_f rfl]
  exact rsamep_loop p p rfl hn p.data.length 0 64 (by omega) (by omega)
theorem ecopy_is (e : Ent) (h : e.data.length ≤ 1000) : ecopyS e = some e := by
  unfold ecopyS
  rw [chk_true (by omega)]; rfl
theorem put_old {N : Nat} {c : CacheS} (h : CGood N c) (hN : N ≤ 60) {a b : List Ent} {e x : Ent} (hl : c.l = a ++ e :: b) (hi : idx c.l e.line = some a.length) (hx : x.line = e.line) (hu : x.used = e.used) (hd : x.data.length ≤ 60) : putS c x = some (0, { c with l := a ++ x :: b }) := by
  have := h.pos e (by rw [hl]; simp)
  unfold putS
  rw [chk_true ⟨h.ok (by omega), by unfold okL; omega⟩]
  have h0 : ¬ x.line < 0 := by omega
  have hi' : idx c.l x.line = some a.length := by rw [hx]; exact hi
  simp only [putC, h0, if_false, hi']
  rw [hl, getD_mid, set_mid, ← hu]
theorem exI_bif {α : Type} {c : Bool} {a b : Option α} (h1 : ∃ y, a = some y) (h2 : ∃ y, b = some y) : ∃ y, (bif c then a else b) = some y := by cases c <;> assumption
theorem exI_bind {α β : Type} {a : Option α} {f : α → Option β} (h1 : ∃ y, a = some y) (h2 : ∀ x, ∃ y, f x = some y) : ∃ y, a.bind f = some y := by
  obtain ⟨x, rfl⟩ := h1
  exact h2 x
theorem exI_within (v n : Int) (h1 : 1 ≤ n) (h2 : n ≤ 5000) : ∃ y, withinS v n = some y := let ⟨k, e, _⟩ := within_is h1 h2; ⟨k, e⟩
theorem exI_cut (xs : List Int) (n : Int) (h1 : 0 ≤ n) (h2 : n ≤ 1000) : ∃ y, cutS xs n = some y := let ⟨k, e, _⟩ := cut_is xs h1 h2; ⟨k, e⟩
theorem plpacket_some (p : PktS) (how : Int) : ∃ y, plpacketS p how = some y := by
  unfold plpacketS plpacketS_j0
  repeat' first
    | exact ⟨_, rfl⟩
    | exact exI_within _ _ (by omega) (by omega)
    | exact exI_cut _ _ (by omega) (by omega)
    | refine exI_bif ?_ ?_
    | refine exI_bind ?_ fun _ => ?_
theorem err_d (c : CacheS) (p : PktS) : shandleS_j0 c p true = some (⟨0, 0, 0, 0, 0, 0, 0, false, []⟩, 1, c) := by unfold shandleS_j0; rfl
theorem err_r (c : CacheS) (p : PktS) : rserveS_j0 c p true = some (⟨0, 0, 0, 0, 0, 0, 0, false, []⟩, 1, c) := by unfold rserveS_j0; rfl
section
variable {N : Nat} {c q : CacheS} (h : CSim N c q) (hN : N + 1 ≤ 60)
include h hN
theorem CSim.serve (p : PktS) : ∃ p' r c' q', shandleS c p = some (p', r, c') ∧ rserveS q p = some (p', r, q') ∧ CSim (N + 1) c' q' ∧ p'.data.length ≤ 60 := by
  have hm := h.more (Nat.le_succ N)
  unfold shandleS rserveS
  rw [pcheck_is, rright_is, Option.bind_some, Option.bind_some]
  have err : ∃ p' r c' q', shandleS_j0 c p true = some (p', r, c') ∧ rserveS_j0 q p true = some (p', r, q') ∧ CSim (N + 1) c' q' ∧ p'.data.length ≤ 60 := ⟨_, _, _, _, err_d c p, err_r q p, hm, by simp⟩
  cases hp : okP p with
  | false =>
    rw [bif_t (by rfl), bif_t (by rfl)]; exact err
  | true =>
    rw [bif_f (by rfl), bif_f (c := !true) rfl]
    by_cases h1 : p.kind < 3
    · rw [bif_t (decide_eq_true h1), bif_t (decide_eq_true h1)]; exact err
    rw [bif_f (decide_eq_false h1), bif_f (decide_eq_false h1)]
    by_cases h2 : 6 < p.kind
    · rw [decide_eq_true h2]; exact err
    rw [decide_eq_false h2]
    unfold shandleS_j0 rserveS_j0
    rw [bif_f rfl, bif_f rfl]
    obtain ⟨e, b, f1, f2, f3, f4⟩ := h.find (by omega) p.line
    rw [f1, f2, Option.bind_some, Option.bind_some]
    dsimp only
    cases b with
    | false =>
      obtain ⟨_, g2⟩ := f3 rfl
      rw [bif_t (by rfl), bif_t (by rw [g2]; rfl)]
      exact ⟨_, _, _, _, rfl, rfl, hm, by simp⟩
    | true =>
      obtain ⟨g1, g2, g3, g4, g5⟩ := f4 rfl
      have hd := h.good.data e g1
      obtain ⟨s, t, s', t', e1, k1, k2, k3, k4, k5⟩ : ∃ s t s' t' e1, c.l = s ++ e1 :: t ∧ q.l = s' ++ e1 :: t' ∧ e1.line = p.line ∧ idx c.l p.line = some s.length ∧ idx q.l p.line = some s'.length := by
        rcases h.where p.line with ⟨w1, _⟩ | w
        · exact absurd g2 (idx_none_iff.1 w1 e g1)
        · exact w
      obtain rfl : e = e1 := h.one g1 (by rw [k1]; simp) (by rw [g2, k3])
      have g6 : idxI q.l p.line = ((s'.length : Nat) : Int) := idxI_some k5
      have hk4 : idx c.l e.line = some s.length := by rw [g2]; exact k4
      have hset : ∀ x : Ent, List.set q.l (idxI q.l p.line).toNat x = s' ++ x :: t' := fun x => by rw [g6, Int.toNat_natCast, k2, set_mid]
      have sim : ∀ x : Ent, x.line = e.line → x.used = e.used → x.data.length ≤ 60 → CSim (N + 1) { c with l := s ++ x :: t } { q with l := s' ++ x :: t' } := fun x a1 a2 a3 => by
        have := (h.set k1 k2 a1 a3 c.clock ⟨Int.le_refl _, h.good.hclock.2⟩ (.inl a2)).more (Nat.le_succ N)
        have e2 := h.clock
        rw [show ({ q with l := s' ++ x :: t', clock := c.clock } : CacheS) = { q with l := s' ++ x :: t' } by rw [← e2]] at this
        exact this
      rw [bif_f (by rfl), bif_f (decide_eq_false (by omega))]
      unfold letP
      have gb : 0 ≤ idxI q.l p.line ∧ idxI q.l p.line < ((List.length q.l : Nat) : Int) := ⟨g3, g4⟩
      rcases (by omega : p.kind = 3 ∨ p.kind = 4 ∨ p.kind = 5 ∨ p.kind = 6) with hk | hk | hk | hk <;> rw [hk]
      · rw [show pansS 3 = some 9 from rfl, show ransS 3 = some 9 from rfl]
        dsimp only [Option.bind_some]
        rw [bif_t (by decide), put_old h.good (by omega) k1 hk4 (x := ⟨e.fwd, p.ptr, e.line, e.used, false, e.data⟩) rfl rfl hd, chk_true gb, g5, ecopy_is e (by omega)]
        dsimp only [Option.bind_some]
        rw [bif_t (by decide), chk_true (by omega), chk_true gb, hset]
        exact ⟨_, _, _, _, rfl, rfl, sim _ rfl rfl hd, hd⟩
      · rw [show pansS 4 = some 8 from rfl, show ransS 4 = some 8 from rfl]
        dsimp only [Option.bind_some]
        rw [bif_f (by decide), bif_t (by decide), put_old h.good (by omega) k1 hk4 (x := ⟨p.ptr, e.back, e.line, e.used, e.dirty, e.data⟩) rfl rfl hd, chk_true gb, g5, ecopy_is e (by omega)]
        dsimp only [Option.bind_some]
        rw [bif_f (by decide), bif_t (by decide), chk_true gb, hset]
        exact ⟨_, _, _, _, rfl, rfl, sim _ rfl rfl hd, by simp⟩
      · rw [show pansS 5 = some 8 from rfl, show ransS 5 = some 8 from rfl]
        dsimp only [Option.bind_some]
        rw [bif_f (by decide), bif_f (by decide), bif_t (by decide), put_old h.good (by omega) k1 hk4 (x := ⟨e.fwd, p.ptr, e.line, e.used, e.dirty, e.data⟩) rfl rfl hd, chk_true gb, g5, ecopy_is e (by omega)]
        dsimp only [Option.bind_some]
        rw [bif_f (by decide), bif_f (by decide), bif_t (by decide), chk_true gb, hset]
        exact ⟨_, _, _, _, rfl, rfl, sim _ rfl rfl hd, by simp⟩
      · rw [show pansS 6 = some 9 from rfl, show ransS 6 = some 9 from rfl]
        obtain ⟨e', b', c', q', d1, d2, d3, _⟩ := h.drop (by omega) p.line
        dsimp only [Option.bind_some]
        rw [bif_f (by decide), bif_f (by decide), bif_f (by decide), bif_t (by decide), d1, chk_true gb, g5, ecopy_is e (by omega)]
        dsimp only [Option.bind_some]
        rw [bif_f (by decide), bif_f (by decide), bif_f (by decide), chk_true (by omega), d2]
        exact ⟨_, _, _, _, rfl, rfl, d3.more (Nat.le_succ N), hd⟩
end
/-! Both caches, filled alike. -/
def low (c : CacheS) : Prop := ∀ x ∈ c.l.map Ent.line, x < 4
theorem put_low {N : Nat} {c c' : CacheS} {e : Ent} {r : Int} (h : CGood N c) (hN : N ≤ 59) (hl : low c) (he : e.line < 4) (hd : e.data.length ≤ 60) (hp : putS c e = some (r, c')) : low c' := by
  obtain ⟨r1, c1, p1, p2, p3, p4, p5⟩ := h.put (by omega) e hd
  rw [hp] at p1
  injection p1 with p1
  injection p1 with p1 p6
  subst p6
  cases p5 with
  | neg => exact hl
  | full => exact hl
  | old e0 a1 a2 a3 a4 a5 => unfold low; rw [a5]; exact hl
  | new a1 a2 a3 a4 a5 a6 =>
    unfold low
    rw [a6]
    intro x hx
    rw [List.map_append, List.mem_append] at hx
    rcases hx with hx | hx
    · exact hl x hx
    · simp at hx; omega
theorem both_loop (lines links data : List Int) : ∀ (d i fuel : Nat) (c q : CacheS), i + d = min lines.length 5 → d < fuel → CSim i c q → low c → ∃ c' q', bothS_l0 lines links data bothS_k0 fuel (i : Int) q c = some (c', q') ∧ CSim 5 c' q' ∧ low c' := by
  intro d
  induction d with
  | zero =>
    intro i fuel c q hi hf h hl
    obtain ⟨f, rfl⟩ : ∃ f, fuel = f + 1 := ⟨fuel - 1, by omega⟩
    have fin : bothS_l0 lines links data bothS_k0 (f + 1) (i : Int) q c = some (c, q) := by
      rw [bothS_l0]
      dsimp only
      unfold bothS_j1
      by_cases hq : (i : Int) < ((lines.length : Nat) : Int)
      · rw [bif_t (decide_eq_true hq), bif_f (decide_eq_false (by omega))]; rfl
      · rw [bif_f (decide_eq_false hq), bif_f rfl]; rfl
    exact ⟨c, q, fin, h.more (by omega), hl⟩
  | succ d ih =>
    intro i fuel c q hi hf h hl
    obtain ⟨f, rfl⟩ : ∃ f, fuel = f + 1 := ⟨fuel - 1, by omega⟩
    have hq : (i : Int) < ((lines.length : Nat) : Int) := by omega
    have q5 : inR ((i : Int) + 1) := by unfold inR; omega
    have ht : 0 ≤ (i : Int).tmod 3 ∧ (i : Int).tmod 3 < 3 := ⟨Int.tmod_nonneg _ (by omega), Int.tmod_lt_of_pos _ (by omega)⟩
    have step : ∀ u v : Int, ∃ c' q', bothS_j2 (i : Int) lines data c q (bothS_l0 lines links data bothS_k0 f) u v = some (c', q') ∧ CSim 5 c' q' ∧ low c' := by
      intro u v
      obtain ⟨l, e1, l1, l2⟩ := within_is (v := nth lines (i : Int)) (n := 4) (by omega) (by omega)
      obtain ⟨ys, e2, e3⟩ := cut_is data (n := 1 + (i : Int).tmod 3) (by omega) (by omega)
      unfold bothS_j2
      rw [chk_true ⟨by omega, hq⟩, e1, Option.bind_some, chk_true ⟨by omega, hq⟩, chk_true (by unfold inR; omega), e2, Option.bind_some, enew_is _ _ _ _ _ (by omega), Option.bind_some]
      obtain ⟨r, c', q', p1, p2, p3⟩ := h.put (by omega) ⟨u, v, l, 0, decide ((nth lines (i : Int)).tmod 5 = 0), ys⟩ (by show ys.length ≤ 60; omega)
      unfold bothS_j3
      rw [p1, Option.bind_some, p2, Option.bind_some, chk_true q5, show (i : Int) + 1 = ((i + 1 : Nat) : Int) by omega]
      exact ih (i + 1) f c' q' (by omega) (by omega) p3 (put_low h.good (by omega) hl l2 (by show ys.length ≤ 60; omega) p1)
    rw [bothS_l0]
    dsimp only
    rw [bif_t (decide_eq_true hq)]
    unfold bothS_j1
    rw [bif_t (decide_eq_true (by omega))]
    by_cases hk : (i : Int) < ((links.length : Nat) : Int)
    · obtain ⟨u, e1, _⟩ := within_is (v := nth links (i : Int)) (n := 5) (by omega) (by omega)
      obtain ⟨v, e2, _⟩ := within_is (v := wr ((nth links (i : Int)).tdiv 5)) (n := 5) (by omega) (by omega)
      rw [bif_t (decide_eq_true hk), chk_true ⟨by omega, hk⟩, e1, Option.bind_some, chk_true ⟨by omega, hk⟩, e2, Option.bind_some]
      exact step _ _
    · rw [bif_f (decide_eq_false hk)]
      exact step _ _
theorem both_is (lines links data : List Int) : ∃ c q, bothS lines links data = some (c, q) ∧ CSim 5 c q ∧ low c := by
  obtain ⟨q, e1, e2⟩ := CSim.new (sets := 2) (ways := 2) (by omega) (by omega)
  unfold bothS letP
  dsimp only
  rw [e1, Option.bind_some]
  exact both_loop lines links data (min lines.length 5) 0 64 _ _ (by omega) (by omega) e2 (by simp [low, newC])
end Go.Proofs.Ytfpiolnbnfngkaa
