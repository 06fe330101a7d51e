/- The law RolloutNext answers true at every input: the plain side. -/
import Derived.Test.YtfndeehlbcbkpaaPureNextLem
import Derived.Test.YtfndeehlbcbkpaaLawRolloutNext
set_option linter.unusedSimpArgs false
set_option linter.unusedVariables false
namespace Go.Proofs.Ytfndeehlbcbkpaa
open Go
theorem wakes16_is : wakes16S = some true := by kernel_rfl
theorem lonly_is (f b : Int) : lonlyS ⟨f, b⟩ = some (decide (b = -1) && decide (f = -1)) := by
  unfold lonlyS lheadS ltailS
  rw [Option.bind_some]
  by_cases h : b = -1
  · rw [bif_t (decide_eq_true h), Option.bind_some]; simp [h]
  · rw [bif_f (decide_eq_false h)]; simp [h]
theorem out_alike {N : Nat} {c q : CacheS} (h : CSim N c q) (hN : N + 1 ≤ 60) (d : DealS) (head : Int) : ∃ d' c' q' y z, routS d c head = some (d', c') ∧ rdropS q d.line = some (y, z, q') ∧ runlockS d 1 head [] = some d' ∧ CSim (N + 1) c' q' ∧ d'.data.length ≤ 60 := by
  obtain ⟨e', b', c', q', d1, d2, d3, _⟩ := h.drop (by omega) d.line
  unfold routS
  rw [d1, unlock_is _ _ _ _ (by simp)]
  exact ⟨_, _, _, _, _, rfl, d2, rfl, d3.more (Nat.le_succ N), by simp⟩
theorem next_alike {N : Nat} {c q : CacheS} (h : CSim N c q) (hN : N + 1 ≤ 60) (d : DealS) (node : Int) (p : PktS) (hk : d.kind = 3) (hd : d.data.length ≤ 60) (hp : p.data.length ≤ 60) : Alike (N + 1) (rnextS d node c p) (rnext7S d node q p) := by
  have hm := h.more (Nat.le_succ N)
  rw [rnext_in d node q p hd (.inr hk)]
  unfold rnextS
  rw [bif_f (by simp [hk]), fit_d, Option.bind_some]
  unfold rnextS_j0 rnext7S_j0
  cases hf : fitB d p with
  | false => exact ⟨_, _, _, _, rfl, rfl, hm, by simp⟩
  | true =>
    rw [bif_f (c := !true) rfl, bif_f (c := !true) rfl]
    have hstep := fit_want hf
    by_cases h6 : d.step = 6
    · rw [bif_f (decide_eq_false (by omega)), bif_f (decide_eq_false (by omega)), bif_f (decide_eq_false (by omega)), bif_t (decide_eq_true h6), bif_t (decide_eq_true h6)]
      exact ⟨_, _, _, _, rfl, rfl, hm, hd⟩
    rw [bif_f (decide_eq_false h6 : decide (d.step = 6) = false), bif_f (decide_eq_false h6 : decide (d.step = 6) = false)]
    by_cases h1 : d.step = 1
    · rw [bif_t (decide_eq_true h1), bif_t (decide_eq_true h1), chk_true (by omega)]
      unfold letP rnext7S_j1
      dsimp only
      rw [bif_f (decide_eq_false (by omega)), bif_f (decide_eq_false (by omega))]
      unfold rroll7S rlockedS
      dsimp only
      rw [bif_t (decide_eq_true h1)]
      obtain ⟨e, b, f1, f2, f3, f4⟩ := h.find (by omega) d.line
      rw [f1, f2, Option.bind_some, Option.bind_some]
      dsimp only
      cases b with
      | false =>
        obtain ⟨_, g2⟩ := f3 rfl
        rw [bif_t (by rfl), bif_t (by rw [g2]; rfl), unlock_is _ _ _ _ (by simp)]
        exact ⟨_, _, _, _, rfl, rfl, hm, by simp⟩
      | true =>
        obtain ⟨g1, g2, g3, g4, g5⟩ := f4 rfl
        have hed := h.good.data e g1
        rw [bif_f (by rfl), bif_f (decide_eq_false (by omega)), chk_true ⟨g3, g4⟩, lonly_is, Option.bind_some]
        unfold letP rroll7S_j0
        dsimp only
        rw [g5]
        by_cases hb : e.back = -1
        · by_cases hw : e.fwd = -1
          · obtain ⟨e', b', c', q', d1, d2, d3, _⟩ := h.drop (by omega) d.line
            have d3 := d3.more (Nat.le_succ N)
            rw [bif_t (by simp [hb, hw]), d1, bif_t (decide_eq_true hb), bif_t (decide_eq_true hw), d2, Option.bind_some, Option.bind_some]
            dsimp only
            cases e.dirty with
            | true =>
              rw [bif_t rfl, bif_t rfl, unlock_is _ _ _ _ hed]
              exact ⟨_, _, _, _, rfl, rfl, d3, hed⟩
            | false =>
              rw [bif_f rfl, bif_f rfl, unlock_is _ _ _ _ (by simp)]
              exact ⟨_, _, _, _, rfl, rfl, d3, by simp⟩
          · rw [bif_f (by simp [hw]), bif_t (decide_eq_true hb), bif_f (decide_eq_false hw), bif_t (decide_eq_true hb)]
            unfold lheadS
            rw [Option.bind_some]
            dsimp only
            rw [bif_t (decide_eq_true hb)]
            exact ⟨_, _, _, _, rfl, rfl, hm, by simp⟩
        · rw [bif_f (by simp [hb]), bif_f (decide_eq_false hb), bif_f rfl, bif_f (decide_eq_false hb)]
          unfold lheadS
          rw [Option.bind_some]
          dsimp only
          rw [bif_f (decide_eq_false hb)]
          exact ⟨_, _, _, _, rfl, rfl, hm, by simp⟩
    rw [bif_f (decide_eq_false h1), bif_f (decide_eq_false h1)]
    unfold rnext7S_j1
    rw [bif_f (c := decide (d.kind = 1)) (decide_eq_false (by omega)), bif_f (c := decide (d.kind = 2)) (decide_eq_false (by omega))]
    unfold rroll7S
    dsimp only
    rw [bif_f (decide_eq_false h1)]
    by_cases h4 : d.step = 4
    · rw [bif_t (decide_eq_true h4), bif_t (decide_eq_true h4)]
      by_cases hn : d.next = -1
      · obtain ⟨d', c', q', y, z, o1, o2, o3, o4, o5⟩ := out_alike h hN d d.told
        rw [bif_t (decide_eq_true hn), o1, bif_f (by simp [hn]), o2, Option.bind_some, Option.bind_some, o3]
        exact ⟨_, _, _, _, rfl, rfl, o4, o5⟩
      · rw [bif_f (decide_eq_false hn), bif_t (by simp [hn])]
        exact ⟨_, _, _, _, rfl, rfl, hm, hd⟩
    rw [bif_f (decide_eq_false h4), bif_f (decide_eq_false h4)]
    by_cases h5 : d.step = 5
    · rw [bif_t (decide_eq_true h5), bif_t (decide_eq_true h5)]
      by_cases hn : d.head = -1
      · obtain ⟨d', c', q', y, z, o1, o2, o3, o4, o5⟩ := out_alike h hN d d.next
        rw [bif_t (decide_eq_true hn), o1, o2, Option.bind_some, Option.bind_some, bif_t (decide_eq_true hn), o3]
        exact ⟨_, _, _, _, rfl, rfl, o4, o5⟩
      · obtain ⟨d', c', q', y, z, o1, o2, o3, o4, o5⟩ := out_alike h hN d d.told
        rw [bif_f (decide_eq_false hn), o1, o2, Option.bind_some, Option.bind_some, bif_f (decide_eq_false hn), o3]
        exact ⟨_, _, _, _, rfl, rfl, o4, o5⟩
    rw [bif_f (decide_eq_false h5), bif_f (decide_eq_false h5)]
    exact ⟨_, _, _, _, rfl, rfl, hm, by simp⟩
theorem no_roll (d : DealS) (node : Int) (c : CacheS) (p : PktS) (h : d.kind ≠ 3) : rnextS d node c p = some (⟨0, 0, 0, 0, 0, 0, [], 0, 0⟩, false, c) := by
  unfold rnextS
  rw [bif_t (by simp [h])]; rfl
theorem j3_is {N : Nat} {c q : CacheS} (h : CSim N c q) (hN : N ≤ 60) (d y1 : DealS) (ok : Bool) (hd : d.data.length ≤ 60) (h1 : y1.data.length ≤ 60) :
    rolloutNextS_j3 (d, ok, c) y1 y1.data ok d.kind d.line d.id d.step d.state d.head d.data d.next d.told q = some true := by
  unfold rolloutNextS_j3
  dsimp only
  rw [bif_t (by simp), same13_is d hd, Option.bind_some, bif_t rfl, h.same hN, Option.bind_some, bif_t rfl, ksame_is _ h1, Option.bind_some, bif_t rfl, wakes16_is]; rfl
theorem j1_is {N : Nat} {c q : CacheS} (h : CSim N c q) (hN : N + 1 ≤ 60) (p : PktS) (how : Int) (fit : Bool) (y1 : DealS) (kind node : Int) (h1 : y1.data.length ≤ 60) (hs : 0 ≤ y1.step ∧ y1.step < 8) : rolloutNextS_j1 p how fit y1 kind node c q = some true := by
  have j2 : ∀ (x : PktS) (k i l : Int), x.data.length ≤ 60 → rolloutNextS_j2 y1 kind node c x q k i l = some true := by
    intro x k i l hx
    unfold rolloutNextS_j2
    rw [copy_is _ h1, Option.bind_some]
    by_cases hk : kind = 3
    · obtain ⟨d, ok, c', q', e1, e2, e3, e4⟩ := (next_alike h hN ⟨kind, y1.line, y1.id, y1.step, y1.state, y1.head, y1.data, y1.next, y1.told⟩ node ⟨k, x.src, x.dst, i, l, x.ptr, x.state, x.flag, x.data⟩ hk h1 hx).out
      rw [e1, Option.bind_some, bif_t (decide_eq_true hk), e2, Option.bind_some]
      exact j3_is e3 (by omega) d y1 ok e4 h1
    · rw [no_roll _ _ _ _ hk, Option.bind_some, bif_f (decide_eq_false hk)]
      exact j3_is h (by omega) ⟨0, 0, 0, 0, 0, 0, [], 0, 0⟩ y1 false (by simp) h1
  obtain ⟨x, e1, e2⟩ := plpacket_few p how
  unfold rolloutNextS_j1 letP
  dsimp only
  rw [e1, Option.bind_some]
  cases fit with
  | false => rw [bif_f rfl]; exact j2 x _ _ _ e2
  | true =>
    rw [bif_t rfl, chk_true ⟨hs.1, by show y1.step < 8; exact hs.2⟩]
    cases !(decide (nth [0, 7, 9, 9, 8, 8, 8, 0] y1.step = 0)) with
    | true => rw [bif_t rfl]; exact j2 x _ _ _ e2
    | false => rw [bif_f rfl]; exact j2 x _ _ _ e2
theorem rolloutNext_pure (x : RawS) (lines links data : List Int) (p : PktS) (how node : Int) (fit : Bool) : rolloutNextS x lines links data p how node fit = some true := by
  obtain ⟨d, e1, hd, hs⟩ := deal13_is x
  have j0 : ∀ kind : Int, rolloutNextS_j0 node lines links data d p how fit kind = some true := by
    intro kind
    obtain ⟨n, e2, _⟩ := within_is (v := node) (n := 4) (by omega) (by omega)
    obtain ⟨c, q, e3, h, _⟩ := both_is lines links data
    unfold rolloutNextS_j0
    rw [e2, Option.bind_some, e3, Option.bind_some]
    dsimp only
    rw [h.good.find (by omega), Option.bind_some]
    have j4 : ∀ b : Bool, rolloutNextS_j4 (c, q) d p how fit kind n b = some true := by
      intro b
      unfold rolloutNextS_j4
      dsimp only
      cases b with
      | false => rw [bif_f rfl]; exact j1_is h (by omega) p how fit d kind n hd hs
      | true =>
        rw [bif_t rfl]
        obtain ⟨v, hv⟩ : ∃ v, victimS c d.line = some v := by
          rcases h.good.victim (by omega) d.line with ⟨_, e⟩ | ⟨m, e, _⟩
          · exact ⟨_, e⟩
          · exact ⟨_, e⟩
        obtain ⟨e', b', c', q', d1, d2, d3, _⟩ := h.drop (by omega) v.1
        rw [hv, Option.bind_some, d1, Option.bind_some, d2, Option.bind_some]
        exact j1_is d3 (by omega) p how fit d kind n hd hs
    rw [h.good.full (by omega)]
    cases hq : lkE c.l d.line with
    | none =>
      dsimp only
      rw [bif_t (by rfl), Option.bind_some]; exact j4 _
    | some e =>
      dsimp only
      rw [bif_f (by rfl)]; exact j4 _
  unfold rolloutNextS
  rw [e1, Option.bind_some]
  cases !(decide (how.tmod 5 = 4)) with
  | true => rw [bif_t rfl]; exact j0 _
  | false => rw [bif_f rfl]; exact j0 _
end Go.Proofs.Ytfndeehlbcbkpaa
