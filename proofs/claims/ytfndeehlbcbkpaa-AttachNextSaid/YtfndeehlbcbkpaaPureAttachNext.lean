/- The law AttachNext answers true at every input: the plain side. -/
import Derived.Test.YtfndeehlbcbkpaaPureNextLem
import Derived.Test.YtfndeehlbcbkpaaLawAttachNext
set_option linter.unusedSimpArgs false
set_option linter.unusedVariables false
namespace Go.Proofs.Ytfndeehlbcbkpaa
open Go
theorem wakes14_is : wakes14S = some true := by kernel_rfl
theorem next_alike {N : Nat} {c q : CacheS} (h : CSim N c q) (hN : N + 1 ≤ 60) (d : DealS) (node : Int) (p : PktS) (hk : d.kind = 1) (hd : d.data.length ≤ 60) (hp : p.data.length ≤ 60) : Alike (N + 1) (anextS d node c p) (rnext7S d node q p) := by
  have hm := h.more (Nat.le_succ N)
  rw [rnext_in d node q p hd (.inl hk)]
  unfold anextS
  rw [bif_f (by simp [hk]), fit_d, Option.bind_some]
  unfold anextS_j0 rnext7S_j0
  cases hf : fitB d p with
  | false => exact ⟨_, _, _, _, rfl, rfl, hm, by simp⟩
  | true =>
    rw [bif_f (c := !true) rfl, bif_f (c := !true) rfl]
    rcases fit_want hf with hs | hs | hs | hs | hs | hs
    · -- the line is the node's
      rw [bif_t (decide_eq_true hs), bif_f (decide_eq_false (by omega)), bif_t (decide_eq_true hs), chk_true (by omega)]
      unfold letP rnext7S_j1
      dsimp only
      rw [bif_t (decide_eq_true hk)]
      refine alike_bind ?_
      unfold alockedS rread7S
      dsimp only
      rw [copy_is p.data hp, Option.bind_some, bif_t (decide_eq_true hs)]
      unfold rread7S_j0
      dsimp only
      by_cases h0 : p.state = 0
      · obtain ⟨r, c', q', p1, p2, p3⟩ := h.put (by omega) ⟨-1, -1, d.line, 0, false, p.data⟩ hp
        rw [bif_f (by simp [h0]), enew_is _ _ _ _ _ (by omega), Option.bind_some, p1, Option.bind_some, bif_t (decide_eq_true h0), p2, Option.bind_some, unlock_is _ _ _ _ (by simp)]
        exact ⟨_, _, _, _, rfl, rfl, p3, by simp⟩
      · rw [bif_t (by simp [h0]), bif_f (decide_eq_false h0), bif_t (decide_eq_true hs)]
        exact ⟨_, _, _, _, rfl, rfl, hm, hp⟩
    · -- the head knows
      rw [bif_f (decide_eq_false (by omega)), bif_t (decide_eq_true hs), bif_f (decide_eq_false (by omega)), bif_f (decide_eq_false (by omega))]
      unfold rnext7S_j1
      rw [bif_t (decide_eq_true hk)]
      refine alike_bind ?_
      unfold atoldS rread7S
      dsimp only
      rw [bif_f (decide_eq_false (by omega))]
      unfold rread7S_j0
      dsimp only
      obtain ⟨r, c', q', p1, p2, p3⟩ := h.put (by omega) ⟨d.head, -1, d.line, 0, false, p.data⟩ hp
      rw [enew_is _ _ _ _ _ (by omega), Option.bind_some, p1, Option.bind_some, bif_f rfl, bif_f (decide_eq_false (by omega)), bif_t (decide_eq_true hs), p2, Option.bind_some]
      cases p.flag with
      | true =>
        rw [bif_t rfl, bif_t rfl, copy_is p.data hp, Option.bind_some, unlock_is _ _ _ _ hp]
        exact ⟨_, _, _, _, rfl, rfl, p3, hp⟩
      | false =>
        rw [bif_f rfl, bif_f rfl, unlock_is _ _ _ _ (by simp)]
        exact ⟨_, _, _, _, rfl, rfl, p3, by simp⟩
    all_goals rw [bif_f (decide_eq_false (by omega)), bif_f (decide_eq_false (by omega))]
    · rw [bif_f (decide_eq_false (by omega)), bif_f (decide_eq_false (by omega)), bif_f (decide_eq_false (by omega))]
      unfold rnext7S_j1
      rw [bif_t (decide_eq_true hk)]
      unfold rread7S
      dsimp only
      rw [bif_f (decide_eq_false (by omega))]
      unfold rread7S_j0
      dsimp only
      rw [bif_f rfl, bif_f (decide_eq_false (by omega)), bif_f (decide_eq_false (by omega))]
      exact ⟨_, _, _, _, rfl, rfl, hm, by simp⟩
    · rw [bif_f (decide_eq_false (by omega)), bif_f (decide_eq_false (by omega)), bif_f (decide_eq_false (by omega))]
      unfold rnext7S_j1
      rw [bif_t (decide_eq_true hk)]
      unfold rread7S
      dsimp only
      rw [bif_f (decide_eq_false (by omega))]
      unfold rread7S_j0
      dsimp only
      rw [bif_f rfl, bif_f (decide_eq_false (by omega)), bif_f (decide_eq_false (by omega))]
      exact ⟨_, _, _, _, rfl, rfl, hm, by simp⟩
    · rw [bif_f (decide_eq_false (by omega)), bif_f (decide_eq_false (by omega)), bif_f (decide_eq_false (by omega))]
      unfold rnext7S_j1
      rw [bif_t (decide_eq_true hk)]
      unfold rread7S
      dsimp only
      rw [bif_f (decide_eq_false (by omega))]
      unfold rread7S_j0
      dsimp only
      rw [bif_f rfl, bif_f (decide_eq_false (by omega)), bif_f (decide_eq_false (by omega))]
      exact ⟨_, _, _, _, rfl, rfl, hm, by simp⟩
    · rw [bif_t (decide_eq_true hs), bif_t (decide_eq_true hs)]
      exact ⟨_, _, _, _, rfl, rfl, hm, hd⟩
theorem no_read (d : DealS) (node : Int) (c : CacheS) (p : PktS) (h : d.kind ≠ 1) : anextS d node c p = some (⟨0, 0, 0, 0, 0, 0, [], 0, 0⟩, false, c) := by
  unfold anextS
  rw [bif_t (by simp [h])]; rfl
theorem j3_is {N : Nat} {c q : CacheS} (h : CSim N c q) (hN : N ≤ 60) (d y1 : DealS) (ok : Bool) (hd : d.data.length ≤ 60) (h1 : y1.data.length ≤ 60) :
    attachNextS_j3 (d, ok, c) y1 y1.data ok d.kind d.line d.id d.step d.state d.head d.data d.next d.told q = some true := by
  unfold attachNextS_j3
  dsimp only
  rw [bif_t (by simp), same13_is d hd, Option.bind_some, bif_t rfl, h.same hN, Option.bind_some, bif_t rfl, ksame_is _ h1, Option.bind_some, bif_t rfl, wakes14_is]; rfl
theorem j1_is {N : Nat} {c q : CacheS} (h : CSim N c q) (hN : N + 1 ≤ 60) (p : PktS) (how : Int) (fit : Bool) (y1 : DealS) (kind node : Int) (h1 : y1.data.length ≤ 60) (hs : 0 ≤ y1.step ∧ y1.step < 8) : attachNextS_j1 p how fit y1 kind node c q = some true := by
  have j2 : ∀ (x : PktS) (k i l : Int), x.data.length ≤ 60 → attachNextS_j2 y1 kind node c x q k i l = some true := by
    intro x k i l hx
    unfold attachNextS_j2
    rw [copy_is _ h1, Option.bind_some]
    by_cases hk : kind = 1
    · obtain ⟨d, ok, c', q', e1, e2, e3, e4⟩ := (next_alike h hN ⟨kind, y1.line, y1.id, y1.step, y1.state, y1.head, y1.data, y1.next, y1.told⟩ node ⟨k, x.src, x.dst, i, l, x.ptr, x.state, x.flag, x.data⟩ hk h1 hx).out
      rw [e1, Option.bind_some, bif_t (decide_eq_true hk), e2, Option.bind_some]
      exact j3_is e3 (by omega) d y1 ok e4 h1
    · rw [no_read _ _ _ _ hk, Option.bind_some, bif_f (decide_eq_false hk)]
      exact j3_is h (by omega) ⟨0, 0, 0, 0, 0, 0, [], 0, 0⟩ y1 false (by simp) h1
  obtain ⟨x, e1, e2⟩ := plpacket_few p how
  unfold attachNextS_j1 letP
  dsimp only
  rw [e1, Option.bind_some]
  cases fit with
  | false => rw [bif_f rfl]; exact j2 x _ _ _ e2
  | true =>
    rw [bif_t rfl, chk_true ⟨hs.1, by show y1.step < 8; exact hs.2⟩]
    cases !(decide (nth [0, 7, 9, 9, 8, 8, 8, 0] y1.step = 0)) with
    | true => rw [bif_t rfl]; exact j2 x _ _ _ e2
    | false => rw [bif_f rfl]; exact j2 x _ _ _ e2
theorem attachNext_pure (x : RawS) (lines links data : List Int) (p : PktS) (how node : Int) (fit : Bool) : attachNextS x lines links data p how node fit = some true := by
  obtain ⟨d, e1, hd, hs⟩ := deal13_is x
  have j0 : ∀ kind : Int, attachNextS_j0 node lines links data d p how fit kind = some true := by
    intro kind
    obtain ⟨n, e2, _⟩ := within_is (v := node) (n := 4) (by omega) (by omega)
    obtain ⟨c, q, e3, h, _⟩ := both_is lines links data
    unfold attachNextS_j0
    rw [e2, Option.bind_some, e3, Option.bind_some]
    dsimp only
    rw [h.good.find (by omega), Option.bind_some]
    have j4 : ∀ b : Bool, attachNextS_j4 (c, q) d p how fit kind n b = some true := by
      intro b
      unfold attachNextS_j4
      dsimp only
      cases b with
      | false => rw [bif_f rfl]; exact j1_is h (by omega) p how fit d kind n hd hs
      | true =>
        rw [bif_t rfl]
        obtain ⟨v, hv⟩ : ∃ v, victimS c d.line = some v := by
          rcases h.good.victim (by omega) d.line with ⟨_, e⟩ | ⟨m, e, _⟩
          · exact ⟨_, e⟩
          · exact ⟨_, e⟩
        obtain ⟨e', b', c', q', d1, d2, d3, _⟩ := h.drop (by omega) v.1
        rw [hv, Option.bind_some, d1, Option.bind_some, d2, Option.bind_some]
        exact j1_is d3 (by omega) p how fit d kind n hd hs
    rw [h.good.full (by omega)]
    cases hq : lkE c.l d.line with
    | none =>
      dsimp only
      rw [bif_t (by rfl), Option.bind_some]; exact j4 _
    | some e =>
      dsimp only
      rw [bif_f (by rfl)]; exact j4 _
  unfold attachNextS
  rw [e1, Option.bind_some]
  cases !(decide (how.tmod 5 = 4)) with
  | true => rw [bif_t rfl]; exact j0 _
  | false => rw [bif_f rfl]; exact j0 _
end Go.Proofs.Ytfndeehlbcbkpaa
