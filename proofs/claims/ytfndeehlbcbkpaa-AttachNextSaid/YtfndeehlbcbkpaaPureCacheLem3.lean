/- A cache, in plain words: which line has which entry, behind each step. -/
import Derived.Test.YtfndeehlbcbkpaaPureCacheLem2
set_option linter.unusedSimpArgs false
set_option linter.unusedVariables false
namespace Go.Proofs.Ytfndeehlbcbkpaa
open Go
def lkE (l : List Ent) (line : Int) : Option Ent := l.find? fun e => decide (e.line = line)
theorem lkE_none {l : List Ent} {line : Int} : lkE l line = none ↔ ∀ x ∈ l, x.line ≠ line := by
  unfold lkE
  rw [List.find?_eq_none]
  simp
theorem lkE_some {l : List Ent} {line : Int} {e : Ent} (h : lkE l line = some e) : e ∈ l ∧ e.line = line := by
  unfold lkE at h
  exact ⟨List.mem_of_find?_eq_some h, by simpa using List.find?_some h⟩
theorem lkE_mid {a b : List Ent} {e : Ent} {line : Int} (he : e.line = line) (h : ∀ x ∈ a, x.line ≠ line) : lkE (a ++ e :: b) line = some e := by
  unfold lkE
  rw [List.find?_append, List.find?_eq_none.2 (by simpa using h)]
  simp [he]
theorem lkE_skip {a b : List Ent} {e : Ent} {line : Int} (he : e.line ≠ line) : lkE (a ++ e :: b) line = lkE (a ++ b) line := by
  unfold lkE
  rw [List.find?_append, List.find?_append]
  simp [he]
theorem lkE_drop {a b : List Ent} {line : Int} (h : ∀ x ∈ a ++ b, x.line ≠ line) : lkE (a ++ b) line = none := lkE_none.2 h
theorem lkE_keys (l : List Ent) (line : Int) : (lkE l line).isSome = decide (line ∈ l.map Ent.line) := by
  cases h : lkE l line with
  | none =>
    have := lkE_none.1 h
    simp
    intro x hx e
    exact this x hx e
  | some e =>
    obtain ⟨h1, h2⟩ := lkE_some h
    simp
    exact ⟨e, h1, h2⟩
def inLine (sets line : Int) (l : Int) : Bool := decide (0 ≤ line) && decide (l.tmod sets = line.tmod sets)
theorem setL_len (c : CacheS) (line : Int) : (setL c line).length = ((c.l.map Ent.line).filter (inLine c.sets line)).length := by
  unfold setL
  rw [List.filter_map, List.length_map]
  rfl
section
variable {N : Nat} {c : CacheS} (h : CGood N c) (hN : N ≤ 60)
include h
/-- A line is there, once; or it is not. -/
theorem CGood.at (line : Int) : (lkE c.l line = none ∧ idx c.l line = none) ∨ ∃ a b e, c.l = a ++ e :: b ∧ e.line = line ∧ lkE c.l line = some e ∧ idx c.l line = some a.length ∧ (∀ x ∈ a ++ b, x.line ≠ line) := by
  cases hi : idx c.l line with
  | none => exact .inl ⟨lkE_none.2 (idx_none_iff.1 hi), rfl⟩
  | some i =>
    obtain ⟨a, e, b, h1, h2, h3, h4⟩ := idx_split hi
    refine .inr ⟨a, b, e, h1, h3, by rw [h1]; exact lkE_mid h3 h4, by rw [h2], ?_⟩
    have ho := h.once
    rw [h1] at ho
    obtain ⟨_, p2, p3⟩ := pw_mid ho
    intro x hx
    rw [List.mem_append] at hx
    rcases hx with hx | hx
    · exact h4 x hx
    · rw [← h3]; exact fun e1 => p3 x hx e1.symm
include hN
theorem CGood.find (line : Int) : findS c line = some (match lkE c.l line with | some e => (e, true) | none => (zeroE, false)) := by
  unfold findS findE
  rw [chk_true (h.ok (by omega))]
  rcases h.at line with ⟨h1, h2⟩ | ⟨a, b, e, h1, h2, h3, h4, h5⟩
  · rw [h1, h2]
  · rw [h3, h4]
    dsimp only
    rw [h1, getD_mid]
theorem CGood.full (line : Int) : fullS c line = some ((lkE c.l line).isNone && decide (c.ways ≤ (((setL c line).length : Nat) : Int))) := by
  unfold fullS
  rw [chk_true (h.ok (by omega))]
  rcases h.at line with ⟨h1, h2⟩ | ⟨a, b, e, h1, h2, h3, h4, h5⟩
  · rw [h1, h2]; rfl
  · rw [h3, h4]; rfl
theorem CGood.touch (line : Int) (hc : c.clock + 1 ≤ N) : ∃ c', touchS c line = some ((lkE c.l line).isSome, c') ∧ CGood N c' ∧ c'.sets = c.sets ∧ c'.ways = c.ways ∧ c'.l.map Ent.line = c.l.map Ent.line ∧
    ((lkE c.l line = none ∧ c' = c) ∨ ∃ e, lkE c.l line = some e ∧ c'.clock = c.clock + 1 ∧ (∀ x, lkE c'.l x = if x = line then some { e with used := c.clock + 1 } else lkE c.l x) ∧ ∃ a b, c.l = a ++ e :: b ∧ c'.l = a ++ { e with used := c.clock + 1 } :: b) := by
  unfold touchS
  rw [chk_true (h.ok (by omega))]
  have hk := h.hclock
  rcases h.at line with ⟨h1, h2⟩ | ⟨a, b, e, h1, h2, h3, h4, h5⟩
  · refine ⟨c, by simp [touchC, h1, h2], h, rfl, rfl, rfl, .inl ⟨h1, rfl⟩⟩
  · have hd := h.data e (by rw [h1]; simp)
    refine ⟨{ c with l := a ++ { e with used := c.clock + 1 } :: b, clock := c.clock + 1 }, ?_, h.set (x := { e with used := c.clock + 1 }) h1 rfl hd _ ⟨by omega, hc⟩ (.inr ⟨rfl, by omega⟩), rfl, rfl, by rw [h1]; simp, .inr ⟨e, h3, rfl, fun x => ?_, a, b, h1, rfl⟩⟩
    · rw [h3]
      simp only [touchC, h4]
      rw [h1, getD_mid, set_mid]; rfl
    · by_cases hx : x = line
      · subst hx
        rw [if_pos rfl]
        exact lkE_mid h2 fun y hy => h5 y (List.mem_append.2 (.inl hy))
      · rw [if_neg hx, h1, lkE_skip (by show e.line ≠ x; rw [h2]; exact Ne.symm hx), lkE_skip (by rw [h2]; exact Ne.symm hx)]
theorem CGood.drop (line : Int) : ∃ c', dropS c line = some ((match lkE c.l line with | some e => e | none => zeroE), (lkE c.l line).isSome, c') ∧ CGood N c' ∧ c'.sets = c.sets ∧ c'.ways = c.ways ∧ c'.clock = c.clock ∧
    (∀ x, lkE c'.l x = if x = line then none else lkE c.l x) ∧ ((lkE c.l line = none ∧ c' = c) ∨ ∃ a b e, c.l = a ++ e :: b ∧ c'.l = a ++ b ∧ e.line = line ∧ lkE c.l line = some e) := by
  unfold dropS
  rw [chk_true (h.ok (by omega))]
  rcases h.at line with ⟨h1, h2⟩ | ⟨a, b, e, h1, h2, h3, h4, h5⟩
  · refine ⟨c, by simp [findE, dropC, h1, h2], h, rfl, rfl, rfl, fun x => ?_, .inl ⟨h1, rfl⟩⟩
    by_cases hx : x = line
    · rw [if_pos hx, hx]; exact h1
    · rw [if_neg hx]
  · refine ⟨{ c with l := a ++ b }, ?_, h.less h1, rfl, rfl, rfl, fun x => ?_, .inr ⟨a, b, e, h1, rfl, h2, h3⟩⟩
    · rw [h3]
      simp only [findE, dropC, h4]
      rw [h1, getD_mid, erase_mid]; rfl
    · by_cases hx : x = line
      · rw [if_pos hx, hx]; exact lkE_drop h5
      · rw [if_neg hx, h1, lkE_skip (by rw [h2]; exact Ne.symm hx)]
/-- What is put. -/
inductive Puts (c : CacheS) (e : Ent) : Int → CacheS → Prop
  | neg (h : e.line < 0) : Puts c e 1 c
  | full (h0 : 0 ≤ e.line) (h : lkE c.l e.line = none) (hf : c.ways ≤ (((setL c e.line).length : Nat) : Int)) : Puts c e 5 c
  | old {c' : CacheS} (e0 : Ent) (h0 : 0 ≤ e.line) (h : lkE c.l e.line = some e0) (hc : c'.clock = c.clock) (hl : ∀ x, lkE c'.l x = if x = e.line then some { e with used := e0.used } else lkE c.l x) (hm : c'.l.map Ent.line = c.l.map Ent.line) (hs : ∃ a b, c.l = a ++ e0 :: b ∧ c'.l = a ++ { e with used := e0.used } :: b) : Puts c e 0 c'
  | new {c' : CacheS} (h0 : 0 ≤ e.line) (h : lkE c.l e.line = none) (hf : (((setL c e.line).length : Nat) : Int) < c.ways) (hc : c'.clock = c.clock + 1) (hl : ∀ x, lkE c'.l x = if x = e.line then some { e with used := c.clock + 1 } else lkE c.l x) (hm : c'.l = c.l ++ [{ e with used := c.clock + 1 }]) : Puts c e 0 c'
theorem CGood.put (e : Ent) (hd : e.data.length ≤ 60) : ∃ r c', putS c e = some (r, c') ∧ CGood (N + 1) c' ∧ c'.sets = c.sets ∧ c'.ways = c.ways ∧ Puts c e r c' := by
  unfold putS
  rw [chk_true ⟨h.ok (by omega), by unfold okL; omega⟩]
  have hk := h.hclock
  by_cases h0 : e.line < 0
  · exact ⟨1, c, by simp [putC, h0], h.more (by omega), rfl, rfl, .neg h0⟩
  · rcases h.at e.line with ⟨h1, h2⟩ | ⟨a, b, e0, h1, h2, h3, h4, h5⟩
    · by_cases hf : c.ways ≤ (((setL c e.line).length : Nat) : Int)
      · exact ⟨5, c, by simp [putC, h0, h2, hf], h.more (by omega), rfl, rfl, .full (by omega) h1 hf⟩
      · refine ⟨0, { c with l := c.l ++ [{ e with used := c.clock + 1 }], clock := c.clock + 1 }, by simp [putC, h0, h2, hf], h.one (a := c.l) (b := []) (x := { e with used := c.clock + 1 }) (by simp) (fun y hy => idx_none_iff.1 h2 y hy) (by show 0 ≤ e.line; omega) hd rfl, rfl, rfl, .new (by omega) h1 (by omega) rfl (fun x => ?_) rfl⟩
        by_cases hx : x = e.line
        · subst hx
          rw [if_pos rfl]
          exact lkE_mid (b := []) rfl (lkE_none.1 h1)
        · rw [if_neg hx]
          have := lkE_skip (a := c.l) (b := []) (e := { e with used := c.clock + 1 }) (line := x) (Ne.symm hx)
          rw [List.append_nil] at this
          exact this
    · refine ⟨0, { c with l := a ++ { e with used := e0.used } :: b }, ?_, ?_, rfl, rfl, .old e0 (by omega) h3 rfl (fun x => ?_) (by rw [h1]; simp [h2]) ⟨a, b, h1, rfl⟩⟩
      · simp only [putC, h0, h4, if_false]
        rw [h1, getD_mid, set_mid]
      · exact (h.set (x := { e with used := e0.used }) h1 h2.symm hd c.clock ⟨Int.le_refl _, hk.2⟩ (.inl rfl)).more (by omega)
      · show lkE (a ++ { e with used := e0.used } :: b) x = _
        by_cases hx : x = e.line
        · subst hx
          rw [if_pos rfl]
          exact lkE_mid rfl fun y hy => h5 y (List.mem_append.2 (.inl hy))
        · rw [if_neg hx, h1, lkE_skip (e := { e with used := e0.used }) (show e.line ≠ x from Ne.symm hx), lkE_skip (by rw [h2]; exact Ne.symm hx)]
theorem CGood.lines_ok : ∃ ls, linesS c = some ls ∧ ls.Pairwise (· < ·) ∧ (∀ a, a ∈ ls ↔ a ∈ c.l.map Ent.line) ∧ ls.length = c.l.length := by
  have hfew := h.few
  refine ⟨srt (c.l.map Ent.line), lines_is c (by omega), srt_risingC ?_, fun a => srt_memC, by rw [srt_length, List.length_map]⟩
  rw [List.nodup_iff_pairwise_ne, List.pairwise_map]; exact h.once
end
theorem CGood.new {sets ways : Int} : CGood 0 (newC sets ways) := by
  refine ⟨by simp [newC], by simp [newC], by simp [newC], by simp [newC], by simp [newC], by simp [newC], ?_, ?_, by simp [newC]⟩
  · show 1 ≤ if 1 < sets then sets else 1
    split <;> omega
  · show 1 ≤ if 1 < ways then ways else 1
    split <;> omega
end Go.Proofs.Ytfndeehlbcbkpaa
