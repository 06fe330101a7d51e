/- What caches do, as functions of values: finding, putting, dropping; no program in sight.
   Conditions: none. -/
import Derived.Test.YtcigheahollkcaaSlDel
namespace Go.Proofs.Ytcigheahollkcaa
open Go

/-- The place of a line among entries. -/
def idx (l : List Ent) (line : Int) : Option Nat := l.findIdx? fun e => decide (e.line = line)
def idxI (l : List Ent) (line : Int) : Int := match idx l line with | some i => (i : Int) | none => -1
theorem idx_some {l : List Ent} {line : Int} {i : Nat} (h : idx l line = some i) : ∃ e, l[i]? = some e ∧ e.line = line := by
  unfold idx at h
  rw [List.findIdx?_eq_some_iff_getElem] at h
  obtain ⟨hl, h1, _⟩ := h
  exact ⟨l[i], List.getElem?_eq_getElem hl, by simpa using h1⟩
theorem idx_lt {l : List Ent} {line : Int} {i : Nat} (h : idx l line = some i) : i < l.length := by
  obtain ⟨e, he, _⟩ := idx_some h
  rcases Nat.lt_or_ge i l.length with h | h
  · exact h
  · rw [List.getElem?_eq_none h] at he; cases he
theorem idx_none {l : List Ent} {line : Int} (h : ∀ (j : Nat) (e : Ent), l[j]? = some e → e.line ≠ line) : idx l line = none := by
  unfold idx
  rw [List.findIdx?_eq_none_iff]
  intro e he
  obtain ⟨j, hj⟩ := List.getElem?_of_mem he
  simpa using h j e hj
theorem idx_hit {l : List Ent} {line : Int} {i : Nat} {e : Ent} (he : l[i]? = some e) (hl : e.line = line) (h : ∀ (j : Nat) (e : Ent), j < i → l[j]? = some e → e.line ≠ line) : idx l line = some i := by
  have hi : i < l.length := by
    rcases Nat.lt_or_ge i l.length with h | h
    · exact h
    · rw [List.getElem?_eq_none h] at he; cases he
  unfold idx
  rw [List.findIdx?_eq_some_iff_getElem]
  have e1 : l[i] = e := by rw [List.getElem?_eq_getElem hi] at he; exact Option.some.inj he
  refine ⟨hi, by simp [e1, hl], fun j hj => ?_⟩
  have hjl : j < l.length := by omega
  simpa using h j l[j] hj (List.getElem?_eq_getElem hjl)
theorem below_succ {l : List Ent} {line : Int} {k : Nat} {x : Ent} (h : ∀ (j : Nat) (e : Ent), j < k → l[j]? = some e → e.line ≠ line) (hx : l[k]? = some x) (hn : ¬ x.line = line) : ∀ (j : Nat) (e : Ent), j < k + 1 → l[j]? = some e → e.line ≠ line := by
  intro j e hj he
  by_cases h1 : j = k
  · subst h1
    rw [hx] at he
    obtain rfl := Option.some.inj he
    exact hn
  · exact h j e (by omega) he
theorem idxI_some {l : List Ent} {line : Int} {i : Nat} (h : idx l line = some i) : idxI l line = (i : Int) := by simp [idxI, h]
theorem idxI_none {l : List Ent} {line : Int} (h : idx l line = none) : idxI l line = -1 := by simp [idxI, h]

/-- Is an entry of a line's set? -/
def inSet (sets line : Int) (e : Ent) : Bool := decide (0 ≤ line) && decide (e.line.tmod sets = line.tmod sets)
def setL (c : CacheS) (line : Int) : List Ent := c.l.filter (inSet c.sets line)
theorem setL_take (l : List Ent) (sets line : Int) {i : Nat} {e : Ent} (he : l[i]? = some e) : (l.take (i + 1)).filter (inSet sets line) = (l.take i).filter (inSet sets line) ++ (if inSet sets line e then [e] else []) := by
  rw [List.take_add_one, he, List.filter_append]
  simp [List.filter_cons]
theorem inSet_yes {sets line : Int} {e : Ent} (h1 : 0 ≤ line) (h2 : e.line.tmod sets = line.tmod sets) : inSet sets line e = true := by simp [inSet, h1, h2]
theorem inSet_no {sets line : Int} {e : Ent} (h1 : ¬ 0 ≤ line) : inSet sets line e = false := by simp [inSet, h1]
theorem inSet_no2 {sets line : Int} {e : Ent} (h2 : ¬ e.line.tmod sets = line.tmod sets) : inSet sets line e = false := by simp [inSet, h2]
theorem set_step {c : CacheS} {line : Int} {k : Nat} {oes : List Ent} {e : Ent} (h : oes = (c.l.take k).filter (inSet c.sets line)) (he : c.l[k]? = some e) (hb : inSet c.sets line e = true) : oes ++ [e] = (c.l.take (k + 1)).filter (inSet c.sets line) := by
  rw [setL_take _ _ _ he, hb, h]; rfl
theorem set_skip {c : CacheS} {line : Int} {k : Nat} {oes : List Ent} {e : Ent} (h : oes = (c.l.take k).filter (inSet c.sets line)) (he : c.l[k]? = some e) (hb : inSet c.sets line e = false) : oes = (c.l.take (k + 1)).filter (inSet c.sets line) := by
  rw [setL_take _ _ _ he, hb, h]; simp
theorem set_all {c : CacheS} {line : Int} {k : Nat} {oes : List Ent} (h : oes = (c.l.take k).filter (inSet c.sets line)) (hk : ¬ (k : Int) < (c.l.length : Int)) : oes = setL c line := by
  rw [h, List.take_of_length_le (by omega)]; rfl
theorem set_len {c : CacheS} {line : Int} {k : Nat} {oes : List Ent} (h : oes = (c.l.take k).filter (inSet c.sets line)) : oes.length ≤ c.l.length := by
  rw [h]
  refine Nat.le_trans (List.length_filter_le _ _) ?_
  simp; omega
theorem not_full {c : CacheS} {line : Int} (h : (c.l.length : Int) < c.ways) : ¬ c.ways ≤ ((setL c line).length : Int) := by
  have : (setL c line).length ≤ c.l.length := List.length_filter_le _ _
  omega
end Go.Proofs.Ytcigheahollkcaa
