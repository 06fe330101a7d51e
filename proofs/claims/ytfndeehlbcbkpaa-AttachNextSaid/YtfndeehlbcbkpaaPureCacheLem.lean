/- Both caches, in plain words: they keep step. -/
import Derived.Test.YtfndeehlbcbkpaaVcA
set_option linter.unusedSimpArgs false
set_option linter.unusedVariables false
namespace Go.Proofs.Ytfndeehlbcbkpaa
open Go
theorem bif_t {α : Type} {c : Bool} {x y : α} (h : c = true) : (bif c then x else y) = x := by subst h; rfl
theorem bif_f {α : Type} {c : Bool} {x y : α} (h : c = false) : (bif c then x else y) = y := by subst h; rfl
theorem drop_cons_at {α : Type} {L : List α} {i : Nat} {x : α} {r : List α} (h : L.drop i = x :: r) : i < L.length ∧ L[i]? = some x ∧ L.drop (i + 1) = r ∧ x ∈ L := by
  have hl : i < L.length := by
    rcases Nat.lt_or_ge i L.length with q | q
    · exact q
    · rw [List.drop_eq_nil_of_le q] at h; cases h
  rw [List.drop_eq_getElem_cons hl] at h
  injection h with h1 h2
  exact ⟨hl, by rw [List.getElem?_eq_getElem hl, h1], h2, h1 ▸ List.getElem_mem hl⟩
theorem drop_nil_at {α : Type} {L : List α} {i : Nat} (h : L.drop i = []) : L.length ≤ i := by
  rcases Nat.lt_or_ge i L.length with q | q
  · rw [List.drop_eq_getElem_cons q] at h; cases h
  · exact q
theorem nthT_at {α : Type} [Rec α] {L : List α} {i : Nat} {x : α} (h : L[i]? = some x) : nthT L (i : Int) = x := by
  unfold nthT
  rw [Int.toNat_natCast, List.getD_eq_getElem?_getD, h]; rfl
theorem nthT_mid {α : Type} [Rec α] {a b : List α} {x : α} : nthT (a ++ x :: b) ((a.length : Nat) : Int) = x := nthT_at (by simp)
theorem nth_at {L : List Int} {i : Nat} {x : Int} (h : L[i]? = some x) : nth L (i : Int) = x := by
  unfold nth
  rw [Int.toNat_natCast, List.getD_eq_getElem?_getD, h]; rfl
theorem wr_small {x : Int} (h : x.natAbs ≤ 1000000) : wr x = x := wr_in (by omega) (by omega)
/-! Where a line is. -/
theorem idx_split {l : List Ent} {line : Int} {i : Nat} (h : idx l line = some i) : ∃ a e b, l = a ++ e :: b ∧ a.length = i ∧ e.line = line ∧ ∀ x ∈ a, x.line ≠ line := by
  unfold idx at h
  rw [List.findIdx?_eq_some_iff_getElem] at h
  obtain ⟨hl, h1, h2⟩ := h
  refine ⟨l.take i, l[i], l.drop (i + 1), ?_, by simp; omega, by simpa using h1, ?_⟩
  · rw [← List.drop_eq_getElem_cons hl, List.take_append_drop]
  · intro x hx
    obtain ⟨j, hj, rfl⟩ := List.mem_iff_getElem.1 hx
    rw [List.getElem_take]
    have hj2 : j < i := by simp at hj; omega
    simpa using h2 j hj2
theorem idx_none_iff {l : List Ent} {line : Int} : idx l line = none ↔ ∀ x ∈ l, x.line ≠ line := by
  unfold idx
  rw [List.findIdx?_eq_none_iff]
  simp
theorem idx_mid {a b : List Ent} {e : Ent} {line : Int} (he : e.line = line) (h : ∀ x ∈ a, x.line ≠ line) : idx (a ++ e :: b) line = some a.length := by
  refine idx_hit (e := e) (by simp) he fun j x hj hx => ?_
  rw [List.getElem?_append_left hj] at hx
  exact h x (List.mem_of_getElem? hx)
theorem getD_mid {a b : List Ent} {e z : Ent} : (a ++ e :: b).getD a.length z = e := by simp [List.getD_eq_getElem?_getD]
theorem set_mid {α : Type} {a b : List α} {e x : α} : (a ++ e :: b).set a.length x = a ++ x :: b := by simp [List.set_append]
theorem erase_mid {α : Type} {a b : List α} {e : α} : (a ++ e :: b).eraseIdx a.length = a ++ b := by
  induction a with
  | nil => rfl
  | cons y a ih => simp [ih]
theorem rat_loop (q : CacheS) (line : Int) (hn : q.l.length ≤ 60) : ∀ (rest : List Ent) (i fuel : Nat), q.l.drop i = rest → rest.length < fuel →
    ratS_l0 q line ratS_k0 fuel (i : Int) = some (match idx rest line with | some j => ((i + j : Nat) : Int) | none => -1) := by
  intro rest
  induction rest with
  | nil =>
    intro i fuel hd hf
    obtain ⟨f, rfl⟩ : ∃ f, fuel = f + 1 := ⟨fuel - 1, by omega⟩
    have := drop_nil_at hd
    rw [ratS_l0]
    dsimp only
    rw [bif_f (decide_eq_false (by omega))]; rfl
  | cons e rest ih =>
    intro i fuel hd hf
    obtain ⟨f, rfl⟩ : ∃ f, fuel = f + 1 := ⟨fuel - 1, by omega⟩
    obtain ⟨q1, q2, q3, q4⟩ := drop_cons_at hd
    have q5 : inR ((i : Int) + 1) := by unfold inR; omega
    rw [List.length_cons] at hf
    rw [ratS_l0]
    dsimp only
    rw [bif_t (decide_eq_true (by omega)), chk_true ⟨by omega, by omega⟩, nthT_at q2]
    by_cases hc : e.line = line
    · rw [bif_t (decide_eq_true hc)]
      have : idx (e :: rest) line = some 0 := by simp [idx, List.findIdx?_cons, hc]
      rw [this]; rfl
    · rw [bif_f (decide_eq_false hc), chk_true q5]
      have := ih (i + 1) f q3 (by omega)
      rw [show ((i + 1 : Nat) : Int) = (i : Int) + 1 by omega] at this
      rw [this]
      have e1 : idx (e :: rest) line = (idx rest line).map (· + 1) := by simp [idx, List.findIdx?_cons, hc]
      rw [e1]
      cases idx rest line with
      | none => rfl
      | some j =>
        show some (((i + 1 + j : Nat) : Int)) = some (((i + (j + 1) : Nat) : Int))
        rw [show i + 1 + j = i + (j + 1) by omega]
theorem rat_is (q : CacheS) (line : Int) (hn : q.l.length ≤ 60) : ratS q line = some (idxI q.l line) := by
  have := rat_loop q line hn q.l 0 64 (by simp) (by omega)
  unfold ratS
  rw [show ((0 : Nat) : Int) = 0 from rfl] at this
  rw [this]
  unfold idxI
  cases idx q.l line <;> simp
theorem rin_loop (q : CacheS) (line : Int) (hs : 1 ≤ q.sets) (hn : q.l.length ≤ 60) : ∀ (rest : List Ent) (i n fuel : Nat), q.l.drop i = rest → rest.length < fuel → n ≤ i →
    rinS_l0 q line rinS_k0 fuel (n : Int) (i : Int) = some (((n + (rest.filter (inSet q.sets line)).length : Nat) : Int)) := by
  intro rest
  induction rest with
  | nil =>
    intro i n fuel hd hf hni
    obtain ⟨f, rfl⟩ : ∃ f, fuel = f + 1 := ⟨fuel - 1, by omega⟩
    have := drop_nil_at hd
    rw [rinS_l0]
    dsimp only
    rw [bif_f (decide_eq_false (by omega))]; simp [rinS_k0]
  | cons e rest ih =>
    intro i n fuel hd hf hni
    obtain ⟨f, rfl⟩ : ∃ f, fuel = f + 1 := ⟨fuel - 1, by omega⟩
    obtain ⟨q1, q2, q3, q4⟩ := drop_cons_at hd
    have q5 : inR ((i : Int) + 1) := by unfold inR; omega
    have q6 : inR ((n : Int) + 1) := by unfold inR; omega
    rw [List.length_cons] at hf
    have skip := ih (i + 1) n f q3 (by omega) (by omega)
    have take := ih (i + 1) (n + 1) f q3 (by omega) (by omega)
    rw [show ((i + 1 : Nat) : Int) = (i : Int) + 1 by omega] at skip take
    rw [show ((n + 1 : Nat) : Int) = (n : Int) + 1 by omega] at take
    rw [rinS_l0]
    dsimp only [letP]
    rw [bif_t (decide_eq_true (by omega)), chk_true ⟨by omega, by omega⟩, nthT_at q2]
    by_cases h0 : 0 ≤ line
    · rw [bif_t (decide_eq_true h0), chk_true hs, chk_true hs]
      by_cases hc : e.line.tmod q.sets = line.tmod q.sets
      · rw [bif_t (decide_eq_true hc), chk_true q6, chk_true q5, take, List.filter_cons, if_pos (inSet_yes h0 hc), List.length_cons]
        congr 2; omega
      · rw [bif_f (decide_eq_false hc), chk_true q5, skip, List.filter_cons, if_neg (by rw [inSet_no2 hc]; simp)]
    · rw [bif_f (decide_eq_false h0), chk_true q5, skip, List.filter_cons, if_neg (by rw [inSet_no h0]; simp)]
theorem rin_is (q : CacheS) (line : Int) (hs : 1 ≤ q.sets) (hn : q.l.length ≤ 60) : rinS q line = some (((setL q line).length : Nat) : Int) := by
  have := rin_loop q line hs hn q.l 0 0 64 (by simp) (by omega) (Nat.le_refl _)
  unfold rinS
  rw [show ((0 : Nat) : Int) = 0 from rfl] at this
  rw [this, Nat.zero_add]; rfl
theorem cset_loop (c : CacheS) (line : Int) (hs : 1 ≤ c.sets) (hn : c.l.length ≤ 60) : ∀ (rest : List Ent) (i fuel : Nat) (out : List Ent), c.l.drop i = rest → rest.length < fuel → out.length ≤ i →
    csetS_l0 c line csetS_k0 fuel out (i : Int) = some (out ++ rest.filter (inSet c.sets line)) := by
  intro rest
  induction rest with
  | nil =>
    intro i fuel out hd hf ho
    obtain ⟨f, rfl⟩ : ∃ f, fuel = f + 1 := ⟨fuel - 1, by omega⟩
    have := drop_nil_at hd
    rw [csetS_l0]
    dsimp only
    rw [bif_f (decide_eq_false (by omega))]; simp [csetS_k0]
  | cons e rest ih =>
    intro i fuel out hd hf ho
    obtain ⟨f, rfl⟩ : ∃ f, fuel = f + 1 := ⟨fuel - 1, by omega⟩
    obtain ⟨q1, q2, q3, q4⟩ := drop_cons_at hd
    have q5 : inR ((i : Int) + 1) := by unfold inR; omega
    rw [List.length_cons] at hf
    have skip := ih (i + 1) f out q3 (by omega) (by omega)
    have take := ih (i + 1) f (out ++ [e]) q3 (by omega) (by simp; omega)
    rw [show ((i + 1 : Nat) : Int) = (i : Int) + 1 by omega] at skip take
    rw [csetS_l0]
    dsimp only [letP]
    rw [bif_t (decide_eq_true (by omega)), chk_true ⟨by omega, by omega⟩, nthT_at q2]
    by_cases h0 : 0 ≤ line
    · rw [bif_t (decide_eq_true h0), chk_true hs, chk_true hs]
      by_cases hc : e.line.tmod c.sets = line.tmod c.sets
      · rw [bif_t (decide_eq_true hc), chk_true (by simp; omega), chk_true q5, take, List.filter_cons, if_pos (inSet_yes h0 hc)]
        simp
      · rw [bif_f (decide_eq_false hc), chk_true q5, skip, List.filter_cons, if_neg (by rw [inSet_no2 hc]; simp)]
    · rw [bif_f (decide_eq_false h0), chk_true q5, skip, List.filter_cons, if_neg (by rw [inSet_no h0]; simp)]
theorem cset_is (c : CacheS) (line : Int) (hs : 1 ≤ c.sets) (hn : c.l.length ≤ 60) : csetS c line = some (setL c line) := by
  have := cset_loop c line hs hn c.l 0 64 [] (by simp) (by omega) (Nat.le_refl _)
  unfold csetS
  rw [show ((0 : Nat) : Int) = 0 from rfl] at this
  rw [this]; rfl
/-- What is known of a cache of ours: few lines, each once; none was used at the same time. -/
structure CGood (N : Nat) (c : CacheS) : Prop where
  few : c.l.length ≤ N
  once : c.l.Pairwise fun a b => a.line ≠ b.line
  pos : ∀ e ∈ c.l, 0 ≤ e.line
  data : ∀ e ∈ c.l, e.data.length ≤ 60
  used : ∀ e ∈ c.l, 1 ≤ e.used ∧ e.used ≤ c.clock
  uses : c.l.Pairwise fun a b => a.used ≠ b.used
  hsets : 1 ≤ c.sets
  hways : 1 ≤ c.ways
  hclock : 0 ≤ c.clock ∧ c.clock ≤ N
theorem CGood.ok {N : Nat} {c : CacheS} (h : CGood N c) (hN : N ≤ 1000) : okC c :=
  ⟨by have := h.few; omega, fun e he => by have := h.data e he; omega, h.hsets, h.hclock.1, by have := h.hclock; omega⟩
theorem CGood.more {N N' : Nat} {c : CacheS} (h : CGood N c) (hN : N ≤ N') : CGood N' c :=
  ⟨Nat.le_trans h.few hN, h.once, h.pos, h.data, h.used, h.uses, h.hsets, h.hways, h.hclock.1, by have := h.hclock; omega⟩
theorem pw_mid {α : Type} {R : α → α → Prop} {a b : List α} {x : α} (h : (a ++ x :: b).Pairwise R) : (a ++ b).Pairwise R ∧ (∀ y ∈ a, R y x) ∧ ∀ y ∈ b, R x y := by
  rw [List.pairwise_append, List.pairwise_cons] at h
  obtain ⟨h1, ⟨h2, h3⟩, h4⟩ := h
  refine ⟨List.pairwise_append.2 ⟨h1, h3, fun y hy z hz => h4 y hy z (List.mem_cons_of_mem _ hz)⟩, fun y hy => h4 y hy x (List.mem_cons_self ..), h2⟩
theorem pw_mid_mk {α : Type} {R : α → α → Prop} {a b : List α} {x : α} (h : (a ++ b).Pairwise R) (h1 : ∀ y ∈ a, R y x) (h2 : ∀ y ∈ b, R x y) : (a ++ x :: b).Pairwise R := by
  rw [List.pairwise_append] at h
  rw [List.pairwise_append, List.pairwise_cons]
  refine ⟨h.1, ⟨h2, h.2.1⟩, fun y hy z hz => ?_⟩
  rcases List.mem_cons.1 hz with rfl | hz
  · exact h1 y hy
  · exact h.2.2 y hy z hz
theorem mem_mid {α : Type} {a b : List α} {x y : α} (h : y ∈ a ++ b) : y ∈ a ++ x :: b := by
  rw [List.mem_append] at h ⊢
  rcases h with h | h
  · exact .inl h
  · exact .inr (List.mem_cons_of_mem _ h)
theorem mem_mid_iff {α : Type} {a b : List α} {x y : α} : y ∈ a ++ x :: b ↔ y = x ∨ y ∈ a ++ b := by
  rw [List.mem_append, List.mem_append, List.mem_cons]
  constructor
  · rintro (h | rfl | h)
    · exact .inr (.inl h)
    · exact .inl rfl
    · exact .inr (.inr h)
  · rintro (rfl | h | h)
    · exact .inr (.inl rfl)
    · exact .inl h
    · exact .inr (.inr h)
section
variable {N : Nat} {c : CacheS}
/-- An entry is another one of its line: words, links, or when it was used. -/
theorem CGood.set {a b : List Ent} {e x : Ent} (h : CGood N c) (hl : c.l = a ++ e :: b) (hx : x.line = e.line) (hd : x.data.length ≤ 60) (k : Int) (hk : c.clock ≤ k ∧ k ≤ N) (hu : x.used = e.used ∨ x.used = k ∧ c.clock < k) :
    CGood N { c with l := a ++ x :: b, clock := k } := by
  have o1 := h.once
  have o2 := h.uses
  rw [hl] at o1 o2
  obtain ⟨p1, p2, p3⟩ := pw_mid o1
  obtain ⟨r1, r2, r3⟩ := pw_mid o2
  have hmem : ∀ y ∈ a ++ b, y ∈ c.l := fun y hy => by rw [hl]; exact mem_mid hy
  have he : e ∈ c.l := by rw [hl]; simp
  have hne : ∀ y ∈ a ++ b, y.used ≠ x.used := by
    intro y hy
    rcases hu with hu | ⟨hu, hck⟩
    · rw [hu]
      rw [List.mem_append] at hy
      rcases hy with hy | hy
      · exact r2 y hy
      · exact fun e1 => r3 y hy e1.symm
    · have := (h.used y (hmem y hy)).2; omega
  refine ⟨?_, ?_, ?_, ?_, ?_, ?_, h.hsets, h.hways, by have := h.hclock.1; show 0 ≤ k ∧ k ≤ (N : Int); omega⟩
  · have := h.few; rw [hl] at this; simpa using this
  · exact pw_mid_mk p1 (fun y hy => by rw [hx]; exact p2 y hy) (fun y hy => by rw [hx]; exact p3 y hy)
  · intro y hy
    rcases mem_mid_iff.1 hy with rfl | hy
    · rw [hx]; exact h.pos e he
    · exact h.pos y (hmem y hy)
  · intro y hy
    rcases mem_mid_iff.1 hy with rfl | hy
    · exact hd
    · exact h.data y (hmem y hy)
  · intro y hy
    rcases mem_mid_iff.1 hy with rfl | hy
    · have := h.used e he
      have := h.hclock.1
      show 1 ≤ y.used ∧ y.used ≤ k
      omega
    · have := h.used y (hmem y hy)
      show 1 ≤ y.used ∧ y.used ≤ k
      omega
  · exact pw_mid_mk r1 (fun y hy => hne y (List.mem_append.2 (.inl hy))) (fun y hy e1 => hne y (List.mem_append.2 (.inr hy)) e1.symm)
theorem CGood.less {a b : List Ent} {e : Ent} (h : CGood N c) (hl : c.l = a ++ e :: b) : CGood N { c with l := a ++ b } := by
  have o1 := h.once
  have o2 := h.uses
  rw [hl] at o1 o2
  have hmem : ∀ y ∈ a ++ b, y ∈ c.l := fun y hy => by rw [hl]; exact mem_mid hy
  refine ⟨?_, (pw_mid o1).1, fun y hy => h.pos y (hmem y hy), fun y hy => h.data y (hmem y hy), fun y hy => h.used y (hmem y hy), (pw_mid o2).1, h.hsets, h.hways, h.hclock⟩
  have := h.few
  rw [hl] at this
  simp at this ⊢; omega
/-- One more. -/
theorem CGood.one {a b : List Ent} {x : Ent} (h : CGood N c) (hl : c.l = a ++ b) (hn : ∀ y ∈ c.l, y.line ≠ x.line) (h0 : 0 ≤ x.line) (hd : x.data.length ≤ 60) (hu : x.used = c.clock + 1) : CGood (N + 1) { c with l := a ++ x :: b, clock := c.clock + 1 } := by
  have o1 := h.once
  have o2 := h.uses
  rw [hl] at o1 o2
  have hmem : ∀ y, y ∈ a ++ b ↔ y ∈ c.l := fun y => by rw [hl]
  have hk := h.hclock
  have hused : ∀ y ∈ a ++ b, y.used ≠ x.used := fun y hy => by have := (h.used y ((hmem y).1 hy)).2; omega
  refine ⟨?_, pw_mid_mk o1 (fun y hy => hn y ((hmem y).1 (List.mem_append.2 (.inl hy)))) (fun y hy e => hn y ((hmem y).1 (List.mem_append.2 (.inr hy))) e.symm), ?_, ?_, ?_, pw_mid_mk o2 (fun y hy => hused y (List.mem_append.2 (.inl hy))) (fun y hy e => hused y (List.mem_append.2 (.inr hy)) e.symm), h.hsets, h.hways, ?_⟩
  · have := h.few
    rw [hl] at this
    simp at this ⊢; omega
  · intro y hy
    rcases mem_mid_iff.1 hy with rfl | hy
    · exact h0
    · exact h.pos y ((hmem y).1 hy)
  · intro y hy
    rcases mem_mid_iff.1 hy with rfl | hy
    · exact hd
    · exact h.data y ((hmem y).1 hy)
  · intro y hy
    show 1 ≤ y.used ∧ y.used ≤ c.clock + 1
    rcases mem_mid_iff.1 hy with rfl | hy
    · omega
    · have := h.used y ((hmem y).1 hy); omega
  · show 0 ≤ c.clock + 1 ∧ c.clock + 1 ≤ ((N + 1 : Nat) : Int)
    omega
end
/-- Both caches have the same entries; the document's lie by rising line. -/
structure CSim (N : Nat) (c q : CacheS) : Prop where
  good : CGood N c
  perm : c.l.Perm q.l
  rise : q.l.Pairwise fun a b => a.line < b.line
  sets : q.sets = c.sets
  ways : q.ways = c.ways
  clock : q.clock = c.clock
theorem CSim.more {N N' : Nat} {c q : CacheS} (h : CSim N c q) (hN : N ≤ N') : CSim N' c q := ⟨h.good.more hN, h.perm, h.rise, h.sets, h.ways, h.clock⟩
section
variable {N : Nat} {c q : CacheS} (h : CSim N c q) (hN : N ≤ 60)
include h
theorem CSim.len : q.l.length = c.l.length := h.perm.length_eq.symm
theorem CSim.mem {e : Ent} : e ∈ q.l ↔ e ∈ c.l := h.perm.mem_iff.symm
theorem CSim.one {x y : Ent} (hx : x ∈ c.l) (hy : y ∈ c.l) (hl : x.line = y.line) : x = y := by
  obtain ⟨i, hi, rfl⟩ := List.mem_iff_getElem.1 hx
  obtain ⟨j, hj, rfl⟩ := List.mem_iff_getElem.1 hy
  have h1 := List.pairwise_iff_getElem.1 h.good.once
  rcases Nat.lt_trichotomy i j with k | k | k
  · exact absurd hl (h1 i j hi hj k)
  · subst k; rfl
  · exact absurd hl.symm (h1 j i hj hi k)
/-- A line is in both, or in none. -/
theorem CSim.where (line : Int) : (idx c.l line = none ∧ idx q.l line = none) ∨ ∃ a b a' b' e, c.l = a ++ e :: b ∧ q.l = a' ++ e :: b' ∧ e.line = line ∧ idx c.l line = some a.length ∧ idx q.l line = some a'.length := by
  cases hi : idx c.l line with
  | none =>
    left
    refine ⟨rfl, idx_none_iff.2 fun x hx => idx_none_iff.1 hi x (h.mem.1 hx)⟩
  | some i =>
    right
    obtain ⟨a, e, b, h1, h2, h3, h4⟩ := idx_split hi
    cases hj : idx q.l line with
    | none => exact absurd h3 (idx_none_iff.1 hj e (h.mem.2 (by rw [h1]; simp)))
    | some j =>
      obtain ⟨a', e', b', k1, k2, k3, k4⟩ := idx_split hj
      have : e' = e := h.one (h.mem.1 (by rw [k1]; simp)) (by rw [h1]; simp) (by rw [k3, h3])
      subst this
      exact ⟨a, b, a', b', e', h1, k1, h3, by rw [h2], by rw [k2]⟩
theorem CSim.perm_mid {a b a' b' : List Ent} {e : Ent} (h1 : c.l = a ++ e :: b) (h2 : q.l = a' ++ e :: b') : (a ++ b).Perm (a' ++ b') := by
  have hp := h.perm
  rw [h1, h2] at hp
  exact (List.Perm.trans (List.Perm.symm List.perm_middle) (List.Perm.trans hp List.perm_middle)).cons_inv
theorem CSim.set {a b a' b' : List Ent} {e x : Ent} (h1 : c.l = a ++ e :: b) (h2 : q.l = a' ++ e :: b') (hx : x.line = e.line) (hd : x.data.length ≤ 60) (k : Int) (hk : c.clock ≤ k ∧ k ≤ N) (hu : x.used = e.used ∨ x.used = k ∧ c.clock < k) :
    CSim N { c with l := a ++ x :: b, clock := k } { q with l := a' ++ x :: b', clock := k } := by
  have hr := h.rise
  rw [h2] at hr
  obtain ⟨r1, r2, r3⟩ := pw_mid hr
  refine ⟨h.good.set h1 hx hd k hk hu, List.Perm.trans List.perm_middle (List.Perm.trans (List.Perm.cons x (h.perm_mid h1 h2)) (List.Perm.symm List.perm_middle)), pw_mid_mk r1 (fun y hy => by rw [hx]; exact r2 y hy) (fun y hy => by rw [hx]; exact r3 y hy), h.sets, h.ways, rfl⟩
theorem CSim.less {a b a' b' : List Ent} {e : Ent} (h1 : c.l = a ++ e :: b) (h2 : q.l = a' ++ e :: b') : CSim N { c with l := a ++ b } { q with l := a' ++ b' } := by
  have hr := h.rise
  rw [h2] at hr
  exact ⟨h.good.less h1, h.perm_mid h1 h2, (pw_mid hr).1, h.sets, h.ways, h.clock⟩
theorem CSim.setLen (line : Int) : (setL q line).length = (setL c line).length := by
  unfold setL
  rw [h.sets]
  exact ((h.perm.filter _).length_eq).symm
include hN
theorem CSim.find (line : Int) : ∃ e b, findS c line = some (e, b) ∧ ratS q line = some (idxI q.l line) ∧ (b = false → e = zeroE ∧ idxI q.l line = -1) ∧ (b = true → e ∈ c.l ∧ e.line = line ∧ 0 ≤ idxI q.l line ∧ idxI q.l line < ((q.l.length : Nat) : Int) ∧ nthT q.l (idxI q.l line) = e) := by
  have ok := h.good.ok (by omega)
  have hq : q.l.length ≤ 60 := by rw [h.len]; have := h.good.few; omega
  unfold findS
  rw [chk_true ok, rat_is q line hq]
  rcases h.where line with ⟨h1, h2⟩ | ⟨a, b, a', b', e, h1, h2, h3, h4, h5⟩
  · refine ⟨zeroE, false, by simp [findE, h1], rfl, fun _ => ⟨rfl, idxI_none h2⟩, fun e => by cases e⟩
  · refine ⟨e, true, ?_, rfl, fun e => (by cases e), fun _ => ⟨by rw [h1]; simp, h3, ?_⟩⟩
    · simp only [findE, h4]
      rw [h1, getD_mid]
    · rw [idxI_some h5]
      refine ⟨by omega, ?_, ?_⟩
      · rw [h2]; simp; omega
      · rw [h2]; exact nthT_mid
theorem CSim.drop (line : Int) : ∃ e b c' q', dropS c line = some (e, b, c') ∧ rdropS q line = some (e, b, q') ∧ CSim N c' q' ∧ (b = false → e = zeroE) := by
  have ok := h.good.ok (by omega)
  have hfew := h.good.few
  have hq : q.l.length ≤ 60 := by rw [h.len]; omega
  unfold dropS rdropS
  rw [chk_true ok, rat_is q line hq, Option.bind_some]
  rcases h.where line with ⟨h1, h2⟩ | ⟨a, b, a', b', e, h1, h2, h3, h4, h5⟩
  · rw [idxI_none h2, bif_t (by simp)]
    exact ⟨zeroE, false, c, q, by simp [findE, dropC, h1], rfl, h, fun _ => rfl⟩
  · have hlen : (a'.length : Int) < ((q.l.length : Nat) : Int) := by rw [h2]; simp; omega
    have hl2 : a'.length + b'.length ≤ 60 := by rw [h2] at hq; simp at hq; omega
    have hw : wr ((a'.length : Int) + 1) = (a'.length : Int) + 1 := wr_small (by omega)
    have e1 : (q.l.drop 0).take ((a'.length : Int).toNat - 0) = a' := by rw [h2]; simp
    have e2 : (q.l.drop ((a'.length : Int) + 1).toNat).take (q.l.length - ((a'.length : Int) + 1).toNat) = b' := by
      rw [show ((a'.length : Int) + 1).toNat = a'.length + 1 by omega, h2, List.take_of_length_le (by rw [List.length_drop]; exact Nat.le_refl _)]
      simp [List.drop_append]
    rw [idxI_some h5, bif_f (decide_eq_false (by omega)), chk_true ⟨by omega, hlen⟩, hw]
    unfold letP
    dsimp only
    rw [chk_true ⟨by omega, by omega, by omega⟩, e1, chk_true ⟨by omega, by omega, by omega⟩, e2, chk_true (by omega), chk_true (by rw [List.length_append]; omega)]
    refine ⟨e, true, { c with l := a ++ b }, { q with l := a' ++ b' }, ?_, ?_, h.less h1 h2, fun e => by cases e⟩
    · simp only [findE, dropC, h4]
      rw [h1, getD_mid, erase_mid]
    · rw [h2, nthT_mid]
end
end Go.Proofs.Ytfndeehlbcbkpaa
