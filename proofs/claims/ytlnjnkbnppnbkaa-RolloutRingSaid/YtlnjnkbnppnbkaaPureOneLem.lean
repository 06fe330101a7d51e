/- Caches of one entry, one beside another: plain lemmas. -/
import Derived.Test.YtlnjnkbnppnbkaaSlPtrs
import Derived.Test.YtlnjnkbnppnbkaaSvA
import Derived.Test.YtlnjnkbnppnbkaaDeA
set_option linter.unusedSectionVars false
set_option linter.unusedSimpArgs false
set_option linter.unusedVariables false
namespace Go.Proofs.Ytlnjnkbnppnbkaa
open Go
theorem bif_t {α : Type} {c : Bool} {x y : α} (h : c = true) : (bif c then x else y) = x := by subst h; rfl
theorem bif_f {α : Type} {c : Bool} {x y : α} (h : c = false) : (bif c then x else y) = y := by subst h; rfl
theorem wr_small {x : Int} (h : x.natAbs ≤ 1000000) : wr x = x := wr_in (by omega) (by omega)
theorem within_is {v n : Int} (h1 : 1 ≤ n) (h2 : n ≤ 5000) : ∃ k, withinS v n = some k ∧ 0 ≤ k ∧ k < n := by
  refine ⟨v % n, ?_, Int.emod_nonneg v (by omega), Int.emod_lt_of_pos v (by omega)⟩
  unfold withinS
  rw [chk_true ⟨h1, by omega⟩]
theorem enew_is (l f b : Int) (d : Bool) (xs : List Int) (h : xs.length ≤ 1000) : enewS l f b d xs = some ⟨f, b, l, 0, d, xs⟩ := by
  unfold enewS
  rw [chk_true (show okL xs by unfold okL; omega)]
theorem bif_and {P Q : Prop} [Decidable P] [Decidable Q] : (bif decide P then some (decide Q) else some false) = some (decide (P ∧ Q)) := by
  by_cases h : P
  · rw [bif_t (decide_eq_true h)]; simp [h]
  · rw [bif_f (decide_eq_false h)]; simp [h]
theorem pbelow_is (n l b : Int) : pbelowS n l b = some (decide (l ≤ n ∧ n < b)) := by unfold pbelowS; exact bif_and
/-- A packet's bounds. -/
def okP (p : PktS) : Bool := decide (0 ≤ p.src ∧ p.src < 6) && (decide (0 ≤ p.dst ∧ p.dst < 6) && (decide (0 ≤ p.id ∧ p.id < 4096) && (decide (1 ≤ p.kind ∧ p.kind < 10) && (decide (0 ≤ p.line ∧ p.line < 8) && (decide (-1 ≤ p.ptr ∧ p.ptr < 6) && (decide (0 ≤ p.state ∧ p.state < 3) && !decide (4 < ((p.data.length : Nat) : Int))))))))
theorem pcheck_is (p : PktS) : pcheckS p = some (bif okP p then 0 else 1) := by
  unfold pcheckS pcheckS_j0 pcheckS_j1 okP
  simp only [pbelow_is, Option.bind_some]
  generalize decide (0 ≤ p.src ∧ p.src < 6) = b1
  generalize decide (0 ≤ p.dst ∧ p.dst < 6) = b2
  generalize decide (0 ≤ p.id ∧ p.id < 4096) = b3
  generalize decide (1 ≤ p.kind ∧ p.kind < 10) = b4
  generalize decide (0 ≤ p.line ∧ p.line < 8) = b5
  generalize decide (-1 ≤ p.ptr ∧ p.ptr < 6) = b6
  generalize decide (0 ≤ p.state ∧ p.state < 3) = b7
  generalize decide (4 < ((p.data.length : Nat) : Int)) = b8
  cases b1 <;> cases b2 <;> cases b3 <;> cases b4 <;> cases b5 <;> cases b6 <;> cases b7 <;> cases b8 <;> rfl
/-- The kind of the answer to a step's request. -/
def wantK (s : Int) : Int := if s = 1 then 7 else if s = 2 then 9 else if s = 3 then 9 else if s = 4 then 8 else if s = 5 then 8 else if s = 6 then 8 else 0
def fitB (d : DealS) (p : PktS) : Bool := decide (wantK d.step ≠ 0) && (decide (p.kind = wantK d.step) && (decide (p.id = d.id) && decide (p.line = d.line)))
theorem bif_and4 {P Q R S : Prop} [Decidable P] [Decidable Q] [Decidable R] [Decidable S] : (bif decide P then (bif decide Q then (bif decide R then some (decide S) else some false) else some false) else some false) = some (decide P && (decide Q && (decide R && decide S))) := by
  by_cases p : P <;> by_cases q : Q <;> by_cases r : R <;> simp [p, q, r]
theorem fit_d (d : DealS) (p : PktS) : dfitsS d p = some (fitB d p) := by
  have hk : (dkindS d.step).bind pansS = some (wantK d.step) := by
    unfold dkindS wantK
    by_cases h1 : d.step = 1
    · rw [h1]; rfl
    by_cases h2 : d.step = 2
    · rw [h2]; rfl
    by_cases h3 : d.step = 3
    · rw [h3]; rfl
    by_cases h4 : d.step = 4
    · rw [h4]; rfl
    by_cases h5 : d.step = 5
    · rw [h5]; rfl
    by_cases h6 : d.step = 6
    · rw [h6]; rfl
    simp only [if_neg h1, if_neg h2, if_neg h3, if_neg h4, if_neg h5, if_neg h6]
    rw [bif_f (decide_eq_false h1), bif_f (decide_eq_false h2), bif_f (decide_eq_false h3), bif_f (decide_eq_false h4), bif_f (decide_eq_false h5), bif_f (decide_eq_false h6)]; rfl
  unfold dfitsS fitB
  cases hd : dkindS d.step with
  | none => rw [hd] at hk; cases hk
  | some k =>
    rw [hd] at hk
    rw [Option.bind_some]
    have hk : pansS k = some (wantK d.step) := hk
    rw [hk, Option.bind_some]
    have := bif_and4 (P := wantK d.step ≠ 0) (Q := p.kind = wantK d.step) (R := p.id = d.id) (S := p.line = d.line)
    rw [show (decide (wantK d.step ≠ 0)) = !decide (wantK d.step = 0) by simp] at this
    rw [this]; simp
theorem copy_is (xs : List Int) (h : xs.length ≤ 60) : copyS xs = some xs := by
  unfold copyS
  rw [chk_true (show okL xs by unfold okL; omega)]
def one1 (f b : Int) (d : Bool) (v l : Int) : CacheS := ⟨[⟨f, b, l, 1, d, [v]⟩], 1, 1, 1⟩
def emp : CacheS := ⟨[], 1, 1, 0⟩
theorem newC_emp : newC 1 1 = emp := rfl
theorem one1_ok (f b : Int) (d : Bool) (v l : Int) : okC (one1 f b d v l) := ⟨by simp [one1], by simp [one1], by simp [one1], by simp [one1], by simp [one1]⟩
theorem emp_ok : okC emp := ⟨by simp [emp], by simp [emp], by simp [emp], by simp [emp], by simp [emp]⟩
theorem idx_one (f b : Int) (d : Bool) (v l : Int) : idx (one1 f b d v l).l l = some 0 := by simp [idx, one1, List.findIdx?_cons]
theorem find_one (f b : Int) (d : Bool) (v l : Int) : findS (one1 f b d v l) l = some (⟨f, b, l, 1, d, [v]⟩, true) := by
  unfold findS
  rw [chk_true (one1_ok ..)]
  simp only [findE, idx_one]
  rfl
theorem drop_one (f b : Int) (d : Bool) (v l : Int) : dropS (one1 f b d v l) l = some (⟨f, b, l, 1, d, [v]⟩, true, ⟨[], 1, 1, 1⟩) := by
  unfold dropS
  rw [chk_true (one1_ok ..)]
  simp only [findE, dropC, idx_one]
  rfl
theorem put_emp (f b l u v : Int) (d : Bool) (hl : 0 ≤ l) : putS emp ⟨f, b, l, u, d, [v]⟩ = some (0, one1 f b d v l) := by
  unfold putS
  rw [chk_true ⟨emp_ok, by unfold okL; simp⟩]
  have h0 : ¬ l < 0 := by omega
  simp [putC, h0, idx, emp, setL, one1]
theorem put_one (f b : Int) (d : Bool) (v l : Int) (f' b' u : Int) (d' : Bool) (hl : 0 ≤ l) : putS (one1 f b d v l) ⟨f', b', l, u, d', [v]⟩ = some (0, one1 f' b' d' v l) := by
  unfold putS
  rw [chk_true ⟨one1_ok .., by unfold okL; simp⟩]
  have h0 : ¬ l < 0 := by omega
  simp only [putC, h0, if_false, idx_one]
  rfl
section
variable {f b v l : Int} {d : Bool} (p : PktS) (hp : okP p = true) (hl : p.line = l)
include hp hl
theorem serve_in (hk : 3 ≤ p.kind ∧ p.kind ≤ 6) (c : CacheS) : shandleS c p = shandleS_j0 c p false := by
  unfold shandleS
  rw [pcheck_is, hp, Option.bind_some, bif_f (by rfl), bif_f (decide_eq_false (by omega)), decide_eq_false (by omega)]
theorem line_pos : 0 ≤ l := by
  unfold okP at hp
  simp only [Bool.and_eq_true, decide_eq_true_eq] at hp
  omega
theorem serve3 (hk : p.kind = 3) : shandleS (one1 f b d v l) p = some (⟨9, p.dst, p.src, p.id, p.line, 0, 0, d, [v]⟩, 0, one1 f p.ptr false v l) := by
  rw [serve_in p hp hl (by omega)]
  unfold shandleS_j0
  rw [bif_f rfl, hl, find_one, Option.bind_some]
  dsimp only
  rw [bif_f (by rfl), hk, show pansS 3 = some 9 from rfl, Option.bind_some, bif_t (by decide), put_one _ _ _ _ _ _ _ _ _ (line_pos p hp hl)]; rfl
theorem serve4 (hk : p.kind = 4) : shandleS (one1 f b d v l) p = some (⟨8, p.dst, p.src, p.id, p.line, 0, 0, false, []⟩, 0, one1 p.ptr b d v l) := by
  rw [serve_in p hp hl (by omega)]
  unfold shandleS_j0
  rw [bif_f rfl, hl, find_one, Option.bind_some]
  dsimp only
  rw [bif_f (by rfl), hk, show pansS 4 = some 8 from rfl, Option.bind_some, bif_f (by decide), bif_t (by decide), put_one _ _ _ _ _ _ _ _ _ (line_pos p hp hl)]; rfl
theorem serve5 (hk : p.kind = 5) : shandleS (one1 f b d v l) p = some (⟨8, p.dst, p.src, p.id, p.line, 0, 0, false, []⟩, 0, one1 f p.ptr d v l) := by
  rw [serve_in p hp hl (by omega)]
  unfold shandleS_j0
  rw [bif_f rfl, hl, find_one, Option.bind_some]
  dsimp only
  rw [bif_f (by rfl), hk, show pansS 5 = some 8 from rfl, Option.bind_some, bif_f (by decide), bif_f (by decide), bif_t (by decide), put_one _ _ _ _ _ _ _ _ _ (line_pos p hp hl)]; rfl
end
/-! Some caches, by a function of their number. -/
def mk (m : Nat) (f : Nat → CacheS) : List CacheS := (List.range m).map f
theorem mk_len (m : Nat) (f : Nat → CacheS) : (mk m f).length = m := by simp [mk]
theorem mk_nth {m : Nat} {f : Nat → CacheS} {i : Int} (h : 0 ≤ i ∧ i < (m : Int)) : nthC (mk m f) i = f i.toNat := by
  unfold nthC mk
  have : i.toNat < m := by omega
  rw [List.getD_eq_getElem?_getD, List.getElem?_map, List.getElem?_range this]; rfl
theorem mk_congr {m : Nat} {f g : Nat → CacheS} (h : ∀ j, j < m → f j = g j) : mk m f = mk m g := by
  unfold mk
  exact List.map_congr_left fun j hj => h j (List.mem_range.1 hj)
theorem mk_set {m : Nat} {f : Nat → CacheS} (i : Int) (x : CacheS) : setC (mk m f) i x = mk m fun j => if j = i.toNat then x else f j := by
  unfold setC mk
  apply List.ext_getElem?
  intro j
  rw [List.getElem?_set, List.getElem?_map, List.getElem?_map, List.length_map, List.length_range]
  by_cases hj : j < m
  · rw [List.getElem?_range hj]
    by_cases hi : i.toNat = j
    · subst hi; simp [hj]
    · rw [if_neg hi]
      simp [Ne.symm hi]
  · have : (List.range m)[j]? = none := List.getElem?_eq_none (by simpa using hj)
    rw [this]
    by_cases hi : i.toNat = j
    · subst hi; simp [hj]
    · rw [if_neg hi]; rfl
theorem mk_snoc (m : Nat) (f : Nat → CacheS) {x : CacheS} (h : x = f m) : mk m f ++ [x] = mk (m + 1) f := by
  unfold mk
  rw [List.range_succ, List.map_append, h]; rfl
end Go.Proofs.Ytlnjnkbnppnbkaa
