/- What comes of an answer, in both writings of deals: alike, and the caches stay in step. -/
import Derived.Test.YtfndeehlbcbkpaaPureBothLem
import Derived.Test.YtfndeehlbcbkpaaDeA
import Derived.Test.YtfndeehlbcbkpaaRfA
import Derived.Test.YtfndeehlbcbkpaaRawA
set_option linter.unusedSectionVars false
set_option linter.unusedSimpArgs false
set_option linter.unusedVariables false
namespace Go.Proofs.Ytfndeehlbcbkpaa
open Go
/-- The kind of the answer to a step's request. -/
def wantK (s : Int) : Int := if s = 1 then 7 else if s = 2 then 9 else if s = 3 then 9 else if s = 4 then 8 else if s = 5 then 8 else if s = 6 then 8 else 0
def fitB (d : DealS) (p : PktS) : Bool := decide (wantK d.step ≠ 0) && (decide (p.kind = wantK d.step) && (decide (p.id = d.id) && decide (p.line = d.line)))
theorem bif_and4 {P Q R S : Prop} [Decidable P] [Decidable Q] [Decidable R] [Decidable S] : (bif decide P then (bif decide Q then (bif decide R then some (decide S) else some false) else some false) else some false) = some (decide P && (decide Q && (decide R && decide S))) := by
  by_cases p : P <;> by_cases q : Q <;> by_cases r : R <;> simp [p, q, r]
theorem fit_d (d : DealS) (p : PktS) : dfitsS d p = some (fitB d p) := by
  have hk : (dkindS d.step).bind pansS = some (wantK d.step) := by
    unfold dkindS wantK
    by_cases h1 : d.step = 1
    · rw [h1]; rfl
    by_cases h2 : d.step = 2
    · rw [h2]; rfl
    by_cases h3 : d.step = 3
    · rw [h3]; rfl
    by_cases h4 : d.step = 4
    · rw [h4]; rfl
    by_cases h5 : d.step = 5
    · rw [h5]; rfl
    by_cases h6 : d.step = 6
    · rw [h6]; rfl
    simp only [if_neg h1, if_neg h2, if_neg h3, if_neg h4, if_neg h5, if_neg h6]
    rw [bif_f (decide_eq_false h1), bif_f (decide_eq_false h2), bif_f (decide_eq_false h3), bif_f (decide_eq_false h4), bif_f (decide_eq_false h5), bif_f (decide_eq_false h6)]; rfl
  unfold dfitsS fitB
  cases hd : dkindS d.step with
  | none => rw [hd] at hk; cases hk
  | some k =>
    rw [hd] at hk
    rw [Option.bind_some]
    have hk : pansS k = some (wantK d.step) := hk
    rw [hk, Option.bind_some]
    have := bif_and4 (P := wantK d.step ≠ 0) (Q := p.kind = wantK d.step) (R := p.id = d.id) (S := p.line = d.line)
    rw [show (decide (wantK d.step ≠ 0)) = !decide (wantK d.step = 0) by simp] at this
    rw [this]; simp
theorem fit_r (d : DealS) (p : PktS) (hn : d.data.length ≤ 60) : rfits7S d p = some (fitB d p) := by
  have hk : ∃ a, rask7S d 0 0 = some a ∧ ransS a.kind = some (wantK d.step) := by
    unfold rask7S wantK
    by_cases h1 : d.step = 1
    · rw [h1]; exact ⟨_, rfl, rfl⟩
    rw [bif_f (decide_eq_false h1)]
    by_cases h6 : d.step = 6
    · rw [h6, bif_t (by rfl)]
      by_cases h0 : 0 < ((d.data.length : Nat) : Int)
      · rw [bif_t (decide_eq_true h0), chk_true (by omega)]; exact ⟨_, rfl, rfl⟩
      · rw [bif_f (decide_eq_false h0)]; exact ⟨_, rfl, rfl⟩
    rw [bif_f (decide_eq_false h6)]
    by_cases h2 : d.step = 2
    · rw [h2]; exact ⟨_, rfl, rfl⟩
    rw [bif_f (decide_eq_false h2)]
    by_cases h3 : d.step = 3
    · rw [h3]; exact ⟨_, rfl, rfl⟩
    rw [bif_f (decide_eq_false h3)]
    by_cases h4 : d.step = 4
    · rw [h4]; exact ⟨_, rfl, rfl⟩
    rw [bif_f (decide_eq_false h4)]
    by_cases h5 : d.step = 5
    · rw [h5]; exact ⟨_, rfl, rfl⟩
    rw [bif_f (decide_eq_false h5)]
    simp only [if_neg h1, if_neg h2, if_neg h3, if_neg h4, if_neg h5, if_neg h6]
    exact ⟨_, rfl, rfl⟩
  obtain ⟨a, k1, k2⟩ := hk
  have hw : decide (0 < wantK d.step) = decide (wantK d.step ≠ 0) := by
    unfold wantK
    repeat' split
    all_goals decide
  unfold rfits7S fitB
  rw [k1, Option.bind_some, k2, Option.bind_some, hw]
  exact bif_and4
theorem copy_is (xs : List Int) (h : xs.length ≤ 60) : copyS xs = some xs := by
  unfold copyS
  rw [chk_true (show okL xs by unfold okL; omega)]
theorem unlock_is (d : DealS) (s h : Int) (xs : List Int) (hx : xs.length ≤ 60) : runlockS d s h xs = some ⟨d.kind, d.line, d.id, 6, s, h, xs, d.next, d.told⟩ := by
  unfold runlockS
  rw [chk_true (by omega)]; rfl
/-- Both give the same, and the caches stay in step. -/
def Alike (N : Nat) (a b : Option (DealS × Bool × CacheS)) : Prop := ∃ d ok c q, a = some (d, ok, c) ∧ b = some (d, ok, q) ∧ CSim N c q ∧ d.data.length ≤ 60
theorem Alike.out {N : Nat} {a b : Option (DealS × Bool × CacheS)} (h : Alike N a b) : ∃ d ok c q, a = some (d, ok, c) ∧ b = some (d, ok, q) ∧ CSim N c q ∧ d.data.length ≤ 60 := h
theorem alike_bind {N : Nat} {a b : Option (DealS × Bool × CacheS)} (h : Alike N a b) : Alike N (a.bind fun y => some (y.1, y.2.1, y.2.2)) (b.bind fun y => some (y.1, y.2.1, y.2.2)) := by
  obtain ⟨d, ok, c, q, rfl, rfl, h1, h2⟩ := h
  exact ⟨d, ok, c, q, rfl, rfl, h1, h2⟩
/-- The way in of the second writing. -/
theorem rnext_in (d : DealS) (node : Int) (q : CacheS) (p : PktS) (hd : d.data.length ≤ 60) (hk : d.kind = 1 ∨ d.kind = 3) : rnext7S d node q p = rnext7S_j0 q d p node (!fitB d p) := by
  unfold rnext7S
  rw [fit_r d p hd, Option.bind_some]
  cases fitB d p with
  | false => rw [bif_t (by rfl)]; rfl
  | true =>
    rw [bif_f (by rfl), bif_f (decide_eq_false (by omega)), decide_eq_false (by omega)]; rfl
theorem fit_want {d : DealS} {p : PktS} (h : fitB d p = true) : d.step = 1 ∨ d.step = 2 ∨ d.step = 3 ∨ d.step = 4 ∨ d.step = 5 ∨ d.step = 6 := by
  unfold fitB at h
  simp only [Bool.and_eq_true, decide_eq_true_eq] at h
  have := h.1
  unfold wantK at this
  by_cases h1 : d.step = 1
  · exact .inl h1
  by_cases h2 : d.step = 2
  · exact .inr (.inl h2)
  by_cases h3 : d.step = 3
  · exact .inr (.inr (.inl h3))
  by_cases h4 : d.step = 4
  · exact .inr (.inr (.inr (.inl h4)))
  by_cases h5 : d.step = 5
  · exact .inr (.inr (.inr (.inr (.inl h5))))
  by_cases h6 : d.step = 6
  · exact .inr (.inr (.inr (.inr (.inr h6))))
  simp [h1, h2, h3, h4, h5, h6] at this
theorem ksame_is (xs : List Int) (h : xs.length ≤ 60) : ksameS xs xs = some true := by
  unfold ksameS
  rw [chk_true (show okL xs by unfold okL; omega)]; simp
theorem same13_is (d : DealS) (h : d.data.length ≤ 60) : same13S d d = some true := by
  unfold same13S
  rw [bif_t (by simp), bif_t (by simp), bif_t (by simp), bif_t (by simp), bif_t (by simp), bif_t (by simp), bif_t (by simp), bif_t (by simp), ksame_is d.data h]; rfl
theorem deal13_is (x : RawS) : ∃ d, deal13S x = some d ∧ d.data.length ≤ 60 ∧ 0 ≤ d.step ∧ d.step < 8 := by
  obtain ⟨k1, e1, _⟩ := within_is (v := x.kind) (n := 5) (by omega) (by omega)
  obtain ⟨k2, e2, _⟩ := within_is (v := x.line) (n := 4) (by omega) (by omega)
  obtain ⟨k3, e3, _⟩ := within_is (v := x.id) (n := 5) (by omega) (by omega)
  obtain ⟨k4, e4, s1, s2⟩ := within_is (v := x.step) (n := 8) (by omega) (by omega)
  obtain ⟨k5, e5, _⟩ := within_is (v := x.state) (n := 3) (by omega) (by omega)
  obtain ⟨k6, e6, _⟩ := within_is (v := x.head) (n := 5) (by omega) (by omega)
  obtain ⟨k7, e7, _⟩ := within_is (v := x.next) (n := 5) (by omega) (by omega)
  obtain ⟨k8, e8, _⟩ := within_is (v := x.told) (n := 5) (by omega) (by omega)
  obtain ⟨ys, e9, e10⟩ := cut_is x.data (n := 3) (by omega) (by omega)
  unfold deal13S
  rw [e1, Option.bind_some, e2, Option.bind_some, e3, Option.bind_some, e4, Option.bind_some, e5, Option.bind_some, e6, Option.bind_some, e7, Option.bind_some, e8, Option.bind_some, e9, Option.bind_some]
  exact ⟨_, rfl, by show ys.length ≤ 60; omega, s1, s2⟩
/-- A packet by small numbers has few words. -/
def Few (a : Option PktS) : Prop := ∃ y, a = some y ∧ y.data.length ≤ 60
theorem few_bif {c : Bool} {a b : Option PktS} (h1 : Few a) (h2 : Few b) : Few (bif c then a else b) := by cases c <;> assumption
theorem few_bind {α : Type} {a : Option α} {f : α → Option PktS} (h1 : ∃ y, a = some y) (h2 : ∀ x, Few (f x)) : Few (a.bind f) := by
  obtain ⟨x, rfl⟩ := h1
  exact h2 x
theorem few_cut {xs : List Int} {n : Int} (h1 : 0 ≤ n) (h2 : n ≤ 60) {f : List Int → Option PktS} (h : ∀ ys : List Int, ys.length ≤ 60 → Few (f ys)) : Few ((cutS xs n).bind f) := by
  obtain ⟨ys, e1, e2⟩ := cut_is xs (n := n) h1 (by omega)
  rw [e1]
  exact h ys (by omega)
theorem plpacket_few (p : PktS) (how : Int) : Few (plpacketS p how) := by
  unfold plpacketS plpacketS_j0
  repeat' first
    | exact ⟨_, rfl, by assumption⟩
    | exact ⟨_, rfl, Nat.le_trans (List.length_take_le _ _) (by decide)⟩
    | refine few_bif ?_ ?_
    | refine few_cut (by omega) (by omega) fun _ _ => ?_
    | refine few_bind (exI_within _ _ (by omega) (by omega)) fun _ => ?_
end Go.Proofs.Ytfndeehlbcbkpaa
