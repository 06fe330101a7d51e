/- The law DealForms answers true at every input: the plain side. -/
import Derived.Test.YtpcffplbedbpkaaLawDealForms
set_option linter.unusedSimpArgs false
set_option linter.unusedVariables false
namespace Go.Proofs.Ytpcffplbedbpkaa
open Go
theorem wakes13_is : wakes13S = some true := by rfl
theorem bif_t {α : Type} {c : Bool} {x y : α} (h : c = true) : (bif c then x else y) = x := by subst h; rfl
theorem bif_f {α : Type} {c : Bool} {x y : α} (h : c = false) : (bif c then x else y) = y := by subst h; rfl
theorem rsame_loop (p : PktS) (hp : p.data.length ≤ 3) : ∀ (d i fuel : Nat), i + d = p.data.length → d < fuel → rsameS_l1 p p rsameS_k1 fuel (i : Int) = some true := by
  intro d
  induction d with
  | zero =>
    intro i fuel hi hf
    obtain ⟨m, rfl⟩ : ∃ m, fuel = m + 1 := ⟨fuel - 1, by omega⟩
    have h1 : ¬ (i : Int) < ((p.data.length : Nat) : Int) := by omega
    rw [rsameS_l1]
    dsimp only
    rw [bif_f (decide_eq_false h1)]
    rfl
  | succ d ih =>
    intro i fuel hi hf
    obtain ⟨m, rfl⟩ : ∃ m, fuel = m + 1 := ⟨fuel - 1, by omega⟩
    have h1 : (i : Int) < ((p.data.length : Nat) : Int) := by omega
    have h2 : (0 : Int) ≤ (i : Int) := by omega
    have h4 : inR ((i : Int) + 1) := by unfold inR; omega
    rw [rsameS_l1]
    dsimp only
    rw [bif_t (decide_eq_true h1), chk_true ⟨h2, h1⟩, chk_true ⟨h2, h1⟩, bif_f (show (!decide (nth p.data (i : Int) = nth p.data (i : Int))) = false by simp), chk_true h4]
    have := ih (i + 1) m (by omega) (by omega)
    rw [show ((i + 1 : Nat) : Int) = (i : Int) + 1 by omega] at this
    exact this
theorem rsame_self (p : PktS) (hp : p.data.length ≤ 3) : rsameS p p = some true := by
  have h := rsame_loop p hp p.data.length 0 64 (by omega) (by omega)
  have h2 : rsameS_j0 p p false = some true := by
    unfold rsameS_j0
    rw [bif_f rfl]
    exact h
  unfold rsameS
  simp [h2]
theorem bump_ok (k : Int → Int → List Int → List Int → Option Bool) (hk : ∀ a b c d, k a b c d = some true) : ∀ (d i n : Nat) (xs ys : List Int) (fuel : Nat), xs.length = n → n ≤ 3 → i + d = n → d < fuel →
    dealFormsS_l1 k fuel (n : Int) (i : Int) xs ys = some true := by
  intro d
  induction d with
  | zero =>
    intro i n xs ys fuel hx hn hi hf
    obtain ⟨m, rfl⟩ : ∃ m, fuel = m + 1 := ⟨fuel - 1, by omega⟩
    have h1 : ¬ (i : Int) < (n : Int) := by omega
    rw [dealFormsS_l1]
    dsimp only
    rw [bif_f (decide_eq_false h1)]
    exact hk _ _ _ _
  | succ d ih =>
    intro i n xs ys fuel hx hn hi hf
    obtain ⟨m, rfl⟩ : ∃ m, fuel = m + 1 := ⟨fuel - 1, by omega⟩
    have h1 : (i : Int) < (n : Int) := by omega
    have h2 : (0 : Int) ≤ (i : Int) := by omega
    have h3 : (i : Int) < ((xs.length : Nat) : Int) := by omega
    have h4 : inR ((i : Int) + 1) := by unfold inR; omega
    rw [dealFormsS_l1]
    dsimp only
    rw [bif_t (decide_eq_true h1), chk_true ⟨h2, h3⟩, chk_true ⟨h2, h3⟩]
    unfold letP
    dsimp only
    rw [chk_true h4]
    have := ih (i + 1) n (setI xs (i : Int) (wr (nth xs (i : Int) + 1))) (setI xs (i : Int) (wr (nth xs (i : Int) + 1))) m (by simp [setI, hx]) hn (by omega) (by omega)
    rw [show ((i + 1 : Nat) : Int) = (i : Int) + 1 by omega] at this
    exact this
def six : List KV := [⟨0, .bool true, 0⟩, ⟨0, .bool true, 1⟩, ⟨0, .bool true, 2⟩, ⟨0, .bool true, 3⟩, ⟨0, .bool true, 4⟩, ⟨0, .bool true, 5⟩]
theorem six_push {seen : Array Nat} {j : Nat} (hj : j < 6) (hn : Array.contains seen j = false) : unseen six (seen.push j) < unseen six seen := by
  have hn2 : j ∉ seen := by simpa using hn
  have : j = 0 ∨ j = 1 ∨ j = 2 ∨ j = 3 ∨ j = 4 ∨ j = 5 := by omega
  rcases this with rfl | rfl | rfl | rfl | rfl | rfl
  · exact unseen_push (x := ⟨0, .bool true, 0⟩) (by simp [six]) hn2
  · exact unseen_push (x := ⟨0, .bool true, 1⟩) (by simp [six]) hn2
  · exact unseen_push (x := ⟨0, .bool true, 2⟩) (by simp [six]) hn2
  · exact unseen_push (x := ⟨0, .bool true, 3⟩) (by simp [six]) hn2
  · exact unseen_push (x := ⟨0, .bool true, 4⟩) (by simp [six]) hn2
  · exact unseen_push (x := ⟨0, .bool true, 5⟩) (by simp [six]) hn2
section
variable (home head node next state line id : Int) (xs : List Int)
/-- What comes of one entry, if what is behind it comes to true. -/
theorem one_ok (hx : xs.length ≤ 3) (k0 : Array Nat → Int → Option Bool) (m : Nat) (seen : Array Nat) (ex : Nat × Int × PktS) (p q : PktS)
    (ha : daskS ⟨1, line, id, ex.2.1, state, head, xs, next, 1⟩ node home = some p)
    (hs : rsameS p ⟨ex.2.2.kind, node, ex.2.2.dst, id, line, ex.2.2.ptr, ex.2.2.state, ex.2.2.flag, ex.2.2.data⟩ = some true) (hp : p.data.length ≤ 3)
    (hr : dealFormsS_l0 home head node next state xs line id k0 m (Array.push seen ex.1) ex.2.1 = some true) :
    ((daskS (⟨1, line, id, ex.2.1, state, head, xs, next, 1⟩ : DealS) node home).bind fun y9_3 => (rsameS y9_3 (⟨ex.2.2.kind, node, ex.2.2.dst, id, line, ex.2.2.ptr, ex.2.2.state, ex.2.2.flag, ex.2.2.data⟩ : PktS)).bind fun y10_2 => (bif !y10_2 then some false else dealFormsS_l1 (dealFormsS_k1 line id ex state head xs next node home (dealFormsS_l0 home head node next state xs line id k0 m) seen) 8 (((List.length y9_3.data) : Nat) : Int) 0 y9_3.data y9_3.data)) = some true := by
  rw [ha, Option.bind_some, hs, Option.bind_some, bif_f (show (!true) = false from rfl)]
  have := bump_ok (dealFormsS_k1 line id ex state head xs next node home (dealFormsS_l0 home head node next state xs line id k0 m) seen) (fun a b c d => by
    unfold dealFormsS_k1
    rw [ha, Option.bind_some, hs, Option.bind_some, bif_f (show (!true) = false from rfl)]
    exact hr) p.data.length 0 p.data.length p.data p.data 8 rfl hp (by omega) (by omega)
  simpa using this
theorem loop_ok (hx : xs.length ≤ 3) (k0 : Array Nat → Int → Option Bool) (hk : ∀ s z, k0 s z = some true) : ∀ (fuel : Nat) (seen : Array Nat) (z : Int), unseen six seen < fuel →
    dealFormsS_l0 home head node next state xs line id k0 fuel seen z = some true := by
  intro fuel
  induction fuel with
  | zero => intro seen z h; exact absurd h (Nat.not_lt_zero _)
  | succ m ih =>
    intro seen z h
    have hx2 : xs.length ≤ 1099511627776 := by omega
    rw [dealFormsS_l0]
    dsimp only
    refine andB_mk (allB_mk fun ex hex => ?_) (hk _ _)
    by_cases hc : Array.contains seen ex.1 = true
    · rw [bif_t hc]
    · have hc2 : Array.contains seen ex.1 = false := by simpa using hc
      rw [bif_f hc2]
      have hr : ex.1 < 6 → dealFormsS_l0 home head node next state xs line id k0 m (Array.push seen ex.1) ex.2.1 = some true := fun hj => ih _ _ (by have := six_push hj hc2; omega)
      have hcp : copyS xs = some xs := by unfold copyS; exact chk_true hx2
      simp only [List.mem_cons, List.not_mem_nil, or_false] at hex
      rcases hex with rfl | rfl | rfl | rfl | rfl | rfl
      · exact one_ok home head node next state line id xs hx k0 m seen _ ⟨1, node, home, id, line, 0, 0, false, []⟩ (⟨0, 0, 0, 0, 0, 0, 0, false, []⟩) (by simp [daskS, dkindS]) (rsame_self _ (by first | exact hx | simp)) (by simp) (hr (by simp))
      · exact one_ok home head node next state line id xs hx k0 m seen _ ⟨3, node, head, id, line, node, 0, false, []⟩ (⟨0, 0, 0, 0, 0, 0, 0, false, []⟩) (by simp [daskS, dkindS]) (rsame_self _ (by first | exact hx | simp)) (by simp) (hr (by simp))
      · exact one_ok home head node next state line id xs hx k0 m seen _ ⟨6, node, next, id, line, 0, 0, false, []⟩ (⟨0, 0, 0, 0, 0, 0, 0, false, []⟩) (by simp [daskS, dkindS]) (rsame_self _ (by first | exact hx | simp)) (by simp) (hr (by simp))
      · exact one_ok home head node next state line id xs hx k0 m seen _ ⟨4, node, head, id, line, next, 0, false, []⟩ (⟨0, 0, 0, 0, 0, 0, 0, false, []⟩) (by simp [daskS, dkindS]) (rsame_self _ (by first | exact hx | simp)) (by simp) (hr (by simp))
      · exact one_ok home head node next state line id xs hx k0 m seen _ ⟨5, node, next, id, line, head, 0, false, []⟩ (⟨0, 0, 0, 0, 0, 0, 0, false, []⟩) (by simp [daskS, dkindS]) (rsame_self _ (by first | exact hx | simp)) (by simp) (hr (by simp))
      · exact one_ok home head node next state line id xs hx k0 m seen _ ⟨2, node, home, id, line, head, state, decide ((0 : Int) < ((xs.length : Nat) : Int)), xs⟩ (⟨0, 0, 0, 0, 0, 0, 0, false, []⟩) (by simp [daskS, dkindS, hcp]) (rsame_self _ (by first | exact hx | simp)) hx (hr (by simp))
end
theorem dealForms_pure (line id node home head next state : Int) (data : List Int) : dealFormsS line id node home head next state data = some true := by
  have w : ∀ v n : Int, 1 ≤ n → n ≤ 99 → withinS v n = some (v % n) := fun v n h1 h2 => by unfold withinS; rw [chk_true ⟨h1, by omega⟩]
  have hc : cutS data 3 = some (data.take 3) := by unfold cutS; rw [chk_true ⟨by decide, by decide⟩]; rfl
  unfold dealFormsS
  rw [w line 8 (by decide) (by decide), Option.bind_some, w id 99 (by decide) (by decide), Option.bind_some, w node 6 (by decide) (by decide), Option.bind_some, w home 6 (by decide) (by decide), Option.bind_some, w head 6 (by decide) (by decide), Option.bind_some, w next 6 (by decide) (by decide), Option.bind_some, w state 3 (by decide) (by decide), Option.bind_some, hc, Option.bind_some]
  refine loop_ok _ _ _ _ _ _ _ _ (by simp; omega) dealFormsS_k0 (fun _ _ => ?_) 8 #[] 0 (Nat.lt_of_le_of_lt (List.length_filter_le _ _) (by simp [six]))
  unfold dealFormsS_k0
  rw [wakes13_is]; rfl
end Go.Proofs.Ytpcffplbedbpkaa
