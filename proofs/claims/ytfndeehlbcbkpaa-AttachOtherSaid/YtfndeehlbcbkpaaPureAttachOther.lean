/- The law AttachOther answers true at every input: the plain side. -/
import Derived.Test.YtfndeehlbcbkpaaPureBothLem
import Derived.Test.YtfndeehlbcbkpaaLawAttachOther
set_option linter.unusedSimpArgs false
set_option linter.unusedVariables false
namespace Go.Proofs.Ytfndeehlbcbkpaa
open Go
theorem wakes14_is : wakes14S = some true := by kernel_rfl
theorem no_read (d : DealS) (node : Int) (c : CacheS) (p : PktS) (h : d.kind ≠ 1) : anextS d node c p = some (⟨0, 0, 0, 0, 0, 0, [], 0, 0⟩, false, c) := by
  unfold anextS
  rw [bif_t (by simp [h])]; rfl
theorem no_fit (d : DealS) (node : Int) (c : CacheS) (p : PktS) (h : dfitsS d p = some false) : anextS d node c p = some (⟨0, 0, 0, 0, 0, 0, [], 0, 0⟩, false, c) := by
  unfold anextS
  cases hk : !(decide (d.kind = 1)) with
  | true => rw [bif_t rfl]; rfl
  | false => rw [bif_f rfl, h]; rfl
theorem l1_is (y5 : DealS) (l6 : List Int) (y6 : Int) (y8 : Option Int) (k1 : Int → CacheS → Option Bool) (c : CacheS) : attachOtherS_l1 [0, 2, 3, 4] y5 l6 y6 y8 k1 64 0 c = k1 4 c := by
  have step : ∀ (i : Nat) (m : Nat), i < 4 → attachOtherS_l1 [0, 2, 3, 4] y5 l6 y6 y8 k1 (m + 1) (i : Int) c = attachOtherS_l1 [0, 2, 3, 4] y5 l6 y6 y8 k1 m ((i + 1 : Nat) : Int) c := by
    intro i m hi
    rw [attachOtherS_l1]
    dsimp only
    rw [bif_t (decide_eq_true (by show (i : Int) < 4; omega)), chk_true ⟨by omega, by show (i : Int) < 4; omega⟩, no_read _ _ _ _ ?_, Option.bind_some]
    · dsimp only
      rw [bif_f rfl, chk_true (by unfold inR; omega), show (i : Int) + 1 = ((i + 1 : Nat) : Int) by omega]
    · show nth [0, 2, 3, 4] (i : Int) ≠ 1
      rcases (by omega : i = 0 ∨ i = 1 ∨ i = 2 ∨ i = 3) with rfl | rfl | rfl | rfl <;> decide
  have h0 := step 0 63 (by omega)
  have h1 := step 1 62 (by omega)
  have h2 := step 2 61 (by omega)
  have h3 := step 3 60 (by omega)
  have : attachOtherS_l1 [0, 2, 3, 4] y5 l6 y6 y8 k1 60 ((4 : Nat) : Int) c = k1 4 c := by
    rw [attachOtherS_l1]
    dsimp only
    rw [bif_f (by decide)]; rfl
  rw [show ((0 : Nat) : Int) = 0 from rfl] at h0
  rw [h0, h1, h2, h3]; exact this
theorem l0_is (L : List PktS) (y5 : DealS) (l6 : List Int) (y6 : Int) (y8 : Option Int) (k0 : Int → CacheS → Option Bool) (c : CacheS) (hn : L.length ≤ 60)
    (hL : ∀ p ∈ L, dfitsS ⟨y5.kind, y5.line, y5.id, nth l6 y6, y5.state, 0, y5.data, y5.next, y5.told⟩ p = some false) : ∀ (rest : List PktS) (i fuel : Nat), L.drop i = rest → i ≤ L.length → rest.length < fuel → attachOtherS_l0 L y5 l6 y6 y8 k0 fuel (i : Int) c = k0 ((L.length : Nat) : Int) c := by
  intro rest
  induction rest with
  | nil =>
    intro i fuel hd hi hf
    obtain ⟨f, rfl⟩ : ∃ f, fuel = f + 1 := ⟨fuel - 1, by omega⟩
    have := drop_nil_at hd
    rw [attachOtherS_l0]
    dsimp only
    rw [bif_f (decide_eq_false (by omega)), show i = L.length by omega]
  | cons x rest ih =>
    intro i fuel hd hi hf
    obtain ⟨f, rfl⟩ : ∃ f, fuel = f + 1 := ⟨fuel - 1, by omega⟩
    obtain ⟨hj, hx, hr, hxm⟩ := drop_cons_at hd
    have hf : rest.length < f := by simp at hf; omega
    have q5 : inR ((i : Int) + 1) := by unfold inR; omega
    rw [attachOtherS_l0]
    dsimp only [letP]
    rw [bif_t (decide_eq_true (by omega)), chk_true ⟨by omega, by omega⟩, nthT_at hx, no_fit _ _ _ _ (hL x hxm), Option.bind_some]
    dsimp only
    rw [bif_f rfl, bif_f rfl]
    unfold attachOtherS_j3
    rw [bif_f rfl]
    unfold attachOtherS_j2
    rw [chk_true q5, show (i : Int) + 1 = ((i + 1 : Nat) : Int) by omega]
    exact ih (i + 1) f hr (by omega) hf
theorem attachOther_pure (lines links data : List Int) (step n : Int) : attachOtherS lines links data step n = some true := by
  obtain ⟨c, q, e1, h, _⟩ := both_is lines links data
  obtain ⟨m, e2, m1, m2⟩ := within_is (v := n) (n := 50) (by omega) (by omega)
  obtain ⟨s, e3, s1, s2⟩ := within_is (v := step) (n := 3) (by omega) (by omega)
  unfold attachOtherS
  rw [e1, Option.bind_some, e2, Option.bind_some, show dbeginS 1 1 3 = some ⟨1, 1, 3, 1, 0, -1, [], -1, -1⟩ from rfl, Option.bind_some]
  unfold letP
  dsimp only
  rw [e3, Option.bind_some, chk_true ⟨s1, by show s < 3; omega⟩, wr_small (x := 1 + m) (by omega), wr_small (x := 3 + (1 + m)) (by omega), wr_small (x := 1 + (1 + m)) (by omega)]
  have go : ∀ (s : Int) (k k2 : Int), (s = 0 ∧ k = 7 ∧ k2 = 8 ∨ s = 1 ∧ k = 9 ∧ k2 = 7 ∨ s = 2 ∧ k = 8 ∧ k2 = 9) → attachOtherS_l0 [⟨k, 0, 0, 3 + (1 + m), 1, 0, 0, false, []⟩, ⟨k, 0, 0, 3, 1 + (1 + m), 0, 0, false, []⟩, ⟨1, 0, 0, 3, 1, 0, 0, false, []⟩, ⟨k2, 0, 0, 3, 1, 0, 0, false, []⟩] ⟨1, 1, 3, 1, 0, -1, [], -1, -1⟩ [1, 2, 6] s (some k)
      (attachOtherS_k0 ⟨1, 1, 3, 1, 0, -1, [], -1, -1⟩ [1, 2, 6] s (some k) (c, q)) 64 0 c = some true := by
    intro s k k2 hs
    have := l0_is [⟨k, 0, 0, 3 + (1 + m), 1, 0, 0, false, []⟩, ⟨k, 0, 0, 3, 1 + (1 + m), 0, 0, false, []⟩, ⟨1, 0, 0, 3, 1, 0, 0, false, []⟩, ⟨k2, 0, 0, 3, 1, 0, 0, false, []⟩] ⟨1, 1, 3, 1, 0, -1, [], -1, -1⟩ [1, 2, 6] s (some k) (attachOtherS_k0 ⟨1, 1, 3, 1, 0, -1, [], -1, -1⟩ [1, 2, 6] s (some k) (c, q)) c (by simp) ?_ _ 0 64 rfl (by simp) (by simp)
    · rw [show ((0 : Nat) : Int) = 0 from rfl] at this
      rw [this]
      unfold attachOtherS_k0 letP
      dsimp only
      rw [l1_is]
      unfold attachOtherS_k1
      rw [h.same (by omega), Option.bind_some, bif_t rfl, wakes14_is]; rfl
    · intro p hp
      simp only [List.mem_cons, List.not_mem_nil, or_false] at hp
      have f1 : decide (3 + (1 + m) = 3) = false := decide_eq_false (by omega)
      have f2 : decide (1 + (1 + m) = 1) = false := decide_eq_false (by omega)
      rcases hs with ⟨rfl, rfl, rfl⟩ | ⟨rfl, rfl, rfl⟩ | ⟨rfl, rfl, rfl⟩ <;> rcases hp with rfl | rfl | rfl | rfl <;> simp [dfitsS, dkindS, pansS, nth, f1, f2]
  rcases (by omega : s = 0 ∨ s = 1 ∨ s = 2) with rfl | rfl | rfl
  · exact go 0 7 8 (by simp)
  · exact go 1 9 7 (by simp)
  · exact go 2 8 9 (by simp)
end Go.Proofs.Ytfndeehlbcbkpaa
