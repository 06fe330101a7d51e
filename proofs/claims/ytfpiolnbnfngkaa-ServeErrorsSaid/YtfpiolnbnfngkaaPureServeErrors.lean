/- The law ServeErrors answers true at every input: the plain side. -/
import Derived.Test.YtfpiolnbnfngkaaPureServeLem
import Derived.Test.YtfpiolnbnfngkaaLawServeErrors
set_option linter.unusedSimpArgs false
set_option linter.unusedVariables false
namespace Go.Proofs.Ytfpiolnbnfngkaa
open Go
theorem wakes12_is : wakes12S = some true := by kernel_rfl
theorem err_kind (c : CacheS) (p : PktS) (h : okP p = false ∨ p.kind < 3 ∨ 6 < p.kind) : shandleS c p = some (⟨0, 0, 0, 0, 0, 0, 0, false, []⟩, 1, c) := by
  unfold shandleS
  rw [pcheck_is, Option.bind_some]
  cases hp : okP p with
  | false => rw [bif_t (by rfl)]; exact err_d c p
  | true =>
    rw [bif_f (by rfl)]
    by_cases h1 : p.kind < 3
    · rw [bif_t (decide_eq_true h1)]; exact err_d c p
    · rw [bif_f (decide_eq_false h1), decide_eq_true (show 6 < p.kind by
        rcases h with h | h | h
        · rw [hp] at h; cases h
        · exact absurd h h1
        · exact h)]
      exact err_d c p
theorem none_here {N : Nat} {c : CacheS} (h : CGood N c) (hN : N ≤ 60) (p : PktS) (hn : lkE c.l p.line = none) (hk : okP p = true) (h1 : 3 ≤ p.kind) (h2 : p.kind ≤ 6) : shandleS c p = some (⟨0, 0, 0, 0, 0, 0, 0, false, []⟩, 3, c) := by
  unfold shandleS
  rw [pcheck_is, Option.bind_some, hk, bif_f (by rfl), bif_f (decide_eq_false (by omega)), decide_eq_false (by omega)]
  unfold shandleS_j0
  rw [bif_f rfl, h.find hN, Option.bind_some, hn]
  rfl
theorem l0_is (L : List PktS) (k0 : Int → CacheS → Option Bool) (c : CacheS) (hn : L.length ≤ 60) (hL : ∀ p ∈ L, okP p = false ∨ p.kind < 3 ∨ 6 < p.kind) : ∀ (rest : List PktS) (i fuel : Nat), L.drop i = rest → i ≤ L.length → rest.length < fuel → serveErrorsS_l0 L k0 fuel (i : Int) c = k0 ((L.length : Nat) : Int) c := by
  intro rest
  induction rest with
  | nil =>
    intro i fuel hd hi hf
    obtain ⟨f, rfl⟩ : ∃ f, fuel = f + 1 := ⟨fuel - 1, by omega⟩
    have := drop_nil_at hd
    rw [serveErrorsS_l0]
    dsimp only
    rw [bif_f (decide_eq_false (by omega)), show i = L.length by omega]
  | cons x rest ih =>
    intro i fuel hd hi hf
    obtain ⟨f, rfl⟩ : ∃ f, fuel = f + 1 := ⟨fuel - 1, by omega⟩
    obtain ⟨hj, hx, hr, hxm⟩ := drop_cons_at hd
    have hf : rest.length < f := by simp at hf; omega
    have q5 : inR ((i : Int) + 1) := by unfold inR; omega
    rw [serveErrorsS_l0]
    dsimp only [letP]
    rw [bif_t (decide_eq_true (by omega)), chk_true ⟨by omega, by omega⟩, nthT_at hx, err_kind c x (hL x hxm), Option.bind_some]
    dsimp only
    rw [bif_f (by simp), chk_true q5, show (i : Int) + 1 = ((i + 1 : Nat) : Int) by omega]
    exact ih (i + 1) f hr (by omega) hf
theorem l1_is (src : Int) (hs : 0 ≤ src ∧ src < 6) (k1 : Int → CacheS → Option Bool) {c : CacheS} (h : CGood 5 c) (hl : low c) : ∀ (d i fuel : Nat), i + d = 7 → 3 ≤ i → d < fuel → serveErrorsS_l1 src k1 fuel (i : Int) c = k1 7 c := by
  intro d
  induction d with
  | zero =>
    intro i fuel hi h3 hf
    obtain ⟨f, rfl⟩ : ∃ f, fuel = f + 1 := ⟨fuel - 1, by omega⟩
    rw [serveErrorsS_l1]
    dsimp only
    rw [bif_f (decide_eq_false (by omega)), show (i : Int) = 7 by omega]
  | succ d ih =>
    intro i fuel hi h3 hf
    obtain ⟨f, rfl⟩ : ∃ f, fuel = f + 1 := ⟨fuel - 1, by omega⟩
    have q5 : inR ((i : Int) + 1) := by unfold inR; omega
    have hn : lkE c.l 7 = none := lkE_none.2 fun x hx e => by
      have := hl x.line (List.mem_map.2 ⟨x, hx, rfl⟩)
      omega
    rw [serveErrorsS_l1]
    dsimp only
    rw [bif_t (decide_eq_true (by omega)), none_here h (by omega) _ hn (by unfold okP; simp; omega) (by show (3 : Int) ≤ (i : Int); omega) (by show (i : Int) ≤ 6; omega), Option.bind_some]
    dsimp only
    rw [bif_f (by simp), chk_true q5, show (i : Int) + 1 = ((i + 1 : Nat) : Int) by omega]
    exact ih (i + 1) f (by omega) (by omega) (by omega)
theorem serveErrors_pure (lines links data : List Int) (n : Int) : serveErrorsS lines links data n = some true := by
  obtain ⟨c, q, e1, e2, e3⟩ := both_is lines links data
  obtain ⟨s, e4, e5, e6⟩ := within_is (v := n) (n := 6) (by omega) (by omega)
  unfold serveErrorsS letP
  dsimp only
  rw [e1, Option.bind_some, e4, Option.bind_some]
  have := l0_is [⟨0, 0, 0, 0, 0, 0, 0, false, []⟩, ⟨1, 0, 0, 0, 0, 0, 0, false, []⟩, ⟨2, 0, 0, 0, 0, 0, 0, false, []⟩, ⟨7, 0, 0, 0, 0, 0, 0, false, []⟩, ⟨8, 0, 0, 0, 0, 0, 0, false, []⟩, ⟨9, 0, 0, 0, 0, 0, 0, false, []⟩, ⟨6, -1, 0, 0, 0, 0, 0, false, []⟩, ⟨4, 0, 0, 0, 0, 6, 0, false, []⟩, ⟨3, 0, 0, 0, 8, 0, 0, false, []⟩] (serveErrorsS_k0 s (c, q)) c (by simp) (by
    intro p hp
    simp only [List.mem_cons, List.not_mem_nil, or_false] at hp
    rcases hp with rfl | rfl | rfl | rfl | rfl | rfl | rfl | rfl | rfl <;> decide) _ 0 64 rfl (by simp) (by simp)
  rw [show ((0 : Nat) : Int) = 0 from rfl] at this
  rw [this]
  unfold serveErrorsS_k0
  have h1 := l1_is s ⟨e5, e6⟩ (serveErrorsS_k1 (c, q)) e2.good e3 4 3 64 (by omega) (by omega) (by omega)
  rw [show ((3 : Nat) : Int) = 3 from rfl] at h1
  rw [h1]
  unfold serveErrorsS_k1
  rw [e2.same (by omega), Option.bind_some, wakes12_is]; rfl
end Go.Proofs.Ytfpiolnbnfngkaa
