/- The law ServeHandles answers true at every input: the plain side. -/
import Derived.Test.YtfpiolnbnfngkaaPureServeLem
import Derived.Test.YtfpiolnbnfngkaaLawServeHandles
set_option linter.unusedSimpArgs false
set_option linter.unusedVariables false
namespace Go.Proofs.Ytfpiolnbnfngkaa
open Go
theorem wakes12_is : wakes12S = some true := by kernel_rfl
theorem loop (ps : List PktS) (hows : List Int) : ∀ (d i fuel : Nat) (c q : CacheS), i + d = min ps.length 12 → d < fuel → CSim (5 + i) c q → serveHandlesS_l0 ps hows serveHandlesS_k0 fuel (i : Int) c q = some true := by
  intro d
  induction d with
  | zero =>
    intro i fuel c q hi hf h
    obtain ⟨f, rfl⟩ : ∃ f, fuel = f + 1 := ⟨fuel - 1, by omega⟩
    rw [serveHandlesS_l0]
    dsimp only
    unfold serveHandlesS_j1
    by_cases hq : (i : Int) < ((ps.length : Nat) : Int)
    · rw [bif_t (decide_eq_true hq), bif_f (decide_eq_false (by omega))]; unfold serveHandlesS_k0; rw [wakes12_is]; rfl
    · rw [bif_f (decide_eq_false hq), bif_f rfl]; unfold serveHandlesS_k0; rw [wakes12_is]; rfl
  | succ d ih =>
    intro i fuel c q hi hf h
    obtain ⟨f, rfl⟩ : ∃ f, fuel = f + 1 := ⟨fuel - 1, by omega⟩
    have hq : (i : Int) < ((ps.length : Nat) : Int) := by omega
    have q5 : inR ((i : Int) + 1) := by unfold inR; omega
    have j3 : ∀ (p : PktS) (k : Int), serveHandlesS_j3 c p q (i : Int) (serveHandlesS_l0 ps hows serveHandlesS_k0 f) k = some true := by
      intro p k
      obtain ⟨p', r, c', q', s1, s2, s3, s4⟩ := h.serve (by omega) ⟨k, p.src, p.dst, p.id, p.line, p.ptr, p.state, p.flag, p.data⟩
      unfold serveHandlesS_j3
      rw [s1, Option.bind_some, s2, Option.bind_some]
      dsimp only
      rw [bif_f (by simp), rsamep_is p' s4, Option.bind_some, bif_f (by rfl), s3.same (by omega), Option.bind_some, bif_f (by rfl), chk_true q5, show (i : Int) + 1 = ((i + 1 : Nat) : Int) by omega]
      exact ih (i + 1) f c' q' (by omega) (by omega) s3
    have j2 : ∀ how : Int, serveHandlesS_j2 (i : Int) ps c q (serveHandlesS_l0 ps hows serveHandlesS_k0 f) how = some true := by
      intro how
      obtain ⟨p, e1⟩ := plpacket_some (nthT ps (i : Int)) how
      unfold serveHandlesS_j2 letP
      dsimp only
      rw [chk_true ⟨by omega, hq⟩, e1, Option.bind_some]
      cases hb : !(decide (how.tmod 4 = 3)) with
      | true =>
        obtain ⟨k, e2, _⟩ := within_is (v := p.kind) (n := 4) (by omega) (by omega)
        rw [bif_t rfl, e2, Option.bind_some]; exact j3 _ _
      | false => rw [bif_f rfl]; exact j3 _ _
    rw [serveHandlesS_l0]
    dsimp only
    rw [bif_t (decide_eq_true hq)]
    unfold serveHandlesS_j1
    rw [bif_t (decide_eq_true (by omega))]
    by_cases hk : (i : Int) < ((hows.length : Nat) : Int)
    · rw [bif_t (decide_eq_true hk), chk_true ⟨by omega, hk⟩]; exact j2 _
    · rw [bif_f (decide_eq_false hk)]; exact j2 _
theorem serveHandles_pure (lines links data : List Int) (ps : List PktS) (hows : List Int) : serveHandlesS lines links data ps hows = some true := by
  obtain ⟨c, q, e1, e2, _⟩ := both_is lines links data
  unfold serveHandlesS
  rw [e1, Option.bind_some]
  exact loop ps hows (min ps.length 12) 0 64 c q (by omega) (by omega) e2
end Go.Proofs.Ytfpiolnbnfngkaa
