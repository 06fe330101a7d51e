/- The law HomeErrors answers true at every input: the plain side. -/
import Derived.Test.YtcigheahollkcaaPureHomeLem
import Derived.Test.YtcigheahollkcaaLawHomeErrors
set_option linter.unusedSimpArgs false
set_option linter.unusedVariables false
namespace Go.Proofs.Ytcigheahollkcaa
open Go
theorem wakes11_is : wakes11S = some true := by kernel_rfl
theorem drop_cons_at {α : Type} {L : List α} {i : Nat} {x : α} {r : List α} (h : L.drop i = x :: r) : i < L.length ∧ L[i]? = some x ∧ L.drop (i + 1) = r ∧ x ∈ L := by
  have hl : i < L.length := by
    rcases Nat.lt_or_ge i L.length with q | q
    · exact q
    · rw [List.drop_eq_nil_of_le q] at h; cases h
  rw [List.drop_eq_getElem_cons hl] at h
  injection h with h1 h2
  subst h1
  exact ⟨hl, List.getElem?_eq_getElem hl, h2, List.getElem_mem hl⟩
theorem drop_nil_at {α : Type} {L : List α} {i : Nat} (h : L.drop i = []) : L.length ≤ i := by
  rcases Nat.lt_or_ge i L.length with q | q
  · rw [List.drop_eq_getElem_cons q] at h; cases h
  · exact q
theorem nthT_at {α : Type} [Rec α] {L : List α} {i : Nat} {x : α} (h : L[i]? = some x) : nthT L (i : Int) = x := by
  unfold nthT
  rw [Int.toNat_natCast, List.getD_eq_getElem?_getD, h]; rfl
def pktOf (x : HeE) : PktS := ⟨x.kind, x.src, x.dst, x.id, x.line, x.ptr, x.state, x.flag, x.data⟩
theorem l0_is (L : List HeE) (k0 : Int → HomeS → Option Bool) (h : HomeS) (hn : L.length ≤ 60) (hL : ∀ x ∈ L, hhandleS h (pktOf x) = some (noP, false, x.e, h)) : ∀ (rest : List HeE) (i fuel : Nat), L.drop i = rest → i ≤ L.length → rest.length < fuel → homeErrorsS_l0 L k0 fuel (i : Int) h = k0 ((L.length : Nat) : Int) h := by
  intro rest
  induction rest with
  | nil =>
    intro i fuel hd hi hf
    obtain ⟨f, rfl⟩ : ∃ f, fuel = f + 1 := ⟨fuel - 1, by omega⟩
    have := drop_nil_at hd
    rw [homeErrorsS_l0]
    dsimp only
    rw [bif_f (decide_eq_false (by omega)), show i = L.length by omega]
  | cons x rest ih =>
    intro i fuel hd hi hf
    obtain ⟨f, rfl⟩ : ∃ f, fuel = f + 1 := ⟨fuel - 1, by omega⟩
    obtain ⟨hj, hx, hr, hxm⟩ := drop_cons_at hd
    have hf : rest.length < f := by simp at hf; omega
    have q5 : inR ((i : Int) + 1) := by unfold inR; omega
    have e := hL x hxm
    unfold pktOf at e
    rw [homeErrorsS_l0]
    dsimp only [letP]
    rw [bif_t (decide_eq_true (by omega)), chk_true ⟨by omega, by omega⟩, nthT_at hx, e, Option.bind_some]
    dsimp only
    rw [bif_f rfl, show (!decide (x.e = x.e)) = false by simp]
    unfold homeErrorsS_j4
    rw [bif_f rfl, chk_true q5, show (i : Int) + 1 = ((i + 1 : Nat) : Int) by omega]
    exact ih (i + 1) f hr (by omega) hf
theorem homeErrors_pure (su : SetupS) (n : Int) : homeErrorsS su n = some true := by
  obtain ⟨c, e1, hc⟩ := plconfig_is su
  obtain ⟨rows, e2, hg, h00⟩ := hnew_is hc (node := 0) (by omega)
  have h1 := hc.nodes
  have h2 := hc.lines
  obtain ⟨s, e3, s0, s1⟩ := within_is (v := n) (n := c.nodes) (by omega) (by omega)
  obtain ⟨m, hm⟩ : ∃ m : Nat, c.lines = (m : Int) := ⟨c.lines.toNat, by omega⟩
  have h0 : here c 0 0 := ⟨by omega, by omega, by simp⟩
  obtain ⟨r, hr, hr1, hr2⟩ := hg.row hc h0
  unfold homeErrorsS
  rw [e1, Option.bind_some, e2, Option.bind_some, e3, Option.bind_some]
  unfold letP
  dsimp only
  have hl := l0_is [⟨0, 0, 0, 0, 0, 0, 0, false, [], 1⟩, ⟨3, 0, 0, 0, 0, 0, 0, false, [], 1⟩, ⟨7, 0, 0, 0, 0, 0, 0, false, [], 1⟩, ⟨1, 0, 1, 0, 0, 0, 0, false, [], 1⟩, ⟨1, c.nodes, 0, 0, 0, 0, 0, false, [], 1⟩, ⟨1, s, 0, 0, 7, 0, 0, false, [], 3⟩, ⟨2, s, 0, 0, 0, 0, 1, false, [], 6⟩, ⟨1, 0, 0, -1, 0, 0, 0, false, [], 1⟩] (homeErrorsS_k0 s) ⟨⟨c, rows⟩, ⟨[], []⟩, c, 0⟩ (by simp) (fun x hx => by
    simp only [List.mem_cons, List.not_mem_nil, or_false] at hx
    rcases hx with rfl | rfl | rfl | rfl | rfl | rfl | rfl | rfl
    · exact handle_bad hc hg _ (.inl (by rfl))
    · exact handle_bad hc hg _ (.inr (.inr (.inr ⟨by show (3 : Int) ≠ 1; omega, by show (3 : Int) ≠ 2; omega⟩)))
    · exact handle_bad hc hg _ (.inr (.inr (.inr ⟨by show (7 : Int) ≠ 1; omega, by show (7 : Int) ≠ 2; omega⟩)))
    · exact handle_bad hc hg _ (.inr (.inl (by show (1 : Int) ≠ 0; omega)))
    · exact handle_bad hc hg _ (.inr (.inr (.inl (by show ¬ c.nodes < c.nodes; omega))))
    · exact handle_far hc hg (p := ⟨1, s, 0, 0, 7, 0, 0, false, []⟩) (by simp [okP]; omega) rfl s1 (.inl rfl) (fun q => by have : (7 : Int) < c.lines := q.2.1; omega) (by show (0 : Int) ≤ 7; omega)
    · exact unlock_other hc hg (p := ⟨2, s, 0, 0, 0, 0, 1, false, []⟩) (by simp [okP]; omega) rfl s1 h0 rfl (by show (-1 : Int) ≠ s; omega)
    · exact handle_bad hc hg _ (.inl (by rfl))) _ 0 64 rfl (by simp) (by simp)
  rw [show ((0 : Nat) : Int) = 0 from rfl] at hl
  rw [hl]
  unfold homeErrorsS_k0
  rw [owner_is, Option.bind_some, bif_f (by rfl), waiting_eq, Option.bind_some, bif_f (by rfl), pending_is (m := m) (N := 0) (by rw [← hm]; exact hg.turns) (by omega) (by omega), Option.bind_some,
    show (upto m).filter (isReady ⟨[], []⟩) = [] from List.filter_eq_nil_iff.2 fun a _ => by simp [isReady, own, wl, wget, mget]]
  unfold homeErrorsS_j1
  have hlock := lock_free hc hg (p := ⟨1, s, 0, 0, 0, 0, 0, false, []⟩) (by simp [okP]; omega) rfl s1 h0 rfl (by simp [own, wl, wget, mget]) hr hr2
  rw [bif_f (by rfl), hlock, Option.bind_some]
  dsimp only
  rw [bif_f (by rfl), show (!decide ((0 : Int) = 0)) = false from rfl]
  have hg1 : HGood c 0 0 ⟨⟨c, rows⟩, ⟨mset [] 0 s, []⟩, c, 0⟩ := ⟨rfl, rfl, rfl, hg.rows, good_own hg.turns 0 s s0⟩
  have how : mget (mset ([] : List (Int × Int)) 0 s) 0 = some s := by rw [mget_mset, if_pos rfl]
  unfold homeErrorsS_j2
  have bad : msetS ⟨c, rows⟩ 0 0 s [] = some (1, ⟨c, rows⟩) := by
    unfold msetS letP
    dsimp only
    have hr : mget rows 0 = some r := hr
    rw [hr]
    show (bif !true then _ else _) = _
    rw [bif_f (by rfl), bif_f (by rfl), bif_f (by rfl), bif_f (decide_eq_false (by omega)), decide_eq_false (show ¬ c.nodes ≤ s by omega)]
    unfold msetS_j1
    rw [bif_f rfl, bif_t (by simp; omega)]
  have hun := unlock_set hc hg1 (p := ⟨2, s, 0, 0, 0, s, 0, false, []⟩) (by simp [okP]; omega) rfl s1 h0 rfl how (xs := []) rfl bad
  rw [if_neg (by omega)] at hun
  rw [bif_f rfl, hun, Option.bind_some]
  dsimp only
  rw [bif_f rfl, bif_f (by rfl), owner_is, how, Option.bind_some, show (!decide ((some s).getD (-1) = s)) = false by simp]
  unfold homeErrorsS_j3
  have good := mset_ok (d := ⟨c, rows⟩) (line := 0) (state := 0) (head := -1) (xs := []) hr (by omega) ⟨by omega, by show (-1 : Int) < c.nodes; omega⟩ (by simp) (.inl rfl) (by simp)
  have hun2 := unlock_set hc hg1 (p := ⟨2, s, 0, 0, 0, -1, 0, false, []⟩) (by simp [okP]; omega) rfl s1 h0 rfl how (xs := []) rfl good
  rw [if_pos rfl] at hun2
  rw [bif_f rfl, hun2, Option.bind_some]
  dsimp only
  rw [bif_t rfl, bif_t (by rfl), owner_is, mget_mdel (by simp [mset]), if_pos rfl, Option.bind_some, bif_t (by rfl), wakes11_is]; rfl
end Go.Proofs.Ytcigheahollkcaa
