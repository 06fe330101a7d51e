/- The law AttachChain answers true at every input: the plain side. -/
import Derived.Test.YtlnjnkbnppnbkaaPureOneLem
import Derived.Test.YtlnjnkbnppnbkaaLawAttachChain
set_option linter.unusedSimpArgs false
set_option linter.unusedVariables false
namespace Go.Proofs.Ytlnjnkbnppnbkaa
open Go
theorem wakes14_is : wakes14S = some true := by kernel_rfl
theorem next_locked (d : DealS) (node : Int) (c : CacheS) (p : PktS) (hk : d.kind = 1) (hs : d.step = 1) (hf : fitB d p = true) (h0 : p.state ≠ 0) (hp : p.data.length ≤ 60) :
    anextS d node c p = some (⟨d.kind, d.line, d.id, 2, p.state, p.ptr, p.data, d.next, p.ptr⟩, true, c) := by
  unfold anextS
  rw [bif_f (by simp [hk]), fit_d, Option.bind_some, hf]
  unfold anextS_j0
  rw [bif_f (by rfl), bif_t (decide_eq_true hs)]
  unfold alockedS
  rw [copy_is _ hp, Option.bind_some, bif_t (by simp [h0])]; rfl
theorem next_told (d : DealS) (node v : Int) (p : PktS) (hk : d.kind = 1) (hs : d.step = 2) (hf : fitB d p = true) (hp : p.data = [v]) (hl : 0 ≤ d.line) :
    anextS d node emp p = some (⟨d.kind, d.line, d.id, 6, 1, node, if p.flag then [v] else [], d.next, d.told⟩, true, one1 d.head (-1) false v d.line) := by
  unfold anextS
  rw [bif_f (by simp [hk]), fit_d, Option.bind_some, hf]
  unfold anextS_j0
  rw [bif_f (by rfl), bif_f (decide_eq_false (by omega)), bif_t (decide_eq_true hs)]
  unfold atoldS
  rw [hp, enew_is _ _ _ _ _ (by simp), Option.bind_some, put_emp _ _ _ _ _ _ hl, Option.bind_some]
  cases p.flag with
  | true => rw [bif_t rfl, copy_is [v] (by simp)]; rfl
  | false => rw [bif_f rfl]; rfl
/-- The caches before node k comes. -/
def F (dirty : Bool) (v : Int) (k j : Nat) : CacheS :=
  if j + 1 < k then one1 ((j : Int) - 1) ((j : Int) + 1) false v 2 else if j + 1 = k then one1 ((j : Int) - 1) (-1) (dirty && decide (k = 1)) v 2 else emp
theorem l0_is (y : Int) (n : Nat) (hy : wr (1 + y) = (n : Int)) (hn : n ≤ 5) (k0 : List CacheS → Int → Option Bool) : ∀ (d i fuel : Nat), i + d = n + 1 → d < fuel → attachChainS_l0 y k0 fuel (mk i fun _ => emp) (i : Int) = k0 (mk (n + 1) fun _ => emp) ((n + 1 : Nat) : Int) := by
  intro d
  induction d with
  | zero =>
    intro i fuel hi hf
    obtain ⟨f, rfl⟩ : ∃ f, fuel = f + 1 := ⟨fuel - 1, by omega⟩
    obtain rfl : i = n + 1 := by omega
    rw [attachChainS_l0]
    dsimp only
    rw [hy, bif_f (decide_eq_false (by omega))]
  | succ d ih =>
    intro i fuel hi hf
    obtain ⟨f, rfl⟩ : ∃ f, fuel = f + 1 := ⟨fuel - 1, by omega⟩
    rw [attachChainS_l0]
    dsimp only [letP]
    rw [hy, bif_t (decide_eq_true (by omega)), mk_snoc i (fun _ => emp) newC_emp, chk_true (by rw [mk_len]; omega), chk_true (by unfold inR; omega), show (i : Int) + 1 = ((i + 1 : Nat) : Int) by omega]
    exact ih (i + 1) f (by omega) (by omega)
section
variable (y v : Int) (n : Nat) (dirty : Bool) (hy : wr (1 + y) = (n : Int)) (hn : 1 ≤ n ∧ n ≤ 5)
include hy hn
theorem l3_is : ∀ (d j fuel : Nat), j + d = n + 1 → d < fuel → attachChainS_l3 y (mk (n + 1) (F dirty v (n + 1))) v attachChainS_k3 fuel (j : Int) = some true := by
  intro d
  induction d with
  | zero =>
    intro j fuel hj hf
    obtain ⟨f, rfl⟩ : ∃ f, fuel = f + 1 := ⟨fuel - 1, by omega⟩
    rw [attachChainS_l3]
    dsimp only
    rw [hy, bif_f (decide_eq_false (by omega))]
    unfold attachChainS_k3
    rw [wakes14_is]; rfl
  | succ d ih =>
    intro j fuel hj hf
    obtain ⟨f, rfl⟩ : ∃ f, fuel = f + 1 := ⟨fuel - 1, by omega⟩
    have next := ih (j + 1) f (by omega) (by omega)
    rw [show ((j + 1 : Nat) : Int) = (j : Int) + 1 by omega] at next
    have word : ∀ f b : Int, ewordS ⟨f, b, 2, 1, false, [v]⟩ 0 = some v := fun _ _ => rfl
    rw [attachChainS_l3]
    dsimp only
    rw [hy, bif_t (decide_eq_true (by omega)), mk_len, chk_true ⟨by omega, by omega⟩, mk_nth (by omega), Int.toNat_natCast]
    by_cases h : j < n
    · rw [show F dirty v (n + 1) j = one1 ((j : Int) - 1) ((j : Int) + 1) false v 2 by unfold F; rw [if_pos (by omega)], find_one, Option.bind_some]
      dsimp only
      rw [bif_f (by rfl), bif_f rfl, word, Option.bind_some, bif_f (by simp), chk_true (by unfold inR; omega), bif_f (by simp), bif_t (decide_eq_true (by omega)), chk_true (by unfold inR; omega), bif_f (by simp), bif_f (decide_eq_false (by omega)), chk_true (by unfold inR; omega)]
      exact next
    · rw [show F dirty v (n + 1) j = one1 ((j : Int) - 1) (-1) false v 2 by unfold F; rw [if_neg (by omega), if_pos (by omega), show (dirty && decide (n + 1 = 1)) = false by simp; omega], find_one, Option.bind_some]
      dsimp only
      rw [bif_f (by rfl), bif_f rfl, word, Option.bind_some, bif_f (by simp), chk_true (by unfold inR; omega), bif_f (by simp), bif_f (decide_eq_false (by omega)), bif_t (decide_eq_true (by omega)), show lheadS ⟨(j : Int) - 1, -1⟩ = some true from rfl, Option.bind_some, bif_f (by rfl), chk_true (by unfold inR; omega)]
      exact next
theorem l2_is : ∀ (d k fuel : Nat) (s h : Int), k + d = n + 1 → 1 ≤ k → d < fuel → s = (if (dirty && decide (k = 1)) = true then 2 else 1) → ((dirty && decide (k = 1)) = false → h = v) →
    attachChainS_l2 y (attachChainS_k2 v y) fuel (mk (n + 1) (F dirty v k)) s h (k : Int) = some true := by
  intro d
  induction d with
  | zero =>
    intro k fuel s h hk h1 hf hs hh
    obtain ⟨f, rfl⟩ : ∃ f, fuel = f + 1 := ⟨fuel - 1, by omega⟩
    obtain rfl : k = n + 1 := by omega
    rw [attachChainS_l2]
    dsimp only
    rw [hy, bif_f (decide_eq_false (by omega))]
    unfold attachChainS_k2
    rw [hh (by simp; omega), bif_f (by simp)]
    exact l3_is y v n dirty hy hn (n + 1) 0 64 (by omega) (by omega)
  | succ d ih =>
    intro k fuel s h hk h1 hf hs hh
    obtain ⟨f, rfl⟩ : ∃ f, fuel = f + 1 := ⟨fuel - 1, by omega⟩
    have hs0 : s = 1 ∨ s = 2 := by rw [hs]; split <;> simp
    have next := ih (k + 1) f 1 v (by omega) (by omega) (by omega) (by rw [if_neg (by simp; omega)]) (fun _ => rfl)
    rw [show ((k + 1 : Nat) : Int) = (k : Int) + 1 by omega] at next
    have hin : inR ((k : Int) - 1) := by unfold inR; omega
    have hk0 : F dirty v k k = emp := by unfold F; rw [if_neg (by omega), if_neg (by omega)]
    have hk1 : F dirty v k (k - 1) = one1 ((k : Int) - 1 - 1) (-1) (dirty && decide (k = 1)) v 2 := by
      unfold F; rw [if_neg (by omega), if_pos (by omega), show (((k - 1 : Nat) : Int)) = (k : Int) - 1 by omega]
    rw [attachChainS_l2]
    dsimp only [letP]
    rw [hy, bif_t (decide_eq_true (by omega)), mk_len, chk_true ⟨by omega, by omega⟩, chk_true hin, show dbeginS 1 2 (k : Int) = some ⟨1, 2, (k : Int), 1, 0, -1, [], -1, -1⟩ from rfl, Option.bind_some,
      next_locked _ _ _ _ rfl rfl (by simp [fitB, wantK]) (by show s ≠ 0; omega) (by simp), Option.bind_some]
    dsimp only
    rw [mk_nth (by omega), Int.toNat_natCast, hk0, show setC (mk (n + 1) (F dirty v k)) (k : Int) emp = mk (n + 1) (F dirty v k) from by
      rw [mk_set]
      refine mk_congr fun j _ => ?_
      rw [Int.toNat_natCast]
      by_cases hj : j = k
      · rw [if_pos hj, hj, hk0]
      · rw [if_neg hj]]
    unfold attachChainS_j5
    dsimp only
    rw [show daskS ⟨1, 2, (k : Int), 2, s, (k : Int) - 1, [h], -1, (k : Int) - 1⟩ (k : Int) 0 = some ⟨3, (k : Int), (k : Int) - 1, (k : Int), 2, (k : Int), 0, false, []⟩ from rfl, Option.bind_some]
    dsimp only
    rw [bif_f (by rfl), bif_f (by rfl), chk_true hin, show (!decide ((k : Int) - 1 = (k : Int) - 1)) = false by simp]
    unfold attachChainS_j6 letP
    dsimp only
    rw [bif_f rfl, chk_true hin, mk_len, chk_true ⟨by omega, by omega⟩, mk_nth (by omega), show ((k : Int) - 1).toNat = k - 1 by omega, hk1, serve3 (l := 2) ⟨3, (k : Int), (k : Int) - 1, (k : Int), 2, (k : Int), 0, false, []⟩ (by simp [okP]; omega) rfl rfl, Option.bind_some]
    dsimp only
    unfold attachChainS_j7 letP
    dsimp only
    rw [bif_f (by rfl), mk_set, mk_len, chk_true ⟨by omega, by omega⟩, mk_nth (by omega), Int.toNat_natCast, if_neg (by omega), hk0, next_told _ _ v _ rfl rfl (by simp [fitB, wantK]) rfl (by show (0 : Int) ≤ 2; omega), Option.bind_some]
    dsimp only
    have hcs : setC (mk (n + 1) fun j => if j = ((k : Int) - 1).toNat then one1 ((k : Int) - 1 - 1) (k : Int) false v 2 else F dirty v k j) (k : Int) (one1 ((k : Int) - 1) (-1) false v 2) = mk (n + 1) (F dirty v (k + 1)) := by
      rw [mk_set]
      refine mk_congr fun j hj => ?_
      rw [Int.toNat_natCast, show ((k : Int) - 1).toNat = k - 1 by omega]
      unfold F
      by_cases a : j = k
      · rw [if_pos a, if_neg (by omega), if_pos (by omega), show (dirty && decide (k + 1 = 1)) = false by simp; omega, a]
      · rw [if_neg a]
        by_cases b : j = k - 1
        · rw [if_pos b, if_pos (by omega), show (j : Int) = (k : Int) - 1 by omega, show (k : Int) - 1 + 1 = (k : Int) by omega]
        · rw [if_neg b]
          by_cases c : j + 1 < k
          · rw [if_pos c, if_pos (by omega)]
          · rw [if_neg c, if_neg (by omega), if_neg (by omega), if_neg (by omega)]
    rw [hcs]
    have fin : ∀ h', h' = v → attachChainS_j9 (k : Int) (attachChainS_l2 y (attachChainS_k2 v y) f) (mk (n + 1) (F dirty v (k + 1))) h' = some true := by
      intro h' e
      subst e
      unfold attachChainS_j9 attachChainS_j4
      rw [chk_true (by unfold inR; omega)]
      exact next
    cases hd : (dirty && decide (k = 1)) with
    | true =>
      rw [hd, if_pos rfl] at hs
      rw [if_pos rfl, show daskS ⟨1, 2, (k : Int), 6, 1, (k : Int), [v], -1, (k : Int) - 1⟩ (k : Int) 0 = some ⟨2, (k : Int), 0, (k : Int), 2, (k : Int), 1, true, [v]⟩ from rfl, Option.bind_some]
      dsimp only
      rw [bif_f (by rfl), bif_f (by rfl), bif_f (by rfl), bif_f (by simp), show (!(true == decide (s = 2))) = false by rw [hs]; rfl]
      unfold attachChainS_j8
      dsimp only
      rw [bif_f rfl, bif_t rfl, bif_f (by rfl), chk_true ⟨by omega, by simp⟩]
      exact fin _ rfl
    | false =>
      rw [hd] at hs
      rw [if_neg (by simp)] at hs
      rw [if_neg (by simp), show daskS ⟨1, 2, (k : Int), 6, 1, (k : Int), [], -1, (k : Int) - 1⟩ (k : Int) 0 = some ⟨2, (k : Int), 0, (k : Int), 2, (k : Int), 1, false, []⟩ from rfl, Option.bind_some]
      dsimp only
      rw [bif_f (by rfl), bif_f (by rfl), bif_f (by rfl), bif_f (by simp), show (!(false == decide (s = 2))) = false by rw [hs]; rfl]
      unfold attachChainS_j8
      dsimp only
      rw [bif_f rfl, bif_f rfl]
      exact fin _ (hh hd)
end
theorem attachChain_pure (n v : Int) (dirty : Bool) : attachChainS n v dirty = some true := by
  obtain ⟨y, e1, y1, y2⟩ := within_is (v := n) (n := 5) (by omega) (by omega)
  obtain ⟨m, hm⟩ : ∃ m : Nat, 1 + y = (m : Int) := ⟨(1 + y).toNat, by omega⟩
  have hy : wr (1 + y) = (m : Int) := by rw [wr_small (by omega), hm]
  unfold attachChainS
  rw [e1, Option.bind_some]
  have h0 := l0_is y m hy (by omega) (attachChainS_k0 v dirty y) (m + 1) 0 64 (by omega) (by omega)
  rw [show (mk 0 fun _ => emp) = [] from rfl, show ((0 : Nat) : Int) = 0 from rfl] at h0
  rw [h0]
  unfold attachChainS_k0 letP
  dsimp only
  rw [mk_len, chk_true ⟨by omega, by omega⟩, enew_is _ _ _ _ _ (by simp), Option.bind_some, mk_nth (by omega), put_emp _ _ _ _ _ _ (by omega), Option.bind_some]
  dsimp only
  have hcs : setC (mk (m + 1) fun _ => emp) 0 (one1 (-1) (-1) dirty v 2) = mk (m + 1) (F dirty v 1) := by
    rw [mk_set]
    refine mk_congr fun j hj => ?_
    unfold F
    by_cases a : j = 0
    · subst a; rw [if_pos (by rfl), if_neg (by omega), if_pos rfl, show (dirty && decide (1 = 1)) = dirty by simp]; rfl
    · rw [if_neg (by show j ≠ 0; exact a), if_neg (by omega), if_neg (by omega)]
  rw [hcs]
  unfold attachChainS_j1
  cases dirty with
  | true => rw [bif_t rfl]; exact l2_is y v m true hy (by omega) m 1 64 2 _ (by omega) (by omega) (by omega) (by simp) (fun h => by simp at h)
  | false => rw [bif_f rfl]; exact l2_is y v m false hy (by omega) m 1 64 1 v (by omega) (by omega) (by omega) (by simp) (fun _ => rfl)
end Go.Proofs.Ytlnjnkbnppnbkaa
