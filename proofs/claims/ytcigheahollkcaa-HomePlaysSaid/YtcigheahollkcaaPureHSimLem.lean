/- Both writings of homes keep step. -/
import Derived.Test.YtcigheahollkcaaPureHomeLem
import Derived.Test.YtcigheahollkcaaPureHTurnsLem
import Derived.Test.YtcigheahollkcaaSaA
import Derived.Test.YtcigheahollkcaaBoA
set_option linter.unusedSectionVars false
set_option linter.unusedSimpArgs false
set_option linter.unusedVariables false
namespace Go.Proofs.Ytcigheahollkcaa
open Go
theorem nthT_at {α : Type} [Rec α] {L : List α} {i : Nat} {x : α} (h : L[i]? = some x) : nthT L (i : Int) = x := by
  unfold nthT
  rw [Int.toNat_natCast, List.getD_eq_getElem?_getD, h]; rfl
theorem rright_is (p : PktS) : rrightS p = some (okP p) := by
  unfold rrightS okP
  simp only [bif_and]
  congr 1
  rw [Bool.eq_iff_iff]
  simp
  omega
theorem rsamep_loop (a b : PktS) (hab : a.data = b.data) (hn : a.data.length ≤ 60) : ∀ (d i fuel : Nat), i + d = a.data.length → d < fuel → rsamepS_l1 a b rsamepS_k1 fuel (i : Int) = some true := by
  intro d
  induction d with
  | zero =>
    intro i fuel hi hf
    obtain ⟨f, rfl⟩ : ∃ f, fuel = f + 1 := ⟨fuel - 1, by omega⟩
    rw [rsamepS_l1]
    dsimp only
    rw [bif_f (decide_eq_false (by omega))]; rfl
  | succ d ih =>
    intro i fuel hi hf
    obtain ⟨f, rfl⟩ : ∃ f, fuel = f + 1 := ⟨fuel - 1, by omega⟩
    have q5 : inR ((i : Int) + 1) := by unfold inR; omega
    rw [rsamepS_l1]
    dsimp only
    rw [bif_t (decide_eq_true (by omega)), chk_true ⟨by omega, by omega⟩, chk_true (by rw [← hab]; exact ⟨by omega, by omega⟩), ← hab, bif_f (by simp), chk_true q5]
    have := ih (i + 1) f (by omega) (by omega)
    rw [show ((i + 1 : Nat) : Int) = (i : Int) + 1 by omega] at this
    exact this
theorem rsamep_is (p : PktS) (hn : p.data.length ≤ 60) : rsamepS p p = some true := by
  unfold rsamepS
  rw [bif_f (by simp), bif_f (by simp), bif_f (by simp), bif_f (by simp), bif_f (by simp), bif_f (by simp), bif_f (by simp), bif_f (by simp), show (!decide (((p.data.length : Nat) : Int) = ((p.data.length : Nat) : Int))) = false by simp]
  unfold rsamepS_j0
  rw [bif_f rfl]
  exact rsamep_loop p p rfl hn p.data.length 0 64 (by omega) (by omega)
theorem exI_within (v n : Int) (h1 : 1 ≤ n) (h2 : n ≤ 5000) : ∃ y, withinS v n = some y := let ⟨k, e, _⟩ := within_is h1 h2; ⟨k, e⟩
/-- A packet by small numbers has few words. -/
def Few (a : Option PktS) : Prop := ∃ y, a = some y ∧ y.data.length ≤ 60
theorem few_bif {c : Bool} {a b : Option PktS} (h1 : Few a) (h2 : Few b) : Few (bif c then a else b) := by cases c <;> assumption
theorem few_bind {α : Type} {a : Option α} {f : α → Option PktS} (h1 : ∃ y, a = some y) (h2 : ∀ x, Few (f x)) : Few (a.bind f) := by
  obtain ⟨x, rfl⟩ := h1
  exact h2 x
theorem few_cut {xs : List Int} {n : Int} (h1 : 0 ≤ n) (h2 : n ≤ 60) {f : List Int → Option PktS} (h : ∀ ys : List Int, ys.length ≤ 60 → Few (f ys)) : Few ((cutS xs n).bind f) := by
  obtain ⟨ys, e1, e2⟩ := cut_is xs (n := n) h1 (by omega)
  rw [e1]
  exact h ys (by omega)
theorem plpacket_few (p : PktS) (how : Int) : Few (plpacketS p how) := by
  unfold plpacketS plpacketS_j0
  repeat' first
    | exact ⟨_, rfl, by assumption⟩
    | exact ⟨_, rfl, Nat.le_trans (List.length_take_le _ _) (by decide)⟩
    | refine few_bif ?_ ?_
    | refine few_cut (by omega) (by omega) fun _ _ => ?_
    | refine few_bind (exI_within _ _ (by omega) (by omega)) fun _ => ?_
theorem ksame_is (xs : List Int) (h : xs.length ≤ 60) : ksameS xs xs = some true := by
  unfold ksameS
  rw [chk_true (show okL xs by unfold okL; omega)]; simp
theorem okP_data {p : PktS} (h : okP p = true) : p.data.length ≤ 4 ∧ 0 ≤ p.line ∧ 0 ≤ p.src := by
  unfold okP at h
  simp only [Bool.and_eq_true, decide_eq_true_eq, Bool.not_eq_true', decide_eq_false_iff_not] at h
  omega
/-! The first words of a line. -/
theorem pwords_val {c : CfgS} (hc : CfgOk c) {line : Int} (h0 : 0 ≤ line) (h1 : line < c.lines) : pwordsS c line = some (cpI (List.replicate c.words.toNat 0) (c.init.drop (line * c.words).toNat)) := by
  have h2 := hc.lines
  have h3 := hc.words
  have h4 := hc.init
  have hm : 0 ≤ line * c.words ∧ line * c.words ≤ 8 := by
    rcases (by omega : c.words = 1 ∨ c.words = 2) with e | e <;> rw [e] <;> omega
  unfold pwordsS pwordsS_j0 letP
  dsimp only
  rw [bif_f (decide_eq_false (by omega)), decide_eq_false (by omega), bif_f rfl, chk_true ⟨by omega, by omega⟩, wr_small (x := line * c.words) (by omega), chk_true (by split <;> omega)]
  congr 1
  congr 1
  by_cases e : ((c.init.length : Nat) : Int) < line * c.words
  · rw [if_pos e, List.drop_eq_nil_of_le (by omega), List.drop_eq_nil_of_le (by omega)]; simp
  · rw [if_neg e, List.take_of_length_le (by rw [List.length_drop]; exact Nat.le_refl _)]
theorem rwords_val {c : CfgS} (hc : CfgOk c) {line : Int} (h0 : 0 ≤ line) (h1 : line < c.lines) : rwordsS c line = some (cpI (List.replicate c.words.toNat 0) (c.init.drop (line * c.words).toNat)) := by
  have h2 := hc.lines
  have h3 := hc.words
  have h4 := hc.init
  have hm : 0 ≤ line * c.words ∧ line * c.words ≤ 8 := by
    rcases (by omega : c.words = 1 ∨ c.words = 2) with e | e <;> rw [e] <;> omega
  obtain ⟨K, hK⟩ : ∃ K : Nat, line * c.words = (K : Int) := ⟨(line * c.words).toNat, by omega⟩
  have g : ∀ i : Nat, i ≤ 2 → wr (wr (line * c.words) + (i : Int)) = ((K + i : Nat) : Int) := fun i hi => by
    rw [wr_small (x := line * c.words) (by omega), hK, wr_small (by omega)]; omega
  have step : ∀ (i : Nat) (m : Nat) (xs : List Int), i < 2 → (i : Int) < c.words → xs.length ≤ 10 → rwordsS_l1 c line rwordsS_k1 (m + 1) xs (i : Int) = rwordsS_l1 c line rwordsS_k1 m (xs ++ [(c.init[K + i]?).getD 0]) ((i + 1 : Nat) : Int) := by
    intro i m xs hi hw hx
    rw [rwordsS_l1]
    dsimp only [letP]
    rw [bif_t (decide_eq_true hw), g i (by omega)]
    by_cases e : ((K + i : Nat) : Int) < ((c.init.length : Nat) : Int)
    · have hn : nth c.init ((K + i : Nat) : Int) = (c.init[K + i]?).getD 0 := by unfold nth; rw [Int.toNat_natCast, List.getD_eq_getElem?_getD]
      rw [bif_t (decide_eq_true e), chk_true ⟨by omega, e⟩, hn, chk_true (by simp; omega), chk_true (by unfold inR; omega), show (i : Int) + 1 = ((i + 1 : Nat) : Int) by omega]
    · rw [bif_f (decide_eq_false e), chk_true (by simp; omega), chk_true (by unfold inR; omega), show (i : Int) + 1 = ((i + 1 : Nat) : Int) by omega, List.getElem?_eq_none (by omega)]; rfl
  have stop : ∀ (i : Nat) (m : Nat) (xs : List Int), (i : Int) = c.words → rwordsS_l1 c line rwordsS_k1 (m + 1) xs (i : Int) = some xs := by
    intro i m xs hi
    rw [rwordsS_l1]
    dsimp only
    rw [bif_f (decide_eq_false (by omega))]; rfl
  unfold rwordsS
  rw [bif_f (decide_eq_false (by omega)), decide_eq_false (by omega)]
  unfold rwordsS_j0
  rw [bif_f rfl, show (0 : Int) = ((0 : Nat) : Int) from rfl, step 0 63 [] (by omega) (by omega) (by simp), hK, Int.toNat_natCast]
  have d0 : (c.init.drop K)[0]? = c.init[K]? := by rw [List.getElem?_drop]; rfl
  have d1 : (c.init.drop K)[1]? = c.init[K + 1]? := by rw [List.getElem?_drop]
  rcases (by omega : c.words = 1 ∨ c.words = 2) with e | e
  · rw [stop (0 + 1) 62 _ (by omega), e, show K + 0 = K from rfl, ← d0]
    congr 1
    cases c.init.drop K with
    | nil => rfl
    | cons a t => simp [cpI]
  · rw [step (0 + 1) 62 _ (by omega) (by omega) (by simp), stop (0 + 1 + 1) 61 _ (by omega), e, show K + 0 = K from rfl, show K + (0 + 1) = K + 1 from rfl, ← d0, ← d1]
    congr 1
    cases c.init.drop K with
    | nil => rfl
    | cons a t =>
      cases t with
      | nil => simp [cpI]
      | cons b u => simp [cpI]
theorem mnew_loop2 {c : CfgS} (hc : CfgOk c) (node : Int) (hn : 0 ≤ node) : ∀ (d i fuel : Nat) (rows : List (Int × RowS)), (i : Int) + d = c.lines → d < fuel →
    (∀ l, (mget rows l).isSome = true ↔ here c node l ∧ l < (i : Int)) → (∀ l r, mget rows l = some r → (r.data.length : Int) = c.words ∧ r.state = 0 ∧ r.head = -1 ∧ pwordsS c l = some r.data) →
    ∃ rows', mnewS_l0 c node mnewS_k0 fuel (i : Int) ⟨c, rows⟩ = some ⟨c, rows'⟩ ∧ RowsOk c node rows' ∧ ∀ l r, mget rows' l = some r → r.state = 0 ∧ r.head = -1 ∧ pwordsS c l = some r.data := by
  have h2 := hc.lines
  intro d
  induction d with
  | zero =>
    intro i fuel rows hi hf h3 h4
    obtain ⟨f, rfl⟩ : ∃ f, fuel = f + 1 := ⟨fuel - 1, by omega⟩
    rw [mnewS_l0]
    dsimp only
    rw [bif_f (decide_eq_false (by omega))]
    refine ⟨rows, rfl, ⟨fun l => ?_, fun l r h => (h4 l r h).1⟩, fun l r h => (h4 l r h).2⟩
    rw [h3]
    exact ⟨fun h => h.1, fun h => ⟨h, by have := h.2.1; omega⟩⟩
  | succ d ih =>
    intro i fuel rows hi hf h3 h4
    obtain ⟨f, rfl⟩ : ∃ f, fuel = f + 1 := ⟨fuel - 1, by omega⟩
    rw [mnewS_l0]
    dsimp only
    rw [bif_t (decide_eq_true (by omega)), phome_is hc, Option.bind_some, if_neg (by omega)]
    by_cases h : (i : Int).tmod c.nodes = node
    · obtain ⟨ws, e1, e2⟩ := pwords_is hc (line := (i : Int)) (by omega) (by omega)
      rw [bif_t (decide_eq_true h), e1, Option.bind_some]
      unfold letP
      dsimp only
      rw [chk_true (by unfold inR; omega), show (i : Int) + 1 = ((i + 1 : Nat) : Int) by omega]
      refine ih (i + 1) f _ (by omega) (by omega) (fun l => ?_) (fun l r hr => ?_)
      · rw [mget_mset]
        by_cases e : l = (i : Int)
        · subst e
          rw [if_pos rfl]
          exact ⟨fun _ => ⟨⟨by omega, by omega, h⟩, by omega⟩, fun _ => rfl⟩
        · rw [if_neg e, h3]
          constructor
          · rintro ⟨a, b⟩; exact ⟨a, by omega⟩
          · rintro ⟨a, b⟩; exact ⟨a, by omega⟩
      · rw [mget_mset] at hr
        by_cases e : l = (i : Int)
        · rw [if_pos e] at hr
          injection hr with hr
          subst hr
          exact ⟨e2, rfl, rfl, by rw [e]; exact e1⟩
        · rw [if_neg e] at hr
          exact h4 l r hr
    · rw [bif_f (decide_eq_false h), chk_true (by unfold inR; omega), show (i : Int) + 1 = ((i + 1 : Nat) : Int) by omega]
      refine ih (i + 1) f rows (by omega) (by omega) (fun l => ?_) h4
      rw [h3]
      constructor
      · rintro ⟨a, b⟩; exact ⟨a, by omega⟩
      · rintro ⟨a, b⟩
        refine ⟨a, ?_⟩
        by_cases e : l = (i : Int)
        · subst e; exact absurd a.2.2 h
        · omega
theorem snew_loop {c : CfgS} (hc : CfgOk c) (node : Int) : ∀ (d i fuel : Nat) (rs : List RowS), (i : Int) + d = c.lines → d < fuel → rs.length = i → (∀ j, j < i → ∃ ws, pwordsS c (j : Int) = some ws ∧ rs[j]? = some ⟨0, -1, ws⟩) →
    ∃ rs', snewS_l0 c node snewS_k0 fuel (i : Int) ⟨c, node, rs, [], []⟩ = some ⟨c, node, rs', [], []⟩ ∧ (rs'.length : Int) = c.lines ∧ ∀ j : Nat, (j : Int) < c.lines → ∃ ws, pwordsS c (j : Int) = some ws ∧ rs'[j]? = some ⟨0, -1, ws⟩ := by
  have h2 := hc.lines
  intro d
  induction d with
  | zero =>
    intro i fuel rs hi hf h3 h4
    obtain ⟨f, rfl⟩ : ∃ f, fuel = f + 1 := ⟨fuel - 1, by omega⟩
    rw [snewS_l0]
    dsimp only
    rw [bif_f (decide_eq_false (by omega))]
    exact ⟨rs, rfl, by omega, fun j hj => h4 j (by omega)⟩
  | succ d ih =>
    intro i fuel rs hi hf h3 h4
    obtain ⟨f, rfl⟩ : ∃ f, fuel = f + 1 := ⟨fuel - 1, by omega⟩
    have hp := pwords_val hc (line := (i : Int)) (by omega) (by omega)
    have hr := rwords_val hc (line := (i : Int)) (by omega) (by omega)
    rw [snewS_l0]
    dsimp only
    rw [bif_t (decide_eq_true (by omega)), hr, Option.bind_some]
    unfold letP
    dsimp only
    rw [chk_true (by simp; omega), chk_true (by unfold inR; omega), show (i : Int) + 1 = ((i + 1 : Nat) : Int) by omega]
    refine ih (i + 1) f _ (by omega) (by omega) (by simp [h3]) (fun j hj => ?_)
    by_cases e : j = i
    · exact ⟨_, by rw [e]; exact hp, by rw [e, ← h3]; simp⟩
    · obtain ⟨ws, a1, a2⟩ := h4 j (by omega)
      exact ⟨ws, a1, by rw [List.getElem?_append_left (by omega)]; exact a2⟩
instance (c : CfgS) (node l : Int) : Decidable (here c node l) := by unfold here; infer_instance
/-- Both homes say the same. -/
structure HSim (c : CfgS) (node : Int) (N : Nat) (h : HomeS) (q : HomesS) : Prop where
  good : HGood c node N h
  sim : RSim c node q.r c.lines N h.turns q
  rlen : (q.r.length : Int) = c.lines
  rows : ∀ l r, mget h.dir.rows l = some r → q.r[l.toNat]? = some r
  wait : ∀ l, wl h.turns l ≠ [] → here c node l
theorem both_new {c : CfgS} (hc : CfgOk c) {node : Int} (hn : 0 ≤ node) : ∃ h q, hnewS c node = some h ∧ snewS c node = some q ∧ HSim c node 0 h q := by
  have h2 := hc.lines
  obtain ⟨rows, e1, e2, e3⟩ := mnew_loop2 hc node hn c.lines.toNat 0 64 [] (by omega) (by omega) (fun l => ⟨fun h => by simp [mget] at h, fun h => by have := h.1.1; omega⟩) (fun l r h => by simp [mget] at h)
  obtain ⟨rs, f1, f2, f3⟩ := snew_loop hc node c.lines.toNat 0 64 [] (by omega) (by omega) rfl (fun j hj => by omega)
  rw [show ((0 : Nat) : Int) = 0 from rfl] at e1 f1
  refine ⟨⟨⟨c, rows⟩, ⟨[], []⟩, c, node⟩, ⟨c, node, rs, [], []⟩, ?_, f1, ⟨rfl, rfl, rfl, e2, good_new _⟩, RSim.new c node rs c.lines, f2, fun l r hr => ?_, fun l hl => absurd rfl hl⟩
  · unfold hnewS mnewS
    rw [e1, Option.bind_some]; rfl
  · have hr : mget rows l = some r := hr
    obtain ⟨a1, a2, a3⟩ := e3 l r hr
    have hh := (e2.is l).1 (by rw [hr]; rfl)
    obtain ⟨ws, b1, b2⟩ := f3 l.toNat (by have := hh.1; have := hh.2.1; omega)
    rw [show ((l.toNat : Nat) : Int) = l by have := hh.1; omega, a3] at b1
    injection b1 with b1
    subst b1
    show rs[l.toNat]? = some r
    rw [b2]
    cases r
    simp at a1 a2
    simp [a1, a2]
section
variable {c : CfgS} (hc : CfgOk c) {node : Int} {N : Nat} {h : HomeS} {q : HomesS} (hv : HSim c node N h q) (hN : N ≤ 50)
include hc hv
theorem HSim.here_is (l : Int) : shereS q l = some (decide (here c node l)) := by
  have h1 := hc.nodes
  unfold shereS here
  rw [hv.sim.kc, hv.sim.kn]
  by_cases a : 0 ≤ l
  · rw [bif_t (decide_eq_true a)]
    by_cases b : l < c.lines
    · rw [bif_t (decide_eq_true b), chk_true h1.1]; simp [a, b]
    · rw [bif_f (decide_eq_false b)]; simp [b]
  · rw [bif_f (decide_eq_false a)]; simp [a]
theorem HSim.row_at {l : Int} {r : RowS} (hr : mget h.dir.rows l = some r) : (0 ≤ l ∧ l < ((q.r.length : Nat) : Int)) ∧ nthT q.r l = r ∧ r.data.length ≤ 60 := by
  have hh := (hv.good.rows.is l).1 (by rw [hr]; rfl)
  have h1 := hv.rlen
  have h2 := hv.good.rows.words l r hr
  have h3 := hc.words
  refine ⟨⟨hh.1, by rw [h1]; exact hh.2.1⟩, ?_, by omega⟩
  have := nthT_at (i := l.toNat) (hv.rows l r hr)
  rw [show ((l.toNat : Nat) : Int) = l by have := hh.1; omega] at this
  exact this
include hN
theorem HSim.same_loop : ∀ (d : Nat) (v : Int) (fuel : Nat), v + d = c.lines + 1 → -1 ≤ v → d < fuel → same11S_l0 q h same11S_k0 fuel v = some true := by
  have h2 := hc.lines
  intro d
  induction d with
  | zero =>
    intro v fuel hi h1 hf
    obtain ⟨f, rfl⟩ : ∃ f, fuel = f + 1 := ⟨fuel - 1, by omega⟩
    rw [same11S_l0]
    dsimp only
    rw [hv.sim.kc, bif_f (decide_eq_false (by omega))]; rfl
  | succ d ih =>
    intro v fuel hi h1 hf
    obtain ⟨f, rfl⟩ : ∃ f, fuel = f + 1 := ⟨fuel - 1, by omega⟩
    have next := ih (v + 1) f (by omega) (by omega) (by omega)
    have j1 : same11S_j1 q v h (same11S_l0 q h same11S_k0 f) = some true := by
      unfold same11S_j1
      rw [hv.here_is hc, Option.bind_some]
      by_cases e : here c node v
      · rw [bif_t (decide_eq_true e), owner_is, Option.bind_some, hv.sim.owner (by omega), Option.bind_some, bif_f (by simp), waiting_eq, Option.bind_some, hv.sim.waiting (by omega), Option.bind_some, bif_f (by simp), chk_true (by unfold inR; omega)]
        exact next
      · rw [bif_f (decide_eq_false e), chk_true (by unfold inR; omega)]
        exact next
    rw [same11S_l0]
    dsimp only
    rw [hv.sim.kc, bif_t (decide_eq_true (by omega))]
    unfold mrowS letP
    dsimp only
    cases hr : mget h.dir.rows v with
    | none =>
      have hn : ¬ here c node v := fun e => by have := (hv.good.rows.is v).2 e; rw [hr] at this; cases this
      show ((copyS []).bind _).bind _ = _
      rw [copy_is [] (by simp), Option.bind_some, Option.bind_some]
      dsimp only
      rw [hv.here_is hc, decide_eq_false hn, Option.bind_some, bif_f (by rfl), bif_f (by rfl)]
      exact j1
    | some r =>
      have hy : here c node v := (hv.good.rows.is v).1 (by rw [hr]; rfl)
      obtain ⟨b1, b2, b3⟩ := hv.row_at hc hr
      show ((copyS r.data).bind _).bind _ = _
      rw [copy_is r.data b3, Option.bind_some, Option.bind_some]
      dsimp only
      rw [hv.here_is hc, decide_eq_true hy, Option.bind_some, bif_f (by rfl), bif_t (by rfl), chk_true b1, b2]
      have : sameRowS ⟨(Option.getD (some r) (Rec.zero : RowS)).state, (Option.getD (some r) (Rec.zero : RowS)).head, r.data⟩ r = some true := by
        unfold sameRowS
        show (bif decide (r.state = r.state) then _ else _) = _
        rw [bif_t (by simp)]
        show (bif decide (r.head = r.head) then _ else _) = _
        rw [bif_t (by simp), ksame_is _ b3]; rfl
      rw [this, Option.bind_some, bif_f (by rfl)]
      exact j1
theorem HSim.same {m : Nat} (hm : c.lines = (m : Int)) : same11S h q = some true := by
  have h2 := hc.lines
  have hs := hv.sim
  have hg := hv.good.turns
  rw [hm] at hs hg
  unfold same11S
  rw [pending_is hg (by omega) (by omega), Option.bind_some, hs.ready (by omega), Option.bind_some, bif_f (by simp)]
  exact hv.same_loop hc hN (m + 2) (-1) 64 (by omega) (by omega) (by omega)
end
end Go.Proofs.Ytcigheahollkcaa
