/- Turns, in plain words: what is kept after each step; which lines are ready. -/
import Derived.Test.YtcigheahollkcaaTuB
import Derived.Test.YtcigheahollkcaaKsA
set_option linter.unusedSimpArgs false
set_option linter.unusedVariables false
namespace Go.Proofs.Ytcigheahollkcaa
open Go
theorem bif_t {α : Type} {c : Bool} {x y : α} (h : c = true) : (bif c then x else y) = x := by subst h; rfl
theorem bif_f {α : Type} {c : Bool} {x y : α} (h : c = false) : (bif c then x else y) = y := by subst h; rfl
section
variable {α : Type}
theorem mget_mset (l : List (Int × α)) (k k' : Int) (v : α) : mget (mset l k v) k' = if k' = k then some v else mget l k' := by
  induction l with
  | nil => rfl
  | cons p r ih =>
    unfold mset
    by_cases h : k = p.1
    · rw [if_pos h]
      show (if k' = p.1 then some v else mget r k') = if k' = k then some v else (if k' = p.1 then some p.2 else mget r k')
      rw [← h]
      by_cases h2 : k' = k
      · simp [h2]
      · simp [h2]
    · rw [if_neg h]
      show (if k' = p.1 then some p.2 else mget (mset r k v) k') = if k' = k then some v else (if k' = p.1 then some p.2 else mget r k')
      rw [ih]
      by_cases h2 : k' = k
      · subst h2; simp [h]
      · simp [h2]
theorem mget_none {l : List (Int × α)} {k : Int} : mget l k = none ↔ k ∉ l.map Prod.fst := by
  induction l with
  | nil => simp [mget]
  | cons p r ih =>
    show (if k = p.1 then some p.2 else mget r k) = none ↔ _
    by_cases h : k = p.1
    · simp [h]
    · simp [h, ih]
theorem mset_keys (l : List (Int × α)) (k : Int) (v : α) : (mset l k v).map Prod.fst = if k ∈ l.map Prod.fst then l.map Prod.fst else l.map Prod.fst ++ [k] := by
  induction l with
  | nil => rfl
  | cons p r ih =>
    unfold mset
    by_cases h : k = p.1
    · simp [h]
    · rw [if_neg h, List.map_cons, ih, List.map_cons]
      by_cases h2 : k ∈ r.map Prod.fst
      · rw [if_pos h2, if_pos (List.mem_cons_of_mem _ h2)]
      · rw [if_neg h2, if_neg (by rw [List.mem_cons]; rintro (e | e) <;> contradiction)]; rfl
theorem mset_nodup {l : List (Int × α)} (h : (l.map Prod.fst).Nodup) (k : Int) (v : α) : ((mset l k v).map Prod.fst).Nodup := by
  rw [mset_keys]
  by_cases h2 : k ∈ l.map Prod.fst
  · rw [if_pos h2]; exact h
  · rw [if_neg h2, List.nodup_append]
    refine ⟨h, by simp, fun a ha b hb => ?_⟩
    rintro rfl
    rw [List.mem_singleton] at hb
    subst hb
    exact h2 ha
theorem mset_len (l : List (Int × α)) (k : Int) (v : α) : (mset l k v).length ≤ l.length + 1 := by
  have := congrArg List.length (mset_keys l k v)
  rw [List.length_map] at this
  rw [this]
  by_cases h2 : k ∈ l.map Prod.fst
  · rw [if_pos h2]; simp
  · rw [if_neg h2]; simp
theorem mdel_sub (l : List (Int × α)) (k : Int) : (mdel l k).Sublist l := by
  induction l with
  | nil => exact .slnil
  | cons p r ih =>
    unfold mdel
    by_cases h : k = p.1
    · rw [if_pos h]; exact List.sublist_cons_self ..
    · rw [if_neg h]; exact ih.cons_cons p
theorem mget_mdel {l : List (Int × α)} (hn : (l.map Prod.fst).Nodup) (k k' : Int) : mget (mdel l k) k' = if k' = k then none else mget l k' := by
  induction l with
  | nil => simp [mdel, mget]
  | cons p r ih =>
    rw [List.map_cons, List.nodup_cons] at hn
    unfold mdel
    by_cases h : k = p.1
    · rw [if_pos h]
      by_cases h2 : k' = k
      · rw [if_pos h2, h2, h]; exact mget_none.2 hn.1
      · rw [if_neg h2]
        show _ = if k' = p.1 then some p.2 else mget r k'
        rw [if_neg (by rw [← h]; exact h2)]
    · rw [if_neg h]
      show (if k' = p.1 then some p.2 else mget (mdel r k) k') = if k' = k then none else (if k' = p.1 then some p.2 else mget r k')
      rw [ih hn.2]
      by_cases h2 : k' = k
      · subst h2; simp [h]
      · simp [h2]
end
theorem eq_of_rising : ∀ {l l' : List Int}, l.Pairwise (· < ·) → l'.Pairwise (· < ·) → (∀ a, a ∈ l ↔ a ∈ l') → l = l'
  | [], [], _, _, _ => rfl
  | [], b :: l', _, _, h => absurd ((h b).2 (List.mem_cons_self ..)) (by simp)
  | a :: l, [], _, _, h => absurd ((h a).1 (List.mem_cons_self ..)) (by simp)
  | a :: l, b :: l', h1, h2, h => by
    rw [List.pairwise_cons] at h1 h2
    have hab : a = b := by
      have ha := (h a).1 (List.mem_cons_self ..)
      have hb := (h b).2 (List.mem_cons_self ..)
      rw [List.mem_cons] at ha hb
      rcases ha with ha | ha
      · exact ha
      · rcases hb with hb | hb
        · exact hb.symm
        · have := h1.1 b hb; have := h2.1 a ha; omega
    subst hab
    rw [eq_of_rising h1.2 h2.2 fun x => ?_]
    constructor
    · intro hx
      have := (h x).1 (List.mem_cons_of_mem _ hx)
      rw [List.mem_cons] at this
      rcases this with rfl | hx2
      · exact absurd (h1.1 _ hx) (by omega)
      · exact hx2
    · intro hx
      have := (h x).2 (List.mem_cons_of_mem _ hx)
      rw [List.mem_cons] at this
      rcases this with rfl | hx2
      · exact absurd (h2.1 _ hx) (by omega)
      · exact hx2
theorem srt_rising {xs : List Int} (h : xs.Nodup) : (srt xs).Pairwise (· < ·) := by
  have h1 : (srt xs).Pairwise fun a b => leI a b = true := List.pairwise_mergeSort (fun a b c h1 h2 => by simp only [leI, decide_eq_true_eq] at *; omega) (fun a b => by simp only [leI, Bool.or_eq_true, decide_eq_true_eq]; omega) xs
  have h2 : (srt xs).Nodup := (List.mergeSort_perm xs leI).nodup_iff.2 h
  exact (h1.and h2).imp fun ⟨q1, q2⟩ => by simp only [leI, decide_eq_true_eq] at q1; omega
theorem srt_mem {xs : List Int} {a : Int} : a ∈ srt xs ↔ a ∈ xs := (List.mergeSort_perm xs leI).mem_iff
def own (T : TurnsS) (l : Int) : Bool := (mget T.owners l).isSome
def wl (T : TurnsS) (l : Int) : List (Int × Int) := wget T.wait l
/-- Lines are from 0 to m; at most N are known to the map. -/
structure Good (m : Int) (N : Nat) (T : TurnsS) : Prop where
  nodup : (T.wait.map Prod.fst).Nodup
  nodupo : (T.owners.map Prod.fst).Nodup
  keys : ∀ k ∈ T.wait.map Prod.fst, 0 ≤ k ∧ k < m
  few : T.wait.length ≤ N
  who : ∀ l w, mget T.owners l = some w → 0 ≤ w
  whos : ∀ l, ∀ q ∈ wl T l, 0 ≤ q.1
def isReady (T : TurnsS) (l : Int) : Bool := !own T l && decide (0 < (wl T l).length)
theorem owned_eq (T : TurnsS) (l : Int) : townedS T l = some (own T l) := rfl
theorem waiting_eq (T : TurnsS) (l : Int) : twaitingS T l = some (((wl T l).length : Nat) : Int) := rfl
theorem ready_loop (T : TurnsS) (ks : List Int) (hk : ks.length ≤ 60) : ∀ (d i : Nat) (acc : List Int) (fuel : Nat), i + d = ks.length → d < fuel → acc.length ≤ i →
    treadyS_l0 ks T treadyS_k0 fuel acc (i : Int) = some (acc ++ (ks.drop i).filter (isReady T)) := by
  intro d
  induction d with
  | zero =>
    intro i acc fuel hi hf ha
    obtain ⟨m, rfl⟩ : ∃ m, fuel = m + 1 := ⟨fuel - 1, by omega⟩
    rw [treadyS_l0]
    dsimp only
    rw [bif_f (decide_eq_false (by omega)), List.drop_eq_nil_of_le (by omega)]
    simp [treadyS_k0]
  | succ d ih =>
    intro i acc fuel hi hf ha
    obtain ⟨m, rfl⟩ : ∃ m, fuel = m + 1 := ⟨fuel - 1, by omega⟩
    have h1 : (i : Int) < ((ks.length : Nat) : Int) := by omega
    have h3 : (0 : Int) ≤ (i : Int) := by omega
    have h4 : inR ((i : Int) + 1) := by unfold inR; omega
    have hd := nth_drop (xs := ks) (i := i) (by omega)
    rw [treadyS_l0]
    dsimp only
    rw [bif_t (decide_eq_true h1), chk_true ⟨h3, h1⟩, owned_eq, Option.bind_some, hd, List.filter_cons]
    have nxt : ∀ acc', acc'.length ≤ i + 1 → treadyS_l0 ks T treadyS_k0 m acc' ((i : Int) + 1) = some (acc' ++ (ks.drop (i + 1)).filter (isReady T)) := fun acc' h => by
      have := ih (i + 1) acc' m (by omega) (by omega) h
      rw [show ((i + 1 : Nat) : Int) = (i : Int) + 1 by omega] at this
      exact this
    cases ho : own T (nth ks (i : Int))
    · rw [bif_t (by rfl), waiting_eq, Option.bind_some]
      by_cases hw : 0 < (wl T (nth ks (i : Int))).length
      · rw [bif_t (decide_eq_true (by omega))]
        dsimp only [letP]
        rw [chk_true (by rw [List.length_append]; simp; omega), chk_true h4, nxt _ (by rw [List.length_append]; simp; omega)]
        rw [if_pos (show isReady T (nth ks (i : Int)) = true by unfold isReady; rw [ho]; simp [hw])]
        simp
      · rw [bif_f (decide_eq_false (by omega)), chk_true h4, nxt _ (by omega)]
        rw [if_neg (show ¬ isReady T (nth ks (i : Int)) = true by unfold isReady; intro hc; rw [Bool.and_eq_true, decide_eq_true_eq] at hc; exact hw hc.2)]
    · rw [bif_f (by rfl), chk_true h4, nxt _ (by omega)]
      rw [if_neg (show ¬ isReady T (nth ks (i : Int)) = true by unfold isReady; rw [ho]; simp)]
def upto (m : Nat) : List Int := (List.range m).map fun (i : Nat) => (i : Int)
theorem upto_rising (m : Nat) : (upto m).Pairwise (· < ·) := by
  unfold upto
  rw [List.pairwise_map]
  exact (List.pairwise_lt_range).imp fun h => by omega
theorem upto_mem {m : Nat} {a : Int} : a ∈ upto m ↔ 0 ≤ a ∧ a < (m : Int) := by
  unfold upto
  rw [List.mem_map]
  constructor
  · rintro ⟨i, hi, rfl⟩
    have := List.mem_range.1 hi
    omega
  · rintro ⟨h1, h2⟩
    exact ⟨a.toNat, List.mem_range.2 (by omega), by omega⟩
theorem ready_is {m N : Nat} {T : TurnsS} (h : Good (m : Int) N T) (hm : m ≤ 1000) (hN : N ≤ 60) : treadyS T = some ((upto m).filter (isReady T)) := by
  unfold treadyS
  have hf := h.few
  rw [chk_true ⟨by omega, h.nodup, fun p hp => by
    have := h.keys p.1 (List.mem_map_of_mem hp)
    exact ⟨by unfold inR; omega, by omega⟩⟩]
  show treadyS_l0 (srt (T.wait.map Prod.fst)) T treadyS_k0 64 [] 0 = _
  have hl : (srt (T.wait.map Prod.fst)).length = T.wait.length := by rw [srt_length, List.length_map]
  have := ready_loop T (srt (T.wait.map Prod.fst)) (by omega) _ 0 [] 64 (Nat.zero_add _) (by omega) (by simp)
  rw [show ((0 : Nat) : Int) = 0 from rfl] at this
  rw [this, List.drop_zero, List.nil_append]
  congr 1
  refine eq_of_rising ((srt_rising h.nodup).filter _) ((upto_rising m).filter _) fun a => ?_
  rw [List.mem_filter, List.mem_filter, srt_mem, upto_mem]
  constructor
  · rintro ⟨h1, h2⟩
    exact ⟨h.keys a h1, h2⟩
  · rintro ⟨h1, h2⟩
    refine ⟨?_, h2⟩
    by_cases ha : a ∈ T.wait.map Prod.fst
    · exact ha
    · exfalso
      have hn : mget T.wait a = none := mget_none.2 ha
      unfold isReady wl wget at h2
      rw [hn] at h2
      simp at h2
theorem good_new (m : Int) : Good m 0 ⟨[], []⟩ := ⟨List.nodup_nil, List.nodup_nil, fun k hk => by simp at hk, Nat.le_refl _, fun l w hw => by simp [mget] at hw, fun l q hq => by simp [wl, wget, mget] at hq⟩
theorem wl_mset (o : List (Int × Int)) (W : List (Int × List (Int × Int))) (k l : Int) (v : List (Int × Int)) : wl ⟨o, mset W k v⟩ l = if l = k then v else wl ⟨o, W⟩ l := by
  unfold wl wget
  rw [mget_mset]
  by_cases h : l = k
  · simp [h]
  · simp [h]
theorem good_wait {m : Int} {N : Nat} {T : TurnsS} (h : Good m N T) {k : Int} (hk : 0 ≤ k ∧ k < m) (v : List (Int × Int)) (hv : ∀ q ∈ v, 0 ≤ q.1) : Good m (N + 1) ⟨T.owners, mset T.wait k v⟩ := by
  refine ⟨mset_nodup h.nodup k v, h.nodupo, fun a ha => ?_, by have := mset_len T.wait k v; have := h.few; show (mset T.wait k v).length ≤ N + 1; omega, h.who, fun l q hq => ?_⟩
  · have ha : a ∈ (mset T.wait k v).map Prod.fst := ha
    rw [mset_keys] at ha
    by_cases h2 : k ∈ T.wait.map Prod.fst
    · rw [if_pos h2] at ha; exact h.keys a ha
    · rw [if_neg h2, List.mem_append, List.mem_singleton] at ha
      rcases ha with ha | rfl
      · exact h.keys a ha
      · exact hk
  · rw [wl_mset] at hq
    by_cases hl : l = k
    · rw [if_pos hl] at hq; exact hv q hq
    · rw [if_neg hl] at hq; exact h.whos l q hq
theorem good_own {m : Int} {N : Nat} {T : TurnsS} (h : Good m N T) (k who : Int) (hw : 0 ≤ who) : Good m N ⟨mset T.owners k who, T.wait⟩ := by
  refine ⟨h.nodup, mset_nodup h.nodupo k who, h.keys, h.few, fun l w hlw => ?_, h.whos⟩
  have hlw : mget (mset T.owners k who) l = some w := hlw
  rw [mget_mset] at hlw
  by_cases hl : l = k
  · rw [if_pos hl] at hlw; injection hlw with e; omega
  · rw [if_neg hl] at hlw; exact h.who l w hlw
theorem good_del {m : Int} {N : Nat} {T : TurnsS} (h : Good m N T) (k : Int) : Good m N ⟨mdel T.owners k, T.wait⟩ := by
  refine ⟨h.nodup, ((mdel_sub T.owners k).map _).nodup h.nodupo, h.keys, h.few, fun l w hlw => ?_, h.whos⟩
  have hlw : mget (mdel T.owners k) l = some w := hlw
  rw [mget_mdel h.nodupo] at hlw
  by_cases hl : l = k
  · rw [if_pos hl] at hlw; cases hlw
  · rw [if_neg hl] at hlw; exact h.who l w hlw
theorem good_less {m : Int} {N N' : Nat} {T : TurnsS} (h : Good m N T) (hN : N ≤ N') : Good m N' T := ⟨h.nodup, h.nodupo, h.keys, Nat.le_trans h.few hN, h.who, h.whos⟩
theorem own_mset (o : List (Int × Int)) (W : List (Int × List (Int × Int))) (k l v : Int) : own ⟨mset o k v, W⟩ l = if l = k then true else own ⟨o, W⟩ l := by
  unfold own
  rw [mget_mset]
  by_cases h : l = k <;> simp [h]
theorem own_mdel {o : List (Int × Int)} (hn : (o.map Prod.fst).Nodup) (W : List (Int × List (Int × Int))) (k l : Int) : own ⟨mdel o k, W⟩ l = if l = k then false else own ⟨o, W⟩ l := by
  unfold own
  rw [mget_mdel hn]
  by_cases h : l = k <;> simp [h]
theorem ask_is {T : TurnsS} {l who : Int} (id : Int) (hl : (wl T l).length ≤ 1099511627776) (hw : 0 ≤ who) :
    taskS T l who id = some (if own T l = true ∨ 0 < (wl T l).length then (false, ⟨T.owners, mset T.wait l (wl T l ++ [(who, id)])⟩) else (true, ⟨mset T.owners l who, T.wait⟩)) := by
  unfold taskS
  rw [bif_f (decide_eq_false (by omega)), owned_eq, Option.bind_some]
  cases ho : own T l
  · rw [bif_f rfl, waiting_eq, Option.bind_some]
    by_cases h : 0 < (wl T l).length
    · rw [bif_t (decide_eq_true (by omega)), chk_true (show (wget T.wait l).length ≤ _ from hl), if_pos (.inr h)]; rfl
    · rw [bif_f (decide_eq_false (by omega)), if_neg (by rintro (h2 | h2); cases h2; exact h h2)]
  · rw [bif_t rfl, chk_true (show (wget T.wait l).length ≤ _ from hl), if_pos (.inl rfl)]; rfl
theorem owner_is (T : TurnsS) (l : Int) : townerS T l = some ((mget T.owners l).getD (-1)) := by
  unfold townerS letP
  cases mget T.owners l <;> rfl
theorem release_is {T : TurnsS} {l w : Int} (h : mget T.owners l = some w) : treleaseS T l w = some (0, ⟨mdel T.owners l, T.wait⟩) := by
  unfold treleaseS
  have ho : own T l = true := by unfold own; rw [h]; rfl
  rw [owned_eq, Option.bind_some, ho, bif_f (show (!true) = false from rfl)]
  unfold letP
  dsimp only
  rw [h, bif_f (by simp)]
theorem next_is {T : TurnsS} {l : Int} {p : Int × Int} {xs : List (Int × Int)} (ho : own T l = false) (hw : wl T l = p :: xs) : tnextS T l = some (p.1, p.2, true, ⟨mset T.owners l p.1, mset T.wait l xs⟩) := by
  have hw : wget T.wait l = p :: xs := hw
  unfold tnextS
  rw [owned_eq, Option.bind_some, ho, bif_f rfl, waiting_eq, Option.bind_some, show wl T l = p :: xs from hw, bif_f (decide_eq_false (by rw [List.length_cons]; omega)), hw, chk_true ⟨by omega, by rw [List.length_cons]; omega⟩, chk_true (by rw [List.length_cons]; omega)]
  rfl
theorem next_none {T : TurnsS} {l : Int} (h : own T l = true ∨ (wl T l).length = 0) : tnextS T l = some (0, 0, false, T) := by
  unfold tnextS
  rw [owned_eq, Option.bind_some]
  cases ho : own T l
  · rw [bif_f rfl, waiting_eq, Option.bind_some]
    rcases h with h | h
    · rw [h] at ho; cases ho
    · rw [bif_t (decide_eq_true (by omega))]
  · rw [bif_t rfl]
end Go.Proofs.Ytcigheahollkcaa
