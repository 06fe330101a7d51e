/- Lists of records in memory: each in a row of cells, with at most one list of numbers, which lies for good.
   Conditions: none. -/
import Derived.Test.YtcigheahollkcaaSlPur
namespace Go.Proofs.Ytcigheahollkcaa
open Go Go.RowKit

class Rec (α : Type) where
  k : Nat
  row : α → Option Addr → Nat → List Value
  data : α → List Int
  zero : α
  pos : 0 < k
  len : ∀ x a c, (row x a c).length = k
  one : ∀ x a c, (row x a c).all oneCell = true
  inj : ∀ x a c a' c', row x a c = row x a' c' → a = a' ∨ data x = []
  injc : ∀ x a c a' c', row x a c = row x a' c' → c = c' ∨ data x = []
theorem StepTo.conseq2 {P : Program} {W0 : World} {Γ : List Asn} {e : Env} {op : Op} {ty : TypeId} {Post Post' : Value → List Asn → Prop} (h : StepTo P W0 Γ e op ty Post) (k : ∀ v Δ, Post v Δ → ∃ Δ', Post' v Δ' ∧ ∀ w, Sat W0 Δ w → Sat W0 Δ' w) : StepTo P W0 Γ e op ty Post' :=
  fun w hw o a K Q kk => h w hw o a K Q fun v Δ w' h1 h2 => let ⟨Δ', p1, p2⟩ := k v Δ h1; kk v Δ' w' p1 (p2 w' h2)
theorem flat_drop2 {k : Nat} : ∀ (lo : Nat) {rows : List (List Value)}, (∀ r ∈ rows, r.length = k) → (rows.drop lo).flatten = rows.flatten.drop (lo * k)
  | 0, rows, _ => by simp
  | lo + 1, [], _ => by simp
  | lo + 1, r :: rows, h => by
    have h1 := h r (List.mem_cons_self ..)
    rw [List.drop_succ_cons, flat_drop2 lo fun x hx => h x (List.mem_cons_of_mem _ hx), List.flatten_cons, Nat.add_mul, Nat.one_mul, Nat.add_comm, ← h1, ← List.drop_drop, List.drop_left]
theorem flat_take2 {n j : Nat} {rows : List (List Value)} {v : Value} (h : (rows.take n).flatten[j]? = some v) : rows.flatten[j]? = some v := by
  have h2 := List.take_append_drop n rows
  rw [← h2, List.flatten_append, List.getElem?_append_left (List.getElem?_eq_some_iff.1 h).1]
  exact h
def nthT {α : Type} [Rec α] (xs : List α) (i : Int) : α := xs.getD i.toNat Rec.zero
/-- The rows hold the records, whose lists lie for good. -/
def RecR {α : Type} [Rec α] (rows : List (List Value)) (xs : List α) : Asn where
  holds _ I h := rows.length = xs.length ∧ ∀ (i : Nat) (r : List Value) (x : α), rows[i]? = some r → xs[i]? = some x → ∃ a cap, r = Rec.row x a cap ∧ ImmH a (Rec.data x) I h
  loc := by
    rintro S I h h' ⟨h0, h1⟩ he
    refine ⟨h0, fun i r e hr hx => ?_⟩
    obtain ⟨a, cap, q1, q2⟩ := h1 i r e hr hx
    exact ⟨a, cap, q1, (ImmI a (Rec.data e)).loc q2 fun b hb => he b (hb.elim (fun f => f.elim) .inr)⟩
  mono := by
    rintro S I I' h ⟨h0, h1⟩ hi
    refine ⟨h0, fun i r e hr hx => ?_⟩
    obtain ⟨a, cap, q1, q2⟩ := h1 i r e hr hx
    exact ⟨a, cap, q1, (ImmI a (Rec.data e)).mono q2 hi⟩
def RecsX {α : Type} [Rec α] (rows : List (List Value)) (a : Option Addr) (cap : Nat) (xs : List α) : Asn := .star [RowsA (Rec.k α) a cap rows, RecR rows xs]
def ImmRX {α : Type} [Rec α] (rows : List (List Value)) (a : Option Addr) (xs : List α) : Asn := .star [ImmR (Rec.k α) a rows, RecR rows xs]
/-- The records may be read at a. -/
structure RecRd {α : Type} [Rec α] (W0 : World) (Γ : List Asn) (a : Option Addr) (rows : List (List Value)) (xs : List α) : Prop where
  reads : Reads W0 Γ a rows
  recs : ∀ (S I : Nat → Prop) (h : Nat → Option Obj), Star Γ S I h → (RecR rows xs).holds S I h

/-- The lists of the records have room for what they hold. -/
def CapR {α : Type} [Rec α] (rows : List (List Value)) (xs : List α) : Prop := ∀ (i : Nat) (x : α) (a : Option Addr) (c : Nat), xs[i]? = some x → rows[i]? = some (Rec.row x a c) → (Rec.data x).length ≤ c
section
variable {P : Program} {n : Nat} {W0 w : World} {e : Env} {Γ Γ' Γ'' : List Asn} {K : Act → World → Prop} {α : Type} [Rec α] {a a2 : Option Addr} {cap : Nat} {rows rows2 : List (List Value)} {xs ys zs : List α}
theorem nthT_get {i : Int} (h : 0 ≤ i ∧ i < (xs.length : Int)) : xs[i.toNat]? = some (nthT xs i) := by
  have : i.toNat < xs.length := by omega
  simp [nthT, this]
theorem CapR.at {i : Int} {x : α} {c : Nat} (hc : CapR rows xs) (h : 0 ≤ i ∧ i < (xs.length : Int)) (hx : nthT xs i = x) (hr : rows[i.toNat]? = some (Rec.row x a c)) : (Rec.data x).length ≤ c := hc i.toNat x a c (by rw [← hx]; exact nthT_get h) hr
theorem RecR.length (h : Sat W0 (RecR rows xs :: Γ) w) : rows.length = xs.length := by
  obtain ⟨S, I, ⟨S1, S2, h1, h2, h3, ⟨h4, h5⟩, h6⟩, r⟩ := h
  exact h4
theorem RecR.get (h : Sat W0 (RecR rows xs :: Γ) w) {i : Nat} {x : α} (hx : xs[i]? = some x) : ∃ a cap, rows[i]? = some (Rec.row x a cap) ∧ Sat W0 (ImmI a (Rec.data x) :: Γ) w := by
  have hl := RecR.length h
  obtain ⟨S, I, ⟨S1, S2, h1, h2, h3, ⟨h4, h5⟩, h6⟩, r⟩ := h
  have hi : i < rows.length := by
    rw [hl]
    rcases Nat.lt_or_ge i xs.length with h | h
    · exact h
    · rw [List.getElem?_eq_none h] at hx; cases hx
  obtain ⟨a, cap, q1, q2⟩ := h5 i rows[i] x (List.getElem?_eq_getElem hi) hx
  refine ⟨a, cap, by rw [List.getElem?_eq_getElem hi, q1], S, I, ?_, r⟩
  exact ⟨fun _ => False, S2, fun _ h => h.elim, h2, fun _ h _ => h, q2.to, h6⟩
theorem RecR.rows_len (h : Sat W0 (RecR rows xs :: Γ) w) : ∀ r ∈ rows, r.length = Rec.k α := by
  intro r hr
  have hl := RecR.length h
  obtain ⟨i, hi, rfl⟩ := List.mem_iff_getElem.1 hr
  obtain ⟨S, I, ⟨S1, S2, h1, h2, h3, ⟨h4, h5⟩, h6⟩, _⟩ := h
  obtain ⟨a, cap, q1, q2⟩ := h5 i rows[i] xs[i] (List.getElem?_eq_getElem hi) (List.getElem?_eq_getElem (by omega))
  rw [q1]; exact Rec.len _ _ _
theorem RecR.one (h : Sat W0 (RecR rows xs :: Γ) w) : rows.flatten.all oneCell = true := by
  have hl := RecR.length h
  obtain ⟨S, I, ⟨S1, S2, h1, h2, h3, ⟨h4, h5⟩, h6⟩, _⟩ := h
  rw [List.all_eq_true]
  intro v hv
  obtain ⟨l, hl2, hv⟩ := List.mem_flatten.1 hv
  obtain ⟨i, hi, rfl⟩ := List.mem_iff_getElem.1 hl2
  obtain ⟨a, cap, q1, q2⟩ := h5 i rows[i] xs[i] (List.getElem?_eq_getElem hi) (List.getElem?_eq_getElem (by omega))
  rw [q1] at hv
  exact List.all_eq_true.1 (Rec.one _ _ _) v hv
theorem RecR.nil (hw : Sat W0 Γ w) : Sat W0 (RecR (α := α) [] [] :: Γ) w :=
  hw.imp fun S _ h => ⟨fun _ => False, S, fun _ h => h.elim, fun _ h => h, fun _ h _ => h, ⟨rfl, fun i r e hr => by simp at hr⟩, h⟩
theorem RecR.dup (h : Sat W0 (RecR rows xs :: Γ) w) : Sat W0 (RecR rows xs :: RecR rows xs :: Γ) w := by
  refine h.imp fun S I h => ?_
  obtain ⟨S1, S2, h1, h2, h3, h4, h5⟩ := h
  exact ⟨fun _ => False, S, fun _ h => h.elim, fun _ h => h, fun _ h _ => h, h4, S1, S2, h1, h2, h3, h4, h5⟩
theorem RecR.set {x : α} (hw : Sat W0 (RecR rows xs :: ImmI a (Rec.data x) :: Γ) w) (i cap : Nat) : Sat W0 (RecR (rows.set i (Rec.row x a cap)) (xs.set i x) :: Γ) w := by
  refine hw.imp fun S I h => ?_
  obtain ⟨S1, S2, h1, h2, h3, ⟨h4, h5⟩, T1, T2, k1, k2, k3, k4, k5⟩ := h
  refine ⟨S1, T2, h1, fun b hb => h2 b (k2 b hb), fun b hb ht => h3 b hb (k2 b ht), ⟨by simp [h4], fun j r x' hr hx => ?_⟩, k5⟩
  by_cases hj : i = j
  · subst hj
    have hl : i < rows.length := by
      rcases Nat.lt_or_ge i rows.length with h | h
      · exact h
      · rw [List.getElem?_eq_none (by simpa using h)] at hr; cases hr
    rw [List.getElem?_set_self hl] at hr
    rw [List.getElem?_set_self (by omega)] at hx
    obtain rfl := Option.some.inj hr
    obtain rfl := Option.some.inj hx
    exact ⟨a, cap, rfl, ImmH.any k4⟩
  · rw [List.getElem?_set_ne hj] at hr hx
    exact h5 j r x' hr hx
theorem RecR.imm_of {i : Nat} {x : α} {c : Nat} (h : Sat W0 (RecR rows xs :: Γ) w) (hx : xs[i]? = some x) (hr : rows[i]? = some (Rec.row x a c)) : Sat W0 (ImmI a (Rec.data x) :: RecR rows xs :: Γ) w := by
  obtain ⟨a2, c2, q1, q2⟩ := RecR.get (RecR.dup h) hx
  rw [hr] at q1
  rcases Rec.inj _ _ _ _ _ (Option.some.inj q1) with e1 | e1
  · rw [e1]; exact q2
  · rw [e1]; exact ImmR.nil_mk h
theorem RecR.append (hw : Sat W0 (RecR rows xs :: RecR rows2 ys :: Γ) w) : Sat W0 (RecR (rows ++ rows2) (xs ++ ys) :: Γ) w := by
  refine hw.imp fun S I h => ?_
  obtain ⟨S1, S2, h1, h2, h3, ⟨h4, h5⟩, T1, T2, k1, k2, k3, ⟨k4, k4'⟩, k5⟩ := h
  refine ⟨S1, T2, h1, fun b hb => h2 b (k2 b hb), fun b hb ht => h3 b hb (k2 b ht), ⟨by simp [h4, k4], fun j r x hr hx => ?_⟩, k5⟩
  rw [List.getElem?_append] at hr hx
  by_cases hj : j < rows.length
  · rw [if_pos hj] at hr
    rw [if_pos (by omega)] at hx
    exact h5 j r x hr hx
  · rw [if_neg hj] at hr
    rw [if_neg (by omega), ← h4] at hx
    exact k4' _ r x hr hx
theorem RecR.part (lo m : Nat) (hw : Sat W0 (RecR rows xs :: Γ) w) : Sat W0 (RecR ((rows.drop lo).take m) ((xs.drop lo).take m) :: Γ) w := by
  refine hw.imp fun S I h => ?_
  obtain ⟨S1, S2, h1, h2, h3, ⟨h4, h5⟩, h6⟩ := h
  refine ⟨S1, S2, h1, h2, h3, ⟨by simp [h4], fun j r x hr hx => ?_⟩, h6⟩
  rw [List.getElem?_take] at hr hx
  split at hr
  · rename_i hj
    rw [if_pos hj, List.getElem?_drop] at hx
    rw [List.getElem?_drop] at hr
    exact h5 _ r x hr hx
  · cases hr
theorem RecR.erase (hw : Sat W0 (RecR rows xs :: Γ) w) (i : Nat) : Sat W0 (RecR (rows.eraseIdx i) (xs.eraseIdx i) :: Γ) w := by
  refine hw.imp fun S I h => ?_
  obtain ⟨S1, S2, h1, h2, h3, ⟨h4, h5⟩, h6⟩ := h
  refine ⟨S1, S2, h1, h2, h3, ⟨by simp [List.length_eraseIdx, h4], fun j r x hr hx => ?_⟩, h6⟩
  rw [List.getElem?_eraseIdx] at hr hx
  split at hr
  · rename_i hj; rw [if_pos hj] at hx; exact h5 _ r x hr hx
  · rename_i hj; rw [if_neg hj] at hx; exact h5 _ r x hr hx
theorem RecsX.split (h : Sat W0 (RecsX rows a cap xs :: Γ) w) : Sat W0 (RowsA (Rec.k α) a cap rows :: RecR rows xs :: Γ) w := h.star_of
theorem RecsX.join (h : Sat W0 (RowsA (Rec.k α) a cap rows :: RecR rows xs :: Γ) w) : Sat W0 (RecsX rows a cap xs :: Γ) w := Sat.star_mk h
theorem ImmRX.split (h : Sat W0 (ImmRX rows a xs :: Γ) w) : Sat W0 (ImmR (Rec.k α) a rows :: RecR rows xs :: Γ) w := h.star_of
theorem ImmRX.join (h : Sat W0 (ImmR (Rec.k α) a rows :: RecR rows xs :: Γ) w) : Sat W0 (ImmRX rows a xs :: Γ) w := Sat.star_mk h
theorem RecsX.freeze (h : Sat W0 (RecsX rows a cap xs :: Γ) w) : Sat W0 (ImmRX rows a xs :: Γ) w := ImmRX.join (RowsA.freeze (RecsX.split h))
theorem ImmR.dup2 {k : Nat} {a : Option Addr} {rows : List (List Value)} (h : Sat W0 (ImmR k a rows :: Γ) w) : Sat W0 (ImmR k a rows :: ImmR k a rows :: Γ) w := ImmR.dup h
theorem ImmRX.dup (h : Sat W0 (ImmRX rows a xs :: Γ) w) : Sat W0 (ImmRX rows a xs :: ImmRX rows a xs :: Γ) w := by
  have h1 := ImmR.dup2 (ImmRX.split h)
  have h2 : Sat W0 (RecR rows xs :: ImmR (Rec.k α) a rows :: ImmR (Rec.k α) a rows :: Γ) w := h1.less (.take (.there (.there .here)) (.take .here (.take .here .refl)))
  have h3 := RecR.dup h2
  have h4 : Sat W0 (ImmR (Rec.k α) a rows :: RecR rows xs :: ImmR (Rec.k α) a rows :: RecR rows xs :: Γ) w := h3.less (.take (.there (.there .here)) (.take .here (.take (.there .here) (.take .here .refl))))
  have h5 := ImmRX.join h4
  have h6 : Sat W0 (ImmR (Rec.k α) a rows :: RecR rows xs :: ImmRX rows a xs :: Γ) w := h5.less (.take (.there .here) (.take (.there .here) (.take .here .refl)))
  exact ImmRX.join h6
theorem RecsX.len (h : Sat W0 (RecsX rows a cap xs :: Γ) w) : rows.length = xs.length ∧ xs.length ≤ cap := by
  have h1 := RecsX.split h
  have h2 := (RowsA.len h1).2
  have h3 := RecR.length h1.tail
  exact ⟨h3, by omega⟩
theorem RecsX.nil (h : Sat W0 Γ w) : Sat W0 (RecsX (α := α) [] a 0 [] :: Γ) w :=
  RecsX.join (RowsA.none_mk (RecR.nil h))
theorem RecRd.sat (h : RecRd W0 Γ a rows xs) (hw : Sat W0 Γ w) : Sat W0 (RecR rows xs :: Γ) w :=
  hw.imp fun S I hs => ⟨fun _ => False, S, fun _ h => h.elim, fun _ h => h, fun _ h _ => h, h.recs S I _ hs, hs⟩
theorem RecRd.less (hl : Less Γ Γ') (h : RecRd W0 Γ' a rows xs) : RecRd W0 Γ a rows xs :=
  ⟨h.reads.conv fun _ hw => hw.less hl, fun S I _ hs => h.recs S I _ (Star.less hl hs)⟩
theorem RecsX.rd (hp : Pull Γ (RecsX rows a cap xs) Γ') : RecRd W0 Γ a rows xs := by
  constructor
  · intro w hw j v hj
    exact RowsA.reads (k := Rec.k α) (cap := cap) .here w (RecsX.split (hw.pull hp)) j v hj
  · intro S I h hs
    obtain ⟨S1, S2, h1, h2, h3, ⟨T1, T2, k1, k2, k3, k4, U1, U2, j1, j2, j3, j4, j5⟩, h6⟩ := hs.pull hp
    exact j4
theorem ImmRX.rd (hp : Pull Γ (ImmRX rows a xs) Γ') : RecRd W0 Γ a rows xs := by
  constructor
  · intro w hw j v hj
    exact ImmR.reads (k := Rec.k α) .here w (ImmRX.split (hw.pull hp)) j v hj
  · intro S I h hs
    obtain ⟨S1, S2, h1, h2, h3, ⟨T1, T2, k1, k2, k3, k4, U1, U2, j1, j2, j3, j4, j5⟩, h6⟩ := hs.pull hp
    exact j4
theorem RecRd.length (h : RecRd W0 Γ a rows xs) (hw : Sat W0 Γ w) : rows.length = xs.length := RecR.length (h.sat hw)
theorem RecRd.nil : RecRd (α := α) W0 Γ a [] [] := ⟨Reads.nil, fun _ _ _ _ => ⟨rfl, fun i r e hr => by simp at hr⟩⟩
theorem RecRd.own1 {b T : Nat} {x : α} {c2 : Nat} (hp : Pull Γ (.own b (.cells (Rec.row x a2 c2).toArray T (0, 0))) Γ') (hp2 : Pull Γ (ImmI a2 (Rec.data x)) Γ'') : RecRd W0 Γ (some ⟨b, 0, none⟩) [Rec.row x a2 c2] [x] := by
  refine ⟨Reads.own hp (by simp), fun S I h hs => ⟨rfl, fun i r y hr hy => ?_⟩⟩
  cases i with
  | zero =>
    simp only [List.getElem?_cons_zero, Option.some.injEq] at hr hy
    subst hr; subst hy
    obtain ⟨S1, S2, h1, h2, h3, h4, h6⟩ := hs.pull hp2
    exact ⟨a2, c2, rfl, ImmH.any h4⟩
  | succ i => simp at hr
theorem RecRd.place (hr : RecRd W0 Γ a rows xs) (hne : 0 < xs.length) (hw : Sat W0 Γ w) : ∃ b off, a = some ⟨b, off, none⟩ := by
  have hl := hr.length hw
  have hk := RecR.rows_len (hr.sat hw)
  have hf : 0 < rows.flatten.length := by
    rw [flatten_length hk]
    exact Nat.mul_pos (by omega) Rec.pos
  obtain ⟨p, hp, hc⟩ := hr.reads w hw 0 _ (List.getElem?_eq_getElem hf)
  have := spot_none hc
  refine ⟨p.block, p.off, ?_⟩
  rw [hp]
  cases p; simp_all
theorem Draw.convS {ops : Array Oper} {Q : Exit → Act → World → Prop} {D Pp Pl : List Nat} (hg : ∀ w, Sat W0 Γ w → Sat W0 Γ' w) (hs : ∀ j ∈ Pl, Stable P n W0 ops e Γ' j) (h : Draw P n W0 ops Q D Pp Pl e Γ') : Draw P n W0 ops Q D Pp Pl e Γ :=
  fun t1 t2 t3 _ fuel listed ac w hi hl hw => h t1 t2 t3 hs fuel listed ac w hi hl (hg w hw)
theorem rd_at (hr : RecRd W0 Γ a rows xs) (hne : 0 < xs.length) (h : ∀ b off, a = some ⟨b, off, none⟩ → At n W0 e Γ K) : At n W0 e Γ K := by
  intro ac w ha hw
  obtain ⟨b, off, q⟩ := hr.place hne hw
  exact h b off q ac w ha hw
theorem rd_at_draw {ops : Array Oper} {Q : Exit → Act → World → Prop} {D Pp Pl : List Nat} (hr : RecRd W0 Γ a rows xs) (hne : 0 < xs.length) (h : ∀ b off, a = some ⟨b, off, none⟩ → Draw P n W0 ops Q D Pp Pl e Γ) : Draw P n W0 ops Q D Pp Pl e Γ := by
  intro t1 t2 t3 t4 fuel listed ac w hi hl hw
  obtain ⟨b, off, q⟩ := hr.place hne hw
  exact h b off q t1 t2 t3 t4 fuel listed ac w hi hl hw
theorem RecRd.got (hr : RecRd W0 Γ a rows xs) {i : Int} (hi : 0 ≤ i ∧ i < (xs.length : Int)) (hw : Sat W0 Γ w) : ∃ a' c', rows[i.toNat]? = some (Rec.row (nthT xs i) a' c') ∧ Sat W0 (ImmI a' (Rec.data (nthT xs i)) :: Γ) w := by
  obtain ⟨a', c', h1, h2⟩ := RecR.get (hr.sat hw) (nthT_get hi)
  exact ⟨a', c', h1, h2.less .refl⟩
theorem rd_get (hr : RecRd W0 Γ a rows xs) {i : Int} (hi : 0 ≤ i ∧ i < (xs.length : Int)) (h : ∀ a' c', rows[i.toNat]? = some (Rec.row (nthT xs i) a' c') → At n W0 e (ImmI a' (Rec.data (nthT xs i)) :: Γ) K) : At n W0 e Γ K := by
  intro ac w ha hw
  obtain ⟨a', c', h1, h2⟩ := hr.got hi hw
  exact h a' c' h1 ac w ha h2
theorem rd_get_draw {ops : Array Oper} {Q : Exit → Act → World → Prop} {D Pp Pl : List Nat} (hr : RecRd W0 Γ a rows xs) {i : Int} (hi : 0 ≤ i ∧ i < (xs.length : Int)) (h : ∀ a' c', rows[i.toNat]? = some (Rec.row (nthT xs i) a' c') → Draw P n W0 ops Q D Pp Pl e (ImmI a' (Rec.data (nthT xs i)) :: Γ)) : Draw P n W0 ops Q D Pp Pl e Γ := by
  intro t1 t2 t3 t4 fuel listed ac w hin hl hw
  obtain ⟨a', c', h1, h2⟩ := hr.got hi hw
  refine h a' c' h1 t1 t2 t3 (fun j hj => ?_) fuel listed ac w hin hl h2
  obtain ⟨o, v, t, q1, q2, q3, q4, q5, q6, q7, q8⟩ := t4 j hj
  exact ⟨o, v, t, q1, q2, q3, q4, q5, q6, fun ht w hw => q7 ht w hw.tail, q8⟩
/-- One cell of a record that names no list. -/
theorem rd_fld {b off : Nat} (hr : RecRd W0 Γ a rows xs) {i : Int} (ha : a = some ⟨b, off, none⟩) (hi : 0 ≤ i ∧ i < (xs.length : Int)) (j : Nat) {v : Value} (hj : ∀ a' c', (Rec.row (nthT xs i) a' c')[j]? = some v) : ∀ w, Sat W0 Γ w → w.cell? ⟨b, off + (i.toNat * Rec.k α + j), none⟩ = some v := by
  intro w hw
  obtain ⟨a', c', h1, _⟩ := hr.got hi hw
  exact reads_cell hr.reads (RecR.rows_len (hr.sat hw)) ha h1 (hj a' c') w hw
theorem rd_row {b off i j : Nat} {row : List Value} {v : Value} (hr : RecRd W0 Γ a rows xs) (ha : a = some ⟨b, off, none⟩) (hi : rows[i]? = some row) (hj : row[j]? = some v) : ∀ w, Sat W0 Γ w → w.cell? ⟨b, off + (i * Rec.k α + j), none⟩ = some v := by
  intro w hw
  exact reads_cell hr.reads (RecR.rows_len (hr.sat hw)) ha hi hj w hw
theorem rowP {row vs : List Value} {j m q : Nat} {v : Value} (h : (row.drop j).take m = vs) (hq : vs[q]? = some v) : row[j + q]? = some v := by
  subst h
  rw [List.getElem?_take] at hq
  split at hq
  · rw [List.getElem?_drop] at hq; exact hq
  · cases hq
theorem loadP_at {b off off' i j m k : Nat} {vs : List Value} {o : Oper} (hx : ∀ w, (execOp (ev e) o).run P w = (loadCells ⟨b, off', none⟩ m >>= fun cs => pure (Next.value (.agg cs))).run P w) (he : off' = off + (i * k + j)) (hl : vs.length = m)
    (hc : ∀ q v, vs[q]? = some v → ∀ w, Sat W0 Γ w → w.cell? ⟨b, off + (i * k + (j + q)), none⟩ = some v) : ∀ w, Sat W0 Γ w → (execOp (ev e) o).run P w = .ok (.value (.agg vs.toArray)) w := by
  subst he
  refine loadN_cell m hx hl fun w hw q v hq => ?_
  rw [add_none, Nat.add_assoc, Nat.add_assoc]
  exact hc q v hq w hw
theorem RecRd.part {lo hi mx : Nat} (h : RecRd W0 Γ a rows xs) (hz : (xs.drop lo).take (hi - lo) = zs) (hhm : hi ≤ mx) : RecRd W0 Γ (if mx = lo then a else a.map (·.add (lo * Rec.k α))) ((rows.drop lo).take (hi - lo)) zs := by
  subst hz
  refine ⟨fun w hw j v hj => ?_, fun S I h' hs => ?_⟩
  · have hk := RecR.rows_len (h.sat hw)
    by_cases hm : mx = lo
    · rw [show hi - lo = 0 by omega] at hj
      simp at hj
    · have h2 := flat_take2 hj
      rw [flat_drop2 lo hk, List.getElem?_drop] at h2
      obtain ⟨p, hp, hc⟩ := h.reads w hw (lo * Rec.k α + j) v h2
      subst hp
      rw [if_neg hm]
      refine ⟨p.add (lo * Rec.k α), rfl, ?_⟩
      rw [add_add]; exact hc
  · obtain ⟨h4, h5⟩ := h.recs S I h' hs
    refine ⟨by simp [h4], fun j r x hr hx => ?_⟩
    rw [List.getElem?_take] at hr hx
    split at hr
    · rename_i hj
      rw [if_pos hj, List.getElem?_drop] at hx
      rw [List.getElem?_drop] at hr
      exact h5 _ r x hr hx
    · cases hr
/-- A record is another one. -/
theorem st_recs_set {op : Op} {ty : TypeId} {b off off' : Nat} {i : Int} (x : α) (c2 : Nat) {vs : List Value} (hv : vs = Rec.row x a2 c2) (hx : ∀ w, (execOp (ev e) (bare op ty)).run P w = (storeCells ⟨b, off', none⟩ vs >>= fun _ => pure Next.skip).run P w)
    (hp : Pull Γ (RecsX rows a cap xs) Γ') (hp2 : Pull Γ' (ImmI a2 (Rec.data x)) Γ'') (ha : a = some ⟨b, off, none⟩) (hi : 0 ≤ i ∧ i < (xs.length : Int)) (ho : off' = off + i.toNat * Rec.k α) :
    StepTo P W0 Γ e op ty (fun u Δ => ∃ rows', u = undef ∧ Δ = RecsX rows' a cap (xs.set i.toNat x) :: Γ'') := by
  intro w hw
  subst hv
  obtain ⟨a', c', h1, _⟩ := (RecsX.rd hp).got hi hw
  have g : ∀ w, Sat W0 Γ w → Sat W0 (RowsA (Rec.k α) a cap rows :: RecR rows xs :: ImmI a2 (Rec.data x) :: Γ'') w := fun w hw => RecsX.split ((hw.pull hp).pull (.there hp2) |>.less (.take (.there .here) (.take .here .refl)))
  refine (StepTo.conseq2 (StepTo.conv g (st_row (P := P) (k := Rec.k α) (j := 0) (row' := Rec.row x a2 c2) hx .here ha h1 (by omega) (by rw [Rec.len]; simp) (Rec.one _ _ _) ?_)) ?_) w hw
  · unfold putRow
    rw [List.take_zero, List.nil_append, Rec.len, Nat.zero_add, List.drop_of_length_le (by rw [Rec.len]; exact Nat.le_refl _), List.append_nil]
  · rintro u Δ ⟨rfl, rfl⟩
    exact ⟨_, ⟨rows.set i.toNat (Rec.row x a2 c2), rfl, rfl⟩, fun w hw => RecsX.join ((RecR.set (hw.less (.take (.there .here) (.take (.there .here) (.take .here .refl)))) i.toNat c2).less (.take (.there .here) (.take .here .refl)))⟩
/-- One cell of a record is another one. -/
theorem st_recs_fld {op : Op} {ty : TypeId} {b off off' j : Nat} {i : Int} (x : α) {v : Value} (hx : ∀ w, (execOp (ev e) (bare op ty)).run P w = (storeCells ⟨b, off', none⟩ [v] >>= fun _ => pure Next.skip).run P w)
    (hp : Pull Γ (RecsX rows a cap xs) Γ') (ha : a = some ⟨b, off, none⟩) (hi : 0 ≤ i ∧ i < (xs.length : Int)) (ho : off' = off + (i.toNat * Rec.k α + j)) (hj : Nat.ble (j + 1) (Rec.k α) = true) (hv : oneCell v = true)
    (hrow : ∀ a' c', putRow (Rec.row (nthT xs i) a' c') j [v] = Rec.row x a' c') (hd : Rec.data x = Rec.data (nthT xs i)) :
    StepTo P W0 Γ e op ty (fun u Δ => ∃ rows', u = undef ∧ Δ = RecsX rows' a cap (xs.set i.toNat x) :: Γ') := by
  intro w hw
  obtain ⟨a', c', h1, _⟩ := (RecsX.rd hp).got hi hw
  have hxi := nthT_get hi
  have g : ∀ w, Sat W0 Γ w → Sat W0 (RowsA (Rec.k α) a cap rows :: RecR rows xs :: Γ') w := fun w hw => RecsX.split (hw.pull hp)
  refine (StepTo.conseq2 (StepTo.conv g (st_row (P := P) (k := Rec.k α) (j := j) (row' := Rec.row x a' c') hx .here ha h1 ho hj (by simp [hv]) (hrow a' c'))) ?_) w hw
  rintro u Δ ⟨rfl, rfl⟩
  refine ⟨_, ⟨rows.set i.toNat (Rec.row x a' c'), rfl, rfl⟩, fun w hw => RecsX.join ?_⟩
  have h2 : Sat W0 (RecR rows xs :: RowsA (Rec.k α) a cap (rows.set i.toNat (Rec.row x a' c')) :: Γ') w := hw.less (.take (.there .here) (.take .here .refl))
  have q3 : Sat W0 (RecR rows xs :: ImmI a' (Rec.data x) :: RowsA (Rec.k α) a cap (rows.set i.toNat (Rec.row x a' c')) :: Γ') w := by
    rw [hd]
    exact (RecR.imm_of h2 hxi h1).less (.take (.there .here) (.take .here .refl))
  exact (RecR.set q3 i.toNat c').less (.take (.there .here) (.take .here .refl))
theorem st_append_recs {op : Op} {ty : TypeId} {info : TypeInfo} (bytes : Nat) (zv : Value) {cap2 m1 m2 m : Nat} (t ty' E : Nat) (hx : ∀ w, (execOp (ev e) (bare op ty)).run P w = (Builtin.append_ #[t, t] ty' #[.slice a m1 cap, .slice a2 m2 cap2] >>= fun v => pure (Next.value v)).run P w)
    (ht : P.underlying t = some (.slice E)) (hi : P.info? E = some info) (hz : info.zero = some zv) (hk : info.size = Rec.k α) (hzs : zv.cells.size = Rec.k α) (hby : info.bytes = bytes) (hb0 : Nat.blt 0 bytes = true) (hb1 : Nat.ble bytes 128 = true)
    (hp : Pull Γ (RecsX rows a cap xs) Γ') (hr : RecRd W0 Γ a2 rows2 ys) (hm1 : m1 = xs.length) (hm2 : m2 = ys.length) (hm : m = zs.length) (hws : xs ++ ys = zs) (hbig : zs.length ≤ 1099511627776) :
    StepTo P W0 Γ e op ty (fun v Δ => ∃ a' cap' rows', v = .slice a' m cap' ∧ Δ = RecsX rows' a' cap' zs :: Γ') := by
  subst hws
  have hl : (xs ++ ys).length = m1 + m2 := by rw [List.length_append, hm1, hm2]
  intro w hw
  have l1 := RecsX.len (hw.pull hp)
  have l2 := hr.length hw
  have k2 := RecR.rows_len (hr.sat hw)
  have o2 := RecR.one (hr.sat hw)
  have g : ∀ w, Sat W0 Γ w → Sat W0 (RowsA (Rec.k α) a cap rows :: RecR rows xs :: RecR rows2 ys :: Γ') w := fun w hw => RecsX.split (((hr.sat hw).pull (.there hp)).less (.take .here (.take .here .refl)))
  -- the rows are read where they lie
  have hw2 := g w hw
  have hbb : (m1 + m2) * bytes ≤ 140737488355328 := by
    rw [hl] at hbig
    have hb2 : bytes ≤ 128 := Nat.le_of_ble_eq_true hb1
    exact Nat.le_trans (Nat.mul_le_mul hbig hb2) (by decide)
  refine (StepTo.conseq2 (Post := fun v Δ => ∃ a' cap', v = .slice a' (m1 + m2) cap' ∧ Δ = RowsA (Rec.k α) a' cap' (rows ++ rows2) :: RecR rows xs :: RecR rows2 ys :: Γ') (StepTo.conv (Γ' := RowsA (Rec.k α) a cap rows :: RecR rows xs :: RecR rows2 ys :: Γ') g ?_) ?_) w hw
  · have hrd : Reads W0 (RowsA (Rec.k α) a cap rows :: RecR rows xs :: RecR rows2 ys :: Γ') a2 rows2 := hr.reads.conv fun w hw => (RecsX.join (hw.less (.take .here (.take .here (.drop .here .refl))))).push hp
    exact st_appendP (k := Rec.k α) (rows := rows) (news := rows2) (m1 := m1) (m2 := m2) t ty' E bytes zv info hx ht hi hz hk hzs hby hb0 .here hrd k2 o2 (by omega) (by omega) hbb
  · rintro v Δ ⟨a', cap', h1, h2⟩
    refine ⟨_, ⟨a', cap', rows ++ rows2, by rw [h1, hm, hl], rfl⟩, fun w hw => ?_⟩
    rw [h2] at hw
    exact RecsX.join ((RecR.append (hw.less (.take (.there .here) (.take (.there .here) (.take .here .refl))))).less (.take (.there .here) (.take .here .refl)))
/-- The first ones alone, with no room behind them. -/
theorem RecsX.shrink {hi mx : Nat} {a' : Option Addr} (ha : a' = if mx = 0 then a else a.map (·.add (0 * Rec.k α))) (hv : (xs.drop 0).take (hi - 0) = zs) (h1 : hi ≤ mx) (h2 : mx ≤ cap) (h : Sat W0 (RecsX rows a cap xs :: Γ) w) : Sat W0 (RecsX ((rows.drop 0).take (hi - 0)) a' (mx - 0) zs :: Γ) w := by
  have e : a' = a := by
    rw [ha]
    by_cases hm : mx = 0
    · rw [if_pos hm]
    · rw [if_neg hm]
      cases a with
      | none => rfl
      | some p => simp [Addr.add]
  subst hv
  have q := RecsX.split h
  have q2 : Sat W0 (RecR ((rows.drop 0).take (hi - 0)) ((xs.drop 0).take (hi - 0)) :: RowsA (Rec.k α) a cap rows :: Γ) w := (RecR.part 0 (hi - 0) (q.less (.take (.there .here) (.take .here .refl))))
  have q3 : Sat W0 (RowsA (Rec.k α) a cap rows :: RecR ((rows.drop 0).take (hi - 0)) ((xs.drop 0).take (hi - 0)) :: Γ) w := q2.less (.take (.there .here) (.take .here .refl))
  rw [e]
  refine RecsX.join ?_
  rw [List.drop_zero, Nat.sub_zero, Nat.sub_zero] at *
  have h3 := RowsA.take hi q3
  refine Sat.head_imp (A := RowsA (Rec.k α) a cap (rows.take hi)) (B := RowsA (Rec.k α) a mx (rows.take hi)) (fun S I h' ⟨q1, q2⟩ => ⟨q1, ?_⟩) h3
  rcases q2 with ⟨p1, p2⟩ | ⟨b, off, c, T, p1, p2, p3, p4, p5, p6⟩
  · exact .inl ⟨p1, by omega⟩
  · refine .inr ⟨b, off, c, T, p1, p2, p3, by rw [List.length_take]; omega, ?_, p6⟩
    exact Nat.le_trans (Nat.add_le_add_left (Nat.mul_le_mul_right _ h2) _) p5
/-- A new block of records, of which none names a list. -/
theorem RecsX.of_own {b T : Nat} {c : Array Value} (ps : List (α × Option Addr × Nat)) (hc : c = ((ps.map fun p => Rec.row p.1 p.2.1 p.2.2).flatten).toArray) (hd : ∀ p ∈ ps, Rec.data p.1 = []) (h : Sat W0 (.own b (.cells c T (0, 0)) :: Γ) w) :
    Sat W0 (RecsX (ps.map fun p => Rec.row p.1 p.2.1 p.2.2) (some ⟨b, 0, none⟩) ps.length (ps.map (·.1)) :: Γ) w := by
  have hk : ∀ r ∈ ps.map fun p => Rec.row p.1 p.2.1 p.2.2, r.length = Rec.k α := by
    intro r hr
    obtain ⟨p, _, rfl⟩ := List.mem_map.1 hr
    exact Rec.len _ _ _
  have h1 := RowsA.of_own (k := Rec.k α) h hk hc
  rw [List.length_map] at h1
  refine RecsX.join ?_
  refine h1.imp fun S I hs => ?_
  obtain ⟨S1, S2, h1, h2, h3, h4, h5⟩ := hs
  refine ⟨S1, S2, h1, h2, h3, h4, fun _ => False, S2, fun _ h => h.elim, fun _ h => h, fun _ h _ => h, ⟨by simp, fun i r x hr hx => ?_⟩, h5⟩
  rw [List.getElem?_map] at hr hx
  cases hp : ps[i]? with
  | none => rw [hp] at hr; cases hr
  | some p =>
    rw [hp] at hr hx
    simp only [Option.map_some, Option.some.injEq] at hr hx
    subst hr; subst hx
    refine ⟨p.2.1, p.2.2, rfl, ?_⟩
    rw [hd p (List.mem_of_getElem? hp)]
    exact ⟨fun r hr => by simp [ints] at hr, .inl rfl⟩
theorem st_new_recs {op : Op} {ty : TypeId} {T : TypeId} {cells : Array Value} (ps : List (α × Option Addr × Nat)) (n : Nat) (hx : ∀ w, (execOp (ev e) (bare op ty)).run P w = (newRow T cells >>= fun a => pure (Next.value (.slice (some a) n n))).run P w)
    (hc : cells = ((ps.map fun p => Rec.row p.1 p.2.1 p.2.2).flatten).toArray) (hd : ∀ p ∈ ps, Rec.data p.1 = []) (hl : ps.length = n) (hz : ps.map (·.1) = zs) :
    StepTo P W0 Γ e op ty (fun v Δ => ∃ (b : Nat) (rows : List (List Value)), v = .slice (some ⟨b, 0, none⟩) (List.length zs) n ∧ Δ = RecsX rows (some ⟨b, 0, none⟩) n zs :: Γ) := by
  subst hz
  refine StepTo.conseq2 (st_new (T := T) (cells := cells) (fun a => .slice (some a) n n) hx) ?_
  rintro v Δ ⟨b, rfl, rfl⟩
  refine ⟨_, ⟨b, ps.map fun p => Rec.row p.1 p.2.1 p.2.2, by simp [hl], rfl⟩, fun w hw => ?_⟩
  have := RecsX.of_own ps hc hd hw
  rw [hl] at this
  exact this
theorem RecsX.of_own1 {b T : Nat} {x : α} {c2 : Nat} {c : Array Value} (hc : c = (Rec.row x a2 c2).toArray) (h : Sat W0 (.own b (.cells c T (0, 0)) :: ImmI a2 (Rec.data x) :: Γ) w) : Sat W0 (RecsX [Rec.row x a2 c2] (some ⟨b, 0, none⟩) 1 [x] :: Γ) w := by
  have h1 := RowsA.of_own (k := Rec.k α) (rows := [Rec.row x a2 c2]) h (fun r hr => by rw [List.mem_singleton] at hr; subst hr; exact Rec.len _ _ _) (by rw [hc]; simp)
  refine RecsX.join ?_
  have h2 : Sat W0 (RecR (α := α) [] [] :: RowsA (Rec.k α) (some ⟨b, 0, none⟩) 1 [Rec.row x a2 c2] :: ImmI a2 (Rec.data x) :: Γ) w := RecR.nil h1
  refine h1.imp fun S I hs => ?_
  obtain ⟨S1, S2, h1, h2, h3, h4, T1, T2, k1, k2, k3, k4, k5⟩ := hs
  refine ⟨S1, T2, h1, fun b hb => h2 b (k2 b hb), fun b hb ht => h3 b hb (k2 b ht), h4, fun _ => False, T2, fun _ h => h.elim, fun _ h => h, fun _ h _ => h, ⟨rfl, fun i r y hr hy => ?_⟩, k5⟩
  cases i with
  | zero =>
    simp only [List.getElem?_cons_zero, Option.some.injEq] at hr hy
    subst hr; subst hy
    exact ⟨a2, c2, rfl, ImmH.any k4⟩
  | succ i => simp at hr
end
instance recEnt : Rec Ent := ⟨6, entRow, Ent.data, zeroE, by decide, fun _ _ _ => rfl, fun _ _ _ => rfl, fun x a c a' c' h => by simp [entRow] at h; exact .inl h.1, fun x a c a' c' h => by simp [entRow] at h; exact .inl h.2⟩
def pktRow (p : PktS) (a : Option Addr) (c : Nat) : List Value := [.int .i64 p.kind, .int .i64 p.src, .int .i64 p.dst, .int .i64 p.id, .int .i64 p.line, .int .i64 p.ptr, .int .i64 p.state, .bool p.flag, .slice a p.data.length c]
def zeroP : PktS := ⟨0, 0, 0, 0, 0, 0, 0, false, []⟩
instance recPkt : Rec PktS := ⟨9, pktRow, PktS.data, zeroP, by decide, fun _ _ _ => rfl, fun _ _ _ => rfl, fun x a c a' c' h => by simp [pktRow] at h; exact .inl h.1, fun x a c a' c' h => by simp [pktRow] at h; exact .inl h.2⟩
end Go.Proofs.Ytcigheahollkcaa
