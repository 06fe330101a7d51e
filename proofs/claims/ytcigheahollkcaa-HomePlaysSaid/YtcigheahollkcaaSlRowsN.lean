/- Lists of rows of numbers in memory (slices of structs or arrays of numbers).
   Conditions: none. -/
import Derived.Test.YtcigheahollkcaaSlFun
namespace Go.Proofs.Ytcigheahollkcaa
open Go Go.RowKit
def rowV (r : List Int) : List Value := r.map (Value.int .i64)
def rowsV (xs : List (List Int)) : List (List Value) := xs.map rowV
abbrev RowsN (k : Nat) (a : Option Addr) (cap : Nat) (xs : List (List Int)) : Asn := RowsA k a cap (rowsV xs)
def nthR (xs : List (List Int)) (i : Int) : List Int := xs.getD i.toNat []
theorem rowsV_len (xs : List (List Int)) : (rowsV xs).length = xs.length := by simp [rowsV]
theorem rowsV_rows {k : Nat} {xs : List (List Int)} (h : ∀ x ∈ xs, x.length = k) : ∀ r ∈ rowsV xs, r.length = k := by
  intro r hr
  obtain ⟨x, hx, rfl⟩ := List.mem_map.1 hr
  simp [rowV, h x hx]
theorem rowsV_one (xs : List (List Int)) : (rowsV xs).flatten.all oneCell = true := by
  rw [List.all_eq_true]
  intro v hv
  obtain ⟨r, hr, hv⟩ := List.mem_flatten.1 hv
  obtain ⟨x, _, rfl⟩ := List.mem_map.1 hr
  obtain ⟨y, _, rfl⟩ := List.mem_map.1 hv
  rfl
theorem rowsV_get {xs : List (List Int)} {i : Int} (h : 0 ≤ i ∧ i < (xs.length : Int)) : (rowsV xs)[i.toNat]? = some (rowV (nthR xs i)) := by
  have : i.toNat < xs.length := by omega
  simp [rowsV, nthR, this]
theorem rowV_2 {r : List Int} (h : r.length = 2) : rowV r = [.int .i64 (nth r 0), .int .i64 (nth r 1)] := by
  match r, h with
  | [a, b], _ => rfl
theorem rowV_3 {r : List Int} (h : r.length = 3) : rowV r = [.int .i64 (nth r 0), .int .i64 (nth r 1), .int .i64 (nth r 2)] := by
  match r, h with
  | [a, b, c], _ => rfl
theorem rowV_4 {r : List Int} (h : r.length = 4) : rowV r = [.int .i64 (nth r 0), .int .i64 (nth r 1), .int .i64 (nth r 2), .int .i64 (nth r 3)] := by
  match r, h with
  | [a, b, c, d], _ => rfl
theorem flat_drop {k : Nat} : ∀ (lo : Nat) {rows : List (List Value)}, (∀ r ∈ rows, r.length = k) → (rows.drop lo).flatten = rows.flatten.drop (lo * k)
  | 0, rows, _ => by simp
  | lo + 1, [], _ => by simp
  | lo + 1, r :: rows, h => by
    have h1 := h r (List.mem_cons_self ..)
    rw [List.drop_succ_cons, flat_drop lo fun x hx => h x (List.mem_cons_of_mem _ hx), List.flatten_cons, Nat.add_mul, Nat.one_mul, Nat.add_comm, ← h1, ← List.drop_drop, List.drop_left]
theorem flat_take {n j : Nat} {rows : List (List Value)} {v : Value} (h : (rows.take n).flatten[j]? = some v) : rows.flatten[j]? = some v := by
  have h2 := List.take_append_drop n rows
  rw [← h2, List.flatten_append, List.getElem?_append_left (List.getElem?_eq_some_iff.1 h).1]
  exact h
section
variable {P : Program} {n : Nat} {W0 w : World} {e : Env} {Γ Γ' : List Asn} {K : Act → World → Prop} {op : Op} {ty : TypeId} {k : Nat} {a : Option Addr} {cap : Nat} {xs ys zs : List (List Int)}
theorem ints_shrink {us vs : List Int} {a' : Option Addr} {hi mx : Nat} (ha : a' = if mx = 0 then a else a.map (·.add (0 * 1))) (hv : (us.drop 0).take (hi - 0) = vs) (h1 : hi ≤ mx) (h2 : mx ≤ cap) (h : Sat W0 (RowsA 1 a cap (ints us) :: Γ) w) : Sat W0 (RowsA 1 a' (mx - 0) (ints vs) :: Γ) w := by
  have e : a' = a := by
    rw [ha]
    by_cases hm : mx = 0
    · rw [if_pos hm]
    · rw [if_neg hm]
      cases a with
      | none => rfl
      | some p => simp [Addr.add]
  subst hv
  rw [e, List.drop_zero, Nat.sub_zero, Nat.sub_zero, show ints (us.take hi) = (ints us).take hi by simp [ints, List.map_take]]
  have h3 := RowsA.take hi h
  refine Sat.head_imp (A := RowsA 1 a cap ((ints us).take hi)) (B := RowsA 1 a mx ((ints us).take hi)) (fun S I h' ⟨q1, q2⟩ => ⟨q1, ?_⟩) h3
  rcases q2 with ⟨p1, p2⟩ | ⟨b, off, c, T, p1, p2, p3, p4, p5, p6⟩
  · exact .inl ⟨p1, by omega⟩
  · exact .inr ⟨b, off, c, T, p1, p2, p3, by rw [List.length_take]; omega, by omega, p6⟩
theorem Reads.partN {lo hi mx : Nat} (hk : ∀ x ∈ xs, x.length = k) (hr : Reads W0 Γ a (rowsV xs)) (hz : (xs.drop lo).take (hi - lo) = zs) (hhm : hi ≤ mx) : Reads W0 Γ (if mx = lo then a else a.map (·.add (lo * k))) (rowsV zs) := by
  subst hz
  intro w hw j v hj
  have e1 : rowsV ((xs.drop lo).take (hi - lo)) = ((rowsV xs).drop lo).take (hi - lo) := by simp [rowsV, List.map_take, List.map_drop]
  rw [e1] at hj
  by_cases hm : mx = lo
  · rw [show hi - lo = 0 by omega] at hj
    simp at hj
  · have h2 := flat_take hj
    rw [flat_drop lo (rowsV_rows hk), List.getElem?_drop] at h2
    obtain ⟨p, hp, hc⟩ := hr w hw (lo * k + j) v h2
    subst hp
    rw [if_neg hm]
    refine ⟨p.add (lo * k), rfl, ?_⟩
    rw [← hc]
    congr 1
    by_cases h0 : lo * k = 0 <;> by_cases h1 : j = 0 <;> simp [Addr.add, h0, h1, Nat.add_assoc]
theorem Reads.placeN (hk : ∀ x ∈ xs, x.length = k) (hk0 : 0 < k) (hr : Reads W0 Γ a (rowsV xs)) (hne : 0 < xs.length) (hw : Sat W0 Γ w) : ∃ b off, a = some ⟨b, off, none⟩ := by
  have hf : 0 < (rowsV xs).flatten.length := by
    cases xs with
    | nil => simp at hne
    | cons x r =>
      have := hk x (List.mem_cons_self ..)
      simp only [rowsV, List.map_cons, List.flatten_cons, List.length_append, rowV, List.length_map]
      omega
  obtain ⟨p, hp, hc⟩ := hr w hw 0 _ (List.getElem?_eq_getElem hf)
  have := spot_none hc
  refine ⟨p.block, p.off, ?_⟩
  rw [hp]
  cases p; simp_all
theorem reads_atN (hk : ∀ x ∈ xs, x.length = k) (hk0 : 0 < k) (hr : Reads W0 Γ a (rowsV xs)) (hne : 0 < xs.length) (h : ∀ b off, a = some ⟨b, off, none⟩ → At n W0 e Γ K) : At n W0 e Γ K := by
  intro ac w ha hw
  obtain ⟨b, off, q⟩ := Reads.placeN hk hk0 hr hne hw
  exact h b off q ac w ha hw
theorem reads_atN_draw {ops : Array Oper} {Q : Exit → Act → World → Prop} {D Pp Pl : List Nat} (hk : ∀ x ∈ xs, x.length = k) (hk0 : 0 < k) (hr : Reads W0 Γ a (rowsV xs)) (hne : 0 < xs.length) (h : ∀ b off, a = some ⟨b, off, none⟩ → Draw P n W0 ops Q D Pp Pl e Γ) : Draw P n W0 ops Q D Pp Pl e Γ := by
  intro t1 t2 t3 t4 fuel listed ac w hi hl hw
  obtain ⟨b, off, q⟩ := Reads.placeN hk hk0 hr hne hw
  exact h b off q t1 t2 t3 t4 fuel listed ac w hi hl hw
theorem st_append_rows {info : TypeInfo} (bytes : Nat) (zv : Value) {a2 : Option Addr} {cap2 m1 m2 m : Nat} (t ty' E : Nat) (hx : ∀ w, (execOp (ev e) (bare op ty)).run P w = (Builtin.append_ #[t, t] ty' #[.slice a m1 cap, .slice a2 m2 cap2] >>= fun v => pure (Next.value v)).run P w)
    (ht : P.underlying t = some (.slice E)) (hi : P.info? E = some info) (hz : info.zero = some zv) (hk : info.size = k) (hzs : zv.cells.size = k) (hby : info.bytes = bytes) (hb0 : Nat.blt 0 bytes = true) (hb1 : bytes ≤ 64)
    (hp : Pull Γ (RowsN k a cap xs) Γ') (hr : Reads W0 Γ a2 (rowsV ys)) (hy : ∀ y ∈ ys, y.length = k) (hm1 : m1 = xs.length) (hm2 : m2 = ys.length) (hm : m = zs.length) (hws : xs ++ ys = zs) (hbig : zs.length ≤ 1099511627776) :
    StepTo P W0 Γ e op ty (fun v Δ => ∃ a' cap', v = .slice a' m cap' ∧ Δ = RowsN k a' cap' zs :: Γ') := by
  subst hws
  have hl : (xs ++ ys).length = m1 + m2 := by rw [List.length_append, hm1, hm2]
  refine (st_appendP (k := k) (rows := rowsV xs) (news := rowsV ys) (m1 := m1) (m2 := m2) t ty' E bytes zv info hx ht hi hz hk hzs hby hb0 hp hr (rowsV_rows hy) (rowsV_one ys) (by rw [rowsV_len]; exact hm1) (by rw [rowsV_len]; exact hm2) ?_).mono ?_
  · rw [hl] at hbig
    exact Nat.le_trans (Nat.mul_le_mul hbig hb1) (by decide)
  · rintro v Δ ⟨a', cap', h1, h2⟩
    refine ⟨a', cap', by rw [h1, hm, hl], ?_⟩
    rw [h2]
    simp [RowsN, rowsV]
end
end Go.Proofs.Ytcigheahollkcaa
