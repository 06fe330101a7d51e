/- Lists of numbers: append, a part of a slice; what is known of a slice that is nil.
   Conditions: none. -/
import Derived.Test.YtcigheahollkcaaSlRows
namespace Go.Proofs.Ytcigheahollkcaa
open Go Go.RowKit

section
variable {P : Program} {n : Nat} {W0 w : World} {e : Env} {Γ Γ' : List Asn} {K : Act → World → Prop} {k : Nat} {a a1 a2 : Option Addr} {cap : Nat} {rows news : List (List Value)} {xs ys zs : List Int}

theorem st_append_ints {op : Op} {ty : TypeId} (t ty' E : Nat) {cap2 m1 m2 m : Nat} (info : TypeInfo)
    (hx : ∀ w, (execOp (ev e) (bare op ty)).run P w = (Builtin.append_ #[t, t] ty' #[.slice a1 m1 cap, .slice a2 m2 cap2] >>= fun v => pure (Next.value v)).run P w)
    (ht : P.underlying t = some (.slice E)) (hi : P.info? E = some info) (hz : info.zero = some (.int .i64 0)) (hk : info.size = 1) (hby : info.bytes = 8)
    (hp : Pull Γ (IntsA a1 cap xs) Γ') (hr : Reads W0 Γ a2 (ints ys)) (hm1 : m1 = xs.length) (hm2 : m2 = ys.length) (hm : m1 + m2 = m) (hzs : xs ++ ys = zs) (hbig : m ≤ 1099511627776) :
    StepTo P W0 Γ e op ty (fun v Δ => ∃ a' cap', v = .slice a' m cap' ∧ Δ = IntsA a' cap' zs :: Γ') := by
  subst hm; subst hzs
  refine (st_appendP (k := 1) (rows := ints xs) (news := ints ys) t ty' E 8 (.int .i64 0) info hx ht hi hz hk rfl hby rfl hp hr (ints_rows ys) (ints_one ys) (by simpa using hm1) (by simpa using hm2) (by omega)).mono ?_
  rintro v Δ ⟨a', cap', h1, h2⟩
  exact ⟨a', cap', h1, by unfold IntsA; rw [ints_append]; exact h2⟩

theorem add_add (p : Addr) (i j : Nat) : (p.add i).add j = p.add (i + j) := by
  unfold Addr.add
  by_cases h1 : i = 0
  · subst h1; simp
  · by_cases h2 : j = 0
    · subst h2; simp
    · have : ¬ i + j = 0 := by omega
      simp [h1, h2, Nat.add_assoc]
theorem ints_flat_get {i : Nat} {v : Value} : (ints xs).flatten[i]? = some v ↔ ∃ x, xs[i]? = some x ∧ v = .int .i64 x := by
  rw [ints_flatten, List.getElem?_map]
  cases xs[i]? <;> simp [eq_comm]
/-- A part of a slice may be read where the whole may. -/
theorem Reads.part {lo hi mx : Nat} (hr : Reads W0 Γ a (ints xs)) (hz : (xs.drop lo).take (hi - lo) = zs) (hhm : hi ≤ mx) : Reads W0 Γ (if mx = lo then a else a.map (·.add (lo * 1))) (ints zs) := by
  subst hz
  intro w hw j v hj
  rw [ints_flat_get] at hj
  obtain ⟨x, hx, rfl⟩ := hj
  rw [List.getElem?_take] at hx
  split at hx
  · rename_i hlt
    rw [List.getElem?_drop] at hx
    obtain ⟨p, rfl, hc⟩ := hr w hw (lo + j) (.int .i64 x) (ints_flat_get.2 ⟨x, hx, rfl⟩)
    rw [if_neg (by omega)]
    refine ⟨p.add (lo * 1), rfl, ?_⟩
    rw [add_add, Nat.mul_one]; exact hc
  · cases hx
theorem Reads.pref {hi mx : Nat} (hr : Reads W0 Γ a (ints xs)) (hz : xs.take hi = zs) (hhm : hi ≤ mx) : Reads W0 Γ (if mx = 0 then a else a.map (·.add (0 * 1))) (ints zs) :=
  hr.part (lo := 0) (hi := hi) (by simpa using hz) hhm
theorem RowsA.nil_of (hp : Pull Γ (RowsA k none cap rows) Γ') : ∀ w, Sat W0 Γ w → rows = [] ∧ cap = 0 := by
  intro w hw
  obtain ⟨S, I, ⟨S1, S2, h1, h2, h3, ⟨h4, h5⟩, h6⟩, r⟩ := hw.pull hp
  rcases h5 with ⟨rfl, rfl⟩ | ⟨b, off, c, T, q1, q2⟩
  · exact ⟨rfl, rfl⟩
  · cases q1
theorem ints_nil (h : ints xs = []) : xs = [] := by simpa [ints] using h
theorem Reads.none_nil (hr : Reads W0 Γ none (ints xs)) (hw : Sat W0 Γ w) : xs = [] := by
  cases xs with
  | nil => rfl
  | cons x r => obtain ⟨p, hp, _⟩ := hr w hw 0 (.int .i64 x) (ints_flat_get.2 ⟨x, rfl, rfl⟩); cases hp
theorem run_isnone {a : Option Addr} {v : Bool} (h : a.isNone = v) : Value.bool a.isNone = .bool v := by rw [h]

theorem Tr.as {f : FuncId} {args : Array Value} {v v' : Value} {Δ : List Asn} (h : Tr P f args W0 Γ (fun r D => r = v ∧ D = Δ)) (hv : v = v') : Tr P f args W0 Γ (fun r D => r = v' ∧ D = Δ) := by subst hv; exact h
theorem Tr.conseq {f : FuncId} {args : Array Value} {R R' : Value → List Asn → Prop} (h : Tr P f args W0 Γ R) (k : ∀ r Δ, R r Δ → ∃ Δ', R' r Δ' ∧ ∀ w, Sat W0 Δ w → Sat W0 Δ' w) : Tr P f args W0 Γ R' :=
  fun w hw => (h w hw).mono fun _ _ ⟨r, Δ, h1, h2, h3⟩ => let ⟨Δ', k1, k2⟩ := k r Δ h2; ⟨r, Δ', h1, k1, k2 _ h3⟩
theorem ints_set (xs : List Int) (i : Nat) (v : Int) : (ints xs).set i [.int .i64 v] = ints (xs.set i v) := by simp [ints, List.map_set]
theorem st_to_int {op : Op} {ty : TypeId} {a : Option Addr} {cap i : Nat} {xs : List Int} {v : Int} {u : Value} (h : StepTo P W0 Γ e op ty (Is u (RowsA 1 a cap ((ints xs).set i [.int .i64 v]) :: Γ'))) : StepTo P W0 Γ e op ty (Is u (IntsA a cap (xs.set i v) :: Γ')) := by rw [ints_set] at h; exact h
theorem Tr.as_slice {f : FuncId} {a : Option Addr} {n m c : Nat} {x y : Value} {Δ : List Asn} (he : n = m) (h : Tr P f #[.slice a n c, x, y] W0 Γ (fun r D => r = .slice a (n - 1) c ∧ D = Δ)) : Tr P f #[.slice a m c, x, y] W0 Γ (fun r D => r = .slice a (m - 1) c ∧ D = Δ) := by subst he; exact h
theorem Sat.rows_eq {b : Asn} {k : Nat} {a : Option Addr} {cap : Nat} {rows rows' : List (List Value)} {w : World} {es : Asn} (he : rows = rows') (h : Sat W0 (b :: RowsA k a cap rows' :: es :: Γ) w) : Sat W0 (b :: RowsA k a cap rows :: es :: Γ) w := by subst he; exact h
theorem Draw.conv {ops : Array Oper} {Q : Exit → Act → World → Prop} {D Pp Pl : List Nat} (hg : ∀ w, Sat W0 Γ w → Sat W0 Γ' w) (hb : ∀ w, Sat W0 Γ' w → Sat W0 Γ w) (h : Draw P n W0 ops Q D Pp Pl e Γ') : Draw P n W0 ops Q D Pp Pl e Γ := by
  intro t1 t2 t3 t4 fuel listed ac w hi hl hw
  refine h t1 t2 t3 (fun j hj => ?_) fuel listed ac w hi hl (hg w hw)
  obtain ⟨o, v, t, q1, q2, q3, q4, q5, q6, q7, q8⟩ := t4 j hj
  exact ⟨o, v, t, q1, q2, q3, q4, q5, q6, fun ht w hw => q7 ht w (hb w hw), q8⟩
theorem Draw.ex {ops : Array Oper} {Q : Exit → Act → World → Prop} {D Pp Pl : List Nat} {α : Type} {f : α → Asn} (hp : Pull Γ (Asn.ex f) Γ') (h : ∀ x, Draw P n W0 ops Q D Pp Pl e (f x :: Γ')) : Draw P n W0 ops Q D Pp Pl e Γ := by
  intro t1 t2 t3 t4 fuel listed ac w hi hl hw
  obtain ⟨x, hx⟩ := (hw.pull hp).ex_of
  refine h x t1 t2 t3 (fun j hj => ?_) fuel listed ac w hi hl hx
  obtain ⟨o, v, t, q1, q2, q3, q4, q5, q6, q7, q8⟩ := t4 j hj
  exact ⟨o, v, t, q1, q2, q3, q4, q5, q6, fun ht w hw => q7 ht w ((Sat.ex_mk x hw).push hp), q8⟩
theorem Draw.star {ops : Array Oper} {Q : Exit → Act → World → Prop} {D Pp Pl : List Nat} {l : List Asn} (hp : Pull Γ (Asn.star l) Γ') (h : Draw P n W0 ops Q D Pp Pl e (l ++ Γ')) : Draw P n W0 ops Q D Pp Pl e Γ :=
  Draw.conv (fun _ hw => (hw.pull hp).star_of) (fun _ hw => (Sat.star_mk hw).push hp) h
end
end Go.Proofs.Ytcigheahollkcaa
