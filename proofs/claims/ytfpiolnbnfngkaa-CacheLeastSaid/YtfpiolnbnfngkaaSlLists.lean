/- Arrays of lists of numbers in memory: one list at a time is taken out, and put back.
   Conditions: none. -/
import Derived.Test.YtfpiolnbnfngkaaSlArr
namespace Go.Proofs.Ytfpiolnbnfngkaa
open Go Go.RowKit
def lvals : List (List Int) → List (Option Addr × Nat) → List Value
  | xs :: ls, a :: ac => .slice a.1 xs.length a.2 :: lvals ls ac
  | _, _ => []
def lrows : List (List Int) → List (Option Addr × Nat) → List Asn
  | xs :: ls, a :: ac => RowsA 1 a.1 a.2 (ints xs) :: lrows ls ac
  | _, _ => []
def lrowsX : Nat → List (List Int) → List (Option Addr × Nat) → List Asn
  | 0, _ :: ls, _ :: ac => lrows ls ac
  | i + 1, xs :: ls, a :: ac => RowsA 1 a.1 a.2 (ints xs) :: lrowsX i ls ac
  | _, _, _ => []
def lget (ls : List (List Int)) (i : Int) : List Int := ls.getD i.toNat []
def lset (ls : List (List Int)) (i : Int) (v : List Int) : List (List Int) := ls.set i.toNat v
/-- Lists, in an array at b. -/
def ListsA (b T : Nat) (ls : List (List Int)) : Asn :=
  .ex fun ac : List (Option Addr × Nat) => .star (.pure (ac.length = ls.length) :: .own b (.cells (lvals ls ac).toArray T (0, 0)) :: lrows ls ac)
/-- The same, but for the i-th list, which lies at a. -/
def ListsX (b T : Nat) (ls : List (List Int)) (i : Int) (a : Option Addr) (c : Nat) : Asn :=
  .ex fun ac : List (Option Addr × Nat) => .star (.pure (ac.length = ls.length ∧ ac[i.toNat]? = some (a, c) ∧ 0 ≤ i ∧ i < (ls.length : Int)) :: .own b (.cells (lvals ls ac).toArray T (0, 0)) :: lrowsX i.toNat ls ac)
theorem lvals_len : ∀ {ls : List (List Int)} {ac : List (Option Addr × Nat)}, ac.length = ls.length → (lvals ls ac).length = ls.length
  | [], [], _ => rfl
  | [], _ :: _, h => by simp at h
  | _ :: _, [], h => by simp at h
  | xs :: ls, a :: ac, h => by simp [lvals, lvals_len (ls := ls) (ac := ac) (by simpa using h)]
theorem lvals_get : ∀ {ls : List (List Int)} {ac : List (Option Addr × Nat)} {i : Nat} {a : Option Addr} {c : Nat}, ac.length = ls.length → ac[i]? = some (a, c) → (lvals ls ac)[i]? = some (.slice a (ls.getD i []).length c)
  | [], [], i, _, _, _, h => by simp at h
  | [], _ :: _, _, _, _, h, _ => by simp at h
  | _ :: _, [], _, _, _, h, _ => by simp at h
  | xs :: ls, a :: ac, 0, _, _, h, h2 => by
    simp only [List.getElem?_cons_zero, Option.some.injEq] at h2
    subst h2
    rfl
  | xs :: ls, a :: ac, i + 1, _, _, h, h2 => by
    have := lvals_get (ls := ls) (ac := ac) (i := i) (by simpa using h) (by simpa using h2)
    simpa [lvals] using this
theorem l_pull : ∀ {ls : List (List Int)} {ac : List (Option Addr × Nat)} {i : Nat} {a : Option Addr} {c : Nat} {Γ : List Asn}, ac.length = ls.length → ac[i]? = some (a, c) → Pull (lrows ls ac ++ Γ) (RowsA 1 a c (ints (ls.getD i []))) (lrowsX i ls ac ++ Γ)
  | [], [], i, _, _, _, _, h => by simp at h
  | [], _ :: _, _, _, _, _, h, _ => by simp at h
  | _ :: _, [], _, _, _, _, h, _ => by simp at h
  | xs :: ls, a :: ac, 0, _, _, Γ, h, h2 => by
    simp only [List.getElem?_cons_zero, Option.some.injEq] at h2
    subst h2
    exact .here
  | xs :: ls, a :: ac, i + 1, _, _, Γ, h, h2 => .there (l_pull (ls := ls) (ac := ac) (i := i) (by simpa using h) (by simpa using h2))
theorem l_set (a' : Option Addr) (c' : Nat) (v : List Int) : ∀ {ls : List (List Int)} {ac : List (Option Addr × Nat)} {i : Nat}, ac.length = ls.length → i < ls.length →
    lvals (ls.set i v) (ac.set i (a', c')) = (lvals ls ac).set i (.slice a' v.length c') ∧ ∀ Γ, Pull (lrows (ls.set i v) (ac.set i (a', c')) ++ Γ) (RowsA 1 a' c' (ints v)) (lrowsX i ls ac ++ Γ)
  | [], _, _, _, h => by simp at h
  | _ :: _, [], _, h, _ => by simp at h
  | xs :: ls, a :: ac, 0, h, _ => ⟨rfl, fun Γ => .here⟩
  | xs :: ls, a :: ac, i + 1, h, hi => by
    obtain ⟨h1, h2⟩ := l_set a' c' v (ls := ls) (ac := ac) (i := i) (by simpa using h) (by simpa using hi)
    refine ⟨?_, fun Γ => .there (h2 Γ)⟩
    simp only [List.set_cons_succ, lvals, h1]
section
variable {P : Program} {n : Nat} {W0 w : World} {e : Env} {Γ Γ' : List Asn} {K : Act → World → Prop} {op : Op} {ty : TypeId} {b T : Nat} {ls : List (List Int)} {i : Int} {a : Option Addr} {c : Nat}
theorem st_conseq {Post Post' : Value → List Asn → Prop} (h : StepTo P W0 Γ e op ty Post) (k : ∀ v Δ, Post v Δ → ∃ Δ', Post' v Δ' ∧ ∀ w, Sat W0 Δ w → Sat W0 Δ' w) : StepTo P W0 Γ e op ty Post' :=
  fun w hw o a K Q kk => h w hw o a K Q fun v Δ w' h1 h2 => let ⟨Δ', p1, p2⟩ := k v Δ h1; kk v Δ' w' p1 (p2 w' h2)
theorem l_mid {A : Asn} : ∀ l : List Asn, Pull (l ++ A :: Γ) A (l ++ Γ)
  | [] => .here
  | _ :: l => .there (l_mid l)
theorem ListsA.of (h : Sat W0 (ListsA b T ls :: Γ) w) : ∃ ac, ac.length = ls.length ∧ Sat W0 (.own b (.cells (lvals ls ac).toArray T (0, 0)) :: (lrows ls ac ++ Γ)) w := by
  obtain ⟨ac, hac⟩ := h.ex_of
  obtain ⟨h2, h3⟩ := hac.star_of.pure_of
  exact ⟨ac, h2, h3⟩
theorem ListsA.mk (ac : List (Option Addr × Nat)) (h1 : ac.length = ls.length) (h : Sat W0 (.own b (.cells (lvals ls ac).toArray T (0, 0)) :: (lrows ls ac ++ Γ)) w) : Sat W0 (ListsA b T ls :: Γ) w :=
  Sat.ex_mk ac (Sat.star_mk (Sat.pure_mk h1 h))
theorem ListsX.of (h : Sat W0 (ListsX b T ls i a c :: Γ) w) : ∃ ac, (ac.length = ls.length ∧ ac[i.toNat]? = some (a, c) ∧ 0 ≤ i ∧ i < (ls.length : Int)) ∧ Sat W0 (.own b (.cells (lvals ls ac).toArray T (0, 0)) :: (lrowsX i.toNat ls ac ++ Γ)) w := by
  obtain ⟨ac, hac⟩ := h.ex_of
  obtain ⟨h2, h3⟩ := hac.star_of.pure_of
  exact ⟨ac, h2, h3⟩
theorem ListsX.mk (ac : List (Option Addr × Nat)) (h1 : ac.length = ls.length ∧ ac[i.toNat]? = some (a, c) ∧ 0 ≤ i ∧ i < (ls.length : Int)) (h : Sat W0 (.own b (.cells (lvals ls ac).toArray T (0, 0)) :: (lrowsX i.toNat ls ac ++ Γ)) w) : Sat W0 (ListsX b T ls i a c :: Γ) w :=
  Sat.ex_mk ac (Sat.star_mk (Sat.pure_mk h1 h))
theorem ListsA.focus (hi : 0 ≤ i ∧ i < (ls.length : Int)) (h : Sat W0 (ListsA b T ls :: Γ) w) : ∃ a c, Sat W0 (RowsA 1 a c (ints (lget ls i)) :: ListsX b T ls i a c :: Γ) w := by
  obtain ⟨ac, h1, h2⟩ := ListsA.of h
  have hlt : i.toNat < ac.length := by omega
  obtain ⟨⟨a, c⟩, hac⟩ : ∃ p, ac[i.toNat]? = some p := ⟨_, List.getElem?_eq_getElem hlt⟩
  refine ⟨a, c, ?_⟩
  have h3 := Sat.pull (.there (l_pull (Γ := Γ) h1 hac)) h2
  exact (ListsX.mk ac ⟨h1, hac, hi⟩ (Sat.push (.there (l_mid _)) h3)).less (.take (.there .here) (.take .here .refl))
theorem ListsA.unfocus (h : Sat W0 (RowsA 1 a c (ints (lget ls i)) :: ListsX b T ls i a c :: Γ) w) : Sat W0 (ListsA b T ls :: Γ) w := by
  obtain ⟨ac, ⟨h1, h2, _, _⟩, h3⟩ := ListsX.of (h.less (.take (.there .here) (.take .here .refl)))
  have h4 : Sat W0 (RowsA 1 a c (ints (lget ls i)) :: .own b (.cells (lvals ls ac).toArray T (0, 0)) :: (lrowsX i.toNat ls ac ++ Γ)) w := Sat.pull (.there (l_mid _)) h3
  exact ListsA.mk ac h1 (Sat.push (.there (l_pull h1 h2)) h4)
theorem At.lfocus (hi : 0 ≤ i ∧ i < (ls.length : Int)) (hp : Pull Γ (ListsA b T ls) Γ') (h : ∀ a c, At n W0 e (RowsA 1 a c (ints (lget ls i)) :: ListsX b T ls i a c :: Γ') K) : At n W0 e Γ K := fun ac w ha hw =>
  let ⟨a, c, hx⟩ := ListsA.focus hi (hw.pull hp); h a c ac w ha hx
theorem Draw.lfocus {ops : Array Oper} {Q : Exit → Act → World → Prop} {D Pp Pl : List Nat} (hi : 0 ≤ i ∧ i < (ls.length : Int)) (hp : Pull Γ (ListsA b T ls) Γ') (h : ∀ a c, Draw P n W0 ops Q D Pp Pl e (RowsA 1 a c (ints (lget ls i)) :: ListsX b T ls i a c :: Γ')) : Draw P n W0 ops Q D Pp Pl e Γ := by
  refine Draw.conv (Γ' := Asn.ex (fun x : Option Addr × Nat => Asn.star [RowsA 1 x.1 x.2 (ints (lget ls i)), ListsX b T ls i x.1 x.2]) :: Γ') (fun w hw => ?_) (fun w hw => ?_) (Draw.ex .here fun x => Draw.star .here (h x.1 x.2))
  · obtain ⟨a, c, hx⟩ := ListsA.focus hi (hw.pull hp)
    exact Sat.ex_mk (a, c) (Sat.star_mk hx)
  · obtain ⟨x, hx⟩ := hw.ex_of
    exact Sat.push hp (ListsA.unfocus hx.star_of)
theorem lists_load {o : Oper} (hx : ∀ w, (execOp (ev e) o).run P w = (load ⟨b, i.toNat, none⟩ >>= fun v => pure (Next.value v)).run P w) (hp : Pull Γ (ListsX b T ls i a c) Γ') :
    ∀ w, Sat W0 Γ w → (execOp (ev e) o).run P w = .ok (.value (.slice a (List.length (lget ls i)) c)) w := by
  intro w hw
  obtain ⟨ac, ⟨h1, h2, _, _⟩, h3⟩ := ListsX.of (hw.pull hp)
  refine load1 (Γ := .own b (.cells (lvals ls ac).toArray T (0, 0)) :: (lrowsX i.toNat ls ac ++ Γ')) (off := i.toNat) hx (holds_own .here) ?_ w h3
  rw [List.getElem?_toArray]
  exact lvals_get h1 h2
theorem st_lists {a' : Option Addr} {c' : Nat} {v : List Int} {Γ'' : List Asn} (hx : ∀ w, (execOp (ev e) (bare op ty)).run P w = (storeCells ⟨b, i.toNat, none⟩ [.slice a' (List.length v) c'] >>= fun _ => pure Next.skip).run P w)
    (hp : Pull Γ (ListsX b T ls i a c) Γ') (hp2 : Pull Γ' (RowsA 1 a' c' (ints v)) Γ'') : StepTo P W0 Γ e op ty (Is undef (ListsA b T (lset ls i v) :: Γ'')) := by
  intro w hw
  have h0 : Sat W0 (ListsX b T ls i a c :: RowsA 1 a' c' (ints v) :: Γ'') w := (hw.pull hp).less (.take .here (.take hp2 .refl))
  obtain ⟨ac, ⟨h1, h2, h3, h4⟩, h5⟩ := ListsX.of h0
  have hlt : i.toNat < ls.length := by omega
  obtain ⟨q1, q2⟩ := l_set a' c' v h1 hlt
  refine st_conseq (st_store (Γ := .own b (.cells (lvals ls ac).toArray T (0, 0)) :: (lrowsX i.toNat ls ac ++ RowsA 1 a' c' (ints v) :: Γ'')) (off := i.toNat) (c' := (lvals (ls.set i.toNat v) (ac.set i.toNat (a', c'))).toArray) hx .here ?_ ?_ rfl) ?_ w h5
  · rw [q1]
    show (lvals ls ac).toArray.setIfInBounds i.toNat _ = _
    apply Array.ext'
    simp
  · have := lvals_len h1
    simp
    omega
  · rintro _ _ ⟨rfl, rfl⟩
    refine ⟨_, ⟨rfl, rfl⟩, fun w' hw' => ListsA.mk (ac.set i.toNat (a', c')) (by simp [lset, h1]) ?_⟩
    have h6 := Sat.pull (A := RowsA 1 a' c' (ints v)) (.there (l_mid _)) hw'
    exact Sat.push (.there (q2 Γ'')) h6
/-- An array of two lists, both taken out. -/
theorem At.l2 (hl : ls.length = 2) (hp : Pull Γ (ListsA b T ls) Γ') (h : ∀ a0 c0 a1 c1, At n W0 e (.own b (.cells #[.slice a0 (List.length (lget ls 0)) c0, .slice a1 (List.length (lget ls 1)) c1] T (0, 0)) :: RowsA 1 a0 c0 (ints (lget ls 0)) :: RowsA 1 a1 c1 (ints (lget ls 1)) :: Γ') K) : At n W0 e Γ K := by
  intro ac w ha hw
  obtain ⟨ad, h1, h2⟩ := ListsA.of (hw.pull hp)
  match ls, hl, ad, h1 with
  | [x, y], _, [p, q], _ => exact h p.1 p.2 q.1 q.2 ac w ha h2
theorem nils_mk {A : Asn} : ∀ (k : Nat) {Γ : List Asn}, Sat W0 (A :: Γ) w → Sat W0 (A :: (lrows (List.replicate k []) (List.replicate k (none, 0)) ++ Γ)) w
  | 0, _, h => h
  | k + 1, Γ, h => by
    have h1 : Sat W0 (RowsA 1 none 0 (ints []) :: A :: (lrows (List.replicate k []) (List.replicate k (none, 0)) ++ Γ)) w := RowsA.none_mk (nils_mk k h)
    exact h1.less (.take (.there .here) (.take .here .refl))
theorem nils_vals : ∀ (k : Nat), lvals (List.replicate k []) (List.replicate k (none, 0)) = List.replicate k (.slice none 0 0)
  | 0 => rfl
  | k + 1 => by
    rw [List.replicate_succ, List.replicate_succ, List.replicate_succ, ← nils_vals k]
    rfl
theorem lists_new {cs : Array Value} (k : Nat) (hc : cs = (List.replicate k (.slice none 0 0 : Value)).toArray) (h : Sat W0 (.own b (.cells cs T (0, 0)) :: Γ) w) : Sat W0 (ListsA b T (List.replicate k []) :: Γ) w := by
  refine ListsA.mk (List.replicate k (none, 0)) (by simp) ?_
  rw [nils_vals, ← hc]
  exact nils_mk k h
end
end Go.Proofs.Ytfpiolnbnfngkaa
