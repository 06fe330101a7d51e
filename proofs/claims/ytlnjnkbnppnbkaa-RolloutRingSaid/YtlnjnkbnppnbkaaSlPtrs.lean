/- A slice of pointers to caches, each of them owned; one is taken out and put back.
   Conditions: none. -/
import Derived.Test.YtlnjnkbnppnbkaaSlRec
set_option linter.unusedVariables false
set_option linter.unusedSectionVars false
set_option linter.unusedSimpArgs false
namespace Go.Proofs.Ytlnjnkbnppnbkaa
open Go Go.RowKit
def ptrV (b : Nat) : List Value := [.pointer (some ⟨b, 0, none⟩)]
theorem ptrV_inj {b b' : Nat} (h : ptrV b = ptrV b') : b = b' := by
  unfold ptrV at h
  injection h with h
  injection h with h
  injection h with h
  injection h
def nthC (cs : List CacheS) (i : Int) : CacheS := cs.getD i.toNat ⟨[], 0, 0, 0⟩
def setC (cs : List CacheS) (i : Int) (c : CacheS) : List CacheS := cs.set i.toNat c
theorem setC_len (cs : List CacheS) (i : Int) (c : CacheS) : (setC cs i c).length = cs.length := by unfold setC; rw [List.length_set]
def PlacesOf (rows : List (List Value)) (cs : List CacheS) : Type := { bs : List Nat // rows = bs.map ptrV ∧ bs.length = cs.length }
def PtrsX (rows : List (List Value)) (a : Option Addr) (cap : Nat) (cs : List CacheS) : Asn := .star [RowsA 1 a cap rows, .ex fun x : PlacesOf rows cs => .star (List.zipWith CacheA x.1 cs)]
def HoleX (rows : List (List Value)) (a : Option Addr) (cap : Nat) (cs : List CacheS) (i : Int) : Asn := .star [RowsA 1 a cap rows, .ex fun x : PlacesOf rows cs => .star ((List.zipWith CacheA x.1 cs).eraseIdx i.toNat)]
section
variable {P : Program} {n : Nat} {W0 w : World} {e : Env} {Γ Γ' Γ1 Γ2 : List Asn} {K : Act → World → Prop} {rows : List (List Value)} {a a2 : Option Addr} {cap : Nat} {cs zs : List CacheS} {b off : Nat} {i : Int}
theorem Pull.nth : ∀ {L : List Asn} {j : Nat} {A : Asn}, L[j]? = some A → Pull (L ++ Γ) A (L.eraseIdx j ++ Γ)
  | [], j, A, h => by cases h
  | B :: L, 0, A, h => by
    injection h with h
    subst h
    exact .here
  | B :: L, j + 1, A, h => .there (Pull.nth (L := L) (j := j) h)
theorem Sat.push' {A : Asn} (hp : Pull Γ A Γ') (hw : Sat W0 (A :: Γ') w) : Sat W0 Γ w := hw.imp fun _ _ => Star.push hp
theorem PtrsX.nil (hw : Sat W0 Γ w) : Sat W0 (PtrsX [] a 0 [] :: Γ) w := by
  refine Sat.star_mk ?_
  have h1 : Sat W0 (.ex (fun x : PlacesOf [] [] => .star (List.zipWith CacheA x.1 [])) :: Γ) w := Sat.ex_mk (⟨[], rfl, rfl⟩ : PlacesOf [] []) (Sat.star_mk (l := []) hw)
  exact RowsA.none_mk h1
theorem PtrsX.split (hw : Sat W0 (PtrsX rows a cap cs :: Γ) w) : ∃ bs : List Nat, rows = bs.map ptrV ∧ bs.length = cs.length ∧ Sat W0 (RowsA 1 a cap rows :: (List.zipWith CacheA bs cs ++ Γ)) w := by
  have h1 := Sat.star_of hw
  have h2 : Sat W0 (.ex (fun x : PlacesOf rows cs => .star (List.zipWith CacheA x.1 cs)) :: RowsA 1 a cap rows :: Γ) w := h1.less (.take (.there .here) (.take .here .refl))
  obtain ⟨x, h3⟩ := h2.ex_of
  have h4 : Sat W0 (RowsA 1 a cap rows :: .star (List.zipWith CacheA x.1 cs) :: Γ) w := h3.less (.take (.there .here) (.take .here .refl))
  refine ⟨x.1, x.2.1, x.2.2, ?_⟩
  have h5 : Sat W0 (List.zipWith CacheA x.1 cs ++ (RowsA 1 a cap rows :: Γ)) w := Sat.star_of h3
  exact h5.pull (pull_app (List.zipWith CacheA x.1 cs) .here)
where
  pull_app {A : Asn} {Γ Γ' : List Asn} (L : List Asn) (hp : Pull Γ A Γ') : Pull (L ++ Γ) A (L ++ Γ') := by
    induction L with
    | nil => exact hp
    | cons B L ih => exact .there ih
theorem PtrsX.join {bs : List Nat} (h1 : rows = bs.map ptrV) (h2 : bs.length = cs.length) (hw : Sat W0 (RowsA 1 a cap rows :: (List.zipWith CacheA bs cs ++ Γ)) w) : Sat W0 (PtrsX rows a cap cs :: Γ) w := by
  have h5 : Sat W0 (List.zipWith CacheA bs cs ++ (RowsA 1 a cap rows :: Γ)) w := Sat.push' (PtrsX.split.pull_app (List.zipWith CacheA bs cs) .here) hw
  have h3 : Sat W0 (.ex (fun x : PlacesOf rows cs => .star (List.zipWith CacheA x.1 cs)) :: RowsA 1 a cap rows :: Γ) w := Sat.ex_mk (⟨bs, h1, h2⟩ : PlacesOf rows cs) (Sat.star_mk h5)
  exact Sat.star_mk (l := [_, _]) (h3.less (.take (.there .here) (.take .here .refl)))
theorem PtrsX.rows_is (hw : Sat W0 (PtrsX rows a cap cs :: Γ) w) : Sat W0 (RowsA 1 a cap rows :: Γ) w := (Sat.star_of hw).less (.take .here (.drop .here .refl))
theorem HoleX.rows_is (hw : Sat W0 (HoleX rows a cap cs i :: Γ) w) : Sat W0 (RowsA 1 a cap rows :: Γ) w := (Sat.star_of hw).less (.take .here (.drop .here .refl))
theorem PtrsX.lens (hw : Sat W0 (PtrsX rows a cap cs :: Γ) w) : rows.length = cs.length := by
  obtain ⟨bs, h1, h2, _⟩ := PtrsX.split hw
  rw [h1, List.length_map, h2]
theorem ptr_place (hp : Pull Γ (PtrsX rows a cap cs) Γ') (hne : 0 < cs.length) (hw : Sat W0 Γ w) : ∃ b off, a = some ⟨b, off, none⟩ := by
  have h0 := hw.pull hp
  have hl := PtrsX.lens h0
  have h1 := PtrsX.rows_is h0
  obtain ⟨hk, _⟩ := RowsA.len h1
  have hf : 0 < rows.flatten.length := by
    rw [flatten_length hk]; omega
  obtain ⟨p, hp2, hc⟩ := RowsA.reads .here w h1 0 _ (List.getElem?_eq_getElem hf)
  have := spot_none hc
  refine ⟨p.block, p.off, ?_⟩
  rw [hp2]
  cases p; simp_all
theorem ptr_at (hp : Pull Γ (PtrsX rows a cap cs) Γ') (hne : 0 < cs.length) (h : ∀ b off, a = some ⟨b, off, none⟩ → At n W0 e Γ K) : At n W0 e Γ K := by
  intro ac w ha hw
  obtain ⟨b, off, q⟩ := ptr_place hp hne hw
  exact h b off q ac w ha hw
theorem ptr_at_draw {ops : Array Oper} {Q : Exit → Act → World → Prop} {D Pp Pl : List Nat} (hp : Pull Γ (PtrsX rows a cap cs) Γ') (hne : 0 < cs.length) (h : ∀ b off, a = some ⟨b, off, none⟩ → Draw P n W0 ops Q D Pp Pl e Γ) : Draw P n W0 ops Q D Pp Pl e Γ := by
  intro t1 t2 t3 t4 fuel listed ac w hi hl hw
  obtain ⟨b, off, q⟩ := ptr_place hp hne hw
  exact h b off q t1 t2 t3 t4 fuel listed ac w hi hl hw
theorem ptr_there (hp : Pull Γ (PtrsX rows a cap cs) Γ') (hi : 0 ≤ i ∧ i < ((cs.length : Nat) : Int)) (hw : Sat W0 Γ w) : ∃ pb, rows[i.toNat]? = some (ptrV pb) := by
  obtain ⟨bs, h1, h2, _⟩ := PtrsX.split (hw.pull hp)
  have : i.toNat < bs.length := by omega
  exact ⟨bs[i.toNat], by rw [h1]; simp [this]⟩
theorem ptr_get (hp : Pull Γ (PtrsX rows a cap cs) Γ') (hi : 0 ≤ i ∧ i < ((cs.length : Nat) : Int)) (h : ∀ pb : Nat, rows[i.toNat]? = some (ptrV pb) → At n W0 e Γ K) : At n W0 e Γ K := by
  intro ac w ha hw
  obtain ⟨pb, h1⟩ := ptr_there hp hi hw
  exact h pb h1 ac w ha hw
theorem ptr_get_draw {ops : Array Oper} {Q : Exit → Act → World → Prop} {D Pp Pl : List Nat} (hp : Pull Γ (PtrsX rows a cap cs) Γ') (hi : 0 ≤ i ∧ i < ((cs.length : Nat) : Int)) (h : ∀ pb : Nat, rows[i.toNat]? = some (ptrV pb) → Draw P n W0 ops Q D Pp Pl e Γ) : Draw P n W0 ops Q D Pp Pl e Γ := by
  intro t1 t2 t3 t4 fuel listed ac w hin hl hw
  obtain ⟨pb, h1⟩ := ptr_there hp hi hw
  exact h pb h1 t1 t2 t3 t4 fuel listed ac w hin hl hw
theorem cell_of_rows {pb : Nat} (h : ∀ w, Sat W0 Γ w → Sat W0 (RowsA 1 a cap rows :: Γ1) w) (ha : a = some ⟨b, off, none⟩) (hr : rows[i.toNat]? = some (ptrV pb)) : ∀ w, Sat W0 Γ w → w.cell? ⟨b, off + (i.toNat * 1 + 0), none⟩ = some (.pointer (some ⟨pb, 0, none⟩)) := by
  intro w hw
  have h1 := h w hw
  obtain ⟨hk, _⟩ := RowsA.len h1
  exact reads_cell (RowsA.reads .here) hk ha hr (by rfl) w h1
theorem ptr_cell {pb : Nat} (hp : Pull Γ (PtrsX rows a cap cs) Γ') (ha : a = some ⟨b, off, none⟩) (hr : rows[i.toNat]? = some (ptrV pb)) : ∀ w, Sat W0 Γ w → w.cell? ⟨b, off + (i.toNat * 1 + 0), none⟩ = some (.pointer (some ⟨pb, 0, none⟩)) :=
  cell_of_rows (fun w hw => PtrsX.rows_is (hw.pull hp)) ha hr
theorem hole_cell {pb : Nat} {j : Int} (hp : Pull Γ (HoleX rows a cap cs j) Γ') (ha : a = some ⟨b, off, none⟩) (hr : rows[i.toNat]? = some (ptrV pb)) : ∀ w, Sat W0 Γ w → w.cell? ⟨b, off + (i.toNat * 1 + 0), none⟩ = some (.pointer (some ⟨pb, 0, none⟩)) :=
  cell_of_rows (fun w hw => HoleX.rows_is (hw.pull hp)) ha hr
theorem zip_at {bs : List Nat} {j pb : Nat} (h2 : bs.length = cs.length) (hb : bs[j]? = some pb) : (List.zipWith CacheA bs cs)[j]? = some (CacheA pb (cs.getD j ⟨[], 0, 0, 0⟩)) := by
  obtain ⟨h3, h4⟩ := List.getElem?_eq_some_iff.1 hb
  have : j < cs.length := by omega
  rw [List.getElem?_zipWith, hb, List.getElem?_eq_getElem this, List.getD_eq_getElem?_getD, List.getElem?_eq_getElem this]; rfl
theorem rows_bs {bs : List Nat} {j pb : Nat} (h1 : rows = bs.map ptrV) (hr : rows[j]? = some (ptrV pb)) : bs[j]? = some pb := by
  rw [h1, List.getElem?_map] at hr
  cases hq : bs[j]? with
  | none => rw [hq] at hr; cases hr
  | some x =>
    rw [hq] at hr
    injection hr with hr
    rw [ptrV_inj hr]
/-- One of them is taken out. -/
theorem PtrsX.take {pb : Nat} (hp : Pull Γ (PtrsX rows a cap cs) Γ') (hr : rows[i.toNat]? = some (ptrV pb)) (hw : Sat W0 Γ w) : Sat W0 (CacheA pb (nthC cs i) :: HoleX rows a cap cs i :: Γ') w := by
  obtain ⟨bs, h1, h2, h3⟩ := PtrsX.split (hw.pull hp)
  have h4 := h3.pull (.there (Pull.nth (zip_at h2 (rows_bs h1 hr))))
  have h5 : Sat W0 ((List.zipWith CacheA bs cs).eraseIdx i.toNat ++ (RowsA 1 a cap rows :: CacheA pb (nthC cs i) :: Γ')) w := (h4.push (.there (PtrsX.split.pull_app _ .here))).push (PtrsX.split.pull_app _ .here)
  have h6 : Sat W0 (.ex (fun x : PlacesOf rows cs => .star ((List.zipWith CacheA x.1 cs).eraseIdx i.toNat)) :: RowsA 1 a cap rows :: CacheA pb (nthC cs i) :: Γ') w := Sat.ex_mk (⟨bs, h1, h2⟩ : PlacesOf rows cs) (Sat.star_mk h5)
  have h7 : Sat W0 (HoleX rows a cap cs i :: CacheA pb (nthC cs i) :: Γ') w := Sat.star_mk (l := [_, _]) (h6.less (.take (.there .here) (.take .here .refl)))
  exact h7.less (.take (.there .here) (.take .here .refl))
/-- And put back, changed. -/
theorem PtrsX.put {pb : Nat} {c' : CacheS} (hr : rows[i.toNat]? = some (ptrV pb)) (hw : Sat W0 (CacheA pb c' :: HoleX rows a cap cs i :: Γ) w) : Sat W0 (PtrsX rows a cap (setC cs i c') :: Γ) w := by
  have h1 : Sat W0 (HoleX rows a cap cs i :: CacheA pb c' :: Γ) w := hw.less (.take (.there .here) (.take .here .refl))
  have h2 := Sat.star_of h1
  have h3 : Sat W0 (.ex (fun x : PlacesOf rows cs => .star ((List.zipWith CacheA x.1 cs).eraseIdx i.toNat)) :: RowsA 1 a cap rows :: CacheA pb c' :: Γ) w := h2.less (.take (.there .here) (.take .here .refl))
  obtain ⟨x, h4⟩ := h3.ex_of
  have h5 : Sat W0 ((List.zipWith CacheA x.1 cs).eraseIdx i.toNat ++ (RowsA 1 a cap rows :: CacheA pb c' :: Γ)) w := Sat.star_of h4
  have h6 : Sat W0 (CacheA pb c' :: RowsA 1 a cap rows :: ((List.zipWith CacheA x.1 cs).eraseIdx i.toNat ++ Γ)) w := (h5.pull (PtrsX.split.pull_app _ .here)).pull (.there (PtrsX.split.pull_app _ .here))
  have hb := rows_bs x.2.1 hr
  obtain ⟨q1, q2⟩ := List.getElem?_eq_some_iff.1 hb
  have hl := x.2.2
  have hz : List.zipWith CacheA x.1 (setC cs i c') = (List.zipWith CacheA x.1 cs).set i.toNat (CacheA pb c') := by
    unfold setC
    apply List.ext_getElem?
    intro j
    rw [List.getElem?_zipWith, List.getElem?_set, List.getElem?_set, List.getElem?_zipWith, List.length_zipWith]
    by_cases hj : i.toNat = j
    · subst hj
      rw [if_pos rfl, if_pos rfl, if_pos (by omega), if_pos (by omega), hb]
    · rw [if_neg hj, if_neg hj]
  have hn : ((List.zipWith CacheA x.1 cs).set i.toNat (CacheA pb c'))[i.toNat]? = some (CacheA pb c') := by
    rw [List.getElem?_set_self (by rw [List.length_zipWith]; omega)]
  have he : ((List.zipWith CacheA x.1 cs).set i.toNat (CacheA pb c')).eraseIdx i.toNat = (List.zipWith CacheA x.1 cs).eraseIdx i.toNat := List.eraseIdx_set_eq
  have h7 := Pull.nth (Γ := Γ) hn
  rw [he] at h7
  have h8 := h6.push (.there h7)
  rw [← hz] at h8
  exact PtrsX.join x.2.1 (by rw [setC_len]; exact hl) h8
theorem PtrsX.back {pb : Nat} (hr : rows[i.toNat]? = some (ptrV pb)) (hw : Sat W0 (CacheA pb (nthC cs i) :: HoleX rows a cap cs i :: Γ) w) : Sat W0 (PtrsX rows a cap cs :: Γ) w := by
  have := PtrsX.put hr hw
  have e : setC cs i (nthC cs i) = cs := by
    unfold setC nthC
    apply List.ext_getElem?
    intro j
    rw [List.getElem?_set]
    by_cases hj : i.toNat = j
    · subst hj
      rw [if_pos rfl]
      by_cases h : i.toNat < cs.length
      · rw [if_pos h, List.getD_eq_getElem?_getD, List.getElem?_eq_getElem h]; rfl
      · rw [if_neg h, List.getElem?_eq_none (by omega)]
    · rw [if_neg hj]
  rw [e] at this
  exact this
/-- One more. -/
theorem st_append_ptr {op : Op} {ty : TypeId} {info : TypeInfo} {pb : Nat} {c : CacheS} (bytes : Nat) (zv : Value) {cap2 m1 m : Nat} (t ty' E : Nat) (hx : ∀ w, (execOp (ev e) (bare op ty)).run P w = (Builtin.append_ #[t, t] ty' #[.slice a m1 cap, .slice a2 1 cap2] >>= fun v => pure (Next.value v)).run P w)
    (ht : P.underlying t = some (.slice E)) (hi : P.info? E = some info) (hz : info.zero = some zv) (hk : info.size = 1) (hzs : zv.cells.size = 1) (hby : info.bytes = bytes) (hb0 : Nat.blt 0 bytes = true) (hb1 : Nat.ble bytes 128 = true)
    (hp : Pull Γ (PtrsX rows a cap cs) Γ1) (hb : Pull Γ1 (CacheA pb c) Γ2) (hr : Reads W0 Γ a2 [ptrV pb]) (hm1 : m1 = cs.length) (hm : m = zs.length) (hws : cs ++ [c] = zs) (hbig : zs.length ≤ 1099511627776) :
    StepTo P W0 Γ e op ty (fun v Δ => ∃ a' cap' rows', v = .slice a' m cap' ∧ Δ = PtrsX rows' a' cap' zs :: Γ2) := by
  subst hws
  have hl : (cs ++ [c]).length = m1 + 1 := by rw [List.length_append, hm1, List.length_singleton]
  intro w hw
  obtain ⟨bs, q1, q2, _⟩ := PtrsX.split (hw.pull hp)
  have hbb : (m1 + 1) * bytes ≤ 140737488355328 := by
    rw [hl] at hbig
    have hb2 : bytes ≤ 128 := Nat.le_of_ble_eq_true hb1
    exact Nat.le_trans (Nat.mul_le_mul hbig hb2) (by decide)
  have g : ∀ w, Sat W0 Γ w → Sat W0 (RowsA 1 a cap rows :: .ex (fun x : PlacesOf rows cs => .star (List.zipWith CacheA x.1 cs)) :: CacheA pb c :: Γ2) w := fun w hw => by
    have h1 : Sat W0 (PtrsX rows a cap cs :: CacheA pb c :: Γ2) w := ((hw.pull hp).pull (.there hb)).less (.take (.there .here) (.take .here .refl))
    exact Sat.star_of h1
  have g2 : ∀ w, Sat W0 (RowsA 1 a cap rows :: .ex (fun x : PlacesOf rows cs => .star (List.zipWith CacheA x.1 cs)) :: CacheA pb c :: Γ2) w → Sat W0 Γ w := fun w hw => by
    have h1 : Sat W0 (PtrsX rows a cap cs :: CacheA pb c :: Γ2) w := Sat.star_mk (l := [_, _]) hw
    have h2 : Sat W0 (CacheA pb c :: PtrsX rows a cap cs :: Γ2) w := h1.less (.take (.there .here) (.take .here .refl))
    exact (h2.push (.there hb)).push hp
  refine (StepTo.conseq2 (Post := fun v Δ => ∃ a' cap', v = .slice a' (m1 + 1) cap' ∧ Δ = RowsA 1 a' cap' (rows ++ [ptrV pb]) :: .ex (fun x : PlacesOf rows cs => .star (List.zipWith CacheA x.1 cs)) :: CacheA pb c :: Γ2) (StepTo.conv g ?_) ?_) w hw
  · exact st_appendP (k := 1) (rows := rows) (news := [ptrV pb]) (m1 := m1) (m2 := 1) t ty' E bytes zv info hx ht hi hz hk hzs hby hb0 .here (hr.conv g2) (by intro r hr; simp at hr; subst hr; rfl) (by rfl) (by rw [hm1, q1, List.length_map, q2]) rfl hbb
  · rintro v Δ ⟨a', cap', h1, h2⟩
    refine ⟨_, ⟨a', cap', rows ++ [ptrV pb], by rw [h1, hm, hl], rfl⟩, fun w hw => ?_⟩
    rw [h2] at hw
    have h3 : Sat W0 (.ex (fun x : PlacesOf rows cs => .star (List.zipWith CacheA x.1 cs)) :: RowsA 1 a' cap' (rows ++ [ptrV pb]) :: CacheA pb c :: Γ2) w := hw.less (.take (.there .here) (.take .here .refl))
    obtain ⟨x, h4⟩ := h3.ex_of
    have h5 : Sat W0 (List.zipWith CacheA x.1 cs ++ (RowsA 1 a' cap' (rows ++ [ptrV pb]) :: CacheA pb c :: Γ2)) w := Sat.star_of h4
    have h6 := h5.pull (PtrsX.split.pull_app (List.zipWith CacheA x.1 cs) .here)
    have e : List.zipWith CacheA (x.1 ++ [pb]) (cs ++ [c]) = List.zipWith CacheA x.1 cs ++ [CacheA pb c] := List.zipWith_append x.2.2
    refine PtrsX.join (bs := x.1 ++ [pb]) (by rw [List.map_append, ← x.2.1]; rfl) (by rw [List.length_append, List.length_append, x.2.2]; rfl) ?_
    rw [e, List.append_assoc]
    exact h6
end
end Go.Proofs.Ytlnjnkbnppnbkaa
