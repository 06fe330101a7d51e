/- Who has which line, and who waits, in memory.
   Conditions: none. -/
import Derived.Test.YtcigheahollkcaaSlTurn
namespace Go.Proofs.Ytcigheahollkcaa
open Go Go.RowKit
structure TurnsS where
  owners : List (Int × Int)
  wait : List (Int × List (Int × Int))
def TurnsA (b : Nat) (t : TurnsS) : Asn :=
  .ex fun x : Nat × Nat × Nat => .star [.own b (.cells #[.map (some x.1), .map (some x.2.1)] x.2.2 (0, 0)), IMapA x.1 t.owners, WMapA x.2.1 t.wait]
def nthP (ws : List (Int × Int)) (i : Int) : Int × Int := ws.getD i.toNat (0, 0)
section
variable {P : Program} {n : Nat} {W0 w : World} {e : Env} {Γ Γ' : List Asn} {K : Act → World → Prop} {op : Op} {ty : TypeId} {t Kt V b : Nat} {k : Int} {m : List (Int × List (Int × Int))} {o : List (Int × Int)} {ws : List (Int × Int)} {a : Option Addr} {cap : Nat}
theorem TurnsA.open {t : TurnsS} (hp : Pull Γ (TurnsA b t) Γ')
    (h : ∀ (mo mw T : Nat), At n W0 e (.own b (.cells #[.map (some mo), .map (some mw)] T (0, 0)) :: IMapA mo t.owners :: WMapA mw t.wait :: Γ') K) : At n W0 e Γ K :=
  At.ex hp fun x => At.star .here (h x.1 x.2.1 x.2.2)
theorem TurnsA.open_draw {ops : Array Oper} {Q : Exit → Act → World → Prop} {D Pp Pl : List Nat} {t : TurnsS} (hp : Pull Γ (TurnsA b t) Γ')
    (h : ∀ (mo mw T : Nat), Draw P n W0 ops Q D Pp Pl e (.own b (.cells #[.map (some mo), .map (some mw)] T (0, 0)) :: IMapA mo t.owners :: WMapA mw t.wait :: Γ')) : Draw P n W0 ops Q D Pp Pl e Γ :=
  Draw.ex hp fun x => Draw.star .here (h x.1 x.2.1 x.2.2)
theorem TurnsA.close {mo mw T : Nat} {o : List (Int × Int)} (t : TurnsS) (h1 : o = t.owners) (h2 : m = t.wait) (hw : Sat W0 (.own b (.cells #[.map (some mo), .map (some mw)] T (0, 0)) :: IMapA mo o :: WMapA mw m :: Γ) w) : Sat W0 (TurnsA b t :: Γ) w := by
  subst h1; subst h2
  exact Sat.ex_mk (mo, mw, T) (Sat.star_mk hw)
theorem At.wfocus (k : Int) (hp : Pull Γ (WMapA b m) Γ') (h : ∀ a c, At n W0 e (AsksA a c (wget m k) :: WHoleA b m k a c :: Γ') K) : At n W0 e Γ K := fun ac w ha hw =>
  let ⟨a, c, hx⟩ := WMapA.focus k (hw.pull hp); h a c ac w ha hx
theorem Draw.wfocus {ops : Array Oper} {Q : Exit → Act → World → Prop} {D Pp Pl : List Nat} (k : Int) (hp : Pull Γ (WMapA b m) Γ') (h : ∀ a c, Draw P n W0 ops Q D Pp Pl e (AsksA a c (wget m k) :: WHoleA b m k a c :: Γ')) : Draw P n W0 ops Q D Pp Pl e Γ := by
  refine Draw.conv (Γ' := Asn.ex (fun x : Option Addr × Nat => Asn.star [AsksA x.1 x.2 (wget m k), WHoleA b m k x.1 x.2]) :: Γ') (fun w hw => ?_) (fun w hw => ?_) (Draw.ex .here fun x => Draw.star .here (h x.1 x.2))
  · obtain ⟨a, c, hx⟩ := WMapA.focus k (hw.pull hp)
    exact Sat.ex_mk (a, c) (Sat.star_mk hx)
  · obtain ⟨x, hx⟩ := hw.ex_of
    exact Sat.push hp (WMapA.unfocus hx.star_of)
theorem imap_lookup2 {ik : IntKind} {op' : Oper} {info : TypeInfo} {y : Option Int} (hy : mget o k = y) (hx : ∀ w, (execOp (ev e) op').run P w = (Instr.lookup t (.map (some b)) (.int .i64 k) true >>= fun v => pure (Next.value v)).run P w)
    (ht : P.underlying t = some (.map Kt V)) (hK : P.underlying Kt = some (.int ik)) (hi : P.info? V = some info) (hz : info.zero = some (.int .i64 0)) (hp : Pull Γ (IMapA b o) Γ') :
    ∀ w, Sat W0 Γ w → (execOp (ev e) op').run P w = .ok (.value (.tuple #[.int .i64 (y.getD 0), .bool y.isSome])) w := by
  intro w hw
  rw [kmap_lookup (z := .int .i64 0) true hx ht hK hi hz hp w hw, mget_map, hy]
  cases y <;> rfl
theorem imap_lookup1 {ik : IntKind} {op' : Oper} {info : TypeInfo} {y : Option Int} (hy : mget o k = y) (hx : ∀ w, (execOp (ev e) op').run P w = (Instr.lookup t (.map (some b)) (.int .i64 k) false >>= fun v => pure (Next.value v)).run P w)
    (ht : P.underlying t = some (.map Kt V)) (hK : P.underlying Kt = some (.int ik)) (hi : P.info? V = some info) (hz : info.zero = some (.int .i64 0)) (hp : Pull Γ (IMapA b o) Γ') :
    ∀ w, Sat W0 Γ w → (execOp (ev e) op').run P w = .ok (.value (.int .i64 (y.getD 0))) w := by
  intro w hw
  rw [kmap_lookup (z := .int .i64 0) false hx ht hK hi hz hp w hw, mget_map, hy]
  cases y <;> rfl
theorem st_iset {ik : IntKind} {x : Int} (hx : ∀ w, (execOp (ev e) (bare op ty)).run P w = (Instr.mapUpdate t (.map (some b)) (.int .i64 k) (.int .i64 x) >>= fun _ => pure Next.skip).run P w)
    (ht : P.underlying t = some (.map Kt V)) (hK : P.underlying Kt = some (.int ik)) (hp : Pull Γ (IMapA b o) Γ') : StepTo P W0 Γ e op ty (Is undef (IMapA b (mset o k x) :: Γ')) := by
  have := st_kmap_set (W0 := W0) hx ht hK hp
  rw [mset_map] at this
  exact this
theorem st_idel {ik : IntKind} {t2 tr : TypeId} (hx : ∀ w, (execOp (ev e) (bare op ty)).run P w = (Builtin.delete_ #[t, t2] tr #[.map (some b), .int .i64 k] >>= fun v => pure (Next.value v)).run P w)
    (ht : P.underlying t = some (.map Kt V)) (hK : P.underlying Kt = some (.int ik)) (hp : Pull Γ (IMapA b o) Γ') : StepTo P W0 Γ e op ty (Is (.tuple #[]) (IMapA b (mdel o k) :: Γ')) := by
  have := st_kmap_del (W0 := W0) hx ht hK hp
  rw [mdel_map] at this
  exact this
theorem wmap_nil (h : Sat W0 (KMapA b [] :: Γ) w) : Sat W0 (WMapA b [] :: Γ) w := WMapA.mk [] rfl h
theorem askRows_len (ws : List (Int × Int)) : (askRows ws).length = ws.length := by simp [askRows]
theorem askRows_row (ws : List (Int × Int)) : ∀ r ∈ askRows ws, r.length = 2 := by
  intro r hr
  obtain ⟨p, _, rfl⟩ := List.mem_map.1 hr
  rfl
theorem askRows_get {i : Int} (h : 0 ≤ i ∧ i < (ws.length : Int)) : (askRows ws)[i.toNat]? = some [.int .i64 (nthP ws i).1, .int .i64 (nthP ws i).2] := by
  have : i.toNat < ws.length := by omega
  simp [askRows, nthP, this]
theorem askRows_drop (ws : List (Int × Int)) (j : Nat) : (askRows ws).drop j = askRows (ws.drop j) := by simp [askRows, List.map_drop]
theorem st_append_ask {info : TypeInfo} {ws' : List (Int × Int)} {a2 : Option Addr} {who id : Int} (t ty' E : Nat) (hx : ∀ w, (execOp (ev e) (bare op ty)).run P w = (Builtin.append_ #[t, t] ty' #[.slice a (List.length ws) cap, .slice a2 1 1] >>= fun v => pure (Next.value v)).run P w)
    (ht : P.underlying t = some (.slice E)) (hi : P.info? E = some info) (hz : info.zero = some (.agg #[.int .i64 0, .int .i64 0])) (hk : info.size = 2) (hby : info.bytes = 16)
    (hp : Pull Γ (AsksA a cap ws) Γ') (hr : Reads W0 Γ a2 [[.int .i64 who, .int .i64 id]]) (hws : ws ++ [(who, id)] = ws') (hbig : ws.length ≤ 1099511627776) :
    StepTo P W0 Γ e op ty (fun v Δ => ∃ a' cap', v = .slice a' (List.length ws') cap' ∧ Δ = AsksA a' cap' ws' :: Γ') := by
  subst hws
  refine (st_appendP (k := 2) (rows := askRows ws) (news := [[.int .i64 who, .int .i64 id]]) (m1 := List.length ws) (m2 := 1) t ty' E 16 (.agg #[.int .i64 0, .int .i64 0]) info hx ht hi hz hk rfl hby rfl hp hr (by simp) rfl (askRows_len ws).symm rfl (by omega)).mono ?_
  rintro v Δ ⟨a', cap', h1, h2⟩
  refine ⟨a', cap', by rw [h1]; simp, ?_⟩
  rw [h2]
  simp [AsksA, askRows]
end
end Go.Proofs.Ytcigheahollkcaa
