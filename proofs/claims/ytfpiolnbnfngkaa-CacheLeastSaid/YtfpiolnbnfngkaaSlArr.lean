/- Arrays of numbers in memory, looked at and written at places that are not known beforehand.
   Conditions: none. -/
import Derived.Test.YtfpiolnbnfngkaaSlFun
namespace Go.Proofs.Ytfpiolnbnfngkaa
open Go Go.RowKit
def arrI (xs : List Int) : Array Value := (xs.map (Value.int .i64)).toArray
theorem arrI_size (xs : List Int) : (arrI xs).size = xs.length := by simp [arrI]
theorem arr_get {xs : List Int} {i : Int} (h : 0 ≤ i ∧ i < (xs.length : Int)) : (arrI xs)[i.toNat]? = some (.int .i64 (nth xs i)) := by
  have := nth_get h
  simp [arrI, this]
theorem arr_at {xs : List Int} (j : Nat) (h : j < xs.length) : (arrI xs)[j]? = some (.int .i64 (nth xs (j : Int))) := by
  have := arr_get (xs := xs) (i := (j : Int)) (by omega)
  simpa using this
theorem arr_all6 {xs : List Int} (h : xs.length = 6) : rowAt? (arrI xs) 0 [.int .i64 (nth xs 0), .int .i64 (nth xs 1), .int .i64 (nth xs 2), .int .i64 (nth xs 3), .int .i64 (nth xs 4), .int .i64 (nth xs 5)] :=
  ⟨arr_at 0 (by omega), arr_at 1 (by omega), arr_at 2 (by omega), arr_at 3 (by omega), arr_at 4 (by omega), arr_at 5 (by omega), trivial⟩
section
variable {P : Program} {n : Nat} {W0 w : World} {e : Env} {Γ Γ' : List Asn}
theorem index_arr {t : TypeId} {E m b : Nat} {x : Int} {o : Oper} (info : TypeInfo) (hx : ∀ w, (execOp (ev e) o).run P w = (Instr.indexAt t (.pointer (some ⟨b, 0, none⟩)) (.int .i64 x) >>= fun v => pure (Next.value v)).run P w) (ht : P.underlying t = some (.array m E))
    (hi : P.info? E = some info) (hs : info.size = 1) (h : 0 ≤ x ∧ x < (m : Int)) : ∀ w, (execOp (ev e) o).run P w = .ok (.value (.pointer (some ⟨b, x.toNat, none⟩))) w := by
  intro w
  rw [hx]
  refine run_seq (w' := w) (x := .pointer (some ⟨b, x.toNat, none⟩)) ?_ rfl
  simp [Instr.indexAt, asIntOf, run_underlying ht, Go.sizeOf, typeInfo, hi, hs, h, Instr.sureAddr]
  all_goals (simp [add_none])
theorem st_arr {b : Nat} {T : TypeId} {xs : List Int} {i v : Int} {op : Op} {ty : TypeId} (hx : ∀ w, (execOp (ev e) (bare op ty)).run P w = (storeCells ⟨b, i.toNat, none⟩ [.int .i64 v] >>= fun _ => pure Next.skip).run P w)
    (hp : Pull Γ (Asn.own b (.cells (arrI xs) T (0, 0))) Γ') (h : 0 ≤ i ∧ i < (xs.length : Int)) : StepTo P W0 Γ e op ty (Is undef (Asn.own b (.cells (arrI (setI xs i v)) T (0, 0)) :: Γ')) := by
  refine st_store hx hp ?_ ?_ rfl
  · show (arrI xs).setIfInBounds i.toNat (.int .i64 v) = _
    apply Array.ext'
    simp [arrI, setI, List.map_set]
  · rw [arrI_size]
    have : i.toNat < xs.length := by omega
    simp
    omega
end
end Go.Proofs.Ytfpiolnbnfngkaa
