/- The plain side: packets, deals, and what caches do, as functions of values.
   Conditions: none. -/
import Derived.Test.YtcigheahollkcaaSlCacheLaw
import Derived.Test.YtcigheahollkcaaSlDealLaw
import Derived.Test.YtcigheahollkcaaSlFun
namespace Go.Proofs.Ytcigheahollkcaa
open Go

structure PktS where
  kind : Int
  src : Int
  dst : Int
  id : Int
  line : Int
  ptr : Int
  state : Int
  flag : Bool
  data : List Int
structure DealS where
  kind : Int
  line : Int
  id : Int
  step : Int
  state : Int
  head : Int
  data : List Int
  next : Int
  told : Int
structure LinkS where
  fwd : Int
  back : Int
def okL (xs : List Int) : Prop := xs.length ≤ 1099511627776
instance (xs : List Int) : Decidable (okL xs) := by unfold okL; infer_instance
def okC (c : CacheS) : Prop := c.l.length ≤ 1099511627776 ∧ (∀ x ∈ c.l, x.data.length ≤ 1099511627776) ∧ 1 ≤ c.sets ∧ 0 ≤ c.clock ∧ c.clock.natAbs ≤ 4611686018427387904
instance (c : CacheS) : Decidable (okC c) := by unfold okC; infer_instance
def zeroE : Ent := ⟨0, 0, 0, 0, false, []⟩
def withinS (v n : Int) : Option Int := chk (1 ≤ n ∧ n ≤ 4611686018427387904) (some (v % n))
def copyS (xs : List Int) : Option (List Int) := chk (okL xs) (some xs)
def cutS (xs : List Int) (n : Int) : Option (List Int) := chk (0 ≤ n ∧ n ≤ 1099511627776) (some (xs.take n.toNat))
def newC (sets ways : Int) : CacheS := ⟨[], if 1 < sets then sets else 1, if 1 < ways then ways else 1, 0⟩
def enewS (l f b : Int) (d : Bool) (xs : List Int) : Option Ent := chk (okL xs) (some ⟨f, b, l, 0, d, xs⟩)
def ecloneS (e : Ent) : Option Ent := chk (okL e.data) (some e)
def findE (c : CacheS) (line : Int) : Ent × Bool := match idx c.l line with
  | some i => (c.l.getD i zeroE, true)
  | none => (zeroE, false)
def findS (c : CacheS) (line : Int) : Option (Ent × Bool) := chk (okC c) (some (findE c line))
def putC (c : CacheS) (e : Ent) : Int × CacheS :=
  if e.line < 0 then (1, c) else match idx c.l e.line with
  | some i => (0, { c with l := c.l.set i { e with used := (c.l.getD i zeroE).used } })
  | none => if c.ways ≤ ((setL c e.line).length : Int) then (5, c) else (0, { c with l := c.l ++ [{ e with used := c.clock + 1 }], clock := c.clock + 1 })
def putS (c : CacheS) (e : Ent) : Option (Int × CacheS) := chk (okC c ∧ okL e.data) (some (putC c e))
def dropC (c : CacheS) (line : Int) : CacheS := match idx c.l line with
  | some i => { c with l := c.l.eraseIdx i }
  | none => c
def dropS (c : CacheS) (line : Int) : Option (Ent × Bool × CacheS) := chk (okC c) (some ((findE c line).1, (findE c line).2, dropC c line))
def touchC (c : CacheS) (line : Int) : CacheS := match idx c.l line with
  | some i => { c with l := c.l.set i { c.l.getD i zeroE with used := c.clock + 1 }, clock := c.clock + 1 }
  | none => c
def touchS (c : CacheS) (line : Int) : Option (Bool × CacheS) := chk (okC c) (some ((idx c.l line).isSome, touchC c line))
def fullS (c : CacheS) (line : Int) : Option Bool := chk (okC c) (some ((idx c.l line).isNone && decide (c.ways ≤ ((setL c line).length : Int))))
def lenC (c : CacheS) : Int := ((c.l.length : Nat) : Int)
section
open Go.RowKit
variable {W0 w : World} {Γ : List Asn}
theorem CacheA.mk0 {b T : Nat} {s y k : Int} (h : Sat W0 (.own b (.cells #[.slice none 0 0, .int .i64 s, .int .i64 y, .int .i64 k] T (0, 0)) :: Γ) w) : Sat W0 (CacheA b ⟨[], s, y, k⟩ :: Γ) w :=
  CacheA.close ⟨[], s, y, k⟩ (a := none) (cap := 0) (rows := []) (m := 0) rfl rfl rfl rfl ((EntsR.nil (RowsA.none_mk (k := 6) (a := none) h)).less (.take (.there (.there .here)) (.take (.there .here) (.take .here .refl))))
theorem RCacheA.mk0 {b T : Nat} {s y k : Int} (h : Sat W0 (.own b (.cells #[.int .i64 s, .int .i64 y, .int .i64 k, .slice none 0 0] T (0, 0)) :: Γ) w) : Sat W0 (RCacheA b ⟨[], s, y, k⟩ :: Γ) w :=
  RCacheA.close ⟨[], s, y, k⟩ (a := none) (cap := 0) (rows := []) (m := 0) rfl rfl rfl rfl ((EntsR.nil (RowsA.none_mk (k := 6) (a := none) h)).less (.take (.there (.there .here)) (.take (.there .here) (.take .here .refl))))
end
theorem wrap_u64 {x : Int} (h : 0 ≤ x ∧ x ≤ 9223372036854775807) : IntKind.u64.wrap x = x := by
  simp only [IntKind.wrap]
  have : IntKind.u64.bits = 64 := rfl
  simp [this, IntKind.signed]
  omega
def lenTab (x : Int) : Int := if x = 0 then 0 else if x = 1 then 1 else if x < 4 then 2 else if x < 8 then 3 else 4
def bitsLenS (x : Int) : Option Int := chk (0 ≤ x ∧ x ≤ 12) (some (lenTab x))
theorem getD_of {l : List Ent} {i : Nat} {e : Ent} (h : l[i]? = some e) : l.getD i zeroE = e := by simp [List.getD_eq_getElem?_getD, h]
theorem idx_ent {l : List Ent} {line : Int} {i : Nat} (h : idx l line = some i) : l[i]? = some (l.getD i zeroE) := by
  obtain ⟨e, he, _⟩ := idx_some h
  rw [he, getD_of he]
end Go.Proofs.Ytcigheahollkcaa
