/- The document's homes in memory.
   Conditions: none. -/
import Derived.Test.YtcigheahollkcaaPlA
import Derived.Test.YtcigheahollkcaaSlRowsN
import Derived.Test.YtcigheahollkcaaSlRec
namespace Go.Proofs.Ytcigheahollkcaa
open Go Go.RowKit
set_option linter.unusedVariables false
structure HomesS where
  c : CfgS
  node : Int
  r : List RowS
  owner : List (List Int)
  wait : List (List Int)
structure HomesXP where
  a7 : Option Addr
  c7 : Nat
  a9 : Option Addr
  c9 : Nat
  r9 : List (List Value)
  a10 : Option Addr
  c10 : Nat
  a11 : Option Addr
  c11 : Nat
  T : Nat
def HomesXA (b : Nat) (x : HomesXP) (t : HomesS) : Asn := .star [.own b (.cells #[.int .i64 t.c.nodes, .int .i64 t.c.lines, .int .i64 t.c.words, .int .i64 t.c.sets, .int .i64 t.c.ways, .int .i64 t.c.out, .int .i64 t.c.inn, .slice x.a7 (List.length t.c.init) x.c7, .int .i64 t.node, .slice x.a9 (List.length t.r) x.c9, .slice x.a10 (List.length t.owner) x.c10, .slice x.a11 (List.length t.wait) x.c11] x.T (0, 0)), ImmI x.a7 t.c.init, RecsX (α := RowS) x.r9 x.a9 x.c9 t.r, RowsN 2 x.a10 x.c10 t.owner, RowsN 3 x.a11 x.c11 t.wait]
def HomesA (b : Nat) (t : HomesS) : Asn := .ex fun x => HomesXA b x t
theorem HomesXA.open {n : Nat} {W0 : World} {e : Env} {Γ Γ' : List Asn} {K : Act → World → Prop} {b : Nat} {x : HomesXP} {t : HomesS} (hp : Pull Γ (HomesXA b x t) Γ') (h : At n W0 e (.own b (.cells #[.int .i64 t.c.nodes, .int .i64 t.c.lines, .int .i64 t.c.words, .int .i64 t.c.sets, .int .i64 t.c.ways, .int .i64 t.c.out, .int .i64 t.c.inn, .slice x.a7 (List.length t.c.init) x.c7, .int .i64 t.node, .slice x.a9 (List.length t.r) x.c9, .slice x.a10 (List.length t.owner) x.c10, .slice x.a11 (List.length t.wait) x.c11] x.T (0, 0)) :: ImmI x.a7 t.c.init :: RecsX (α := RowS) x.r9 x.a9 x.c9 t.r :: RowsN 2 x.a10 x.c10 t.owner :: RowsN 3 x.a11 x.c11 t.wait :: Γ') K) : At n W0 e Γ K := At.star hp h
theorem HomesXA.open_draw {P : Program} {n : Nat} {W0 : World} {e : Env} {Γ Γ' : List Asn} {ops : Array Oper} {Q : Exit → Act → World → Prop} {D Pp Pl : List Nat} {b : Nat} {x : HomesXP} {t : HomesS} (hp : Pull Γ (HomesXA b x t) Γ') (h : Draw P n W0 ops Q D Pp Pl e (.own b (.cells #[.int .i64 t.c.nodes, .int .i64 t.c.lines, .int .i64 t.c.words, .int .i64 t.c.sets, .int .i64 t.c.ways, .int .i64 t.c.out, .int .i64 t.c.inn, .slice x.a7 (List.length t.c.init) x.c7, .int .i64 t.node, .slice x.a9 (List.length t.r) x.c9, .slice x.a10 (List.length t.owner) x.c10, .slice x.a11 (List.length t.wait) x.c11] x.T (0, 0)) :: ImmI x.a7 t.c.init :: RecsX (α := RowS) x.r9 x.a9 x.c9 t.r :: RowsN 2 x.a10 x.c10 t.owner :: RowsN 3 x.a11 x.c11 t.wait :: Γ')) : Draw P n W0 ops Q D Pp Pl e Γ := Draw.star hp h
theorem HomesXA.close {W0 w : World} {Γ : List Asn} {b : Nat} {x : HomesXP} {t : HomesS} (hw : Sat W0 (.own b (.cells #[.int .i64 t.c.nodes, .int .i64 t.c.lines, .int .i64 t.c.words, .int .i64 t.c.sets, .int .i64 t.c.ways, .int .i64 t.c.out, .int .i64 t.c.inn, .slice x.a7 (List.length t.c.init) x.c7, .int .i64 t.node, .slice x.a9 (List.length t.r) x.c9, .slice x.a10 (List.length t.owner) x.c10, .slice x.a11 (List.length t.wait) x.c11] x.T (0, 0)) :: ImmI x.a7 t.c.init :: RecsX (α := RowS) x.r9 x.a9 x.c9 t.r :: RowsN 2 x.a10 x.c10 t.owner :: RowsN 3 x.a11 x.c11 t.wait :: Γ) w) : Sat W0 (HomesXA b x t :: Γ) w := Sat.star_mk hw
theorem HomesXA.shut {W0 w : World} {Γ : List Asn} {b : Nat} {x : HomesXP} {t : HomesS} (hw : Sat W0 (HomesXA b x t :: Γ) w) : Sat W0 (HomesA b t :: Γ) w := Sat.ex_mk x hw
theorem HomesA.tox {n : Nat} {W0 : World} {e : Env} {Γ Γ' : List Asn} {K : Act → World → Prop} {b : Nat} {t : HomesS} (hp : Pull Γ (HomesA b t) Γ') (h : ∀ x, At n W0 e (HomesXA b x t :: Γ') K) : At n W0 e Γ K := At.ex hp h
theorem HomesA.tox_draw {P : Program} {n : Nat} {W0 : World} {e : Env} {Γ Γ' : List Asn} {ops : Array Oper} {Q : Exit → Act → World → Prop} {D Pp Pl : List Nat} {b : Nat} {t : HomesS} (hp : Pull Γ (HomesA b t) Γ') (h : ∀ x, Draw P n W0 ops Q D Pp Pl e (HomesXA b x t :: Γ')) : Draw P n W0 ops Q D Pp Pl e Γ := Draw.ex hp h
end Go.Proofs.Ytcigheahollkcaa
