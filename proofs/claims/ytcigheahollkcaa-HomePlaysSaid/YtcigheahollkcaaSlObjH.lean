/- A home in memory.
   Conditions: none. -/
import Derived.Test.YtcigheahollkcaaPlA
import Derived.Test.YtcigheahollkcaaTuB
namespace Go.Proofs.Ytcigheahollkcaa
open Go Go.RowKit
set_option linter.unusedVariables false
structure DirS where
  c : CfgS
  rows : List (Int × RowS)
structure HomeS where
  dir : DirS
  turns : TurnsS
  c : CfgS
  node : Int
structure DirXP where
  a7 : Option Addr
  c7 : Nat
  b8 : Nat
  v8 : List (Int × Value)
  T : Nat
def DirXA (b : Nat) (x : DirXP) (t : DirS) : Asn := .star [.own b (.cells #[.int .i64 t.c.nodes, .int .i64 t.c.lines, .int .i64 t.c.words, .int .i64 t.c.sets, .int .i64 t.c.ways, .int .i64 t.c.out, .int .i64 t.c.inn, .slice x.a7 (List.length t.c.init) x.c7, .map (some x.b8)] x.T (0, 0)), ImmI x.a7 t.c.init, RMapX (α := RowS) x.v8 x.b8 t.rows]
def DirA (b : Nat) (t : DirS) : Asn := .ex fun x => DirXA b x t
theorem DirXA.open {n : Nat} {W0 : World} {e : Env} {Γ Γ' : List Asn} {K : Act → World → Prop} {b : Nat} {x : DirXP} {t : DirS} (hp : Pull Γ (DirXA b x t) Γ') (h : At n W0 e (.own b (.cells #[.int .i64 t.c.nodes, .int .i64 t.c.lines, .int .i64 t.c.words, .int .i64 t.c.sets, .int .i64 t.c.ways, .int .i64 t.c.out, .int .i64 t.c.inn, .slice x.a7 (List.length t.c.init) x.c7, .map (some x.b8)] x.T (0, 0)) :: ImmI x.a7 t.c.init :: RMapX (α := RowS) x.v8 x.b8 t.rows :: Γ') K) : At n W0 e Γ K := At.star hp h
theorem DirXA.open_draw {P : Program} {n : Nat} {W0 : World} {e : Env} {Γ Γ' : List Asn} {ops : Array Oper} {Q : Exit → Act → World → Prop} {D Pp Pl : List Nat} {b : Nat} {x : DirXP} {t : DirS} (hp : Pull Γ (DirXA b x t) Γ') (h : Draw P n W0 ops Q D Pp Pl e (.own b (.cells #[.int .i64 t.c.nodes, .int .i64 t.c.lines, .int .i64 t.c.words, .int .i64 t.c.sets, .int .i64 t.c.ways, .int .i64 t.c.out, .int .i64 t.c.inn, .slice x.a7 (List.length t.c.init) x.c7, .map (some x.b8)] x.T (0, 0)) :: ImmI x.a7 t.c.init :: RMapX (α := RowS) x.v8 x.b8 t.rows :: Γ')) : Draw P n W0 ops Q D Pp Pl e Γ := Draw.star hp h
theorem DirXA.close {W0 w : World} {Γ : List Asn} {b : Nat} {x : DirXP} {t : DirS} (hw : Sat W0 (.own b (.cells #[.int .i64 t.c.nodes, .int .i64 t.c.lines, .int .i64 t.c.words, .int .i64 t.c.sets, .int .i64 t.c.ways, .int .i64 t.c.out, .int .i64 t.c.inn, .slice x.a7 (List.length t.c.init) x.c7, .map (some x.b8)] x.T (0, 0)) :: ImmI x.a7 t.c.init :: RMapX (α := RowS) x.v8 x.b8 t.rows :: Γ) w) : Sat W0 (DirXA b x t :: Γ) w := Sat.star_mk hw
theorem DirXA.shut {W0 w : World} {Γ : List Asn} {b : Nat} {x : DirXP} {t : DirS} (hw : Sat W0 (DirXA b x t :: Γ) w) : Sat W0 (DirA b t :: Γ) w := Sat.ex_mk x hw
theorem DirA.tox {n : Nat} {W0 : World} {e : Env} {Γ Γ' : List Asn} {K : Act → World → Prop} {b : Nat} {t : DirS} (hp : Pull Γ (DirA b t) Γ') (h : ∀ x, At n W0 e (DirXA b x t :: Γ') K) : At n W0 e Γ K := At.ex hp h
theorem DirA.tox_draw {P : Program} {n : Nat} {W0 : World} {e : Env} {Γ Γ' : List Asn} {ops : Array Oper} {Q : Exit → Act → World → Prop} {D Pp Pl : List Nat} {b : Nat} {t : DirS} (hp : Pull Γ (DirA b t) Γ') (h : ∀ x, Draw P n W0 ops Q D Pp Pl e (DirXA b x t :: Γ')) : Draw P n W0 ops Q D Pp Pl e Γ := Draw.ex hp h
structure HomeXP where
  b0 : Nat
  b1 : Nat
  a9 : Option Addr
  c9 : Nat
  T : Nat
def HomeXA (b : Nat) (x : HomeXP) (t : HomeS) : Asn := .star [.own b (.cells #[.pointer (some ⟨x.b0, 0, none⟩), .pointer (some ⟨x.b1, 0, none⟩), .int .i64 t.c.nodes, .int .i64 t.c.lines, .int .i64 t.c.words, .int .i64 t.c.sets, .int .i64 t.c.ways, .int .i64 t.c.out, .int .i64 t.c.inn, .slice x.a9 (List.length t.c.init) x.c9, .int .i64 t.node] x.T (0, 0)), DirA x.b0 t.dir, TurnsA x.b1 t.turns, ImmI x.a9 t.c.init]
def HomeA (b : Nat) (t : HomeS) : Asn := .ex fun x => HomeXA b x t
theorem HomeXA.open {n : Nat} {W0 : World} {e : Env} {Γ Γ' : List Asn} {K : Act → World → Prop} {b : Nat} {x : HomeXP} {t : HomeS} (hp : Pull Γ (HomeXA b x t) Γ') (h : At n W0 e (.own b (.cells #[.pointer (some ⟨x.b0, 0, none⟩), .pointer (some ⟨x.b1, 0, none⟩), .int .i64 t.c.nodes, .int .i64 t.c.lines, .int .i64 t.c.words, .int .i64 t.c.sets, .int .i64 t.c.ways, .int .i64 t.c.out, .int .i64 t.c.inn, .slice x.a9 (List.length t.c.init) x.c9, .int .i64 t.node] x.T (0, 0)) :: DirA x.b0 t.dir :: TurnsA x.b1 t.turns :: ImmI x.a9 t.c.init :: Γ') K) : At n W0 e Γ K := At.star hp h
theorem HomeXA.open_draw {P : Program} {n : Nat} {W0 : World} {e : Env} {Γ Γ' : List Asn} {ops : Array Oper} {Q : Exit → Act → World → Prop} {D Pp Pl : List Nat} {b : Nat} {x : HomeXP} {t : HomeS} (hp : Pull Γ (HomeXA b x t) Γ') (h : Draw P n W0 ops Q D Pp Pl e (.own b (.cells #[.pointer (some ⟨x.b0, 0, none⟩), .pointer (some ⟨x.b1, 0, none⟩), .int .i64 t.c.nodes, .int .i64 t.c.lines, .int .i64 t.c.words, .int .i64 t.c.sets, .int .i64 t.c.ways, .int .i64 t.c.out, .int .i64 t.c.inn, .slice x.a9 (List.length t.c.init) x.c9, .int .i64 t.node] x.T (0, 0)) :: DirA x.b0 t.dir :: TurnsA x.b1 t.turns :: ImmI x.a9 t.c.init :: Γ')) : Draw P n W0 ops Q D Pp Pl e Γ := Draw.star hp h
theorem HomeXA.close {W0 w : World} {Γ : List Asn} {b : Nat} {x : HomeXP} {t : HomeS} (hw : Sat W0 (.own b (.cells #[.pointer (some ⟨x.b0, 0, none⟩), .pointer (some ⟨x.b1, 0, none⟩), .int .i64 t.c.nodes, .int .i64 t.c.lines, .int .i64 t.c.words, .int .i64 t.c.sets, .int .i64 t.c.ways, .int .i64 t.c.out, .int .i64 t.c.inn, .slice x.a9 (List.length t.c.init) x.c9, .int .i64 t.node] x.T (0, 0)) :: DirA x.b0 t.dir :: TurnsA x.b1 t.turns :: ImmI x.a9 t.c.init :: Γ) w) : Sat W0 (HomeXA b x t :: Γ) w := Sat.star_mk hw
theorem HomeXA.shut {W0 w : World} {Γ : List Asn} {b : Nat} {x : HomeXP} {t : HomeS} (hw : Sat W0 (HomeXA b x t :: Γ) w) : Sat W0 (HomeA b t :: Γ) w := Sat.ex_mk x hw
theorem HomeA.tox {n : Nat} {W0 : World} {e : Env} {Γ Γ' : List Asn} {K : Act → World → Prop} {b : Nat} {t : HomeS} (hp : Pull Γ (HomeA b t) Γ') (h : ∀ x, At n W0 e (HomeXA b x t :: Γ') K) : At n W0 e Γ K := At.ex hp h
theorem HomeA.tox_draw {P : Program} {n : Nat} {W0 : World} {e : Env} {Γ Γ' : List Asn} {ops : Array Oper} {Q : Exit → Act → World → Prop} {D Pp Pl : List Nat} {b : Nat} {t : HomeS} (hp : Pull Γ (HomeA b t) Γ') (h : ∀ x, Draw P n W0 ops Q D Pp Pl e (HomeXA b x t :: Γ')) : Draw P n W0 ops Q D Pp Pl e Γ := Draw.ex hp h
end Go.Proofs.Ytcigheahollkcaa
