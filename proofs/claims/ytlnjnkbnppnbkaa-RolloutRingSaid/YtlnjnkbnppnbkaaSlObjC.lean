/- The document's cache in memory.
   Conditions: none. -/
import Derived.Test.YtlnjnkbnppnbkaaSlRec
namespace Go.Proofs.Ytlnjnkbnppnbkaa
open Go Go.RowKit
set_option linter.unusedVariables false

structure RChXP where
  a3 : Option Addr
  c3 : Nat
  r3 : List (List Value)
  T : Nat
def RChXA (b : Nat) (x : RChXP) (t : CacheS) : Asn := .star [.own b (.cells #[.int .i64 t.sets, .int .i64 t.ways, .int .i64 t.clock, .slice x.a3 (List.length t.l) x.c3] x.T (0, 0)), RecsX (α := Ent) x.r3 x.a3 x.c3 t.l]
def RChA (b : Nat) (t : CacheS) : Asn := .ex fun x => RChXA b x t
theorem RChXA.open {n : Nat} {W0 : World} {e : Env} {Γ Γ' : List Asn} {K : Act → World → Prop} {b : Nat} {x : RChXP} {t : CacheS} (hp : Pull Γ (RChXA b x t) Γ') (h : At n W0 e (.own b (.cells #[.int .i64 t.sets, .int .i64 t.ways, .int .i64 t.clock, .slice x.a3 (List.length t.l) x.c3] x.T (0, 0)) :: RecsX (α := Ent) x.r3 x.a3 x.c3 t.l :: Γ') K) : At n W0 e Γ K := At.star hp h
theorem RChXA.open_draw {P : Program} {n : Nat} {W0 : World} {e : Env} {Γ Γ' : List Asn} {ops : Array Oper} {Q : Exit → Act → World → Prop} {D Pp Pl : List Nat} {b : Nat} {x : RChXP} {t : CacheS} (hp : Pull Γ (RChXA b x t) Γ') (h : Draw P n W0 ops Q D Pp Pl e (.own b (.cells #[.int .i64 t.sets, .int .i64 t.ways, .int .i64 t.clock, .slice x.a3 (List.length t.l) x.c3] x.T (0, 0)) :: RecsX (α := Ent) x.r3 x.a3 x.c3 t.l :: Γ')) : Draw P n W0 ops Q D Pp Pl e Γ := Draw.star hp h
theorem RChXA.close {W0 w : World} {Γ : List Asn} {b : Nat} {x : RChXP} {t : CacheS} (hw : Sat W0 (.own b (.cells #[.int .i64 t.sets, .int .i64 t.ways, .int .i64 t.clock, .slice x.a3 (List.length t.l) x.c3] x.T (0, 0)) :: RecsX (α := Ent) x.r3 x.a3 x.c3 t.l :: Γ) w) : Sat W0 (RChXA b x t :: Γ) w := Sat.star_mk hw
theorem RChXA.shut {W0 w : World} {Γ : List Asn} {b : Nat} {x : RChXP} {t : CacheS} (hw : Sat W0 (RChXA b x t :: Γ) w) : Sat W0 (RChA b t :: Γ) w := Sat.ex_mk x hw
theorem RChA.tox {n : Nat} {W0 : World} {e : Env} {Γ Γ' : List Asn} {K : Act → World → Prop} {b : Nat} {t : CacheS} (hp : Pull Γ (RChA b t) Γ') (h : ∀ x, At n W0 e (RChXA b x t :: Γ') K) : At n W0 e Γ K := At.ex hp h
theorem RChA.tox_draw {P : Program} {n : Nat} {W0 : World} {e : Env} {Γ Γ' : List Asn} {ops : Array Oper} {Q : Exit → Act → World → Prop} {D Pp Pl : List Nat} {b : Nat} {t : CacheS} (hp : Pull Γ (RChA b t) Γ') (h : ∀ x, Draw P n W0 ops Q D Pp Pl e (RChXA b x t :: Γ')) : Draw P n W0 ops Q D Pp Pl e Γ := Draw.ex hp h
structure CacheXP where
  a0 : Option Addr
  c0 : Nat
  r0 : List (List Value)
  T : Nat
def CacheXA (b : Nat) (x : CacheXP) (t : CacheS) : Asn := .star [.own b (.cells #[.slice x.a0 (List.length t.l) x.c0, .int .i64 t.sets, .int .i64 t.ways, .int .i64 t.clock] x.T (0, 0)), RecsX (α := Ent) x.r0 x.a0 x.c0 t.l]
theorem CacheXA.open {n : Nat} {W0 : World} {e : Env} {Γ Γ' : List Asn} {K : Act → World → Prop} {b : Nat} {x : CacheXP} {t : CacheS} (hp : Pull Γ (CacheXA b x t) Γ') (h : At n W0 e (.own b (.cells #[.slice x.a0 (List.length t.l) x.c0, .int .i64 t.sets, .int .i64 t.ways, .int .i64 t.clock] x.T (0, 0)) :: RecsX (α := Ent) x.r0 x.a0 x.c0 t.l :: Γ') K) : At n W0 e Γ K := At.star hp h
theorem CacheXA.open_draw {P : Program} {n : Nat} {W0 : World} {e : Env} {Γ Γ' : List Asn} {ops : Array Oper} {Q : Exit → Act → World → Prop} {D Pp Pl : List Nat} {b : Nat} {x : CacheXP} {t : CacheS} (hp : Pull Γ (CacheXA b x t) Γ') (h : Draw P n W0 ops Q D Pp Pl e (.own b (.cells #[.slice x.a0 (List.length t.l) x.c0, .int .i64 t.sets, .int .i64 t.ways, .int .i64 t.clock] x.T (0, 0)) :: RecsX (α := Ent) x.r0 x.a0 x.c0 t.l :: Γ')) : Draw P n W0 ops Q D Pp Pl e Γ := Draw.star hp h
theorem CacheXA.close {W0 w : World} {Γ : List Asn} {b : Nat} {x : CacheXP} {t : CacheS} (hw : Sat W0 (.own b (.cells #[.slice x.a0 (List.length t.l) x.c0, .int .i64 t.sets, .int .i64 t.ways, .int .i64 t.clock] x.T (0, 0)) :: RecsX (α := Ent) x.r0 x.a0 x.c0 t.l :: Γ) w) : Sat W0 (CacheXA b x t :: Γ) w := Sat.star_mk hw
theorem CacheXA.of {x : CacheXP} {t : CacheS} {W0 w : World} {Γ : List Asn} {b : Nat} (hw : Sat W0 (CacheXA b x t :: Γ) w) : Sat W0 (CacheA b t :: Γ) w := by
  have h1 : Sat W0 (RecsX (α := Ent) x.r0 x.a0 x.c0 t.l :: .own b (.cells #[.slice x.a0 (List.length t.l) x.c0, .int .i64 t.sets, .int .i64 t.ways, .int .i64 t.clock] x.T (0, 0)) :: Γ) w := (Sat.star_of hw).less (.take (.there .here) (.take .here .refl))
  have h2 := RecsX.split h1
  exact CacheA.close t (a := x.a0) (cap := x.c0) (rows := x.r0) (T := x.T) rfl rfl rfl rfl (h2.less (.take (.there (.there .here)) (.take .here (.take .here .refl))))
theorem CacheA.to {t : CacheS} {W0 w : World} {Γ : List Asn} {b : Nat} (hw : Sat W0 (CacheA b t :: Γ) w) : ∃ x, Sat W0 (CacheXA b x t :: Γ) w := by
  obtain ⟨x, hx⟩ := hw.ex_of
  have h1 : Sat W0 (RowsA 6 x.1.1 x.1.2 x.2.1 :: RecR (α := Ent) x.2.1 t.l :: .own b (.cells #[.slice x.1.1 (List.length t.l) x.1.2, .int .i64 t.sets, .int .i64 t.ways, .int .i64 t.clock] x.2.2 (0, 0)) :: Γ) w := (Sat.star_of hx).less (.take (.there .here) (.take (.there .here) (.take .here .refl)))
  have h2 := RecsX.join (α := Ent) h1
  exact ⟨⟨x.1.1, x.1.2, x.2.1, x.2.2⟩, Sat.star_mk (h2.less (.take (.there .here) (.take .here .refl)))⟩
theorem CacheXA.shut {W0 w : World} {Γ : List Asn} {b : Nat} {x : CacheXP} {t : CacheS} (hw : Sat W0 (CacheXA b x t :: Γ) w) : Sat W0 (CacheA b t :: Γ) w := CacheXA.of hw
theorem CacheA.tox {n : Nat} {W0 : World} {e : Env} {Γ Γ' : List Asn} {K : Act → World → Prop} {b : Nat} {t : CacheS} (hp : Pull Γ (CacheA b t) Γ') (h : ∀ x, At n W0 e (CacheXA b x t :: Γ') K) : At n W0 e Γ K := fun a w ha hw => let ⟨x, hx⟩ := CacheA.to (hw.pull hp); h x a w ha hx
theorem CacheA.tox_draw {P : Program} {n : Nat} {W0 : World} {e : Env} {Γ Γ' : List Asn} {ops : Array Oper} {Q : Exit → Act → World → Prop} {D Pp Pl : List Nat} {b : Nat} {t : CacheS} (hp : Pull Γ (CacheA b t) Γ') (h : ∀ x, Draw P n W0 ops Q D Pp Pl e (CacheXA b x t :: Γ')) : Draw P n W0 ops Q D Pp Pl e Γ := by
  intro t1 t2 t3 t4 fuel listed ac w hi hl hw
  obtain ⟨x, hx⟩ := CacheA.to (hw.pull hp)
  refine h x t1 t2 t3 (fun j hj => ?_) fuel listed ac w hi hl hx
  obtain ⟨o, v, t, q1, q2, q3, q4, q5, q6, q7, q8⟩ := t4 j hj
  exact ⟨o, v, t, q1, q2, q3, q4, q5, q6, fun ht w hw => q7 ht w ((CacheXA.of hw).push hp), q8⟩
end Go.Proofs.Ytlnjnkbnppnbkaa
