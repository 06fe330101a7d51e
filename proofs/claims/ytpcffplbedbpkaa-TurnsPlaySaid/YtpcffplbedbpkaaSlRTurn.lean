/- The second writing of who has which line, and who waits, in memory.
   Conditions: none. -/
import Derived.Test.YtpcffplbedbpkaaSlRowsN
namespace Go.Proofs.Ytpcffplbedbpkaa
open Go Go.RowKit
structure RTurnsS where
  owner : List (List Int)
  wait : List (List Int)
def RTurnsA (b : Nat) (t : RTurnsS) : Asn :=
  .ex fun x : (Option Addr × Nat) × (Option Addr × Nat) × Nat => .star [.own b (.cells #[.slice x.1.1 (List.length t.owner) x.1.2, .slice x.2.1.1 (List.length t.wait) x.2.1.2] x.2.2 (0, 0)), RowsN 2 x.1.1 x.1.2 t.owner, RowsN 3 x.2.1.1 x.2.1.2 t.wait]
abbrev RTX : Type := (Option Addr × Nat) × (Option Addr × Nat) × Nat
/-- The same, where it is known where the lists lie. -/
def RTurnsXA (b : Nat) (x : RTX) (t : RTurnsS) : Asn :=
  .star [.own b (.cells #[.slice x.1.1 (List.length t.owner) x.1.2, .slice x.2.1.1 (List.length t.wait) x.2.1.2] x.2.2 (0, 0)), RowsN 2 x.1.1 x.1.2 t.owner, RowsN 3 x.2.1.1 x.2.1.2 t.wait]
section
variable {P : Program} {n : Nat} {W0 w : World} {e : Env} {Γ Γ' : List Asn} {K : Act → World → Prop} {b : Nat}
theorem RTurnsA.open {t : RTurnsS} (hp : Pull Γ (RTurnsA b t) Γ')
    (h : ∀ (ao : Option Addr) (co : Nat) (aw : Option Addr) (cw T : Nat), At n W0 e (.own b (.cells #[.slice ao (List.length t.owner) co, .slice aw (List.length t.wait) cw] T (0, 0)) :: RowsN 2 ao co t.owner :: RowsN 3 aw cw t.wait :: Γ') K) : At n W0 e Γ K :=
  At.ex hp fun x => At.star .here (h x.1.1 x.1.2 x.2.1.1 x.2.1.2 x.2.2)
theorem RTurnsA.open_draw {ops : Array Oper} {Q : Exit → Act → World → Prop} {D Pp Pl : List Nat} {t : RTurnsS} (hp : Pull Γ (RTurnsA b t) Γ')
    (h : ∀ (ao : Option Addr) (co : Nat) (aw : Option Addr) (cw T : Nat), Draw P n W0 ops Q D Pp Pl e (.own b (.cells #[.slice ao (List.length t.owner) co, .slice aw (List.length t.wait) cw] T (0, 0)) :: RowsN 2 ao co t.owner :: RowsN 3 aw cw t.wait :: Γ')) : Draw P n W0 ops Q D Pp Pl e Γ :=
  Draw.ex hp fun x => Draw.star .here (h x.1.1 x.1.2 x.2.1.1 x.2.1.2 x.2.2)
theorem RTurnsA.close {ao aw : Option Addr} {co cw T : Nat} {o m : List (List Int)} (t : RTurnsS) (h1 : o = t.owner) (h2 : m = t.wait)
    (hw : Sat W0 (.own b (.cells #[.slice ao (List.length o) co, .slice aw (List.length m) cw] T (0, 0)) :: RowsN 2 ao co o :: RowsN 3 aw cw m :: Γ) w) : Sat W0 (RTurnsA b t :: Γ) w := by
  subst h1; subst h2
  exact Sat.ex_mk ((ao, co), (aw, cw), T) (Sat.star_mk hw)
theorem RTurnsXA.open {x : RTX} {t : RTurnsS} (hp : Pull Γ (RTurnsXA b x t) Γ')
    (h : At n W0 e (.own b (.cells #[.slice x.1.1 (List.length t.owner) x.1.2, .slice x.2.1.1 (List.length t.wait) x.2.1.2] x.2.2 (0, 0)) :: RowsN 2 x.1.1 x.1.2 t.owner :: RowsN 3 x.2.1.1 x.2.1.2 t.wait :: Γ') K) : At n W0 e Γ K := At.star hp h
theorem RTurnsXA.open_draw {ops : Array Oper} {Q : Exit → Act → World → Prop} {D Pp Pl : List Nat} {x : RTX} {t : RTurnsS} (hp : Pull Γ (RTurnsXA b x t) Γ')
    (h : Draw P n W0 ops Q D Pp Pl e (.own b (.cells #[.slice x.1.1 (List.length t.owner) x.1.2, .slice x.2.1.1 (List.length t.wait) x.2.1.2] x.2.2 (0, 0)) :: RowsN 2 x.1.1 x.1.2 t.owner :: RowsN 3 x.2.1.1 x.2.1.2 t.wait :: Γ')) : Draw P n W0 ops Q D Pp Pl e Γ := Draw.star hp h
theorem RTurnsXA.close (x : RTX) (t : RTurnsS)
    (hw : Sat W0 (.own b (.cells #[.slice x.1.1 (List.length t.owner) x.1.2, .slice x.2.1.1 (List.length t.wait) x.2.1.2] x.2.2 (0, 0)) :: RowsN 2 x.1.1 x.1.2 t.owner :: RowsN 3 x.2.1.1 x.2.1.2 t.wait :: Γ) w) : Sat W0 (RTurnsXA b x t :: Γ) w := Sat.star_mk hw
theorem RTurnsXA.shut {x : RTX} {t : RTurnsS} (hw : Sat W0 (RTurnsXA b x t :: Γ) w) : Sat W0 (RTurnsA b t :: Γ) w := Sat.ex_mk x hw
theorem RTurnsA.tox {t : RTurnsS} (hp : Pull Γ (RTurnsA b t) Γ') (h : ∀ x, At n W0 e (RTurnsXA b x t :: Γ') K) : At n W0 e Γ K := At.ex hp h
theorem RTurnsA.tox_draw {ops : Array Oper} {Q : Exit → Act → World → Prop} {D Pp Pl : List Nat} {t : RTurnsS} (hp : Pull Γ (RTurnsA b t) Γ') (h : ∀ x, Draw P n W0 ops Q D Pp Pl e (RTurnsXA b x t :: Γ')) : Draw P n W0 ops Q D Pp Pl e Γ := Draw.ex hp h
theorem RTurnsA.new {T : Nat} (hw : Sat W0 (.own b (.cells #[.slice none 0 0, .slice none 0 0] T (0, 0)) :: Γ) w) : Sat W0 (RTurnsA b ⟨[], []⟩ :: Γ) w := by
  have h1 : Sat W0 (RowsN 2 none 0 [] :: RowsN 3 none 0 [] :: .own b (.cells #[.slice none 0 0, .slice none 0 0] T (0, 0)) :: Γ) w := RowsA.none_mk (RowsA.none_mk hw)
  exact RTurnsA.close (ao := none) (aw := none) (co := 0) (cw := 0) (T := T) ⟨[], []⟩ rfl rfl (h1.less (.take (.there (.there .here)) (.take .here (.take .here .refl))))
end
end Go.Proofs.Ytpcffplbedbpkaa
