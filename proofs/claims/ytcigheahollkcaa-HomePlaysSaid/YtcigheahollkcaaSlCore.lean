/- Separation-style assertions over the model's worlds: what a call owns, what may be read, and how one step of a function's code acts on both.
   Conditions: none; nothing here speaks of one program. -/
import Derived.Calls
import Derived.Orders
import Derived.Below
import Derived.Deep.LoopGhost
import Derived.KernelRfl
namespace Go.Proofs.Ytcigheahollkcaa
open Go Go.RowKit

/-- A piece of memory that is spoken of: S the blocks that it owns, I the blocks that nobody writes any more. -/
structure Asn where
  holds : (Nat → Prop) → (Nat → Prop) → (Nat → Option Obj) → Prop
  loc : ∀ {S I : Nat → Prop} {h h' : Nat → Option Obj}, holds S I h → (∀ b, S b ∨ I b → h' b = h b) → holds S I h'
  mono : ∀ {S I I' : Nat → Prop} {h : Nat → Option Obj}, holds S I h → (∀ b, I b → I' b) → holds S I' h

def Star : List Asn → (Nat → Prop) → (Nat → Prop) → (Nat → Option Obj) → Prop
  | [], _, _, _ => True
  | A :: Γ, S, I, h => ∃ S1 S2 : Nat → Prop, (∀ b, S1 b → S b) ∧ (∀ b, S2 b → S b) ∧ (∀ b, S1 b → S2 b → False) ∧ A.holds S1 I h ∧ Star Γ S2 I h

theorem Star.loc {Γ : List Asn} {S I : Nat → Prop} {h h' : Nat → Option Obj} (hs : Star Γ S I h) (he : ∀ b, S b ∨ I b → h' b = h b) : Star Γ S I h' := by
  induction Γ generalizing S with
  | nil => trivial
  | cons A Γ ih =>
    obtain ⟨S1, S2, h1, h2, h3, h4, h5⟩ := hs
    exact ⟨S1, S2, h1, h2, h3, A.loc h4 fun b hb => he b (hb.imp (h1 b) id), ih h5 fun b hb => he b (hb.imp (h2 b) id)⟩

theorem Star.mono {Γ : List Asn} {S I I' : Nat → Prop} {h : Nat → Option Obj} (hs : Star Γ S I h) (hi : ∀ b, I b → I' b) : Star Γ S I' h := by
  induction Γ generalizing S with
  | nil => trivial
  | cons A Γ ih =>
    obtain ⟨S1, S2, h1, h2, h3, h4, h5⟩ := hs
    exact ⟨S1, S2, h1, h2, h3, A.mono h4 hi, ih h5⟩

theorem Star.wide {Γ : List Asn} {S S' I : Nat → Prop} {h : Nat → Option Obj} (hs : Star Γ S I h) (hi : ∀ b, S b → S' b) : Star Γ S' I h := by
  cases Γ with
  | nil => trivial
  | cons A Γ =>
    obtain ⟨S1, S2, h1, h2, h3, h4, h5⟩ := hs
    exact ⟨S1, S2, fun b hb => hi b (h1 b hb), fun b hb => hi b (h2 b hb), h3, h4, h5⟩

/-- 'Γ' is 'A' and 'Γ''. -/
inductive Pull : List Asn → Asn → List Asn → Prop
  | here {A : Asn} {Γ : List Asn} : Pull (A :: Γ) A Γ
  | there {A B : Asn} {Γ Γ' : List Asn} : Pull Γ A Γ' → Pull (B :: Γ) A (B :: Γ')

theorem Star.pull {Γ Γ' : List Asn} {A : Asn} (hp : Pull Γ A Γ') {S I : Nat → Prop} {h : Nat → Option Obj} (hs : Star Γ S I h) : Star (A :: Γ') S I h := by
  induction hp generalizing S with
  | here => exact hs
  | there _ ih =>
    obtain ⟨S1, S2, h1, h2, h3, h4, h5⟩ := hs
    obtain ⟨T1, T2, k1, k2, k3, k4, k5⟩ := ih h5
    refine ⟨T1, fun b => S1 b ∨ T2 b, fun b hb => h2 b (k1 b hb), fun b hb => hb.elim (h1 b) fun t => h2 b (k2 b t), fun b ht hb => hb.elim (fun s => h3 b s (k1 b ht)) (k3 b ht), k4, ?_⟩
    exact ⟨S1, T2, fun _ hb => .inl hb, fun _ hb => .inr hb, fun b hs1 ht => h3 b hs1 (k2 b ht), h4, k5⟩

theorem Star.push {Γ Γ' : List Asn} {A : Asn} (hp : Pull Γ A Γ') {S I : Nat → Prop} {h : Nat → Option Obj} (hs : Star (A :: Γ') S I h) : Star Γ S I h := by
  induction hp generalizing S with
  | here => exact hs
  | there _ ih =>
    obtain ⟨T1, R, k1, k2, k3, k4, S1, T2, h1, h2, h3, h4, h5⟩ := hs
    refine ⟨S1, fun b => T1 b ∨ T2 b, fun b hb => k2 b (h1 b hb), fun b hb => hb.elim (k1 b) fun t => k2 b (h2 b t), fun b hs1 hb => hb.elim (fun t => k3 b t (h1 b hs1)) (h3 b hs1), h4, ?_⟩
    exact ih ⟨T1, T2, fun _ hb => .inl hb, fun _ hb => .inr hb, fun b ht ht2 => k3 b ht (h2 b ht2), k4, h5⟩

theorem Star.append_of {Γ Δ : List Asn} {S I : Nat → Prop} {h : Nat → Option Obj} (hs : Star (Γ ++ Δ) S I h) :
    ∃ S1 S2 : Nat → Prop, (∀ b, S1 b → S b) ∧ (∀ b, S2 b → S b) ∧ (∀ b, S1 b → S2 b → False) ∧ Star Γ S1 I h ∧ Star Δ S2 I h := by
  induction Γ generalizing S with
  | nil => exact ⟨fun _ => False, S, fun _ hb => hb.elim, fun _ hb => hb, fun _ hb _ => hb, trivial, hs⟩
  | cons A Γ ih =>
    obtain ⟨S1, S2, h1, h2, h3, h4, h5⟩ := hs
    obtain ⟨T1, T2, k1, k2, k3, k4, k5⟩ := ih h5
    refine ⟨fun b => S1 b ∨ T1 b, T2, fun b hb => hb.elim (h1 b) fun t => h2 b (k1 b t), fun b hb => h2 b (k2 b hb), fun b hb ht => hb.elim (fun s => h3 b s (k2 b ht)) fun t => k3 b t ht, ?_, k5⟩
    exact ⟨S1, T1, fun _ hb => .inl hb, fun _ hb => .inr hb, fun b s t => h3 b s (k1 b t), h4, k4⟩

theorem Star.append {Γ Δ : List Asn} {S I S1 S2 : Nat → Prop} {h : Nat → Option Obj} (h1 : ∀ b, S1 b → S b) (h2 : ∀ b, S2 b → S b) (h3 : ∀ b, S1 b → S2 b → False)
    (hg : Star Γ S1 I h) (hd : Star Δ S2 I h) : Star (Γ ++ Δ) S I h := by
  induction Γ generalizing S S1 with
  | nil => exact hd.wide h2
  | cons A Γ ih =>
    obtain ⟨T1, T2, k1, k2, k3, k4, k5⟩ := hg
    refine ⟨T1, fun b => T2 b ∨ S2 b, fun b hb => h1 b (k1 b hb), fun b hb => hb.elim (fun t => h1 b (k2 b t)) (h2 b), fun b ht hb => hb.elim (k3 b ht) fun s => h3 b (k1 b ht) s, k4, ?_⟩
    exact ih (fun _ hb => .inl hb) (fun _ hb => .inr hb) (fun b t s => h3 b (k2 b t) s) k5

namespace Asn
/-- The block b is ours, and holds o. -/
def own (b : Nat) (o : Obj) : Asn where
  holds S _ h := S b ∧ h b = some o
  loc := fun ⟨hs, hb⟩ he => ⟨hs, (he _ (.inl hs)).trans hb⟩
  mono := fun h _ => h
/-- The block b holds o, for good. -/
def imm (b : Nat) (o : Obj) : Asn where
  holds _ I h := I b ∧ h b = some o
  loc := fun ⟨hs, hb⟩ he => ⟨hs, (he _ (.inr hs)).trans hb⟩
  mono := fun ⟨h, k⟩ hi => ⟨hi _ h, k⟩
def pure (p : Prop) : Asn where
  holds _ _ _ := p
  loc := fun h _ => h
  mono := fun h _ => h
def ex {α : Type} (f : α → Asn) : Asn where
  holds S I h := ∃ x, (f x).holds S I h
  loc := fun ⟨x, hx⟩ he => ⟨x, (f x).loc hx he⟩
  mono := fun ⟨x, hx⟩ hi => ⟨x, (f x).mono hx hi⟩
def star (l : List Asn) : Asn where
  holds S I h := Star l S I h
  loc := fun h he => h.loc he
  mono := fun h hi => h.mono hi
end Asn

/-- What is known of a world: what a call owns in it; that all that lay in W0 lies unturned, for good. -/
def Sat (W0 : World) (Γ : List Asn) (w : World) : Prop :=
  ∃ S I : Nat → Prop, Star Γ S I (fun b => w.heap[b]?) ∧ (∀ b, S b → I b → False) ∧ (∀ b, S b → b < w.heap.size) ∧ (∀ b, I b → b < w.heap.size) ∧
    (∀ b, b < W0.heap.size → I b) ∧ Below W0.heap.size W0 w

namespace Sat
variable {W0 w : World} {Γ Γ' Δ : List Asn} {A B : Asn}
theorem below (h : Sat W0 Γ w) : Below W0.heap.size W0 w := let ⟨_, _, _, _, _, _, _, h⟩ := h; h
theorem init (w : World) : Sat w [] w := ⟨fun _ => False, fun b => b < w.heap.size, trivial, fun _ h => h.elim, fun _ h => h.elim, fun _ h => h, fun _ h => h, Below.refl _ _⟩
theorem imp (h : Sat W0 Γ w) (k : ∀ S I, Star Γ S I (fun b => w.heap[b]?) → Star Γ' S I (fun b => w.heap[b]?)) : Sat W0 Γ' w :=
  let ⟨S, I, h1, h2⟩ := h; ⟨S, I, k _ _ h1, h2⟩
theorem pull (hp : Pull Γ A Γ') (h : Sat W0 Γ w) : Sat W0 (A :: Γ') w := h.imp fun _ _ => Star.pull hp
theorem push (hp : Pull Γ A Γ') (h : Sat W0 (A :: Γ') w) : Sat W0 Γ w := h.imp fun _ _ => Star.push hp
theorem tail (h : Sat W0 (A :: Γ) w) : Sat W0 Γ w := h.imp fun _ _ ⟨_, _, _, h2, _, _, h5⟩ => h5.wide h2
theorem drop (hp : Pull Γ A Γ') (h : Sat W0 Γ w) : Sat W0 Γ' w := (h.pull hp).tail
theorem head_imp (k : ∀ S I h, A.holds S I h → B.holds S I h) (h : Sat W0 (A :: Γ) w) : Sat W0 (B :: Γ) w :=
  h.imp fun _ _ ⟨S1, S2, h1, h2, h3, h4, h5⟩ => ⟨S1, S2, h1, h2, h3, k _ _ _ h4, h5⟩
theorem ex_of {α : Type} {f : α → Asn} (h : Sat W0 (Asn.ex f :: Γ) w) : ∃ x, Sat W0 (f x :: Γ) w := by
  obtain ⟨S, I, ⟨S1, S2, h1, h2, h3, ⟨x, h4⟩, h5⟩, r⟩ := h
  exact ⟨x, S, I, ⟨S1, S2, h1, h2, h3, h4, h5⟩, r⟩
theorem ex_mk {α : Type} {f : α → Asn} (x : α) (h : Sat W0 (f x :: Γ) w) : Sat W0 (Asn.ex f :: Γ) w := h.head_imp fun _ _ _ k => ⟨x, k⟩
theorem pure_of {p : Prop} (h : Sat W0 (Asn.pure p :: Γ) w) : p ∧ Sat W0 Γ w := by
  have ht := h.tail
  obtain ⟨S, I, ⟨S1, S2, h1, h2, h3, h4, h5⟩, r⟩ := h
  exact ⟨h4, ht⟩
theorem pure_mk {p : Prop} (hp : p) (h : Sat W0 Γ w) : Sat W0 (Asn.pure p :: Γ) w :=
  h.imp fun S _ h => ⟨fun _ => False, S, fun _ h => h.elim, fun _ h => h, fun _ h _ => h, hp, h⟩
theorem star_of {l : List Asn} (h : Sat W0 (Asn.star l :: Γ) w) : Sat W0 (l ++ Γ) w :=
  h.imp fun _ _ ⟨_, _, h1, h2, h3, h4, h5⟩ => Star.append h1 h2 h3 h4 h5
theorem star_mk {l : List Asn} (h : Sat W0 (l ++ Γ) w) : Sat W0 (Asn.star l :: Γ) w :=
  h.imp fun _ _ h => let ⟨S1, S2, h1, h2, h3, h4, h5⟩ := h.append_of; ⟨S1, S2, h1, h2, h3, h4, h5⟩
/-- What is in Γ stands at its block. -/
theorem own_at {b : Nat} {o : Obj} (h : Sat W0 (Asn.own b o :: Γ) w) : w.heap[b]? = some o := by
  obtain ⟨S, I, ⟨S1, S2, h1, h2, h3, ⟨_, h4⟩, h5⟩, r⟩ := h
  exact h4
theorem imm_at {b : Nat} {o : Obj} (h : Sat W0 (Asn.imm b o :: Γ) w) : w.heap[b]? = some o := by
  obtain ⟨S, I, ⟨S1, S2, h1, h2, h3, ⟨_, h4⟩, h5⟩, r⟩ := h
  exact h4
theorem imm_dup {b : Nat} {o : Obj} (h : Sat W0 (Asn.imm b o :: Γ) w) : Sat W0 (Asn.imm b o :: Asn.imm b o :: Γ) w :=
  h.imp fun S _ h => by
    obtain ⟨S1, S2, h1, h2, h3, h4, h5⟩ := h
    exact ⟨fun _ => False, S, fun _ h => h.elim, fun _ h => h, fun _ h _ => h, h4, S1, S2, h1, h2, h3, h4, h5⟩
/-- What is ours may be given away for good. -/
theorem freeze {b : Nat} {o : Obj} (h : Sat W0 (Asn.own b o :: Γ) w) : Sat W0 (Asn.imm b o :: Γ) w := by
  obtain ⟨S, I, ⟨S1, S2, h1, h2, h3, ⟨h4, h4'⟩, h5⟩, d1, d2, d3, d4, d5⟩ := h
  refine ⟨S2, fun c => I c ∨ c = b, ⟨fun _ => False, S2, fun _ h => h.elim, fun _ h => h, fun _ h _ => h, ⟨.inr rfl, h4'⟩, h5.mono fun _ h => .inl h⟩, ?_, fun c hc => d2 c (h2 c hc), ?_, fun c hc => .inl (d4 c hc), d5⟩
  · rintro c hc (hi | rfl)
    · exact d1 c (h2 c hc) hi
    · exact h3 c h4 hc
  · rintro c (hi | rfl)
    · exact d3 c hi
    · exact d2 c (h1 c h4)
theorem own_ne {b c : Nat} {o o' : Obj} (h : Sat W0 (Asn.own b o :: Asn.own c o' :: Γ) w) : b ≠ c := by
  rintro rfl
  obtain ⟨S, I, ⟨S1, S2, h1, h2, h3, ⟨h4, h4'⟩, T1, T2, k1, k2, k3, ⟨k4, _⟩, k5⟩, r⟩ := h
  exact h3 b h4 (k1 b k4)
theorem own_old {b : Nat} {o : Obj} (h : Sat W0 (Asn.own b o :: Γ) w) : W0.heap.size ≤ b := by
  obtain ⟨S, I, ⟨S1, S2, h1, h2, h3, ⟨h4, h4'⟩, h5⟩, d1, d2, d3, d4, d5⟩ := h
  exact Nat.le_of_not_lt fun hl => d1 b (h1 b h4) (d4 b hl)
/-- A new block. -/
theorem alloc (h : Sat W0 Γ w) (o : Obj) : Sat W0 (Asn.own w.heap.size o :: Γ) { w with heap := w.heap.push o } := by
  obtain ⟨S, I, h1, d1, d2, d3, d4, d5⟩ := h
  have hk : ∀ b, b < w.heap.size → (w.heap.push o)[b]? = w.heap[b]? := fun b hb => by rw [Array.getElem?_push, if_neg (by omega)]
  refine ⟨fun b => S b ∨ b = w.heap.size, I, ⟨fun b => b = w.heap.size, S, fun _ h => .inr h, fun _ h => .inl h, ?_, ⟨rfl, by simp⟩, h1.loc fun b hb => hk b (hb.elim (d2 b) (d3 b))⟩, ?_, ?_, ?_, d4, ?_⟩
  · rintro b rfl hs
    exact Nat.lt_irrefl _ (d2 _ hs)
  · rintro b (hs | rfl) hi
    · exact d1 b hs hi
    · exact Nat.lt_irrefl _ (d3 _ hi)
  · rintro b (hs | rfl)
    · have := d2 b hs; simp; omega
    · simp
  · intro b hi
    have := d3 b hi; simp; omega
  · exact ⟨d5.os, d5.tape, d5.output, by have := d5.size; simp; omega, fun b hb => (hk b (d3 b (d4 b hb))).trans (d5.block b hb)⟩
/-- Another heap, in which only a block of ours has turned. -/
theorem put {b : Nat} {o o' : Obj} (h : Sat W0 (Asn.own b o :: Γ) w) {w' : World} (hos : w'.os = w.os) (htp : w'.tape = w.tape) (hou : w'.output = w.output)
    (hsz : w'.heap.size = w.heap.size) (hb : w'.heap[b]? = some o') (hk : ∀ c, c ≠ b → w'.heap[c]? = w.heap[c]?) : Sat W0 (Asn.own b o' :: Γ) w' := by
  obtain ⟨S, I, ⟨S1, S2, h1, h2, h3, ⟨h4, h4'⟩, h5⟩, d1, d2, d3, d4, d5⟩ := h
  have hne : ∀ c, c ≠ b → w'.heap[c]? = w.heap[c]? := hk
  refine ⟨S, I, ⟨S1, S2, h1, h2, h3, ⟨h4, hb⟩, h5.loc fun c hc => hne c ?_⟩, d1, fun c hc => hsz ▸ d2 c hc, fun c hc => hsz ▸ d3 c hc, d4, ?_⟩
  · rintro rfl
    exact hc.elim (h3 c h4) (d1 c (h1 c h4))
  · refine ⟨hos.trans d5.os, htp.trans d5.tape, hou.trans d5.output, by rw [hsz]; exact d5.size, fun c hc => (hne c ?_).trans (d5.block c hc)⟩
    rintro rfl
    exact d1 c (h1 c h4) (d4 c hc)
theorem drew (h : Sat W0 Γ w) : Sat W0 Γ { w with drawn := w.drawn + 1 } := by
  obtain ⟨S, I, h1, d1, d2, d3, d4, d5⟩ := h
  exact ⟨S, I, h1, d1, d2, d3, d4, ⟨d5.os, d5.tape, d5.output, d5.size, d5.block⟩⟩
/-- What lay in W0 lies there still. -/
theorem old (h : Sat W0 Γ w) {b : Nat} (hb : b < W0.heap.size) : w.heap[b]? = W0.heap[b]? := h.below.block b hb
end Sat
end Go.Proofs.Ytcigheahollkcaa
