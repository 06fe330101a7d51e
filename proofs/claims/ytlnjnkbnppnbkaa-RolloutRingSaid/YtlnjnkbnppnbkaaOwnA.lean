/- Contracts in the plain style: each function answers what its plain function says. -/
import Derived.Test.YtlnjnkbnppnbkaaSlPur
import Derived.Test.YtlnjnkbnppnbkaaCacheB
namespace Go.Proofs.Ytlnjnkbnppnbkaa
open Go Go.RowKit
set_option linter.unusedVariables false
set_option linter.unusedSimpArgs false
theorem WithinF_tr {W0 : World} {Γ : List Asn} (v : Int) (n : Int)  (y : Int) (H : withinS v n = some y) : Tr Try.prog 22 #[.int .i64 v, .int .i64 n] W0 (Γ) (fun r Δ => r = .int .i64 y ∧ Δ = Γ) := by
 unfold withinS at H
 obtain ⟨h, H⟩ := chkE H
 obtain rfl := someE H
 exact Within_tr v n h.1 h.2
theorem CopyF_tr {W0 : World} {Γ : List Asn} (xsa : Option Addr) (xscap : Nat) (xs : List Int) (hrxsa : Reads W0 Γ xsa (ints xs)) (y : (List Int)) (H : copyS xs = some y) : Tr Try.prog 46 #[.slice xsa (List.length xs) xscap] W0 (Γ) (fun r Δ => ∃ (a0_0 : Option Addr) (c0_0 : Nat), r = .slice a0_0 (List.length y) c0_0 ∧ Δ = (IntsA a0_0 c0_0 y) :: Γ) := by
 unfold copyS at H
 obtain ⟨h, H⟩ := chkE H
 obtain rfl := someE H
 exact Copy_tr xsa _ xscap xs rfl hrxsa h
theorem CloneF_tr {W0 : World} {Γ : List Asn} (xsa : Option Addr) (xscap : Nat) (xs : List Int) (hrxsa : Reads W0 Γ xsa (ints xs)) (y : (List Int)) (H : copyS xs = some y) : Tr Try.prog 41 #[.slice xsa (List.length xs) xscap] W0 (Γ) (fun r Δ => ∃ (a0_0 : Option Addr) (c0_0 : Nat), r = .slice a0_0 (List.length y) c0_0 ∧ Δ = (IntsA a0_0 c0_0 y) :: Γ) := by
 unfold copyS at H
 obtain ⟨h, H⟩ := chkE H
 obtain rfl := someE H
 exact Clone_tr xsa _ xscap xs rfl hrxsa h
theorem CutF_tr {W0 : World} {Γ : List Asn} (xsa : Option Addr) (xscap : Nat) (xs : List Int) (n : Int) (hrxsa : Reads W0 Γ xsa (ints xs)) (hcxsa : xs.length ≤ xscap) (y : (List Int)) (H : cutS xs n = some y) : Tr Try.prog 24 #[.slice xsa (List.length xs) xscap, .int .i64 n] W0 (Γ) (fun r Δ => ∃ (a0_0 : Option Addr) (c0_0 : Nat), r = .slice a0_0 (List.length y) c0_0 ∧ Δ = (IntsA a0_0 c0_0 y) :: Γ) := by
 unfold cutS at H
 obtain ⟨h, H⟩ := chkE H
 obtain rfl := someE H
 obtain ⟨k, rfl⟩ : ∃ k : Nat, n = (k : Int) := ⟨n.toNat, by omega⟩
 refine (Cut_tr xsa _ xscap k xs rfl hrxsa hcxsa (by omega)).mono ?_
 rintro _ _ ⟨a, m, c, rfl, rfl, rfl⟩
 exact ⟨a, c, by simp, by simp⟩
theorem ENewF_tr {W0 : World} {Γ : List Asn} (l : Int) (f : Int) (b : Int) (d : Bool) (xsa : Option Addr) (xscap : Nat) (xs : List Int) (hrxsa : Reads W0 Γ xsa (ints xs)) (y : Ent) (H : enewS l f b d xs = some y) : Tr Try.prog 15 #[.int .i64 l, .int .i64 f, .int .i64 b, .bool d, .slice xsa (List.length xs) xscap] W0 (Γ) (fun r Δ => ∃ (a0_0 : Option Addr) (c0_0 : Nat), r = .agg #[.int .i64 y.fwd, .int .i64 y.back, .int .i64 y.line, .int .i64 y.used, .bool y.dirty, .slice a0_0 (List.length y.data) c0_0] ∧ Δ = (IntsA a0_0 c0_0 y.data) :: Γ) := by
 unfold enewS at H
 obtain ⟨h, H⟩ := chkE H
 obtain rfl := someE H
 exact ENew_tr l f b d xsa _ xscap xs rfl hrxsa h
theorem ECloneF_tr {W0 : World} {Γ : List Asn} (ea : Option Addr) (ecap : Nat) (e : Ent) (hrea : Reads W0 Γ ea (ints e.data)) (y : Ent) (H : ecloneS e = some y) : Tr Try.prog 38 #[.agg #[.int .i64 e.fwd, .int .i64 e.back, .int .i64 e.line, .int .i64 e.used, .bool e.dirty, .slice ea (List.length e.data) ecap]] W0 (Γ) (fun r Δ => ∃ (a0_0 : Option Addr) (c0_0 : Nat), r = .agg #[.int .i64 y.fwd, .int .i64 y.back, .int .i64 y.line, .int .i64 y.used, .bool y.dirty, .slice a0_0 (List.length y.data) c0_0] ∧ Δ = (IntsA a0_0 c0_0 y.data) :: Γ) := by
 unfold ecloneS at H
 obtain ⟨h, H⟩ := chkE H
 obtain rfl := someE H
 exact EClone_tr e.fwd e.back e.line e.used e.dirty ea _ ecap e.data rfl hrea h
theorem NewF_tr {W0 : World} {Γ : List Asn} (sets : Int) (ways : Int)  (y : CacheS) (H : newC sets ways = y) : Tr Try.prog 32 #[.int .i64 sets, .int .i64 ways] W0 (Γ) (fun r Δ => ∃ (b0 : Nat), r = .pointer (some ⟨b0, 0, none⟩) ∧ Δ = (CacheA b0 y) :: Γ) := by
 subst H
 exact New_tr sets ways
theorem LenF_tr {W0 : World} {Γ : List Asn} (c : Nat) (cc : CacheS)  (y : Int) (H : lenC cc = y) : Tr Try.prog 23 #[.pointer (some ⟨c, 0, none⟩)] W0 ((CacheA c cc) :: Γ) (fun r Δ => r = .int .i64 y ∧ Δ = (CacheA c cc) :: Γ) := by
 subst H
 exact Len_tr c cc
theorem FindF_tr {W0 : World} {Γ : List Asn} (c : Nat) (cc : CacheS) (line : Int)  (y : Ent × Bool) (H : findS cc line = some y) : Tr Try.prog 18 #[.pointer (some ⟨c, 0, none⟩), .int .i64 line] W0 ((CacheA c cc) :: Γ) (fun r Δ => ∃ (a0_0 : Option Addr) (c0_0 : Nat), r = .tuple #[.agg #[.int .i64 y.1.fwd, .int .i64 y.1.back, .int .i64 y.1.line, .int .i64 y.1.used, .bool y.1.dirty, .slice a0_0 (List.length y.1.data) c0_0], .bool y.2] ∧ Δ = (IntsA a0_0 c0_0 y.1.data) :: (CacheA c cc) :: Γ) := by
 unfold findS at H
 obtain ⟨h, H⟩ := chkE H
 obtain rfl := someE H
 unfold findE
 cases hi : idx cc.l line with
 | none => exact (Find_none c cc line h.1 hi).conseq (by rintro _ _ ⟨rfl, rfl⟩; exact ⟨_, ⟨none, 0, rfl, rfl⟩, fun w hw => RowsA.none_mk hw⟩)
 | some i => exact Find_some c cc line h.1 h.2.1 i _ hi (idx_ent hi)
theorem DropF_tr {W0 : World} {Γ : List Asn} (c : Nat) (cc : CacheS) (line : Int)  (y : Ent × Bool × CacheS) (H : dropS cc line = some y) : Tr Try.prog 56 #[.pointer (some ⟨c, 0, none⟩), .int .i64 line] W0 ((CacheA c cc) :: Γ) (fun r Δ => ∃ (a0_0 : Option Addr) (c0_0 : Nat), r = .tuple #[.agg #[.int .i64 y.1.fwd, .int .i64 y.1.back, .int .i64 y.1.line, .int .i64 y.1.used, .bool y.1.dirty, .slice a0_0 (List.length y.1.data) c0_0], .bool y.2.1] ∧ Δ = (IntsA a0_0 c0_0 y.1.data) :: (CacheA c y.2.2) :: Γ) := by
 unfold dropS at H
 obtain ⟨h, H⟩ := chkE H
 obtain rfl := someE H
 unfold findE dropC
 cases hi : idx cc.l line with
 | none => exact (Drop_none c cc line h.1 hi).conseq (by rintro _ _ ⟨rfl, rfl⟩; exact ⟨_, ⟨none, 0, rfl, rfl⟩, fun w hw => RowsA.none_mk hw⟩)
 | some i => exact Drop_some c cc line h.1 h.2.1 i _ hi (idx_ent hi)
theorem FullF_tr {W0 : World} {Γ : List Asn} (c : Nat) (cc : CacheS) (line : Int)  (y : Bool) (H : fullS cc line = some y) : Tr Try.prog 40 #[.pointer (some ⟨c, 0, none⟩), .int .i64 line] W0 ((CacheA c cc) :: Γ) (fun r Δ => r = .bool y ∧ Δ = (CacheA c cc) :: Γ) := by
 unfold fullS at H
 obtain ⟨h, H⟩ := chkE H
 obtain rfl := someE H
 cases hi : idx cc.l line with
 | none => exact Full_none c cc line h.1 h.2.2.1 hi
 | some i => exact Full_there c cc line h.1 i hi
theorem PutF_tr {W0 : World} {Γ : List Asn} (c : Nat) (cc : CacheS) (ea : Option Addr) (ecap : Nat) (e : Ent) (hrea : Reads W0 Γ ea (ints e.data)) (y : Int × CacheS) (H : putS cc e = some y) : Tr Try.prog 14 #[.pointer (some ⟨c, 0, none⟩), .agg #[.int .i64 e.fwd, .int .i64 e.back, .int .i64 e.line, .int .i64 e.used, .bool e.dirty, .slice ea (List.length e.data) ecap]] W0 ((CacheA c cc) :: Γ) (fun r Δ => r = .int .i64 y.1 ∧ Δ = (CacheA c y.2) :: Γ) := by
 unfold putS at H
 obtain ⟨⟨h, hd⟩, H⟩ := chkE H
 obtain rfl := someE H
 unfold putC
 by_cases hn : e.line < 0
 ·rw [if_pos hn]
  exact Put_neg c cc e.fwd e.back e.line e.used e.dirty ea _ ecap e.data rfl hrea hd h.1 h.2.2.1 hn
 ·rw [if_neg hn]
  cases hi : idx cc.l e.line with
  | some i => exact Put_set c cc e.fwd e.back e.line e.used e.dirty ea _ ecap e.data rfl hrea hd h.1 h.2.2.1 hn i _ hi (idx_ent hi)
  | none =>
   by_cases hf : cc.ways ≤ ((setL cc e.line).length : Int)
   ·simp only [if_pos hf]
    exact Put_full c cc e.fwd e.back e.line e.used e.dirty ea _ ecap e.data rfl hrea hd h.1 h.2.2.1 hn hi hf
   ·simp only [if_neg hf]
    exact Put_new c cc e.fwd e.back e.line e.used e.dirty ea _ ecap e.data rfl hrea hd h.1 h.2.2.1 h.2.2.2.1 (by have := h.2.2.2.2; omega) hn hi hf
end Go.Proofs.Ytlnjnkbnppnbkaa
