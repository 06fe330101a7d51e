/- Contracts in the plain style: each function answers what its plain function says. -/
import Derived.Test.YtcigheahollkcaaSlPur
import Derived.Test.YtcigheahollkcaaKeepA
import Derived.Test.YtcigheahollkcaaSlMaps
namespace Go.Proofs.Ytcigheahollkcaa
open Go Go.RowKit
set_option linter.unusedVariables false
set_option linter.unusedSimpArgs false
theorem WithinF_tr {W0 : World} {Γ : List Asn} (v : Int) (n : Int)  (y : Int) (H : withinS v n = some y) : Tr Try.prog 9 #[.int .i64 v, .int .i64 n] W0 (Γ) (fun r Δ => r = .int .i64 y ∧ Δ = Γ) := by
 unfold withinS at H
 obtain ⟨h, H⟩ := chkE H
 obtain rfl := someE H
 exact Within_tr v n h.1 h.2
theorem CopyF_tr {W0 : World} {Γ : List Asn} (xsa : Option Addr) (xscap : Nat) (xs : List Int) (hrxsa : Reads W0 Γ xsa (ints xs)) (y : (List Int)) (H : copyS xs = some y) : Tr Try.prog 38 #[.slice xsa (List.length xs) xscap] W0 (Γ) (fun r Δ => ∃ (a0_0 : Option Addr) (c0_0 : Nat), r = .slice a0_0 (List.length y) c0_0 ∧ Δ = (IntsA a0_0 c0_0 y) :: Γ) := by
 unfold copyS at H
 obtain ⟨h, H⟩ := chkE H
 obtain rfl := someE H
 exact Copy_tr xsa _ xscap xs rfl hrxsa h
theorem CloneF_tr {W0 : World} {Γ : List Asn} (xsa : Option Addr) (xscap : Nat) (xs : List Int) (hrxsa : Reads W0 Γ xsa (ints xs)) (y : (List Int)) (H : copyS xs = some y) : Tr Try.prog 55 #[.slice xsa (List.length xs) xscap] W0 (Γ) (fun r Δ => ∃ (a0_0 : Option Addr) (c0_0 : Nat), r = .slice a0_0 (List.length y) c0_0 ∧ Δ = (IntsA a0_0 c0_0 y) :: Γ) := by
 unfold copyS at H
 obtain ⟨h, H⟩ := chkE H
 obtain rfl := someE H
 exact Clone_tr xsa _ xscap xs rfl hrxsa h
theorem CutF_tr {W0 : World} {Γ : List Asn} (xsa : Option Addr) (xscap : Nat) (xs : List Int) (n : Int) (hrxsa : Reads W0 Γ xsa (ints xs)) (hcxsa : xs.length ≤ xscap) (y : (List Int)) (H : cutS xs n = some y) : Tr Try.prog 21 #[.slice xsa (List.length xs) xscap, .int .i64 n] W0 (Γ) (fun r Δ => ∃ (a0_0 : Option Addr) (c0_0 : Nat), r = .slice a0_0 (List.length y) c0_0 ∧ Δ = (IntsA a0_0 c0_0 y) :: Γ) := by
 unfold cutS at H
 obtain ⟨h, H⟩ := chkE H
 obtain rfl := someE H
 obtain ⟨k, rfl⟩ : ∃ k : Nat, n = (k : Int) := ⟨n.toNat, by omega⟩
 refine (Cut_tr xsa _ xscap k xs rfl hrxsa hcxsa (by omega)).mono ?_
 rintro _ _ ⟨a, m, c, rfl, rfl, rfl⟩
 exact ⟨a, c, by simp, by simp⟩
end Go.Proofs.Ytcigheahollkcaa
