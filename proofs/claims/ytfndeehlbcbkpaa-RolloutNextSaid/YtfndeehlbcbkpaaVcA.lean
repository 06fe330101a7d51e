/- The line that was not used for the longest time; all lines, rising: each function answers what its plain function says. -/
import Derived.Test.YtfndeehlbcbkpaaRcA
import Derived.Test.YtfndeehlbcbkpaaSlSorts
namespace Go.Proofs.Ytfndeehlbcbkpaa
open Go Go.RowKit
set_option linter.unusedVariables false
set_option linter.unusedSimpArgs false
def sortiS (xs : List Int) : Option (List Int) := chk (okL xs) (some (srt xs))
theorem sortiS_len {xs y : List Int} (h : sortiS xs = some y) : xs.length = y.length := by
 unfold sortiS at h
 obtain ⟨_, h⟩ := chkE h
 obtain rfl := someE h
 exact (srt_length xs).symm
theorem SortIF_tr {W0 : World} {Γ : List Asn} (xsa : Option Addr) (xscap : Nat) (xs : List Int)  (y : (List Int)) (H : sortiS xs = some y) : Tr Try.prog 64 #[.slice xsa (List.length xs) xscap] W0 ((IntsA xsa xscap xs) :: Γ) (fun r Δ => r = .tuple #[] ∧ Δ = (IntsA xsa xscap y) :: Γ) := by
 unfold sortiS at H
 obtain ⟨h, H⟩ := chkE H
 obtain rfl := someE H
 exact sortI_tr (a := xsa) (cap := xscap) (show xs.length ≤ 1099511627776 from h)
def csetS_k0 (e0_5x : List Ent) (e0_13 : Int) : Option ((List Ent)) :=
 some e0_5x
def csetS_l0 (cc : CacheS) (line : Int) (k0 : (List Ent) → Int → Option ((List Ent))) : Nat → (List Ent) → Int → Option ((List Ent))
 | 0 => fun _ _ => none
 | m + 1 => fun v0_5x v0_13 => (bif decide (v0_13 < (((List.length cc.l) : Nat) : Int)) then chk (0 ≤ v0_13 ∧ v0_13 < ((List.length cc.l : Nat) : Int)) (letP (nthT cc.l v0_13) fun x4_1 => (bif decide ((0 : Int) ≤ line) then chk (1 ≤ cc.sets) (chk (1 ≤ cc.sets) ((bif decide ((x4_1.line.tmod cc.sets) = (line.tmod cc.sets)) then chk ((v0_5x ++ ([x4_1])).length ≤ 1099511627776) (letP (v0_5x ++ ([x4_1])) fun l6_3 => chk (inR (v0_13 + (1 : Int))) ((csetS_l0 cc line k0 m) l6_3 (v0_13 + (1 : Int)))) else chk (inR (v0_13 + (1 : Int))) ((csetS_l0 cc line k0 m) v0_5x (v0_13 + (1 : Int)))))) else chk (inR (v0_13 + (1 : Int))) ((csetS_l0 cc line k0 m) v0_5x (v0_13 + (1 : Int))))) else k0 v0_5x v0_13)
def csetS (cc : CacheS) (line : Int) : Option ((List Ent)) :=
 csetS_l0 cc line (csetS_k0 ) 64 ([] : List Ent) 0
set_option maxRecDepth 100000 in
set_option maxHeartbeats 8000000 in
theorem CSetF_tr {W0 : World} {Γ : List Asn} (c : Nat) (cx : CacheXP) (cc : CacheS) (line : Int)  (y : (List Ent)) (H : csetS cc line = some y) : Tr Try.prog 43 #[.pointer (some ⟨c, 0, none⟩), .int .i64 line] W0 ((CacheXA c cx cc) :: Γ) (fun r Δ => ∃ (a0_0 : Option Addr) (c0_0 : Nat) (r0_0 : List (List Value)), r = .slice a0_0 (List.length y) c0_0 ∧ Δ = (RecsX (α := Ent) r0_0 a0_0 c0_0 y) :: (CacheXA c cx cc) :: Γ) := by
 unfold csetS at H
 refine Tr.enter (fn := Try.f43) (c := C43 []) (args := [.pointer (some ⟨c, 0, none⟩), .int .i64 line]) 41 Try.func43 (by kernel_rfl) (by kernel_rfl) ?_
 refine ae [(0, .pointer (some ⟨c, 0, none⟩)), (1, .int .i64 line)] ?_
 refine aq (x := C43 [0]) (y := C43 [1]) ?_
 refine ar (id := 0) 1 ?_
 refine sp 4 (.slice none 0 0) ?_
 refine ops_end ?_
 refine ae [(0, .pointer (some ⟨c, 0, none⟩)), (1, .int .i64 line)] ?_
 refine at_then_normal ?_
 refine aq (x := C43 [1,0]) (y := C43 [1,1]) ?_
 refine ar (id := 1) 1 ?_
 refine sp 5 (.slice none 0 0) ?_
 refine ops_end ?_
 refine ae [(0, .pointer (some ⟨c, 0, none⟩)), (1, .int .i64 line), (5, .slice none 0 0)] ?_
 refine at_then_normal ?_
 refine aq (x := C43 [1,1,0]) (y := C43 [1,1,1]) ?_
 refine aq (x := C43 [1,1,0,0]) (y := C43 [1,1,0,1]) ?_
 refine ar (id := 2) 6 ?_
 refine sp 8 (.pointer (some ⟨c, 0, none⟩)) ?_
 refine sp 9 (.pointer (some ⟨c, 0, none⟩)) ?_
 refine sp 10 (.pointer (some ⟨c, 0, none⟩)) ?_
 refine CacheXA.open .here ?_
 refine sl 11 (.slice cx.a0 (List.length cc.l) cx.c0) (load1 (off := 0) (fun _ => by kernel_rfl) (holds_own .here) (by kernel_rfl)) ?_
 refine sp 12 (.int .i64 (((List.length cc.l) : Nat) : Int)) ?_
 refine sp 13 (.int .i64 (0)) ?_
 refine ops_end ?_
 refine ae [(0, .pointer (some ⟨c, 0, none⟩)), (1, .int .i64 line), (5, .slice none 0 0), (11, .slice cx.a0 (List.length cc.l) cx.c0), (12, .int .i64 (((List.length cc.l) : Nat) : Int)), (13, .int .i64 (0))] ?_
 refine at_then_normal ?_
 refine at_block (i := 0) (x := C43 [1,1,0,1,0]) (by kernel_rfl) ?_
 refine At.conv (Γ' := (CacheXA c cx cc) :: Γ) (fun w hw => CacheXA.close (x := cx) (t := cc) (Sat.less (.take .here (.take .here .refl)) hw)) ?_
 refine At.conv (Γ' := (RecsX (α := Ent) ([] : List (List Value)) none 0 ([] : List Ent)) :: (CacheXA c cx cc) :: Γ) (fun w hw => (Sat.less (.take .here (.take .here .refl)) (RecsX.nil (α := Ent) (a := none) hw))) ?_
 refine at_loopR (x := C43 [1,1,0,1,0,0]) (fun mm ff ΔΔ => ∃ (fuel : Nat) (v0_5x : List Ent) (v0_13 : Int) (v0_5a : Option Addr) (v0_5c : Nat) (v0_5r : List (List Value)), csetS_l0 cc line (csetS_k0 ) fuel v0_5x v0_13 = some y ∧ fuel = mm ∧ ff = [(0, .pointer (some ⟨c, 0, none⟩)), (1, .int .i64 line), (5, .slice v0_5a (List.length v0_5x) v0_5c), (11, .slice cx.a0 (List.length cc.l) cx.c0), (12, .int .i64 (((List.length cc.l) : Nat) : Int)), (13, .int .i64 v0_13)] ∧ (RecsX (α := Ent) v0_5r v0_5a v0_5c v0_5x) :: (CacheXA c cx cc) :: Γ = ΔΔ) (64) (by kernel_rfl) [(0, .pointer (some ⟨c, 0, none⟩)), (1, .int .i64 line), (5, .slice none (List.length ([] : List Ent)) 0), (11, .slice cx.a0 (List.length cc.l) cx.c0), (12, .int .i64 (((List.length cc.l) : Nat) : Int)), (13, .int .i64 0)] ⟨by kernel_rfl, by kernel_rfl, by kernel_rfl, by kernel_rfl, by kernel_rfl, by kernel_rfl, trivial⟩ ⟨64, ([] : List Ent), 0, none, 0, ([] : List (List Value)), H, rfl, rfl, rfl⟩ ?_
 rintro _ _ _ ⟨fuel1, v0_5x, v0_13, v0_5a, v0_5c, v0_5r, H, rfl, rfl, rfl⟩
 rcases fuel1 with _ | fuel1
 ·exact (noneE H).elim
 rw [csetS_l0] at H
 refine aq (x := C43 [1,1,0,1,0,0,0]) (y := C43 [1,1,0,1,0,0,1]) ?_
 refine ar (id := 3) 1 ?_
 refine sp 14 (.bool (decide (v0_13 < (((List.length cc.l) : Nat) : Int)))) ?_
 refine ops_end ?_
 refine ae [(0, .pointer (some ⟨c, 0, none⟩)), (1, .int .i64 line), (5, .slice v0_5a (List.length v0_5x) v0_5c), (11, .slice cx.a0 (List.length cc.l) cx.c0), (12, .int .i64 (((List.length cc.l) : Nat) : Int)), (13, .int .i64 v0_13), (14, .bool (decide (v0_13 < (((List.length cc.l) : Nat) : Int))))] ?_
 refine at_then_normal ?_
 refine aq (x := C43 [1,1,0,1,0,0,1,0]) (y := C43 [1,1,0,1,0,0,1,1]) ?_
 rcases Bool.eq_false_or_eq_true (decide (v0_13 < (((List.length cc.l) : Nat) : Int))) with h1 | h1
 ·replace H := bifT H h1
  refine at_true (t := decide (v0_13 < (((List.length cc.l) : Nat) : Int))) (x := C43 [1,1,0,1,0,0,1,0,0]) (y := C43 [1,1,0,1,0,0,1,0,1]) (o := .tmp 14) (by kernel_rfl) (by kernel_rfl) (by kernel_rfl) h1 ?_
  refine at_skip (by kernel_rfl) ?_
  refine at_then_normal ?_
  refine aq (x := C43 [1,1,0,1,0,0,1,1,0]) (y := C43 [1,1,0,1,0,0,1,1,1]) ?_
  refine at_block (i := 1) (x := C43 [1,1,0,1,0,0,1,1,0,0]) (by kernel_rfl) ?_
  refine aq (x := C43 [1,1,0,1,0,0,1,1,0,0,0]) (y := C43 [1,1,0,1,0,0,1,1,0,0,1]) ?_
  refine ar (id := 4) 4 ?_
  refine CacheXA.open (.there .here) ?_
  obtain ⟨hc4_0_0, H⟩ := chkE H
  refine rd_at (RecsX.rd (α := Ent) (.there .here)) (by have := hc4_0_0; omega) ?_
  intro bb1 oo1 ha1
  refine sr 15 (.pointer (some ⟨bb1, oo1 + (((v0_13).toNat) * 6 + 0), none⟩)) (index_at (t := 82) (sz := 6) (E := 46) (a := cx.a0) (m := (List.length cc.l)) (c := cx.c0) (b := bb1) (off := oo1) (i := (v0_13).toNat) (tinfo 46) (fun _ => by kernel_rfl) (by kernel_rfl) (by kernel_rfl) (by kernel_rfl) ha1 (idx_cast hc4_0_0) (idx_nat hc4_0_0) rfl) ?_
  obtain ⟨x4_1, hx4_1, H⟩ := letE H
  refine rd_get (RecsX.rd (α := Ent) (.there .here)) hc4_0_0 ?_
  intro a4_1 c4_1 hrx4_1
  rw [hx4_1] at hrx4_1 ⊢
  refine sl 16 (.agg #[.int .i64 x4_1.fwd, .int .i64 x4_1.back, .int .i64 x4_1.line, .int .i64 x4_1.used, .bool x4_1.dirty, .slice a4_1 (List.length x4_1.data) c4_1]) (loadP_at (m := 6) (k := 6) (vs := [.int .i64 x4_1.fwd, .int .i64 x4_1.back, .int .i64 x4_1.line, .int .i64 x4_1.used, .bool x4_1.dirty, .slice a4_1 (List.length x4_1.data) c4_1]) (off := oo1) (i := (v0_13).toNat) (j := 0) (fun _ => by kernel_rfl) rfl rfl (fun q v hq => rd_row (j := 0 + q) (RecsX.rd (α := Ent) (.there (.there .here))) ha1 hrx4_1 (rowP (j := 0) (m := 6) (by kernel_rfl) hq))) ?_
  refine s_step 7 (by kernel_rfl) (by kernel_rfl) (st_new (T := 46) (cells := #[.int .i64 (0), .int .i64 (0), .int .i64 (0), .int .i64 (0), .bool false, .slice none 0 0]) (fun a => .pointer (some a)) (fun _ => by kernel_rfl)) ?_
  rintro _ _ ⟨b4_2, rfl, rfl⟩
  refine s_do (by kernel_rfl) (by kernel_rfl) (st_store (off := 0) (vs := [.int .i64 x4_1.fwd, .int .i64 x4_1.back, .int .i64 x4_1.line, .int .i64 x4_1.used, .bool x4_1.dirty, .slice a4_1 (List.length x4_1.data) c4_1]) (c' := #[.int .i64 x4_1.fwd, .int .i64 x4_1.back, .int .i64 x4_1.line, .int .i64 x4_1.used, .bool x4_1.dirty, .slice a4_1 (List.length x4_1.data) c4_1]) (fun _ => by kernel_rfl) .here (by kernel_rfl) (by kernel_rfl) (by kernel_rfl)) ?_
  rintro _ _ ⟨rfl, rfl⟩
  refine ops_end ?_
  refine ae [(0, .pointer (some ⟨c, 0, none⟩)), (1, .int .i64 line), (5, .slice v0_5a (List.length v0_5x) v0_5c), (7, .pointer (some ⟨b4_2, 0, none⟩)), (11, .slice cx.a0 (List.length cc.l) cx.c0), (12, .int .i64 (((List.length cc.l) : Nat) : Int)), (13, .int .i64 v0_13)] ?_
  refine at_then_normal ?_
  refine aq (x := C43 [1,1,0,1,0,0,1,1,0,0,1,0]) (y := C43 [1,1,0,1,0,0,1,1,0,0,1,1]) ?_
  refine at_region_draw (id := 5) (by kernel_rfl) (by kernel_rfl) ?_
  refine dp 0 17 (.int .i64 line) ?_
  refine dp 1 18 (.bool (decide ((0 : Int) ≤ line))) ?_
  rcases Bool.eq_false_or_eq_true (decide ((0 : Int) ≤ line)) with h2 | h2
  ·replace H := bifT H h2
   refine d_pure 2 19 (.bool true) (by kernel_rfl) (by kernel_rfl) (by kernel_rfl) (run_eq (v := .bool (decide ((0 : Int) ≤ line))) (fun _ => by kernel_rfl) (congrArg Value.bool h2)) ?_
   refine dp 3 20 (.pointer (some ⟨b4_2, 2, none⟩)) ?_
   refine dl 4 21 (.int .i64 x4_1.line) (load1 (off := 2) (fun _ => by kernel_rfl) (holds_own .here) (by kernel_rfl)) ?_
   refine dp 5 22 (.pointer (some ⟨c, 0, none⟩)) ?_
   refine dp 6 23 (.pointer (some ⟨c, 0, none⟩)) ?_
   refine dp 7 24 (.pointer (some ⟨c, 1, none⟩)) ?_
   refine dl 8 25 (.int .i64 cc.sets) (load1 (off := 1) (fun _ => by kernel_rfl) (holds_own (.there (.there .here))) (by kernel_rfl)) ?_
   obtain ⟨hc5_9_0, H⟩ := chkE H
   refine d_pure 9 26 (.int .i64 (x4_1.line.tmod cc.sets)) (by kernel_rfl) (by kernel_rfl) (by kernel_rfl) (run_remP (a := x4_1.line) (b := cc.sets) (fun _ => by kernel_rfl) hc5_9_0) ?_
   refine dp 10 27 (.int .i64 line) ?_
   refine dp 11 28 (.pointer (some ⟨c, 0, none⟩)) ?_
   refine dp 12 29 (.pointer (some ⟨c, 0, none⟩)) ?_
   refine dp 13 30 (.pointer (some ⟨c, 1, none⟩)) ?_
   refine dl 14 31 (.int .i64 cc.sets) (load1 (off := 1) (fun _ => by kernel_rfl) (holds_own (.there (.there .here))) (by kernel_rfl)) ?_
   obtain ⟨hc5_15_0, H⟩ := chkE H
   refine d_pure 15 32 (.int .i64 (line.tmod cc.sets)) (by kernel_rfl) (by kernel_rfl) (by kernel_rfl) (run_remP (a := line) (b := cc.sets) (fun _ => by kernel_rfl) hc5_15_0) ?_
   refine dp 16 33 (.bool (decide ((x4_1.line.tmod cc.sets) = (line.tmod cc.sets)))) ?_
   refine dp 17 34 (.bool (decide ((x4_1.line.tmod cc.sets) = (line.tmod cc.sets)))) ?_
   refine draw_end (by kernel_rfl) ?_
   refine ae [(0, .pointer (some ⟨c, 0, none⟩)), (1, .int .i64 line), (5, .slice v0_5a (List.length v0_5x) v0_5c), (7, .pointer (some ⟨b4_2, 0, none⟩)), (11, .slice cx.a0 (List.length cc.l) cx.c0), (12, .int .i64 (((List.length cc.l) : Nat) : Int)), (13, .int .i64 v0_13), (34, .bool (decide ((x4_1.line.tmod cc.sets) = (line.tmod cc.sets))))] ?_
   refine at_then_normal ?_
   rcases Bool.eq_false_or_eq_true (decide ((x4_1.line.tmod cc.sets) = (line.tmod cc.sets))) with h3 | h3
   ·replace H := bifT H h3
    refine at_true (t := decide ((x4_1.line.tmod cc.sets) = (line.tmod cc.sets))) (x := C43 [1,1,0,1,0,0,1,1,0,0,1,1,0]) (y := C43 [1,1,0,1,0,0,1,1,0,0,1,1,1]) (o := .tmp 34) (by kernel_rfl) (by kernel_rfl) (by kernel_rfl) h3 ?_
    refine ar (id := 6) 5 ?_
    refine sp 35 (.slice v0_5a (List.length v0_5x) v0_5c) ?_
    refine sl 36 (.agg #[.int .i64 x4_1.fwd, .int .i64 x4_1.back, .int .i64 x4_1.line, .int .i64 x4_1.used, .bool x4_1.dirty, .slice a4_1 (List.length x4_1.data) c4_1]) (loadN (off := 0) (vs := [.int .i64 x4_1.fwd, .int .i64 x4_1.back, .int .i64 x4_1.line, .int .i64 x4_1.used, .bool x4_1.dirty, .slice a4_1 (List.length x4_1.data) c4_1]) 6 (fun _ => by kernel_rfl) (holds_own .here) rfl (by exact ⟨rfl, rfl, rfl, rfl, rfl, rfl, trivial⟩)) ?_
    refine s_step 37 (by kernel_rfl) (by kernel_rfl) (st_new (T := 46) (cells := #[.int .i64 x4_1.fwd, .int .i64 x4_1.back, .int .i64 x4_1.line, .int .i64 x4_1.used, .bool x4_1.dirty, .slice a4_1 (List.length x4_1.data) c4_1]) (fun a => .slice (some a) 1 1) (fun _ => by kernel_rfl)) ?_
    rintro _ _ ⟨b6_2, rfl, rfl⟩
    obtain ⟨hc6_3_0, H⟩ := chkE H
    obtain ⟨l6_3, hl6_3, H⟩ := letE H
    refine s_step 38 (by kernel_rfl) (by kernel_rfl) (st_append_recs (α := Ent) (m1 := (List.length v0_5x)) (m2 := 1) (cap2 := 1) (xs := v0_5x) (ys := [x4_1]) (zs := l6_3) (info := tinfo 46) 64 (.agg #[.int .i64 (0), .int .i64 (0), .int .i64 (0), .int .i64 (0), .bool false, .slice none 0 0]) (m := List.length l6_3) 82 82 46 (fun _ => by kernel_rfl) (by kernel_rfl) (by kernel_rfl) (by kernel_rfl) (by kernel_rfl) (by kernel_rfl) (by kernel_rfl) (by kernel_rfl) (by kernel_rfl) (.there (.there (.there (.there (.there .here))))) (RecRd.own1 (α := Ent) (x := x4_1) (c2 := c4_1) (T := 46) .here (.there (.there .here))) (by first | rfl | simp) (by first | rfl | simp) rfl hl6_3 (by rw [← hl6_3]; exact hc6_3_0)) ?_
    rintro _ _ ⟨a6_3, c6_3, rw6_3, rfl, rfl⟩
    refine sp 5 (.slice a6_3 (List.length l6_3) c6_3) ?_
    refine ops_end ?_
    refine ae [(0, .pointer (some ⟨c, 0, none⟩)), (1, .int .i64 line), (5, .slice a6_3 (List.length l6_3) c6_3), (11, .slice cx.a0 (List.length cc.l) cx.c0), (12, .int .i64 (((List.length cc.l) : Nat) : Int)), (13, .int .i64 v0_13)] ?_
    refine at_in_normal ?_
    refine at_then_normal ?_
    refine ar (id := 7) 2 ?_
    obtain ⟨hc7_0_0, H⟩ := chkE H
    refine sr 39 (.int .i64 (v0_13 + (1 : Int))) (run_eq (v := .int .i64 (IntKind.i64.wrap (v0_13 + (1 : Int)))) (fun _ => by kernel_rfl) (by rw [inR.wrap hc7_0_0])) ?_
    refine sp 13 (.int .i64 (v0_13 + (1 : Int))) ?_
    refine ops_end ?_
    refine ae [(0, .pointer (some ⟨c, 0, none⟩)), (1, .int .i64 line), (5, .slice a6_3 (List.length l6_3) c6_3), (11, .slice cx.a0 (List.length cc.l) cx.c0), (12, .int .i64 (((List.length cc.l) : Nat) : Int)), (13, .int .i64 (v0_13 + (1 : Int)))] ?_
    refine at_round_normal ?_
    refine At.conv (Γ' := (CacheXA c cx cc) :: (RecsX (α := Ent) rw6_3 a6_3 c6_3 l6_3) :: (Asn.own b6_2 (.cells #[.int .i64 x4_1.fwd, .int .i64 x4_1.back, .int .i64 x4_1.line, .int .i64 x4_1.used, .bool x4_1.dirty, .slice a4_1 (List.length x4_1.data) c4_1] 46 (0, 0))) :: (Asn.own b4_2 (.cells #[.int .i64 x4_1.fwd, .int .i64 x4_1.back, .int .i64 x4_1.line, .int .i64 x4_1.used, .bool x4_1.dirty, .slice a4_1 (List.length x4_1.data) c4_1] 46 (0, 0))) :: (ImmI a4_1 x4_1.data) :: Γ) (fun w hw => CacheXA.close (x := cx) (t := cc) (Sat.less (.take (.there (.there (.there (.there .here)))) (.take (.there (.there (.there (.there .here)))) (.take .here (.take .here (.take .here (.take .here .refl)))))) hw)) ?_
    exact at_roundR fuel1 [(0, .pointer (some ⟨c, 0, none⟩)), (1, .int .i64 line), (5, .slice a6_3 (List.length l6_3) c6_3), (11, .slice cx.a0 (List.length cc.l) cx.c0), (12, .int .i64 (((List.length cc.l) : Nat) : Int)), (13, .int .i64 (v0_13 + (1 : Int)))] ((RecsX (α := Ent) rw6_3 a6_3 c6_3 l6_3) :: (CacheXA c cx cc) :: Γ) (Nat.lt_succ_self _) ⟨by kernel_rfl, by kernel_rfl, by kernel_rfl, by kernel_rfl, by kernel_rfl, by kernel_rfl, trivial⟩ (fun w hw => (Sat.less (.take (.there .here) (.take .here (.drop .here (.drop .here (.drop .here .refl))))) hw)) ⟨fuel1, l6_3, v0_13 + (1 : Int), a6_3, c6_3, rw6_3, H, rfl, rfl, rfl⟩
   ·replace H := bifF H h3
    refine at_false (t := decide ((x4_1.line.tmod cc.sets) = (line.tmod cc.sets))) (x := C43 [1,1,0,1,0,0,1,1,0,0,1,1,0]) (y := C43 [1,1,0,1,0,0,1,1,0,0,1,1,1]) (o := .tmp 34) (by kernel_rfl) (by kernel_rfl) (by kernel_rfl) h3 ?_
    refine at_skip (by kernel_rfl) ?_
    refine at_in_normal ?_
    refine at_then_normal ?_
    refine ar (id := 7) 2 ?_
    obtain ⟨hc7_0_0, H⟩ := chkE H
    refine sr 39 (.int .i64 (v0_13 + (1 : Int))) (run_eq (v := .int .i64 (IntKind.i64.wrap (v0_13 + (1 : Int)))) (fun _ => by kernel_rfl) (by rw [inR.wrap hc7_0_0])) ?_
    refine sp 13 (.int .i64 (v0_13 + (1 : Int))) ?_
    refine ops_end ?_
    refine ae [(0, .pointer (some ⟨c, 0, none⟩)), (1, .int .i64 line), (5, .slice v0_5a (List.length v0_5x) v0_5c), (11, .slice cx.a0 (List.length cc.l) cx.c0), (12, .int .i64 (((List.length cc.l) : Nat) : Int)), (13, .int .i64 (v0_13 + (1 : Int)))] ?_
    refine at_round_normal ?_
    refine At.conv (Γ' := (CacheXA c cx cc) :: (Asn.own b4_2 (.cells #[.int .i64 x4_1.fwd, .int .i64 x4_1.back, .int .i64 x4_1.line, .int .i64 x4_1.used, .bool x4_1.dirty, .slice a4_1 (List.length x4_1.data) c4_1] 46 (0, 0))) :: (ImmI a4_1 x4_1.data) :: (RecsX (α := Ent) v0_5r v0_5a v0_5c v0_5x) :: Γ) (fun w hw => CacheXA.close (x := cx) (t := cc) (Sat.less (.take (.there (.there .here)) (.take (.there (.there .here)) (.take .here (.take .here (.take .here .refl))))) hw)) ?_
    exact at_roundR fuel1 [(0, .pointer (some ⟨c, 0, none⟩)), (1, .int .i64 line), (5, .slice v0_5a (List.length v0_5x) v0_5c), (11, .slice cx.a0 (List.length cc.l) cx.c0), (12, .int .i64 (((List.length cc.l) : Nat) : Int)), (13, .int .i64 (v0_13 + (1 : Int)))] ((RecsX (α := Ent) v0_5r v0_5a v0_5c v0_5x) :: (CacheXA c cx cc) :: Γ) (Nat.lt_succ_self _) ⟨by kernel_rfl, by kernel_rfl, by kernel_rfl, by kernel_rfl, by kernel_rfl, by kernel_rfl, trivial⟩ (fun w hw => (Sat.less (.take (.there (.there (.there .here))) (.take .here (.drop .here (.drop .here .refl)))) hw)) ⟨fuel1, v0_5x, v0_13 + (1 : Int), v0_5a, v0_5c, v0_5r, H, rfl, rfl, rfl⟩
  ·replace H := bifF H h2
   refine d_pure 2 19 (.bool false) (by kernel_rfl) (by kernel_rfl) (by kernel_rfl) (run_eq (v := .bool (decide ((0 : Int) ≤ line))) (fun _ => by kernel_rfl) (congrArg Value.bool h2)) ?_
   refine d_off 3 20 (by kernel_rfl) (by kernel_rfl) (by kernel_rfl) ?_
   refine d_off 4 21 (by kernel_rfl) (by kernel_rfl) (by kernel_rfl) ?_
   refine d_off 5 22 (by kernel_rfl) (by kernel_rfl) (by kernel_rfl) ?_
   refine d_off 6 23 (by kernel_rfl) (by kernel_rfl) (by kernel_rfl) ?_
   refine d_off 7 24 (by kernel_rfl) (by kernel_rfl) (by kernel_rfl) ?_
   refine d_off 8 25 (by kernel_rfl) (by kernel_rfl) (by kernel_rfl) ?_
   refine d_off 9 26 (by kernel_rfl) (by kernel_rfl) (by kernel_rfl) ?_
   refine d_off 10 27 (by kernel_rfl) (by kernel_rfl) (by kernel_rfl) ?_
   refine d_off 11 28 (by kernel_rfl) (by kernel_rfl) (by kernel_rfl) ?_
   refine d_off 12 29 (by kernel_rfl) (by kernel_rfl) (by kernel_rfl) ?_
   refine d_off 13 30 (by kernel_rfl) (by kernel_rfl) (by kernel_rfl) ?_
   refine d_off 14 31 (by kernel_rfl) (by kernel_rfl) (by kernel_rfl) ?_
   refine d_off 15 32 (by kernel_rfl) (by kernel_rfl) (by kernel_rfl) ?_
   refine d_off 16 33 (by kernel_rfl) (by kernel_rfl) (by kernel_rfl) ?_
   refine dp 17 34 (.bool false) ?_
   refine draw_end (by kernel_rfl) ?_
   refine ae [(0, .pointer (some ⟨c, 0, none⟩)), (1, .int .i64 line), (5, .slice v0_5a (List.length v0_5x) v0_5c), (7, .pointer (some ⟨b4_2, 0, none⟩)), (11, .slice cx.a0 (List.length cc.l) cx.c0), (12, .int .i64 (((List.length cc.l) : Nat) : Int)), (13, .int .i64 v0_13), (34, .bool false)] ?_
   refine at_then_normal ?_
   refine at_false (t := false) (x := C43 [1,1,0,1,0,0,1,1,0,0,1,1,0]) (y := C43 [1,1,0,1,0,0,1,1,0,0,1,1,1]) (o := .tmp 34) (by kernel_rfl) (by kernel_rfl) (by kernel_rfl) rfl ?_
   refine at_skip (by kernel_rfl) ?_
   refine at_in_normal ?_
   refine at_then_normal ?_
   refine ar (id := 7) 2 ?_
   obtain ⟨hc7_0_0, H⟩ := chkE H
   refine sr 39 (.int .i64 (v0_13 + (1 : Int))) (run_eq (v := .int .i64 (IntKind.i64.wrap (v0_13 + (1 : Int)))) (fun _ => by kernel_rfl) (by rw [inR.wrap hc7_0_0])) ?_
   refine sp 13 (.int .i64 (v0_13 + (1 : Int))) ?_
   refine ops_end ?_
   refine ae [(0, .pointer (some ⟨c, 0, none⟩)), (1, .int .i64 line), (5, .slice v0_5a (List.length v0_5x) v0_5c), (11, .slice cx.a0 (List.length cc.l) cx.c0), (12, .int .i64 (((List.length cc.l) : Nat) : Int)), (13, .int .i64 (v0_13 + (1 : Int)))] ?_
   refine at_round_normal ?_
   refine At.conv (Γ' := (CacheXA c cx cc) :: (Asn.own b4_2 (.cells #[.int .i64 x4_1.fwd, .int .i64 x4_1.back, .int .i64 x4_1.line, .int .i64 x4_1.used, .bool x4_1.dirty, .slice a4_1 (List.length x4_1.data) c4_1] 46 (0, 0))) :: (ImmI a4_1 x4_1.data) :: (RecsX (α := Ent) v0_5r v0_5a v0_5c v0_5x) :: Γ) (fun w hw => CacheXA.close (x := cx) (t := cc) (Sat.less (.take (.there (.there .here)) (.take (.there (.there .here)) (.take .here (.take .here (.take .here .refl))))) hw)) ?_
   exact at_roundR fuel1 [(0, .pointer (some ⟨c, 0, none⟩)), (1, .int .i64 line), (5, .slice v0_5a (List.length v0_5x) v0_5c), (11, .slice cx.a0 (List.length cc.l) cx.c0), (12, .int .i64 (((List.length cc.l) : Nat) : Int)), (13, .int .i64 (v0_13 + (1 : Int)))] ((RecsX (α := Ent) v0_5r v0_5a v0_5c v0_5x) :: (CacheXA c cx cc) :: Γ) (Nat.lt_succ_self _) ⟨by kernel_rfl, by kernel_rfl, by kernel_rfl, by kernel_rfl, by kernel_rfl, by kernel_rfl, trivial⟩ (fun w hw => (Sat.less (.take (.there (.there (.there .here))) (.take .here (.drop .here (.drop .here .refl)))) hw)) ⟨fuel1, v0_5x, v0_13 + (1 : Int), v0_5a, v0_5c, v0_5r, H, rfl, rfl, rfl⟩
 ·replace H := bifF H h1
  refine at_false (t := decide (v0_13 < (((List.length cc.l) : Nat) : Int))) (x := C43 [1,1,0,1,0,0,1,0,0]) (y := C43 [1,1,0,1,0,0,1,0,1]) (o := .tmp 14) (by kernel_rfl) (by kernel_rfl) (by kernel_rfl) h1 ?_
  refine at_exit (i := 0) (by kernel_rfl) ?_
  refine at_then_exit ?_
  refine at_then_exit ?_
  rw [csetS_k0] at H
  refine ae [(0, .pointer (some ⟨c, 0, none⟩)), (1, .int .i64 line), (5, .slice v0_5a (List.length v0_5x) v0_5c), (11, .slice cx.a0 (List.length cc.l) cx.c0), (12, .int .i64 (((List.length cc.l) : Nat) : Int)), (13, .int .i64 v0_13)] ?_
  refine At.conv (Γ' := (RecsX (α := Ent) v0_5r v0_5a v0_5c v0_5x) :: (CacheXA c cx cc) :: Γ) (fun w hw => (Sat.less (.take .here (.take .here .refl)) hw)) ?_
  refine at_in_here ?_
  refine at_then_normal ?_
  refine aq (x := C43 [1,1,1,0]) (y := C43 [1,1,1,1]) ?_
  refine ar (id := 8) 2 ?_
  refine sp 40 (.slice v0_5a (List.length v0_5x) v0_5c) ?_
  refine sp 4 (.slice v0_5a (List.length v0_5x) v0_5c) ?_
  refine ops_end ?_
  refine ae [(4, .slice v0_5a (List.length v0_5x) v0_5c)] ?_
  refine at_then_normal ?_
  refine at_ret (by kernel_rfl) ?_
  obtain rfl := someE H
  refine at_backR [.slice v0_5a (List.length v0_5x) v0_5c] ((RecsX (α := Ent) v0_5r v0_5a v0_5c v0_5x) :: (CacheXA c cx cc) :: Γ) (rs := [.tmp 4]) (by kernel_rfl) (.cons (.tmp (by kernel_rfl)) .nil) (fun w hw => (Sat.less (.take .here (.take .here .refl)) hw)) ?_
  exact ⟨v0_5a, v0_5c, v0_5r, rfl, rfl⟩
def vusedS (a : Ent) (b : Ent) : Option (Int) :=
 some (wr (a.used - b.used))
noncomputable def C45 (p : List Nat) : Code := codeAt (bodyOf Try.f45) p
set_option maxRecDepth 100000 in
set_option maxHeartbeats 8000000 in
theorem VUsedF_tr {W0 : World} {Γ : List Asn} (aa : Option Addr) (acap : Nat) (a : Ent) (ba : Option Addr) (bcap : Nat) (b : Ent) (hraa : Reads W0 Γ aa (ints a.data)) (hrba : Reads W0 Γ ba (ints b.data)) (y : Int) (H : vusedS a b = some y) : Tr Try.prog 45 #[.agg #[.int .i64 a.fwd, .int .i64 a.back, .int .i64 a.line, .int .i64 a.used, .bool a.dirty, .slice aa (List.length a.data) acap], .agg #[.int .i64 b.fwd, .int .i64 b.back, .int .i64 b.line, .int .i64 b.used, .bool b.dirty, .slice ba (List.length b.data) bcap]] W0 (Γ) (fun r Δ => r = .int .i64 y ∧ Δ = Γ) := by
 unfold vusedS at H
 refine Tr.enter (fn := Try.f45) (c := C45 []) (args := [.agg #[.int .i64 a.fwd, .int .i64 a.back, .int .i64 a.line, .int .i64 a.used, .bool a.dirty, .slice aa (List.length a.data) acap], .agg #[.int .i64 b.fwd, .int .i64 b.back, .int .i64 b.line, .int .i64 b.used, .bool b.dirty, .slice ba (List.length b.data) bcap]]) 10 Try.func45 (by kernel_rfl) (by kernel_rfl) ?_
 refine ae [(0, .agg #[.int .i64 a.fwd, .int .i64 a.back, .int .i64 a.line, .int .i64 a.used, .bool a.dirty, .slice aa (List.length a.data) acap]), (1, .agg #[.int .i64 b.fwd, .int .i64 b.back, .int .i64 b.line, .int .i64 b.used, .bool b.dirty, .slice ba (List.length b.data) bcap])] ?_
 refine aq (x := C45 [0]) (y := C45 [1]) ?_
 refine ar (id := 0) 3 ?_
 refine s_step 2 (by kernel_rfl) (by kernel_rfl) (st_new (T := 46) (cells := #[.int .i64 a.fwd, .int .i64 a.back, .int .i64 a.line, .int .i64 a.used, .bool a.dirty, .slice aa (List.length a.data) acap]) (fun a => .pointer (some a)) (fun _ => by kernel_rfl)) ?_
 rintro _ _ ⟨b0_0, rfl, rfl⟩
 refine s_step 3 (by kernel_rfl) (by kernel_rfl) (st_new (T := 46) (cells := #[.int .i64 b.fwd, .int .i64 b.back, .int .i64 b.line, .int .i64 b.used, .bool b.dirty, .slice ba (List.length b.data) bcap]) (fun a => .pointer (some a)) (fun _ => by kernel_rfl)) ?_
 rintro _ _ ⟨b0_1, rfl, rfl⟩
 refine sp 4 (.int .i64 (0)) ?_
 refine ops_end ?_
 refine ae [(2, .pointer (some ⟨b0_0, 0, none⟩)), (3, .pointer (some ⟨b0_1, 0, none⟩))] ?_
 refine at_then_normal ?_
 refine aq (x := C45 [1,0]) (y := C45 [1,1]) ?_
 refine ar (id := 1) 6 ?_
 refine sp 5 (.pointer (some ⟨b0_0, 3, none⟩)) ?_
 refine sl 6 (.int .i64 a.used) (load1 (off := 3) (fun _ => by kernel_rfl) (holds_own (.there .here)) (by kernel_rfl)) ?_
 refine sp 7 (.pointer (some ⟨b0_1, 3, none⟩)) ?_
 refine sl 8 (.int .i64 b.used) (load1 (off := 3) (fun _ => by kernel_rfl) (holds_own .here) (by kernel_rfl)) ?_
 refine sp 9 (.int .i64 (wr (a.used - b.used))) ?_
 refine sp 4 (.int .i64 (wr (a.used - b.used))) ?_
 refine ops_end ?_
 refine ae [(4, .int .i64 (wr (a.used - b.used)))] ?_
 refine at_then_normal ?_
 refine at_ret (by kernel_rfl) ?_
 obtain rfl := someE H
 refine at_backR [.int .i64 (wr (a.used - b.used))] (Γ) (rs := [.tmp 4]) (by kernel_rfl) (.cons (.tmp (by kernel_rfl)) .nil) (fun w hw => (Sat.less (.drop .here (.drop .here .refl)) hw)) ?_
 exact ⟨rfl, rfl⟩
def minS_k0 (e0_6 : Int) (e0_b3_3_0 : Int) (e0_b3_3_1 : Int) (e0_b3_3_2 : Int) (e0_b3_3_3 : Int) (e0_b3_3_4 : Bool) (e0_b3_3_5x : List Int) : Option (Ent) :=
 some (⟨e0_b3_3_0, e0_b3_3_1, e0_b3_3_2, e0_b3_3_3, e0_b3_3_4, e0_b3_3_5x⟩ : Ent)
def minS_l0 (x : List Ent) (k0 : Int → Int → Int → Int → Int → Bool → (List Int) → Option (Ent)) : Nat → Int → Int → Int → Int → Int → Bool → (List Int) → Option (Ent)
 | 0 => fun _ _ _ _ _ _ _ => none
 | m + 1 => fun v0_6 v0_b3_3_0 v0_b3_3_1 v0_b3_3_2 v0_b3_3_3 v0_b3_3_4 v0_b3_3_5x => (bif decide (v0_6 < (((List.length x) : Nat) : Int)) then chk (0 ≤ v0_6 ∧ v0_6 < ((List.length x : Nat) : Int)) (letP (nthT x v0_6) fun x7_4 => (vusedS x7_4 (⟨v0_b3_3_0, v0_b3_3_1, v0_b3_3_2, v0_b3_3_3, v0_b3_3_4, v0_b3_3_5x⟩ : Ent)).bind fun y7_6 => (bif decide (y7_6 < (0 : Int)) then chk (0 ≤ v0_6 ∧ v0_6 < ((List.length x : Nat) : Int)) (letP (nthT x v0_6) fun x8_3 => chk (inR (v0_6 + (1 : Int))) ((minS_l0 x k0 m) (v0_6 + (1 : Int)) x8_3.fwd x8_3.back x8_3.line x8_3.used x8_3.dirty x8_3.data)) else chk (inR (v0_6 + (1 : Int))) ((minS_l0 x k0 m) (v0_6 + (1 : Int)) v0_b3_3_0 v0_b3_3_1 v0_b3_3_2 v0_b3_3_3 v0_b3_3_4 v0_b3_3_5x))) else k0 v0_6 v0_b3_3_0 v0_b3_3_1 v0_b3_3_2 v0_b3_3_3 v0_b3_3_4 v0_b3_3_5x)
def minS (x : List Ent) : Option (Ent) :=
 (bif decide ((((List.length x) : Nat) : Int) < (1 : Int)) then none else chk (0 ≤ (0 : Int) ∧ (0 : Int) < ((List.length x : Nat) : Int)) (letP (nthT x (0 : Int)) fun x3_2 => minS_l0 x (minS_k0 ) 64 1 x3_2.fwd x3_2.back x3_2.line x3_2.used x3_2.dirty x3_2.data))
noncomputable def C44 (p : List Nat) : Code := codeAt (bodyOf Try.f44) p
set_option maxRecDepth 100000 in
set_option maxHeartbeats 8000000 in
theorem MinF_tr {W0 : World} {Γ : List Asn} (xa : Option Addr) (xcap : Nat) (xrows : List (List Value)) (x : List Ent) (hrx : RecRd W0 Γ xa xrows x) (y : Ent) (H : minS x = some y) : Tr Try.prog 44 #[.slice xa (List.length x) xcap, .func (.func 45) #[] #[]] W0 (Γ) (fun r Δ => ∃ (a0_0 : Option Addr) (c0_0 : Nat), r = .agg #[.int .i64 y.fwd, .int .i64 y.back, .int .i64 y.line, .int .i64 y.used, .bool y.dirty, .slice a0_0 (List.length y.data) c0_0] ∧ Δ = (ImmI a0_0 y.data) :: Γ) := by
 unfold minS at H
 refine Tr.enter (fn := Try.f44) (c := C44 []) (args := [.slice xa (List.length x) xcap, .func (.func 45) #[] #[]]) 33 Try.func44 (by kernel_rfl) (by kernel_rfl) ?_
 refine ae [(0, .slice xa (List.length x) xcap), (1, .func (.func 45) #[] #[])] ?_
 refine aq (x := C44 [0]) (y := C44 [1]) ?_
 refine ar (id := 0) 1 ?_
 refine s_step 4 (by kernel_rfl) (by kernel_rfl) (st_new (T := 46) (cells := #[.int .i64 (0), .int .i64 (0), .int .i64 (0), .int .i64 (0), .bool false, .slice none 0 0]) (fun a => .pointer (some a)) (fun _ => by kernel_rfl)) ?_
 rintro _ _ ⟨b0_0, rfl, rfl⟩
 refine ops_end ?_
 refine ae [(0, .slice xa (List.length x) xcap), (1, .func (.func 45) #[] #[]), (4, .pointer (some ⟨b0_0, 0, none⟩))] ?_
 refine at_then_normal ?_
 refine aq (x := C44 [1,0]) (y := C44 [1,1]) ?_
 refine aq (x := C44 [1,0,0]) (y := C44 [1,0,1]) ?_
 refine ar (id := 1) 3 ?_
 refine sp 7 (.slice xa (List.length x) xcap) ?_
 refine sp 8 (.int .i64 (((List.length x) : Nat) : Int)) ?_
 refine sp 9 (.bool (decide ((((List.length x) : Nat) : Int) < (1 : Int)))) ?_
 refine ops_end ?_
 refine ae [(0, .slice xa (List.length x) xcap), (1, .func (.func 45) #[] #[]), (4, .pointer (some ⟨b0_0, 0, none⟩)), (9, .bool (decide ((((List.length x) : Nat) : Int) < (1 : Int))))] ?_
 refine at_then_normal ?_
 rcases Bool.eq_false_or_eq_true (decide ((((List.length x) : Nat) : Int) < (1 : Int))) with h1 | h1
 ·replace H := bifT H h1
  refine at_true (t := decide ((((List.length x) : Nat) : Int) < (1 : Int))) (x := C44 [1,0,1,0]) (y := C44 [1,0,1,1]) (o := .tmp 9) (by kernel_rfl) (by kernel_rfl) (by kernel_rfl) h1 ?_
  refine ar (id := 2) 2 ?_
  exact (noneE H).elim
 ·replace H := bifF H h1
  refine at_false (t := decide ((((List.length x) : Nat) : Int) < (1 : Int))) (x := C44 [1,0,1,0]) (y := C44 [1,0,1,1]) (o := .tmp 9) (by kernel_rfl) (by kernel_rfl) (by kernel_rfl) h1 ?_
  refine at_skip (by kernel_rfl) ?_
  refine at_then_normal ?_
  refine aq (x := C44 [1,1,0]) (y := C44 [1,1,1]) ?_
  refine ar (id := 3) 5 ?_
  refine sp 11 (.slice xa (List.length x) xcap) ?_
  obtain ⟨hc3_1_0, H⟩ := chkE H
  refine rd_at (RecRd.less (.drop .here .refl) hrx) (by have := hc3_1_0; omega) ?_
  intro bb1 oo1 ha1
  refine sr 12 (.pointer (some ⟨bb1, oo1 + ((((0 : Int)).toNat) * 6 + 0), none⟩)) (index_at (t := 82) (sz := 6) (E := 46) (a := xa) (m := (List.length x)) (c := xcap) (b := bb1) (off := oo1) (i := ((0 : Int)).toNat) (tinfo 46) (fun _ => by kernel_rfl) (by kernel_rfl) (by kernel_rfl) (by kernel_rfl) ha1 (idx_cast hc3_1_0) (idx_nat hc3_1_0) rfl) ?_
  obtain ⟨x3_2, hx3_2, H⟩ := letE H
  refine rd_get (RecRd.less (.drop .here .refl) hrx) hc3_1_0 ?_
  intro a3_2 c3_2 hrx3_2
  rw [hx3_2] at hrx3_2 ⊢
  refine sl 13 (.agg #[.int .i64 x3_2.fwd, .int .i64 x3_2.back, .int .i64 x3_2.line, .int .i64 x3_2.used, .bool x3_2.dirty, .slice a3_2 (List.length x3_2.data) c3_2]) (loadP_at (m := 6) (k := 6) (vs := [.int .i64 x3_2.fwd, .int .i64 x3_2.back, .int .i64 x3_2.line, .int .i64 x3_2.used, .bool x3_2.dirty, .slice a3_2 (List.length x3_2.data) c3_2]) (off := oo1) (i := ((0 : Int)).toNat) (j := 0) (fun _ => by kernel_rfl) rfl rfl (fun q v hq => rd_row (j := 0 + q) (RecRd.less (.drop .here (.drop .here .refl)) hrx) ha1 hrx3_2 (rowP (j := 0) (m := 6) (by kernel_rfl) hq))) ?_
  refine s_step 5 (by kernel_rfl) (by kernel_rfl) (st_new (T := 46) (cells := #[.int .i64 (0), .int .i64 (0), .int .i64 (0), .int .i64 (0), .bool false, .slice none 0 0]) (fun a => .pointer (some a)) (fun _ => by kernel_rfl)) ?_
  rintro _ _ ⟨b3_3, rfl, rfl⟩
  refine s_do (by kernel_rfl) (by kernel_rfl) (st_store (off := 0) (vs := [.int .i64 x3_2.fwd, .int .i64 x3_2.back, .int .i64 x3_2.line, .int .i64 x3_2.used, .bool x3_2.dirty, .slice a3_2 (List.length x3_2.data) c3_2]) (c' := #[.int .i64 x3_2.fwd, .int .i64 x3_2.back, .int .i64 x3_2.line, .int .i64 x3_2.used, .bool x3_2.dirty, .slice a3_2 (List.length x3_2.data) c3_2]) (fun _ => by kernel_rfl) .here (by kernel_rfl) (by kernel_rfl) (by kernel_rfl)) ?_
  rintro _ _ ⟨rfl, rfl⟩
  refine ops_end ?_
  refine ae [(0, .slice xa (List.length x) xcap), (1, .func (.func 45) #[] #[]), (4, .pointer (some ⟨b0_0, 0, none⟩)), (5, .pointer (some ⟨b3_3, 0, none⟩))] ?_
  refine at_then_normal ?_
  refine aq (x := C44 [1,1,1,0]) (y := C44 [1,1,1,1]) ?_
  refine aq (x := C44 [1,1,1,0,0]) (y := C44 [1,1,1,0,1]) ?_
  refine ar (id := 4) 1 ?_
  refine sp 6 (.int .i64 (1)) ?_
  refine ops_end ?_
  refine ae [(0, .slice xa (List.length x) xcap), (1, .func (.func 45) #[] #[]), (4, .pointer (some ⟨b0_0, 0, none⟩)), (5, .pointer (some ⟨b3_3, 0, none⟩)), (6, .int .i64 (1))] ?_
  refine at_then_normal ?_
  refine at_block (i := 0) (x := C44 [1,1,1,0,1,0]) (by kernel_rfl) ?_
  refine At.conv (Γ' := (ImmI a3_2 x3_2.data) :: (Asn.own b3_3 (.cells #[.int .i64 x3_2.fwd, .int .i64 x3_2.back, .int .i64 x3_2.line, .int .i64 x3_2.used, .bool x3_2.dirty, .slice a3_2 (List.length x3_2.data) c3_2] 46 (0, 0))) :: (Asn.own b0_0 (.cells #[.int .i64 (0), .int .i64 (0), .int .i64 (0), .int .i64 (0), .bool false, .slice none 0 0] 46 (0, 0))) :: Γ) (fun w hw => (Sat.less (.take (.there .here) (.take .here (.take .here .refl))) hw)) ?_
  refine at_loopR (x := C44 [1,1,1,0,1,0,0]) (fun mm ff ΔΔ => ∃ (fuel : Nat) (v0_6 : Int) (v0_b3_3_0 : Int) (v0_b3_3_1 : Int) (v0_b3_3_2 : Int) (v0_b3_3_3 : Int) (v0_b3_3_4 : Bool) (v0_b3_3_5x : List Int) (v0_b3_3_5a : Option Addr) (v0_b3_3_5c : Nat), minS_l0 x (minS_k0 ) fuel v0_6 v0_b3_3_0 v0_b3_3_1 v0_b3_3_2 v0_b3_3_3 v0_b3_3_4 v0_b3_3_5x = some y ∧ fuel = mm ∧ ff = [(0, .slice xa (List.length x) xcap), (1, .func (.func 45) #[] #[]), (4, .pointer (some ⟨b0_0, 0, none⟩)), (5, .pointer (some ⟨b3_3, 0, none⟩)), (6, .int .i64 v0_6)] ∧ (ImmI v0_b3_3_5a v0_b3_3_5x) :: (Asn.own b3_3 (.cells #[.int .i64 v0_b3_3_0, .int .i64 v0_b3_3_1, .int .i64 v0_b3_3_2, .int .i64 v0_b3_3_3, .bool v0_b3_3_4, .slice v0_b3_3_5a (List.length v0_b3_3_5x) v0_b3_3_5c] 46 (0, 0))) :: (Asn.own b0_0 (.cells #[.int .i64 (0), .int .i64 (0), .int .i64 (0), .int .i64 (0), .bool false, .slice none 0 0] 46 (0, 0))) :: Γ = ΔΔ) (64) (by kernel_rfl) [(0, .slice xa (List.length x) xcap), (1, .func (.func 45) #[] #[]), (4, .pointer (some ⟨b0_0, 0, none⟩)), (5, .pointer (some ⟨b3_3, 0, none⟩)), (6, .int .i64 1)] ⟨by kernel_rfl, by kernel_rfl, by kernel_rfl, by kernel_rfl, by kernel_rfl, trivial⟩ ⟨64, 1, x3_2.fwd, x3_2.back, x3_2.line, x3_2.used, x3_2.dirty, x3_2.data, a3_2, c3_2, H, rfl, rfl, rfl⟩ ?_
  rintro _ _ _ ⟨fuel1, v0_6, v0_b3_3_0, v0_b3_3_1, v0_b3_3_2, v0_b3_3_3, v0_b3_3_4, v0_b3_3_5x, v0_b3_3_5a, v0_b3_3_5c, H, rfl, rfl, rfl⟩
  rcases fuel1 with _ | fuel1
  ·exact (noneE H).elim
  rw [minS_l0] at H
  refine aq (x := C44 [1,1,1,0,1,0,0,0]) (y := C44 [1,1,1,0,1,0,0,1]) ?_
  refine aq (x := C44 [1,1,1,0,1,0,0,0,0]) (y := C44 [1,1,1,0,1,0,0,0,1]) ?_
  refine ar (id := 5) 4 ?_
  refine sp 14 (.int .i64 v0_6) ?_
  refine sp 15 (.slice xa (List.length x) xcap) ?_
  refine sp 16 (.int .i64 (((List.length x) : Nat) : Int)) ?_
  refine sp 17 (.bool (decide (v0_6 < (((List.length x) : Nat) : Int)))) ?_
  refine ops_end ?_
  refine ae [(0, .slice xa (List.length x) xcap), (1, .func (.func 45) #[] #[]), (4, .pointer (some ⟨b0_0, 0, none⟩)), (5, .pointer (some ⟨b3_3, 0, none⟩)), (6, .int .i64 v0_6), (17, .bool (decide (v0_6 < (((List.length x) : Nat) : Int))))] ?_
  refine at_then_normal ?_
  rcases Bool.eq_false_or_eq_true (decide (v0_6 < (((List.length x) : Nat) : Int))) with h2 | h2
  ·replace H := bifT H h2
   refine at_true (t := decide (v0_6 < (((List.length x) : Nat) : Int))) (x := C44 [1,1,1,0,1,0,0,0,1,0]) (y := C44 [1,1,1,0,1,0,0,0,1,1]) (o := .tmp 17) (by kernel_rfl) (by kernel_rfl) (by kernel_rfl) h2 ?_
   refine at_skip (by kernel_rfl) ?_
   refine at_then_normal ?_
   refine aq (x := C44 [1,1,1,0,1,0,0,1,0]) (y := C44 [1,1,1,0,1,0,0,1,1]) ?_
   refine at_block (i := 1) (x := C44 [1,1,1,0,1,0,0,1,0,0]) (by kernel_rfl) ?_
   refine aq (x := C44 [1,1,1,0,1,0,0,1,0,0,0]) (y := C44 [1,1,1,0,1,0,0,1,0,0,1]) ?_
   refine at_region_draw (id := 7) (by kernel_rfl) (by kernel_rfl) ?_
   refine dp 0 20 (.func (.func 45) #[] #[]) ?_
   refine dp 1 21 (.slice xa (List.length x) xcap) ?_
   refine dp 2 22 (.int .i64 v0_6) ?_
   obtain ⟨hc7_3_0, H⟩ := chkE H
   refine rd_at_draw (RecRd.less (.drop .here (.drop .here (.drop .here .refl))) hrx) (by have := hc7_3_0; omega) ?_
   intro bb2 oo2 ha2
   refine d_pure 3 23 (.pointer (some ⟨bb2, oo2 + (((v0_6).toNat) * 6 + 0), none⟩)) (by kernel_rfl) (by kernel_rfl) (by kernel_rfl) (index_at (t := 82) (sz := 6) (E := 46) (a := xa) (m := (List.length x)) (c := xcap) (b := bb2) (off := oo2) (i := (v0_6).toNat) (tinfo 46) (fun _ => by kernel_rfl) (by kernel_rfl) (by kernel_rfl) (by kernel_rfl) ha2 (idx_cast hc7_3_0) (idx_nat hc7_3_0) rfl) ?_
   obtain ⟨x7_4, hx7_4, H⟩ := letE H
   refine rd_get_draw (RecRd.less (.drop .here (.drop .here (.drop .here .refl))) hrx) hc7_3_0 ?_
   intro a7_4 c7_4 hrx7_4
   rw [hx7_4] at hrx7_4 ⊢
   refine dl 4 24 (.agg #[.int .i64 x7_4.fwd, .int .i64 x7_4.back, .int .i64 x7_4.line, .int .i64 x7_4.used, .bool x7_4.dirty, .slice a7_4 (List.length x7_4.data) c7_4]) (loadP_at (m := 6) (k := 6) (vs := [.int .i64 x7_4.fwd, .int .i64 x7_4.back, .int .i64 x7_4.line, .int .i64 x7_4.used, .bool x7_4.dirty, .slice a7_4 (List.length x7_4.data) c7_4]) (off := oo2) (i := (v0_6).toNat) (j := 0) (fun _ => by kernel_rfl) rfl rfl (fun q v hq => rd_row (j := 0 + q) (RecRd.less (.drop .here (.drop .here (.drop .here (.drop .here .refl)))) hrx) ha2 hrx7_4 (rowP (j := 0) (m := 6) (by kernel_rfl) hq))) ?_
   refine dl 5 25 (.agg #[.int .i64 v0_b3_3_0, .int .i64 v0_b3_3_1, .int .i64 v0_b3_3_2, .int .i64 v0_b3_3_3, .bool v0_b3_3_4, .slice v0_b3_3_5a (List.length v0_b3_3_5x) v0_b3_3_5c]) (loadN (off := 0) (vs := [.int .i64 v0_b3_3_0, .int .i64 v0_b3_3_1, .int .i64 v0_b3_3_2, .int .i64 v0_b3_3_3, .bool v0_b3_3_4, .slice v0_b3_3_5a (List.length v0_b3_3_5x) v0_b3_3_5c]) 6 (fun _ => by kernel_rfl) (holds_own (.there (.there .here))) rfl (by exact ⟨rfl, rfl, rfl, rfl, rfl, rfl, trivial⟩)) ?_
   obtain ⟨y7_6, hy7_6, H⟩ := bindE H
   refine d_call 6 26 [0, 4, 5, 3, 1, 2] [] [] 45 #[.agg #[.int .i64 x7_4.fwd, .int .i64 x7_4.back, .int .i64 x7_4.line, .int .i64 x7_4.used, .bool x7_4.dirty, .slice a7_4 (List.length x7_4.data) c7_4], .agg #[.int .i64 v0_b3_3_0, .int .i64 v0_b3_3_1, .int .i64 v0_b3_3_2, .int .i64 v0_b3_3_3, .bool v0_b3_3_4, .slice v0_b3_3_5a (List.length v0_b3_3_5x) v0_b3_3_5c]] (by kernel_rfl) (by kernel_rfl) (by kernel_rfl) (fun _ => by kernel_rfl) (VUsedF_tr a7_4 c7_4 x7_4 v0_b3_3_5a v0_b3_3_5c (⟨v0_b3_3_0, v0_b3_3_1, v0_b3_3_2, v0_b3_3_3, v0_b3_3_4, v0_b3_3_5x⟩ : Ent) (ImmR.reads (k := 1) .here) (ImmR.reads (k := 1) (.there .here)) y7_6 hy7_6) ?_
   rintro _ _ ⟨rfl, rfl⟩
   refine ⟨stable_nil, ?_⟩
   refine dp 7 27 (.bool (decide (y7_6 < (0 : Int)))) ?_
   refine draw_end (by kernel_rfl) ?_
   refine ae [(0, .slice xa (List.length x) xcap), (1, .func (.func 45) #[] #[]), (4, .pointer (some ⟨b0_0, 0, none⟩)), (5, .pointer (some ⟨b3_3, 0, none⟩)), (6, .int .i64 v0_6), (27, .bool (decide (y7_6 < (0 : Int))))] ?_
   refine at_then_normal ?_
   rcases Bool.eq_false_or_eq_true (decide (y7_6 < (0 : Int))) with h3 | h3
   ·replace H := bifT H h3
    refine at_true (t := decide (y7_6 < (0 : Int))) (x := C44 [1,1,1,0,1,0,0,1,0,0,1,0]) (y := C44 [1,1,1,0,1,0,0,1,0,0,1,1]) (o := .tmp 27) (by kernel_rfl) (by kernel_rfl) (by kernel_rfl) h3 ?_
    refine ar (id := 8) 5 ?_
    refine sp 28 (.slice xa (List.length x) xcap) ?_
    refine sp 29 (.int .i64 v0_6) ?_
    obtain ⟨hc8_2_0, H⟩ := chkE H
    refine rd_at (RecRd.less (.drop .here (.drop .here (.drop .here (.drop .here .refl)))) hrx) (by have := hc8_2_0; omega) ?_
    intro bb3 oo3 ha3
    refine sr 30 (.pointer (some ⟨bb3, oo3 + (((v0_6).toNat) * 6 + 0), none⟩)) (index_at (t := 82) (sz := 6) (E := 46) (a := xa) (m := (List.length x)) (c := xcap) (b := bb3) (off := oo3) (i := (v0_6).toNat) (tinfo 46) (fun _ => by kernel_rfl) (by kernel_rfl) (by kernel_rfl) (by kernel_rfl) ha3 (idx_cast hc8_2_0) (idx_nat hc8_2_0) rfl) ?_
    obtain ⟨x8_3, hx8_3, H⟩ := letE H
    refine rd_get (RecRd.less (.drop .here (.drop .here (.drop .here (.drop .here .refl)))) hrx) hc8_2_0 ?_
    intro a8_3 c8_3 hrx8_3
    rw [hx8_3] at hrx8_3 ⊢
    refine sl 31 (.agg #[.int .i64 x8_3.fwd, .int .i64 x8_3.back, .int .i64 x8_3.line, .int .i64 x8_3.used, .bool x8_3.dirty, .slice a8_3 (List.length x8_3.data) c8_3]) (loadP_at (m := 6) (k := 6) (vs := [.int .i64 x8_3.fwd, .int .i64 x8_3.back, .int .i64 x8_3.line, .int .i64 x8_3.used, .bool x8_3.dirty, .slice a8_3 (List.length x8_3.data) c8_3]) (off := oo3) (i := (v0_6).toNat) (j := 0) (fun _ => by kernel_rfl) rfl rfl (fun q v hq => rd_row (j := 0 + q) (RecRd.less (.drop .here (.drop .here (.drop .here (.drop .here (.drop .here .refl))))) hrx) ha3 hrx8_3 (rowP (j := 0) (m := 6) (by kernel_rfl) hq))) ?_
    refine s_do (by kernel_rfl) (by kernel_rfl) (st_store (off := 0) (vs := [.int .i64 x8_3.fwd, .int .i64 x8_3.back, .int .i64 x8_3.line, .int .i64 x8_3.used, .bool x8_3.dirty, .slice a8_3 (List.length x8_3.data) c8_3]) (c' := #[.int .i64 x8_3.fwd, .int .i64 x8_3.back, .int .i64 x8_3.line, .int .i64 x8_3.used, .bool x8_3.dirty, .slice a8_3 (List.length x8_3.data) c8_3]) (fun _ => by kernel_rfl) (.there (.there (.there .here))) (by kernel_rfl) (by kernel_rfl) (by kernel_rfl)) ?_
    rintro _ _ ⟨rfl, rfl⟩
    refine ops_end ?_
    refine ae [(0, .slice xa (List.length x) xcap), (1, .func (.func 45) #[] #[]), (4, .pointer (some ⟨b0_0, 0, none⟩)), (5, .pointer (some ⟨b3_3, 0, none⟩)), (6, .int .i64 v0_6)] ?_
    refine at_in_normal ?_
    refine at_then_normal ?_
    refine ar (id := 6) 3 ?_
    refine sp 18 (.int .i64 v0_6) ?_
    obtain ⟨hc6_1_0, H⟩ := chkE H
    refine sr 19 (.int .i64 (v0_6 + (1 : Int))) (run_eq (v := .int .i64 (IntKind.i64.wrap (v0_6 + (1 : Int)))) (fun _ => by kernel_rfl) (by rw [inR.wrap hc6_1_0])) ?_
    refine sp 6 (.int .i64 (v0_6 + (1 : Int))) ?_
    refine ops_end ?_
    refine ae [(0, .slice xa (List.length x) xcap), (1, .func (.func 45) #[] #[]), (4, .pointer (some ⟨b0_0, 0, none⟩)), (5, .pointer (some ⟨b3_3, 0, none⟩)), (6, .int .i64 (v0_6 + (1 : Int)))] ?_
    refine at_round_normal ?_
    exact at_roundR fuel1 [(0, .slice xa (List.length x) xcap), (1, .func (.func 45) #[] #[]), (4, .pointer (some ⟨b0_0, 0, none⟩)), (5, .pointer (some ⟨b3_3, 0, none⟩)), (6, .int .i64 (v0_6 + (1 : Int)))] ((ImmI a8_3 x8_3.data) :: (Asn.own b3_3 (.cells #[.int .i64 x8_3.fwd, .int .i64 x8_3.back, .int .i64 x8_3.line, .int .i64 x8_3.used, .bool x8_3.dirty, .slice a8_3 (List.length x8_3.data) c8_3] 46 (0, 0))) :: (Asn.own b0_0 (.cells #[.int .i64 (0), .int .i64 (0), .int .i64 (0), .int .i64 (0), .bool false, .slice none 0 0] 46 (0, 0))) :: Γ) (Nat.lt_succ_self _) ⟨by kernel_rfl, by kernel_rfl, by kernel_rfl, by kernel_rfl, by kernel_rfl, trivial⟩ (fun w hw => (Sat.less (.take (.there .here) (.take .here (.take (.there (.there .here)) (.drop .here (.drop .here .refl))))) hw)) ⟨fuel1, v0_6 + (1 : Int), x8_3.fwd, x8_3.back, x8_3.line, x8_3.used, x8_3.dirty, x8_3.data, a8_3, c8_3, H, rfl, rfl, rfl⟩
   ·replace H := bifF H h3
    refine at_false (t := decide (y7_6 < (0 : Int))) (x := C44 [1,1,1,0,1,0,0,1,0,0,1,0]) (y := C44 [1,1,1,0,1,0,0,1,0,0,1,1]) (o := .tmp 27) (by kernel_rfl) (by kernel_rfl) (by kernel_rfl) h3 ?_
    refine at_skip (by kernel_rfl) ?_
    refine at_in_normal ?_
    refine at_then_normal ?_
    refine ar (id := 6) 3 ?_
    refine sp 18 (.int .i64 v0_6) ?_
    obtain ⟨hc6_1_0, H⟩ := chkE H
    refine sr 19 (.int .i64 (v0_6 + (1 : Int))) (run_eq (v := .int .i64 (IntKind.i64.wrap (v0_6 + (1 : Int)))) (fun _ => by kernel_rfl) (by rw [inR.wrap hc6_1_0])) ?_
    refine sp 6 (.int .i64 (v0_6 + (1 : Int))) ?_
    refine ops_end ?_
    refine ae [(0, .slice xa (List.length x) xcap), (1, .func (.func 45) #[] #[]), (4, .pointer (some ⟨b0_0, 0, none⟩)), (5, .pointer (some ⟨b3_3, 0, none⟩)), (6, .int .i64 (v0_6 + (1 : Int)))] ?_
    refine at_round_normal ?_
    exact at_roundR fuel1 [(0, .slice xa (List.length x) xcap), (1, .func (.func 45) #[] #[]), (4, .pointer (some ⟨b0_0, 0, none⟩)), (5, .pointer (some ⟨b3_3, 0, none⟩)), (6, .int .i64 (v0_6 + (1 : Int)))] ((ImmI v0_b3_3_5a v0_b3_3_5x) :: (Asn.own b3_3 (.cells #[.int .i64 v0_b3_3_0, .int .i64 v0_b3_3_1, .int .i64 v0_b3_3_2, .int .i64 v0_b3_3_3, .bool v0_b3_3_4, .slice v0_b3_3_5a (List.length v0_b3_3_5x) v0_b3_3_5c] 46 (0, 0))) :: (Asn.own b0_0 (.cells #[.int .i64 (0), .int .i64 (0), .int .i64 (0), .int .i64 (0), .bool false, .slice none 0 0] 46 (0, 0))) :: Γ) (Nat.lt_succ_self _) ⟨by kernel_rfl, by kernel_rfl, by kernel_rfl, by kernel_rfl, by kernel_rfl, trivial⟩ (fun w hw => (Sat.less (.take (.there .here) (.take (.there .here) (.take (.there .here) (.drop .here .refl)))) hw)) ⟨fuel1, v0_6 + (1 : Int), v0_b3_3_0, v0_b3_3_1, v0_b3_3_2, v0_b3_3_3, v0_b3_3_4, v0_b3_3_5x, v0_b3_3_5a, v0_b3_3_5c, H, rfl, rfl, rfl⟩
  ·replace H := bifF H h2
   refine at_false (t := decide (v0_6 < (((List.length x) : Nat) : Int))) (x := C44 [1,1,1,0,1,0,0,0,1,0]) (y := C44 [1,1,1,0,1,0,0,0,1,1]) (o := .tmp 17) (by kernel_rfl) (by kernel_rfl) (by kernel_rfl) h2 ?_
   refine at_exit (i := 0) (by kernel_rfl) ?_
   refine at_then_exit ?_
   refine at_then_exit ?_
   rw [minS_k0] at H
   refine ae [(0, .slice xa (List.length x) xcap), (1, .func (.func 45) #[] #[]), (4, .pointer (some ⟨b0_0, 0, none⟩)), (5, .pointer (some ⟨b3_3, 0, none⟩)), (6, .int .i64 v0_6)] ?_
   refine At.conv (Γ' := (ImmI v0_b3_3_5a v0_b3_3_5x) :: (Asn.own b3_3 (.cells #[.int .i64 v0_b3_3_0, .int .i64 v0_b3_3_1, .int .i64 v0_b3_3_2, .int .i64 v0_b3_3_3, .bool v0_b3_3_4, .slice v0_b3_3_5a (List.length v0_b3_3_5x) v0_b3_3_5c] 46 (0, 0))) :: (Asn.own b0_0 (.cells #[.int .i64 (0), .int .i64 (0), .int .i64 (0), .int .i64 (0), .bool false, .slice none 0 0] 46 (0, 0))) :: Γ) (fun w hw => (Sat.less (.take .here (.take .here (.take .here .refl))) hw)) ?_
   refine at_in_here ?_
   refine at_then_normal ?_
   refine aq (x := C44 [1,1,1,1,0]) (y := C44 [1,1,1,1,1]) ?_
   refine ar (id := 9) 2 ?_
   refine sl 32 (.agg #[.int .i64 v0_b3_3_0, .int .i64 v0_b3_3_1, .int .i64 v0_b3_3_2, .int .i64 v0_b3_3_3, .bool v0_b3_3_4, .slice v0_b3_3_5a (List.length v0_b3_3_5x) v0_b3_3_5c]) (loadN (off := 0) (vs := [.int .i64 v0_b3_3_0, .int .i64 v0_b3_3_1, .int .i64 v0_b3_3_2, .int .i64 v0_b3_3_3, .bool v0_b3_3_4, .slice v0_b3_3_5a (List.length v0_b3_3_5x) v0_b3_3_5c]) 6 (fun _ => by kernel_rfl) (holds_own (.there .here)) rfl (by exact ⟨rfl, rfl, rfl, rfl, rfl, rfl, trivial⟩)) ?_
   refine s_do (by kernel_rfl) (by kernel_rfl) (st_store (off := 0) (vs := [.int .i64 v0_b3_3_0, .int .i64 v0_b3_3_1, .int .i64 v0_b3_3_2, .int .i64 v0_b3_3_3, .bool v0_b3_3_4, .slice v0_b3_3_5a (List.length v0_b3_3_5x) v0_b3_3_5c]) (c' := #[.int .i64 v0_b3_3_0, .int .i64 v0_b3_3_1, .int .i64 v0_b3_3_2, .int .i64 v0_b3_3_3, .bool v0_b3_3_4, .slice v0_b3_3_5a (List.length v0_b3_3_5x) v0_b3_3_5c]) (fun _ => by kernel_rfl) (.there (.there .here)) (by kernel_rfl) (by kernel_rfl) (by kernel_rfl)) ?_
   rintro _ _ ⟨rfl, rfl⟩
   refine ops_end ?_
   refine ae [(4, .pointer (some ⟨b0_0, 0, none⟩))] ?_
   refine at_then_normal ?_
   refine at_ret (by kernel_rfl) ?_
   obtain rfl := someE H
   refine at_backR [.agg #[.int .i64 v0_b3_3_0, .int .i64 v0_b3_3_1, .int .i64 v0_b3_3_2, .int .i64 v0_b3_3_3, .bool v0_b3_3_4, .slice v0_b3_3_5a (List.length v0_b3_3_5x) v0_b3_3_5c]] ((ImmI v0_b3_3_5a v0_b3_3_5x) :: Γ) (rs := [.cell 4 46]) (by kernel_rfl) (.cons (.cell (by kernel_rfl) (retN (off := 0) (vs := [.int .i64 v0_b3_3_0, .int .i64 v0_b3_3_1, .int .i64 v0_b3_3_2, .int .i64 v0_b3_3_3, .bool v0_b3_3_4, .slice v0_b3_3_5a (List.length v0_b3_3_5x) v0_b3_3_5c]) 6 (fun _ => by kernel_rfl) (holds_own .here) rfl (by exact ⟨rfl, rfl, rfl, rfl, rfl, rfl, trivial⟩))) .nil) (fun w hw => (Sat.less (.take (.there .here) (.drop .here (.drop .here .refl))) hw)) ?_
   exact ⟨v0_b3_3_5a, v0_b3_3_5c, rfl, rfl⟩
def victimS (cc : CacheS) (line : Int) : Option (Int × Bool) :=
 (csetS cc line).bind fun y1_2 => (bif decide ((((List.length y1_2) : Nat) : Int) = (0 : Int)) then some ((0 : Int), false) else (minS y1_2).bind fun y4_1 => some (y4_1.line, true))
noncomputable def C14 (p : List Nat) : Code := codeAt (bodyOf Try.f14) p
set_option maxRecDepth 100000 in
set_option maxHeartbeats 8000000 in
theorem VictimF_tr {W0 : World} {Γ : List Asn} (c : Nat) (cx : CacheXP) (cc : CacheS) (line : Int)  (y : Int × Bool) (H : victimS cc line = some y) : Tr Try.prog 14 #[.pointer (some ⟨c, 0, none⟩), .int .i64 line] W0 ((CacheXA c cx cc) :: Γ) (fun r Δ => r = .tuple #[.int .i64 y.1, .bool y.2] ∧ Δ = (CacheXA c cx cc) :: Γ) := by
 unfold victimS at H
 refine Tr.enter (fn := Try.f14) (c := C14 []) (args := [.pointer (some ⟨c, 0, none⟩), .int .i64 line]) 16 Try.func14 (by kernel_rfl) (by kernel_rfl) ?_
 refine ae [(0, .pointer (some ⟨c, 0, none⟩)), (1, .int .i64 line)] ?_
 refine aq (x := C14 [0]) (y := C14 [1]) ?_
 refine ar (id := 0) 2 ?_
 refine sp 4 (.int .i64 (0)) ?_
 refine sp 5 (.bool false) ?_
 refine ops_end ?_
 refine ae [(0, .pointer (some ⟨c, 0, none⟩)), (1, .int .i64 line)] ?_
 refine at_then_normal ?_
 refine aq (x := C14 [1,0]) (y := C14 [1,1]) ?_
 refine ar (id := 1) 4 ?_
 refine sp 7 (.pointer (some ⟨c, 0, none⟩)) ?_
 refine sp 8 (.int .i64 line) ?_
 obtain ⟨y1_2, hy1_2, H⟩ := bindE H
 refine s_call 9 43 #[.pointer (some ⟨c, 0, none⟩), .int .i64 line] (by kernel_rfl) (by kernel_rfl) (fun _ => by kernel_rfl) (CSetF_tr c cx cc line y1_2 hy1_2) ?_
 rintro _ _ ⟨a1_2_00, c1_2_00, rw1_2_00, rfl, rfl⟩
 refine sp 6 (.slice a1_2_00 (List.length y1_2) c1_2_00) ?_
 refine ops_end ?_
 refine ae [(6, .slice a1_2_00 (List.length y1_2) c1_2_00)] ?_
 refine at_then_normal ?_
 refine aq (x := C14 [1,1,0]) (y := C14 [1,1,1]) ?_
 refine aq (x := C14 [1,1,0,0]) (y := C14 [1,1,0,1]) ?_
 refine ar (id := 2) 3 ?_
 refine sp 10 (.slice a1_2_00 (List.length y1_2) c1_2_00) ?_
 refine sp 11 (.int .i64 (((List.length y1_2) : Nat) : Int)) ?_
 refine sp 12 (.bool (decide ((((List.length y1_2) : Nat) : Int) = (0 : Int)))) ?_
 refine ops_end ?_
 refine ae [(6, .slice a1_2_00 (List.length y1_2) c1_2_00), (12, .bool (decide ((((List.length y1_2) : Nat) : Int) = (0 : Int))))] ?_
 refine at_then_normal ?_
 rcases Bool.eq_false_or_eq_true (decide ((((List.length y1_2) : Nat) : Int) = (0 : Int))) with h1 | h1
 ·replace H := bifT H h1
  refine at_true (t := decide ((((List.length y1_2) : Nat) : Int) = (0 : Int))) (x := C14 [1,1,0,1,0]) (y := C14 [1,1,0,1,1]) (o := .tmp 12) (by kernel_rfl) (by kernel_rfl) (by kernel_rfl) h1 ?_
  refine aq (x := C14 [1,1,0,1,0,0]) (y := C14 [1,1,0,1,0,1]) ?_
  refine ar (id := 3) 2 ?_
  refine sp 4 (.int .i64 (0)) ?_
  refine sp 5 (.bool false) ?_
  refine ops_end ?_
  refine ae [(4, .int .i64 (0)), (5, .bool false)] ?_
  refine at_then_normal ?_
  refine at_ret (by kernel_rfl) ?_
  refine at_then_ret ?_
  obtain rfl := someE H
  refine at_backR [.int .i64 (0), .bool false] ((CacheXA c cx cc) :: Γ) (rs := [.tmp 4, .tmp 5]) (by kernel_rfl) (.cons (.tmp (by kernel_rfl)) (.cons (.tmp (by kernel_rfl)) .nil)) (fun w hw => (Sat.less (.take (.there .here) (.drop .here .refl)) hw)) ?_
  exact ⟨rfl, rfl⟩
 ·replace H := bifF H h1
  refine at_false (t := decide ((((List.length y1_2) : Nat) : Int) = (0 : Int))) (x := C14 [1,1,0,1,0]) (y := C14 [1,1,0,1,1]) (o := .tmp 12) (by kernel_rfl) (by kernel_rfl) (by kernel_rfl) h1 ?_
  refine at_skip (by kernel_rfl) ?_
  refine at_then_normal ?_
  refine aq (x := C14 [1,1,1,0]) (y := C14 [1,1,1,1]) ?_
  refine ar (id := 4) 5 ?_
  refine sp 13 (.slice a1_2_00 (List.length y1_2) c1_2_00) ?_
  obtain ⟨y4_1, hy4_1, H⟩ := bindE H
  refine s_call 14 44 #[.slice a1_2_00 (List.length y1_2) c1_2_00, .func (.func 45) #[] #[]] (by kernel_rfl) (by kernel_rfl) (fun _ => by kernel_rfl) (MinF_tr a1_2_00 c1_2_00 rw1_2_00 y1_2 (RecsX.rd (α := Ent) .here) y4_1 hy4_1) ?_
  rintro _ _ ⟨a4_1_00, c4_1_00, rfl, rfl⟩
  refine sp 15 (.int .i64 y4_1.line) ?_
  refine sp 4 (.int .i64 y4_1.line) ?_
  refine sp 5 (.bool true) ?_
  refine ops_end ?_
  refine ae [(4, .int .i64 y4_1.line), (5, .bool true)] ?_
  refine at_then_normal ?_
  refine at_ret (by kernel_rfl) ?_
  obtain rfl := someE H
  refine at_backR [.int .i64 y4_1.line, .bool true] ((CacheXA c cx cc) :: Γ) (rs := [.tmp 4, .tmp 5]) (by kernel_rfl) (.cons (.tmp (by kernel_rfl)) (.cons (.tmp (by kernel_rfl)) .nil)) (fun w hw => (Sat.less (.take (.there (.there .here)) (.drop .here (.drop .here .refl))) hw)) ?_
  exact ⟨rfl, rfl⟩
def linesS_k0 (e0_3x : List Int) (e0_11 : Int) : Option ((List Int)) :=
 (sortiS e0_3x).bind fun y7_1 => some y7_1
def linesS_l0 (cc : CacheS) (k0 : (List Int) → Int → Option ((List Int))) : Nat → (List Int) → Int → Option ((List Int))
 | 0 => fun _ _ => none
 | m + 1 => fun v0_3x v0_11 => (bif decide (v0_11 < (((List.length cc.l) : Nat) : Int)) then chk (0 ≤ v0_11 ∧ v0_11 < ((List.length cc.l : Nat) : Int)) (letP (nthT cc.l v0_11) fun x4_1 => letP ([x4_1.line] : List Int) fun l5_3 => chk ((v0_3x ++ l5_3).length ≤ 1099511627776) (letP (v0_3x ++ l5_3) fun l5_4 => chk (inR (v0_11 + (1 : Int))) ((linesS_l0 cc k0 m) l5_4 (v0_11 + (1 : Int))))) else k0 v0_3x v0_11)
def linesS (cc : CacheS) : Option ((List Int)) :=
 linesS_l0 cc (linesS_k0 ) 64 ([] : List Int) 0
noncomputable def C40 (p : List Nat) : Code := codeAt (bodyOf Try.f40) p
set_option maxRecDepth 100000 in
set_option maxHeartbeats 8000000 in
theorem LinesF_tr {W0 : World} {Γ : List Asn} (c : Nat) (cx : CacheXP) (cc : CacheS)  (y : (List Int)) (H : linesS cc = some y) : Tr Try.prog 40 #[.pointer (some ⟨c, 0, none⟩)] W0 ((CacheXA c cx cc) :: Γ) (fun r Δ => ∃ (a0_0 : Option Addr) (c0_0 : Nat), r = .slice a0_0 (List.length y) c0_0 ∧ Δ = (IntsA a0_0 c0_0 y) :: (CacheXA c cx cc) :: Γ) := by
 unfold linesS at H
 refine Tr.enter (fn := Try.f40) (c := C40 []) (args := [.pointer (some ⟨c, 0, none⟩)]) 24 Try.func40 (by kernel_rfl) (by kernel_rfl) ?_
 refine ae [(0, .pointer (some ⟨c, 0, none⟩))] ?_
 refine aq (x := C40 [0]) (y := C40 [1]) ?_
 refine ar (id := 0) 1 ?_
 refine sp 2 (.slice none 0 0) ?_
 refine ops_end ?_
 refine ae [(0, .pointer (some ⟨c, 0, none⟩))] ?_
 refine at_then_normal ?_
 refine aq (x := C40 [1,0]) (y := C40 [1,1]) ?_
 refine ar (id := 1) 1 ?_
 refine sp 3 (.slice none 0 0) ?_
 refine ops_end ?_
 refine ae [(0, .pointer (some ⟨c, 0, none⟩)), (3, .slice none 0 0)] ?_
 refine at_then_normal ?_
 refine aq (x := C40 [1,1,0]) (y := C40 [1,1,1]) ?_
 refine aq (x := C40 [1,1,0,0]) (y := C40 [1,1,0,1]) ?_
 refine ar (id := 2) 6 ?_
 refine sp 6 (.pointer (some ⟨c, 0, none⟩)) ?_
 refine sp 7 (.pointer (some ⟨c, 0, none⟩)) ?_
 refine sp 8 (.pointer (some ⟨c, 0, none⟩)) ?_
 refine CacheXA.open .here ?_
 refine sl 9 (.slice cx.a0 (List.length cc.l) cx.c0) (load1 (off := 0) (fun _ => by kernel_rfl) (holds_own .here) (by kernel_rfl)) ?_
 refine sp 10 (.int .i64 (((List.length cc.l) : Nat) : Int)) ?_
 refine sp 11 (.int .i64 (0)) ?_
 refine ops_end ?_
 refine ae [(3, .slice none 0 0), (9, .slice cx.a0 (List.length cc.l) cx.c0), (10, .int .i64 (((List.length cc.l) : Nat) : Int)), (11, .int .i64 (0))] ?_
 refine at_then_normal ?_
 refine at_block (i := 0) (x := C40 [1,1,0,1,0]) (by kernel_rfl) ?_
 refine At.conv (Γ' := (CacheXA c cx cc) :: Γ) (fun w hw => CacheXA.close (x := cx) (t := cc) (Sat.less (.take .here (.take .here .refl)) hw)) ?_
 refine At.conv (Γ' := (IntsA none 0 ([] : List Int)) :: (CacheXA c cx cc) :: Γ) (fun w hw => (Sat.less (.take .here (.take .here .refl)) (RowsA.none_mk (k := 1) (a := none) hw))) ?_
 refine at_loopR (x := C40 [1,1,0,1,0,0]) (fun mm ff ΔΔ => ∃ (fuel : Nat) (v0_3x : List Int) (v0_11 : Int) (v0_3a : Option Addr) (v0_3c : Nat), linesS_l0 cc (linesS_k0 ) fuel v0_3x v0_11 = some y ∧ fuel = mm ∧ ff = [(3, .slice v0_3a (List.length v0_3x) v0_3c), (9, .slice cx.a0 (List.length cc.l) cx.c0), (10, .int .i64 (((List.length cc.l) : Nat) : Int)), (11, .int .i64 v0_11)] ∧ (IntsA v0_3a v0_3c v0_3x) :: (CacheXA c cx cc) :: Γ = ΔΔ) (64) (by kernel_rfl) [(3, .slice none (List.length ([] : List Int)) 0), (9, .slice cx.a0 (List.length cc.l) cx.c0), (10, .int .i64 (((List.length cc.l) : Nat) : Int)), (11, .int .i64 0)] ⟨by kernel_rfl, by kernel_rfl, by kernel_rfl, by kernel_rfl, trivial⟩ ⟨64, ([] : List Int), 0, none, 0, H, rfl, rfl, rfl⟩ ?_
 rintro _ _ _ ⟨fuel1, v0_3x, v0_11, v0_3a, v0_3c, H, rfl, rfl, rfl⟩
 rcases fuel1 with _ | fuel1
 ·exact (noneE H).elim
 rw [linesS_l0] at H
 refine aq (x := C40 [1,1,0,1,0,0,0]) (y := C40 [1,1,0,1,0,0,1]) ?_
 refine ar (id := 3) 1 ?_
 refine sp 12 (.bool (decide (v0_11 < (((List.length cc.l) : Nat) : Int)))) ?_
 refine ops_end ?_
 refine ae [(3, .slice v0_3a (List.length v0_3x) v0_3c), (9, .slice cx.a0 (List.length cc.l) cx.c0), (10, .int .i64 (((List.length cc.l) : Nat) : Int)), (11, .int .i64 v0_11), (12, .bool (decide (v0_11 < (((List.length cc.l) : Nat) : Int))))] ?_
 refine at_then_normal ?_
 refine aq (x := C40 [1,1,0,1,0,0,1,0]) (y := C40 [1,1,0,1,0,0,1,1]) ?_
 rcases Bool.eq_false_or_eq_true (decide (v0_11 < (((List.length cc.l) : Nat) : Int))) with h1 | h1
 ·replace H := bifT H h1
  refine at_true (t := decide (v0_11 < (((List.length cc.l) : Nat) : Int))) (x := C40 [1,1,0,1,0,0,1,0,0]) (y := C40 [1,1,0,1,0,0,1,0,1]) (o := .tmp 12) (by kernel_rfl) (by kernel_rfl) (by kernel_rfl) h1 ?_
  refine at_skip (by kernel_rfl) ?_
  refine at_then_normal ?_
  refine aq (x := C40 [1,1,0,1,0,0,1,1,0]) (y := C40 [1,1,0,1,0,0,1,1,1]) ?_
  refine at_block (i := 1) (x := C40 [1,1,0,1,0,0,1,1,0,0]) (by kernel_rfl) ?_
  refine aq (x := C40 [1,1,0,1,0,0,1,1,0,0,0]) (y := C40 [1,1,0,1,0,0,1,1,0,0,1]) ?_
  refine ar (id := 4) 4 ?_
  refine CacheXA.open (.there .here) ?_
  obtain ⟨hc4_0_0, H⟩ := chkE H
  refine rd_at (RecsX.rd (α := Ent) (.there .here)) (by have := hc4_0_0; omega) ?_
  intro bb1 oo1 ha1
  refine sr 13 (.pointer (some ⟨bb1, oo1 + (((v0_11).toNat) * 6 + 0), none⟩)) (index_at (t := 82) (sz := 6) (E := 46) (a := cx.a0) (m := (List.length cc.l)) (c := cx.c0) (b := bb1) (off := oo1) (i := (v0_11).toNat) (tinfo 46) (fun _ => by kernel_rfl) (by kernel_rfl) (by kernel_rfl) (by kernel_rfl) ha1 (idx_cast hc4_0_0) (idx_nat hc4_0_0) rfl) ?_
  obtain ⟨x4_1, hx4_1, H⟩ := letE H
  refine rd_get (RecsX.rd (α := Ent) (.there .here)) hc4_0_0 ?_
  intro a4_1 c4_1 hrx4_1
  rw [hx4_1] at hrx4_1 ⊢
  refine sl 14 (.agg #[.int .i64 x4_1.fwd, .int .i64 x4_1.back, .int .i64 x4_1.line, .int .i64 x4_1.used, .bool x4_1.dirty, .slice a4_1 (List.length x4_1.data) c4_1]) (loadP_at (m := 6) (k := 6) (vs := [.int .i64 x4_1.fwd, .int .i64 x4_1.back, .int .i64 x4_1.line, .int .i64 x4_1.used, .bool x4_1.dirty, .slice a4_1 (List.length x4_1.data) c4_1]) (off := oo1) (i := (v0_11).toNat) (j := 0) (fun _ => by kernel_rfl) rfl rfl (fun q v hq => rd_row (j := 0 + q) (RecsX.rd (α := Ent) (.there (.there .here))) ha1 hrx4_1 (rowP (j := 0) (m := 6) (by kernel_rfl) hq))) ?_
  refine s_step 5 (by kernel_rfl) (by kernel_rfl) (st_new (T := 46) (cells := #[.int .i64 (0), .int .i64 (0), .int .i64 (0), .int .i64 (0), .bool false, .slice none 0 0]) (fun a => .pointer (some a)) (fun _ => by kernel_rfl)) ?_
  rintro _ _ ⟨b4_2, rfl, rfl⟩
  refine s_do (by kernel_rfl) (by kernel_rfl) (st_store (off := 0) (vs := [.int .i64 x4_1.fwd, .int .i64 x4_1.back, .int .i64 x4_1.line, .int .i64 x4_1.used, .bool x4_1.dirty, .slice a4_1 (List.length x4_1.data) c4_1]) (c' := #[.int .i64 x4_1.fwd, .int .i64 x4_1.back, .int .i64 x4_1.line, .int .i64 x4_1.used, .bool x4_1.dirty, .slice a4_1 (List.length x4_1.data) c4_1]) (fun _ => by kernel_rfl) .here (by kernel_rfl) (by kernel_rfl) (by kernel_rfl)) ?_
  rintro _ _ ⟨rfl, rfl⟩
  refine ops_end ?_
  refine ae [(3, .slice v0_3a (List.length v0_3x) v0_3c), (5, .pointer (some ⟨b4_2, 0, none⟩)), (9, .slice cx.a0 (List.length cc.l) cx.c0), (10, .int .i64 (((List.length cc.l) : Nat) : Int)), (11, .int .i64 v0_11)] ?_
  refine at_then_normal ?_
  refine ar (id := 5) 6 ?_
  refine sp 15 (.slice v0_3a (List.length v0_3x) v0_3c) ?_
  refine sp 16 (.pointer (some ⟨b4_2, 2, none⟩)) ?_
  refine sl 17 (.int .i64 x4_1.line) (load1 (off := 2) (fun _ => by kernel_rfl) (holds_own .here) (by kernel_rfl)) ?_
  obtain ⟨l5_3, hl5_3, H⟩ := letE H
  refine s_step 18 (by kernel_rfl) (by kernel_rfl) (st_new_ints (T := 3) (xs := l5_3) 1 hl5_3 (fun _ => by kernel_rfl) (by kernel_rfl)) ?_
  rintro _ _ ⟨b5_3, rfl, rfl⟩
  obtain ⟨hc5_4_0, H⟩ := chkE H
  obtain ⟨l5_4, hl5_4, H⟩ := letE H
  refine s_step 19 (by kernel_rfl) (by kernel_rfl) (st_append_ints (xs := v0_3x) (ys := l5_3) (zs := l5_4) (m1 := (List.length v0_3x)) (m2 := (List.length l5_3)) (m := List.length l5_4) (cap2 := 1) 22 22 3 (tinfo 3) (fun _ => by kernel_rfl) (by kernel_rfl) (by kernel_rfl) (by kernel_rfl) (by kernel_rfl) (by kernel_rfl) (.there (.there (.there (.there (.there .here))))) (RowsA.reads (k := 1) .here) (by first | rfl | simp) (by first | rfl | simp) (by rw [← hl5_4]; first | done | simp) (by rw [← hl5_4]; first | done | simp) (by rw [← hl5_4]; exact hc5_4_0)) ?_
  rintro _ _ ⟨a5_4, c5_4, rfl, rfl⟩
  refine sp 3 (.slice a5_4 (List.length l5_4) c5_4) ?_
  refine ops_end ?_
  refine ae [(3, .slice a5_4 (List.length l5_4) c5_4), (9, .slice cx.a0 (List.length cc.l) cx.c0), (10, .int .i64 (((List.length cc.l) : Nat) : Int)), (11, .int .i64 v0_11)] ?_
  refine at_in_normal ?_
  refine at_then_normal ?_
  refine ar (id := 6) 2 ?_
  obtain ⟨hc6_0_0, H⟩ := chkE H
  refine sr 20 (.int .i64 (v0_11 + (1 : Int))) (run_eq (v := .int .i64 (IntKind.i64.wrap (v0_11 + (1 : Int)))) (fun _ => by kernel_rfl) (by rw [inR.wrap hc6_0_0])) ?_
  refine sp 11 (.int .i64 (v0_11 + (1 : Int))) ?_
  refine ops_end ?_
  refine ae [(3, .slice a5_4 (List.length l5_4) c5_4), (9, .slice cx.a0 (List.length cc.l) cx.c0), (10, .int .i64 (((List.length cc.l) : Nat) : Int)), (11, .int .i64 (v0_11 + (1 : Int)))] ?_
  refine at_round_normal ?_
  refine At.conv (Γ' := (CacheXA c cx cc) :: (IntsA a5_4 c5_4 l5_4) :: (IntsA (some ⟨b5_3, 0, none⟩) 1 l5_3) :: (Asn.own b4_2 (.cells #[.int .i64 x4_1.fwd, .int .i64 x4_1.back, .int .i64 x4_1.line, .int .i64 x4_1.used, .bool x4_1.dirty, .slice a4_1 (List.length x4_1.data) c4_1] 46 (0, 0))) :: (ImmI a4_1 x4_1.data) :: Γ) (fun w hw => CacheXA.close (x := cx) (t := cc) (Sat.less (.take (.there (.there (.there (.there .here)))) (.take (.there (.there (.there (.there .here)))) (.take .here (.take .here (.take .here (.take .here .refl)))))) hw)) ?_
  exact at_roundR fuel1 [(3, .slice a5_4 (List.length l5_4) c5_4), (9, .slice cx.a0 (List.length cc.l) cx.c0), (10, .int .i64 (((List.length cc.l) : Nat) : Int)), (11, .int .i64 (v0_11 + (1 : Int)))] ((IntsA a5_4 c5_4 l5_4) :: (CacheXA c cx cc) :: Γ) (Nat.lt_succ_self _) ⟨by kernel_rfl, by kernel_rfl, by kernel_rfl, by kernel_rfl, trivial⟩ (fun w hw => (Sat.less (.take (.there .here) (.take .here (.drop .here (.drop .here (.drop .here .refl))))) hw)) ⟨fuel1, l5_4, v0_11 + (1 : Int), a5_4, c5_4, H, rfl, rfl, rfl⟩
 ·replace H := bifF H h1
  refine at_false (t := decide (v0_11 < (((List.length cc.l) : Nat) : Int))) (x := C40 [1,1,0,1,0,0,1,0,0]) (y := C40 [1,1,0,1,0,0,1,0,1]) (o := .tmp 12) (by kernel_rfl) (by kernel_rfl) (by kernel_rfl) h1 ?_
  refine at_exit (i := 0) (by kernel_rfl) ?_
  refine at_then_exit ?_
  refine at_then_exit ?_
  rw [linesS_k0] at H
  refine ae [(3, .slice v0_3a (List.length v0_3x) v0_3c), (9, .slice cx.a0 (List.length cc.l) cx.c0), (10, .int .i64 (((List.length cc.l) : Nat) : Int)), (11, .int .i64 v0_11)] ?_
  refine At.conv (Γ' := (IntsA v0_3a v0_3c v0_3x) :: (CacheXA c cx cc) :: Γ) (fun w hw => (Sat.less (.take .here (.take .here .refl)) hw)) ?_
  refine at_in_here ?_
  refine at_then_normal ?_
  refine aq (x := C40 [1,1,1,0]) (y := C40 [1,1,1,1]) ?_
  refine ar (id := 7) 2 ?_
  refine sp 21 (.slice v0_3a (List.length v0_3x) v0_3c) ?_
  obtain ⟨y7_1, hy7_1, H⟩ := bindE H
  refine s_call 22 64 #[.slice v0_3a (List.length v0_3x) v0_3c] (by kernel_rfl) (by kernel_rfl) (fun _ => by kernel_rfl) (SortIF_tr v0_3a v0_3c v0_3x y7_1 hy7_1) ?_
  rintro _ _ ⟨rfl, rfl⟩
  have hny7_1 : List.length v0_3x = List.length y7_1 := sortiS_len hy7_1
  try rw [hny7_1]
  refine ops_end ?_
  refine ae [(3, .slice v0_3a (List.length y7_1) v0_3c)] ?_
  refine at_then_normal ?_
  refine aq (x := C40 [1,1,1,1,0]) (y := C40 [1,1,1,1,1]) ?_
  refine ar (id := 8) 2 ?_
  refine sp 23 (.slice v0_3a (List.length y7_1) v0_3c) ?_
  refine sp 2 (.slice v0_3a (List.length y7_1) v0_3c) ?_
  refine ops_end ?_
  refine ae [(2, .slice v0_3a (List.length y7_1) v0_3c)] ?_
  refine at_then_normal ?_
  refine at_ret (by kernel_rfl) ?_
  obtain rfl := someE H
  refine at_backR [.slice v0_3a (List.length y7_1) v0_3c] ((IntsA v0_3a v0_3c y7_1) :: (CacheXA c cx cc) :: Γ) (rs := [.tmp 2]) (by kernel_rfl) (.cons (.tmp (by kernel_rfl)) .nil) (fun w hw => (Sat.less (.take .here (.take .here .refl)) hw)) ?_
  exact ⟨v0_3a, v0_3c, rfl, rfl⟩
end Go.Proofs.Ytfndeehlbcbkpaa
